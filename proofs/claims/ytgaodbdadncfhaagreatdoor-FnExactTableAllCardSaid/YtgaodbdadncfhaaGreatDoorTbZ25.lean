/- A part of the proof in YtgaodbdadncfhaaGreatDoorTbZ29. -/
import Derived.Shelf.Strings.Prefix
import Derived.Shelf.Strings.Repeat
import Derived.Test.YtgaodbdadncfhaaGreatDoorTbZ24
/- What a file tells, by the program: walked. -/
namespace Go.Proofs.YtgaodbdadncfhaaGreatDoor
set_option linter.unusedVariables false
set_option linter.unusedSimpArgs false
set_option maxHeartbeats 1000000
set_option maxRecDepth 100000
open Go.RowKit

theorem downK_ok {st : StoreD} : ∀ {n : Nat} {l m : List PtrD}, (∀ p ∈ l, p.ok = true) → downL (kids st) n l = some m → ∀ p ∈ m, p.ok = true
  | 0, l, m, h, hd => by obtain rfl : l = m := Option.some.inj hd; exact h
  | n + 1, l, m, h, hd => by
    cases hn : nextL (fun p => kids st p ((n + 1 : Nat) : Int)) l with
    | none => rw [downL_no hn] at hd; cases hd
    | some x =>
      rw [downL_yes hn] at hd
      refine downK_ok (fun q hq => ?_) hd
      obtain ⟨p, _, k, hk, hq⟩ := (nextL_mem hn).2.1 q hq
      exact (kids_are hk).2.1 q hq
theorem leaves_oks {st : StoreD} {t : TreeD} {l : List PtrD} (h : leavesF st t = some l) (hr : t.fRoot.ok = true) : ∀ p ∈ l, p.ok = true := by
  obtain ⟨x, _, hd, _, rfl, _, _⟩ := leavesF_is h
  exact fun p hp => downK_ok (fun q hq => by rw [List.mem_singleton.1 hq]; exact hr) hd p (List.mem_of_mem_take hp)

end Go.Proofs.YtgaodbdadncfhaaGreatDoor

/- Tables of nodes: what they tell, plain. -/
namespace Go.Proofs.YtgaodbdadncfhaaGreatDoor
set_option linter.unusedVariables false
set_option linter.unusedSimpArgs false
set_option maxHeartbeats 1000000
set_option maxRecDepth 100000
open Go.RowKit

/-- The nodes of the places of a table. -/
noncomputable def tabL (st : StoreD) : List PtrD → Option (List (Option NodeD))
  | [] => some []
  | p :: r => bif p.hole then (tabL st r).map (none :: ·) else match nodeG (readT st p) with
    | none => none
    | some n => bif treeOk st n.fTree then (tabL st r).map (some n :: ·) else none
noncomputable def tabF (st : StoreD) (t : TreeD) : Option (List (Option NodeD)) := (leavesF st t).bind (tabL st)
theorem tabF_none {st : StoreD} {t : TreeD} (h : leavesF st t = none) : tabF st t = none := by unfold tabF; rw [h]; rfl
theorem tabF_some {st : StoreD} {t : TreeD} {l : List PtrD} (h : leavesF st t = some l) : tabF st t = tabL st l := by unfold tabF; rw [h]; rfl
theorem tabL_hole {st : StoreD} {p : PtrD} {r : List PtrD} (h : p.hole = true) : tabL st (p :: r) = (tabL st r).map (none :: ·) := by
  show (bif p.hole then _ else _) = _
  rw [h]; rfl
theorem tabL_bad {st : StoreD} {p : PtrD} {r : List PtrD} (h : p.hole = false) (hn : nodeG (readT st p) = none) : tabL st (p :: r) = none := by
  show (bif p.hole then _ else _) = _
  rw [h, hn]; rfl
theorem tabL_tree {st : StoreD} {p : PtrD} {r : List PtrD} {n : NodeD} (h : p.hole = false) (hn : nodeG (readT st p) = some n) (ht : treeOk st n.fTree = false) : tabL st (p :: r) = none := by
  show (bif p.hole then _ else _) = _
  rw [h, hn]
  simp only [cond_false, ht]
theorem tabL_yes {st : StoreD} {p : PtrD} {r : List PtrD} {n : NodeD} (h : p.hole = false) (hn : nodeG (readT st p) = some n) (ht : treeOk st n.fTree = true) : tabL st (p :: r) = (tabL st r).map (some n :: ·) := by
  show (bif p.hole then _ else _) = _
  rw [h, hn]
  simp only [cond_false, ht, cond_true]
theorem mapL_app {α : Type} {o : Option (List α)} (a b : List α) : (o.map (b ++ ·)).map (a ++ ·) = o.map ((a ++ b) ++ ·) := by cases o <;> simp
theorem mapL_nil {α : Type} {o : Option (List α)} : o = o.map (([] : List α) ++ ·) := by cases o <;> simp
theorem drop_consP {xs : List PtrD} {i : Nat} (h : i < xs.length) : xs.drop i = xs.getD i PtrD.zero :: xs.drop (i + 1) := by
  rw [List.drop_eq_getElem_cons h, List.getD_eq_getElem?_getD, List.getElem?_eq_getElem h]; rfl
/-- A round over the places: what one place tells goes behind. -/
theorem tab_stop {st : StoreD} {xs : List PtrD} {i : Nat} {b : List (Option NodeD)} (h : tabL st xs = (tabL st (xs.drop i)).map (b ++ ·)) (hi : i < xs.length) (hp : tabL st (xs.getD i PtrD.zero :: xs.drop (i + 1)) = none) : tabL st xs = none := by
  rw [h, drop_consP hi, hp]; rfl
theorem tab_step {st : StoreD} {xs : List PtrD} {i : Nat} {b : List (Option NodeD)} (h : tabL st xs = (tabL st (xs.drop i)).map (b ++ ·)) (hi : i < xs.length) {o : Option NodeD} (hp : tabL st (xs.getD i PtrD.zero :: xs.drop (i + 1)) = (tabL st (xs.drop (i + 1))).map (o :: ·)) : tabL st xs = (tabL st (xs.drop (i + 1))).map ((b ++ [o]) ++ ·) := by
  rw [h, drop_consP hi, hp, ← mapL_app]; rfl
theorem tab_end {st : StoreD} {xs : List PtrD} {i : Nat} {b : List (Option NodeD)} (h : tabL st xs = (tabL st (xs.drop i)).map (b ++ ·)) (hi : ¬ i < xs.length) : tabL st xs = some b := by
  rw [h, List.drop_of_length_le (by omega)]
  show some (b ++ []) = _
  rw [List.append_nil]
theorem tabL_len {st : StoreD} : ∀ {l : List PtrD} {ns : List (Option NodeD)}, tabL st l = some ns → ns.length = l.length
  | [], ns, h => by obtain rfl := Option.some.inj h; rfl
  | p :: r, ns, h => by
    have key : ∀ o : Option NodeD, (tabL st r).map (o :: ·) = some ns → ns.length = (p :: r).length := fun o h => by
      cases hr : tabL st r with
      | none => rw [hr] at h; cases h
      | some m =>
        rw [hr] at h
        obtain rfl := Option.some.inj h
        rw [List.length_cons, List.length_cons, tabL_len hr]
    cases hh : p.hole with
    | true => exact key _ ((tabL_hole hh).symm.trans h)
    | false =>
      cases hn : nodeG (readT st p) with
      | none => rw [tabL_bad hh hn] at h; cases h
      | some n =>
        cases ht : treeOk st n.fTree with
        | false => rw [tabL_tree hh hn ht] at h; cases h
        | true => exact key _ ((tabL_yes hh hn ht).symm.trans h)
theorem leaves_16 {st : StoreD} {t : TreeD} {l : List PtrD} (h : leavesF st t = some l) : l.length ≤ 16 := by
  obtain ⟨x, ht, hd, _, rfl, hx, hn⟩ := leavesF_is h
  unfold topB at ht
  rw [Bool.and_eq_true] at ht
  have := inB_true ht.1
  omega
/-- What stands at a place. -/
def tabAt (st : StoreD) (p : PtrD) (o : Option NodeD) : Prop := (p.hole = true ∧ o = none) ∨ (p.hole = false ∧ ∃ n, o = some n ∧ nodeG (readT st p) = some n ∧ treeOk st n.fTree = true)
theorem tabL_at {st : StoreD} : ∀ {l : List PtrD} {ns : List (Option NodeD)}, tabL st l = some ns → ∀ k, k < l.length → tabAt st (l.getD k PtrD.zero) (ns.getD k none)
  | [], ns, h, k, hk => absurd hk (Nat.not_lt_zero _)
  | p :: r, ns, h, k, hk => by
    have key : ∀ o : Option NodeD, tabAt st p o → (tabL st r).map (o :: ·) = some ns → tabAt st ((p :: r).getD k PtrD.zero) (ns.getD k none) := fun o ho h => by
      cases hr : tabL st r with
      | none => rw [hr] at h; cases h
      | some m =>
        rw [hr] at h
        obtain rfl := Option.some.inj h
        cases k with
        | zero => exact ho
        | succ k => exact tabL_at hr k (by simpa using hk)
    cases hh : p.hole with
    | true => exact key _ (.inl ⟨hh, rfl⟩) ((tabL_hole hh).symm.trans h)
    | false =>
      cases hn : nodeG (readT st p) with
      | none => rw [tabL_bad hh hn] at h; cases h
      | some n =>
        cases ht : treeOk st n.fTree with
        | false => rw [tabL_tree hh hn ht] at h; cases h
        | true => exact key _ (.inr ⟨hh, n, rfl, hn, ht⟩) ((tabL_yes hh hn ht).symm.trans h)
theorem tabF_is {st : StoreD} {t : TreeD} {ns : List (Option NodeD)} (h : tabF st t = some ns) : ∃ l, leavesF st t = some l ∧ tabL st l = some ns ∧ ns.length = l.length := by
  cases hl : leavesF st t with
  | none => rw [tabF_none hl] at h; cases h
  | some l => rw [tabF_some hl] at h; exact ⟨l, rfl, h, tabL_len h⟩
theorem treeOk_yes {st : StoreD} {t : TreeD} {l : List PtrD} (h : leavesF st t = some l) : treeOk st t = true := by unfold treeOk; rw [h]; rfl
theorem treeOk_no {st : StoreD} {t : TreeD} (h : leavesF st t = none) : treeOk st t = false := by unfold treeOk; rw [h]; rfl
/-- The table of a valid store. -/
noncomputable def tabT (st : StoreD) (t : TreeD) : Option (List (Option NodeD)) := bif st.ok then tabF st t else none
theorem tabT_no {st : StoreD} {t : TreeD} (h : st.ok = false) : tabT st t = none := by unfold tabT; rw [h]; rfl
theorem tabT_ok {st : StoreD} {t : TreeD} (h : st.ok = true) : tabT st t = tabF st t := by unfold tabT; rw [h]; rfl
theorem tabT_is {st : StoreD} {t : TreeD} {ns : List (Option NodeD)} (h : tabT st t = some ns) : st.ok = true ∧ tabF st t = some ns := by
  cases hs : st.ok with
  | false => rw [tabT_no hs] at h; cases h
  | true => rw [tabT_ok hs] at h; exact ⟨rfl, h⟩
/-- All pointers of a tree. -/
noncomputable def allT (st : StoreD) (t : TreeD) : List PtrD := allL st (depthN t.fMany) t.fRoot
/-- All pointers of the trees of nodes. -/
noncomputable def allN (st : StoreD) (ns : List (Option NodeD)) : List PtrD := ns.flatMap fun o => match o with | none => [] | some n => allT st n.fTree
noncomputable def allTab (st : StoreD) (t : TreeD) (ns : List (Option NodeD)) : List PtrD := allT st t ++ allN st ns
noncomputable def tabAllF (st : StoreD) (t : TreeD) : List PtrD := match tabT st t with | none => [] | some ns => allTab st t ns
theorem tabAllF_no {st : StoreD} {t : TreeD} (h : tabT st t = none) : tabAllF st t = [] := by unfold tabAllF; rw [h]
theorem tabAllF_yes {st : StoreD} {t : TreeD} {ns : List (Option NodeD)} (h : tabT st t = some ns) : tabAllF st t = allTab st t ns := by unfold tabAllF; rw [h]
theorem allN_take {st : StoreD} {ns : List (Option NodeD)} {k : Nat} (h : k < ns.length) : allN st (ns.take (k + 1)) = allN st (ns.take k) ++ (match ns.getD k none with | none => [] | some n => allT st n.fTree) := by
  unfold allN
  rw [List.take_succ_eq_append_getElem h, List.flatMap_append, List.getD_eq_getElem?_getD, List.getElem?_eq_getElem h]
  simp
end Go.Proofs.YtgaodbdadncfhaaGreatDoor

/- Tables of nodes, by the program: walked. -/
namespace Go.Proofs.YtgaodbdadncfhaaGreatDoor
set_option linter.unusedVariables false
set_option linter.unusedSimpArgs false
set_option maxHeartbeats 1000000
set_option maxRecDepth 100000
open Go.RowKit

theorem elemA : ElemT Tryz.prog 115 119 1 8 := by
  obtain ⟨i0, hi, hz0, hz1, hz2⟩ := info_parts (P := Tryz.prog) (e := 119) (z := .pointer none) (size := 1) (bytes := 8) (by kernel_rfl)
  exact ⟨Tryz.underlying115, ⟨i0, _, hi, hz0, hz1, hz2, rfl⟩, by decide⟩
/-- A node's value. -/
def NodeD.val (n : NodeD) : Value := .agg #[.int .i64 n.fKind, .int .i64 n.fLinks, .int .i64 n.fSize, .int .i64 n.fTree.fRoot.fAt, .int .i64 n.fTree.fRoot.fBirth, .int .i64 n.fTree.fRoot.fSize, .int .i64 n.fTree.fRoot.fSum, .int .i64 n.fTree.fRoot.fLevel, .int .i64 n.fTree.fDepth, .int .i64 n.fTree.fMany]
/-- A place of a table in memory: nothing, or a node in a block of its own. -/
def nodeA : Option Addr × Option NodeD → Asr
  | (none, none) => pureA True
  | (some p, some n) => ⟨fun w f => p = ⟨p.block, 0, none⟩ ∧ (boxA p.block 10 47 n.val).P w f, fun w w' f hs hb h => ⟨h.1, (boxA p.block 10 47 n.val).loc w w' f hs hb h.2⟩⟩
  | _ => pureA False
def nodeQ (w : World) : Option Addr × Option NodeD → Prop
  | (none, none) => True
  | (some p, some n) => p = ⟨p.block, 0, none⟩ ∧ Box w p.block 10 47 n.val
  | _ => False
theorem nodeA_Q {w : World} {f : List Nat} : ∀ {q : Option Addr × Option NodeD}, (nodeA q).P w f → nodeQ w q
  | (none, none), _ => trivial
  | (some p, some n), h => ⟨h.1, h.2.2⟩
  | (none, some _), h => h.1.elim
  | (some _, none), h => h.1.elim
theorem nodesA_Q {w : World} : ∀ {qs : List (Option Addr × Option NodeD)} {f : List Nat}, (sepA (qs.map nodeA)).P w f → ∀ q ∈ qs, nodeQ w q
  | [], _, _, q, hq => by cases hq
  | x :: r, f, h, q, hq => by
    obtain ⟨f1, f2, _, h1, h2⟩ := h
    rcases List.mem_cons.1 hq with rfl | hq
    · exact nodeA_Q h1
    · exact nodesA_Q (f := f2) h2 q hq
/-- The nodes of a table lie in memory. -/
def NodesP (ao : Option Addr) (ns : List (Option NodeD)) (w : World) : Prop := ∃ qs : List (Option Addr × Option NodeD), qs.map Prod.snd = ns ∧ Rd encA 1 w ao ns.length (qs.map Prod.fst) ∧ ∀ q ∈ qs, nodeQ w q
theorem NodesP.below {ao : Option Addr} {ns : List (Option NodeD)} {w w' : World} (h : NodesP ao ns w) (hb : Below w.heap.size w w') : NodesP ao ns w' := by
  obtain ⟨qs, h1, h2, h3⟩ := h
  refine ⟨qs, h1, h2.below hb, fun q hq => ?_⟩
  have := h3 q hq
  match q, this with
  | (none, none), _ => exact trivial
  | (some p, some n), h => exact ⟨h.1, h.2.below hb (Nat.le_refl _)⟩
/-- What stands at a place. -/
theorem NodesP.look {ao : Option Addr} {ns : List (Option NodeD)} {w : World} (h : NodesP ao ns w) : ∃ g o av, Rg encA 1 w ao ns.length g o av ∧ av.length = ns.length ∧ ∀ k, k < ns.length → (ns.getD k none = none ∧ av[k]? = some none) ∨ ∃ n b, ns.getD k none = some n ∧ av[k]? = some (some ⟨b, 0, none⟩) ∧ Box w b 10 47 n.val := by
  obtain ⟨qs, rfl, h2, h3⟩ := h
  obtain ⟨g, o, r⟩ := h2.opn
  refine ⟨g, o, _, r, by rw [List.length_map, List.length_map], fun k hk => ?_⟩
  rw [List.length_map] at hk
  have hq := h3 qs[k] (List.getElem_mem hk)
  have e1 : (qs.map Prod.snd).getD k none = qs[k].2 := by rw [List.getD_eq_getElem?_getD, List.getElem?_map, List.getElem?_eq_getElem hk]; rfl
  have e2 : (qs.map Prod.fst)[k]? = some qs[k].1 := by rw [List.getElem?_map, List.getElem?_eq_getElem hk]; rfl
  rw [e1, e2]
  generalize qs[k] = q at hq
  match q, hq with
  | (none, none), _ => exact .inl ⟨rfl, rfl⟩
  | (some p, some n), h => exact .inr ⟨n, p.block, rfl, by rw [← h.1], h.2⟩
abbrev nd0 : Option Addr × Option NodeD := (none, none)
abbrev nd1 (b : Nat) (n : NodeD) : Option Addr × Option NodeD := (some ⟨b, 0, none⟩, some n)
theorem St.nodeNil {W w : World} {qs : List (Option Addr × Option NodeD)} {F : List Asr} (h : St W (sepA (qs.map nodeA) :: F) w) : St W (sepA ((qs ++ [nd0]).map nodeA) :: F) w := by
  have h1 := St.join.2 h
  have h2 : St W (pureA True :: (qs.map nodeA ++ F)) w := St.pure.2 ⟨trivial, h1⟩
  rw [List.map_append]
  refine St.join.1 (h2.perm ?_)
  rw [List.append_assoc]
  exact List.perm_middle.symm
theorem St.nodeSnoc {W w : World} {b : Nat} {n : NodeD} {qs : List (Option Addr × Option NodeD)} {F : List Asr} (h : St W (boxA b 10 47 n.val :: sepA (qs.map nodeA) :: F) w) : St W (sepA ((qs ++ [nd1 b n]).map nodeA) :: F) w := by
  have h1 : St W (nodeA (some ⟨b, 0, none⟩, some n) :: sepA (qs.map nodeA) :: F) w := h.imp fun f hf _ _ => (⟨rfl, hf⟩ : (⟨b, 0, none⟩ : Addr) = ⟨b, 0, none⟩ ∧ (boxA b 10 47 n.val).P w f)
  have h2 := St.join.2 (h1.perm (List.Perm.swap _ _ _))
  rw [List.map_append]
  refine St.join.1 (h2.perm ?_)
  rw [List.append_assoc]
  exact List.Perm.refl _
theorem rep_step {α : Type} {av qs : List (Option α)} {m : Nat} (h : av = qs ++ List.replicate m none) (hm : 0 < m) (x : Option α) : av.set qs.length x = (qs ++ [x]) ++ List.replicate (m - 1) none := by
  obtain ⟨m, rfl⟩ : ∃ j, m = j + 1 := ⟨m - 1, by omega⟩
  subst h
  rw [List.set_append_right _ _ (Nat.le_refl _), Nat.sub_self, List.replicate_succ, List.set_cons_zero, List.append_assoc]; rfl
theorem rep_nil {α : Type} {av qs : List (Option α)} {m : Nat} (h : av = qs ++ List.replicate m none) (hm : 0 < m) : av = (qs ++ [none]) ++ List.replicate (m - 1) none := by
  obtain ⟨m, rfl⟩ : ∃ j, m = j + 1 := ⟨m - 1, by omega⟩
  rw [h, List.replicate_succ, List.append_assoc]; rfl
theorem nodesHold {W w : World} {ao : Option Addr} {c : Nat} {T : TypeId} {qs : List (Option Addr × Option NodeD)} {F : List Asr} (h : St W (rowA encA 1 T (.slice ao (qs.map Prod.fst).length c) (qs.map Prod.fst) :: sepA (qs.map nodeA) :: F) w) : St W (holdsA (NodesP ao (qs.map Prod.snd)) :: F) w := by
  have h1 := (St.join (r := [_, _])).1 h
  refine h1.hold fun w f hf => ?_
  obtain ⟨f1, _, _, k1, f3, _, _, k2, _⟩ := hf
  have := row_reads encA_len k1
  rw [List.length_map] at this
  exact ⟨qs, rfl, by rw [List.length_map]; exact this, nodesA_Q k2⟩

theorem leaves_root {st : StoreD} {t : TreeD} {l : List PtrD} (h : leavesF st t = some l) : t.fRoot.ok = true := by
  obtain ⟨x, ht, _⟩ := leavesF_is h
  unfold topB at ht
  simp only [Bool.and_eq_true] at ht
  exact ht.2.2.1

theorem nodes_any (a0 : Option Addr) (c0 : Nat) (a1 : Option Addr) (c1 : Nat) (a2 : Option Addr) (c2 : Nat) (a4 : Option Addr) (c4 : Nat) (a6 : Option Addr) (c6 : Nat) (st : StoreD) (t : TreeD) (b : Nat) (w0 : World) (hT : TabP w0) (hM : MaxP w0) (hE : ErrP w0) (hB : Box w0 b 8 41 (sV a0 c0 a1 c1 a2 c2 a4 c4 a6 c6 st)) (hR : Rd encS 1 w0 a0 st.fRows.length st.fRows) (hrow : RowsOk st) : Calls Tryz.prog 90 #[.pointer (some ⟨b, 0, none⟩), tV t] w0 fun e w' => (∃ ns, tabF st t = some ns ∧ ∃ ao, e = .returned (.tuple #[.slice ao ns.length ns.length, .bool true]) ∧ St w0 [holdsA (NodesP ao ns)] w') ∨ (tabF st t = none ∧ e = .returned (.tuple #[.slice none 0 0, .bool false]) ∧ Below w0.heap.size w0 w') := by
 have HT := Bx.mk hT; have HM := Bx.mk hM; have HE := Bx.mk hE; have HB := Bx.mk hB; have HR := Bx.mk hR; clear hT hM hE hB hR
 have HS := Bx.mk (St.start w0)
 refine wc_enter Tryz.func90 rfl Tryz.ntmps90 [(0, .pointer (some ⟨b, 0, none⟩)), (1, tV t)] ⟨rfl, rfl, trivial⟩ rfl ?_; intro a HF
 refine wp_sr ?_
 refine wl_box rfl HF rfl (HF.ev rfl) (Z := [.int .i64 t.fRoot.fAt, .int .i64 t.fRoot.fBirth, .int .i64 t.fRoot.fSize, .int .i64 t.fRoot.fSum, .int .i64 t.fRoot.fLevel, .int .i64 t.fDepth, .int .i64 t.fMany]) rfl rfl rfl rfl HS.out ?_; clear HF HS a; intro a w1 b1 HF HS; replace HS := Bx.mk HS
 refine zr 2 HF rfl ?_;clear HF a;intro a HF
 refine wl_ne ?_
 refine wp_sr ?_
 refine zm HF ?_;clear HF a;intro a HF
 refine zy HF (ylr (cs := [.int .i64 t.fRoot.fAt, .int .i64 t.fRoot.fBirth, .int .i64 t.fRoot.fSize, .int .i64 t.fRoot.fSum, .int .i64 t.fRoot.fLevel, .int .i64 t.fDepth, .int .i64 t.fMany]) rfl (HF.ev rfl) ((HS.out.box 0 rfl).sub 0 7)) ?_;clear HF a;intro a HF
 refine wl_call rfl HF rfl (enter_of Tryz.func44 (by kernel_rfl) rfl) (args := #[.pointer (some ⟨b, 0, none⟩), tV t]) rfl (leaves_any a0 c0 a1 c1 a2 c2 a4 c4 a6 c6 st t b _ (HT.out.below HS.out.bel) (HM.out.below HS.out.bel) (HE.out.below HS.out.bel) (HB.out.below HS.out.bel (Nat.le_refl _)) (HR.out.below HS.out.bel) hrow) rfl rfl ?_
 rintro _ w2 (⟨l, hlf, ao, rfl, hs1⟩ | ⟨hlf, rfl, hb⟩)
 ·skip
  refine ⟨_, rfl, ?_⟩; replace HS := Bx.mk (HS.out.add hs1);clear hs1 HF a;intro a HF
  try dsimp only [List.eraseIdx] at HS
  refine zr 5 HF rfl ?_;clear HF a;intro a HF
  refine wl_ne ?_
  refine wp_seq ?_
  refine wp_sr ?_
  refine zr 2 HF rfl ?_;clear HF a;intro a HF
  refine wl_ne ?_
  refine wc_false HF rfl ?_
  refine wp_skip ?_
  refine ex_then ?_
  refine wp_seq ?_
  have hl16 := leaves_16 hlf; have hoks := leaves_oks hlf (leaves_root hlf)
  refine wp_region_lit ?_
  refine zm HF ?_;clear HF a;intro a HF
  refine zy HF (yl_lenL (e := 43) (size := 5) rfl (HF.ev rfl) (by kernel_rfl)) ?_;clear HF a;intro a HF
  refine wl_makeN (enc := encA) (n := l.length) rfl HF rfl rfl rfl elemA (HF.ev rfl) (HF.ev rfl) (by omega) (by omega) (by omega) (by unfold maxLen; omega) (none : Option Addr) (u := .pointer none) (by kernel_rfl) rfl rfl HS.out ?_; clear HF HS a; intro b2 a w3 HF HS; replace HS := Bx.mk HS
  refine za HF ?_;clear HF a;intro a HF
  refine wl_ne ?_
  refine wp_seq ?_
  refine wp_sr ?_
  refine zm HF ?_;clear HF a;intro a HF
  refine zy HF (yl_lenL (e := 43) (size := 5) rfl (HF.ev rfl) (by kernel_rfl)) ?_;clear HF a;intro a HF
  refine zm HF ?_;clear HF a;intro a HF
  refine wl_ne ?_
  refine wp_block ?_
  replace HS := Bx.mk (St.pure.2 ⟨trivial, HS.out⟩); replace HS : Bx (St w0 (sepA (([] : List (Option Addr × Option NodeD)).map nodeA) :: [rowA encA 1 119 (.slice (some ⟨b2, 0, none⟩) l.length l.length) (List.replicate l.length (none : Option Addr)), holdsA (fun w => Rd PtrD.cells 5 w ao l.length l), boxA b1 7 45 (tV t)]) _) := ⟨(St.join (r := [])).1 (St.pure.1 HS.out).2⟩
  obtain ⟨av, has⟩ : ∃ av : List (Option Addr), av = List.replicate l.length none := ⟨_, rfl⟩; rw [← has] at HS
  have hal : av.length = l.length := by rw [has]; exact List.length_replicate ..
  refine wc_loop (ι := Nat) (fun k a w => ∃ (qs : List (Option Addr × Option NodeD)) (av : List (Option Addr)), (k ≤ l.length ∧ qs.length = k ∧ av = qs.map Prod.fst ++ List.replicate (l.length - k) none ∧ av.length = l.length ∧ tabL st l = (tabL st (l.drop k)).map (qs.map Prod.snd ++ ·)) ∧ Fr 64 a [(0, .pointer (some ⟨b, 0, none⟩)), (8, .slice (some ⟨b2, 0, none⟩) l.length l.length), (28, .slice ao l.length l.length), (29, .int .i64 (l.length : Int)), (30, .int .i64 (k : Int))] ∧ St w0 ([sepA (qs.map nodeA), rowA encA 1 119 (.slice (some ⟨b2, 0, none⟩) l.length l.length) av, holdsA (fun w => Rd PtrD.cells 5 w ao l.length l), boxA b1 7 45 (tV t)]) w) (fun k => l.length - k) 0 ⟨[], av, ⟨Nat.zero_le _, rfl, has, hal, mapL_nil⟩, HF.less _ ⟨rfl, rfl, rfl, rfl, rfl, trivial⟩, HS.out⟩ ?_
  clear HF HS; clear a
  rintro k a w4 ⟨qs, av, ⟨hk, hql, has, hal, htl⟩, HF, HS⟩
  replace HS := Bx.mk HS
  refine wp_sr ?_
  refine zy HF (yl_lssI rfl (HF.ev rfl) (HF.ev rfl)) ?_;clear HF a;intro a HF
  refine wl_ne ?_
  refine wp_seq ?_
  refine HF.cases 31 rfl (fun cc1 _ => ?_) fun cc1 _ => ?_
  ·clear HF;rename_i HF
   have dcc1 := of_decide_eq_true cc1
   refine wc_true HF rfl ?_
   refine wp_skip ?_
   refine ex_then ?_
   refine wp_seq ?_
   refine wp_block ?_
   refine wp_seq ?_
   obtain ⟨g7, o7, r7⟩ := (HS.out.holds 2 rfl).opn; have RL := Bx.mk r7; clear r7; have hrt := readT_le hrow (l.getD k PtrD.zero)
   refine wp_region_lit ?_
   refine zm HF ?_;clear HF a;intro a HF
   refine zy HF (yl_indexAddrR (e := 43) (i := k) (size := 5) rfl (HF.ev rfl) (HF.ev rfl) (by kernel_rfl) rfl (by omega) (RL.out.ao k (by omega))) ?_;clear HF a;intro a HF
   refine zy HF (ylr (cs := [.int .i64 ((l.getD k PtrD.zero).fAt), .int .i64 ((l.getD k PtrD.zero).fBirth), .int .i64 ((l.getD k PtrD.zero).fSize), .int .i64 ((l.getD k PtrD.zero).fSum), .int .i64 ((l.getD k PtrD.zero).fLevel)]) rfl (HF.ev rfl) (RL.out.elem (St.start _) (get_getD (xs := l) (j := k) (d := PtrD.zero) (by omega)))) ?_;clear HF a;intro a HF
   refine wl_alloc rfl HF rfl rfl rfl (Z := [.int .i64 0, .int .i64 0, .int .i64 0, .int .i64 0, .int .i64 0]) (by kernel_rfl) rfl HS.out ?_; clear HF HS a; intro a w5 b3 HF HS; replace HS := Bx.mk HS
   refine za HF ?_;clear HF a;intro a HF
   refine wl_storeBox rfl HF rfl rfl (HF.ev rfl) (HF.ev rfl) HS.out 0 rfl (cells_lit [.int .i64 ((l.getD k PtrD.zero).fAt), .int .i64 ((l.getD k PtrD.zero).fBirth), .int .i64 ((l.getD k PtrD.zero).fSize), .int .i64 ((l.getD k PtrD.zero).fSum), .int .i64 ((l.getD k PtrD.zero).fLevel)] rfl rfl) (by kernel_rfl) ?_; clear HS; intro w6 HS; replace HS := Bx.mk HS
   try dsimp only [List.set] at HS
   refine wl_ne ?_
   refine wp_seq ?_
   refine wp_sr ?_
   refine zy HF (ylr (cs := [.int .i64 ((l.getD k PtrD.zero).fAt), .int .i64 ((l.getD k PtrD.zero).fBirth), .int .i64 ((l.getD k PtrD.zero).fSize), .int .i64 ((l.getD k PtrD.zero).fSum), .int .i64 ((l.getD k PtrD.zero).fLevel)]) rfl (HF.ev rfl) ((HS.out.box 0 rfl).sub 0 5)) ?_;clear HF a;intro a HF
   refine wl_callB rfl HF rfl (enter_of Tryz.func45 (by kernel_rfl) rfl) (args := #[pV (l.getD k PtrD.zero)]) rfl (v := .bool ((l.getD k PtrD.zero).hole)) (implHole_any (l.getD k PtrD.zero) _) rfl rfl HS.out ?_; clear HF HS a; intro w7 a HS HF; replace HS := Bx.mk HS
   refine wl_ne ?_
   refine HF.cases 36 rfl (fun cc2 _ => ?_) fun cc2 _ => ?_
   ·clear HF;rename_i HF
    refine wc_true HF rfl ?_
    refine wp_exit ?_
    refine ex_then_exit ?_
    refine ex_block_hit ?_
    refine ex_then ?_
    refine wp_region_lit ?_
    refine zy HF (yl_addI rfl (HF.ev rfl) (HF.ev rfl) (i64w (by omega))) ?_;clear HF a;intro a HF
    refine zm HF ?_;clear HF a;intro a HF
    refine wl_ne ?_
    replace HS:=Bx.mk (HS.out.pick 1 rfl)
    replace HS := Bx.mk HS.out.nodeNil
    have hstep := tab_step htl (show k < l.length by omega) (tabL_hole cc2)
    have hrep : av = ((qs ++ [nd0]).map Prod.fst) ++ List.replicate (l.length - (k + 1)) none := by have := rep_nil has (by omega); rw [List.map_append, Nat.sub_add_eq]; exact this
    try dsimp only [List.eraseIdx] at HS
    replace HS:=Bx.mk ((((HS.out.pick 4 rfl).pick 4 rfl).pick 4 rfl).pick 3 rfl)
    exact ⟨(k + 1), ⟨qs ++ [nd0], av, ⟨by omega, by rw [List.length_append, hql]; rfl, hrep, hal, by rw [List.map_append]; exact hstep⟩, HF.less _ ⟨rfl, rfl, rfl, rfl, rfl, trivial⟩, (HS.out.erase 4)⟩, (by omega)⟩
   ·clear HF;rename_i HF
    refine wc_false HF rfl ?_
    refine wp_skip ?_
    refine ex_then ?_
    refine wp_sr ?_
    refine zm HF ?_;clear HF a;intro a HF
    refine zy HF (ylr (cs := [.int .i64 ((l.getD k PtrD.zero).fAt), .int .i64 ((l.getD k PtrD.zero).fBirth), .int .i64 ((l.getD k PtrD.zero).fSize), .int .i64 ((l.getD k PtrD.zero).fSum), .int .i64 ((l.getD k PtrD.zero).fLevel)]) rfl (HF.ev rfl) ((HS.out.box 0 rfl).sub 0 5)) ?_;clear HF a;intro a HF
    refine wl_callB rfl HF rfl (enter_of Tryz.func66 (by kernel_rfl) rfl) (args := #[.pointer (some ⟨b, 0, none⟩), pV (l.getD k PtrD.zero)]) rfl (v := .tuple #[.string (readT st (l.getD k PtrD.zero)), .bool (readB st (l.getD k PtrD.zero))]) ((stRead_any a0 c0 a1 c1 a2 c2 a4 c4 a6 c6 st (l.getD k PtrD.zero) b _ (HB.out.below HS.out.bel (Nat.le_refl _)) (HR.out.below HS.out.bel) hrow (hoks _ (getD_mem (by omega))))) rfl rfl HS.out ?_; clear HF HS a; intro w8 a HS HF; replace HS := Bx.mk HS
    refine zr 5 HF rfl ?_;clear HF a;intro a HF
    refine wl_ne ?_
    refine wp_sr ?_
    refine zm HF ?_;clear HF a;intro a HF
    refine wl_call rfl HF rfl (enter_of Tryz.func116 (by kernel_rfl) rfl) (args := #[.string (readT st (l.getD k PtrD.zero))]) rfl (implNodeGet_any (readT st (l.getD k PtrD.zero)) _ (HT.out.below HS.out.bel) (HM.out.below HS.out.bel) (HE.out.below HS.out.bel) hrt) rfl rfl ?_
    rintro _ w9 (⟨n, hno, hnb, rfl, hb⟩ | ⟨hnn, rfl, hb⟩)
    ·skip
     refine ⟨_, rfl, ?_⟩; replace HS := Bx.mk (HS.out.later hb);clear hb HF a;intro a HF
     refine zr 3 HF rfl ?_;clear HF a;intro a HF
     refine wl_alloc rfl HF rfl rfl rfl (Z := [.int .i64 0, .int .i64 0, .int .i64 0, .int .i64 0, .int .i64 0, .int .i64 0, .int .i64 0, .int .i64 0, .int .i64 0, .int .i64 0]) (by kernel_rfl) rfl HS.out ?_; clear HF HS a; intro a w10 b4 HF HS; replace HS := Bx.mk HS
     refine wl_storeBox rfl HF rfl rfl (HF.ev rfl) (HF.ev rfl) HS.out 0 rfl (cells_lit [.int .i64 n.fKind, .int .i64 n.fLinks, .int .i64 n.fSize, .int .i64 n.fTree.fRoot.fAt, .int .i64 n.fTree.fRoot.fBirth, .int .i64 n.fTree.fRoot.fSize, .int .i64 n.fTree.fRoot.fSum, .int .i64 n.fTree.fRoot.fLevel, .int .i64 n.fTree.fDepth, .int .i64 n.fTree.fMany] rfl rfl) (by kernel_rfl) ?_; clear HS; intro w11 HS; replace HS := Bx.mk HS
     try dsimp only [List.set] at HS
     refine za HF ?_;clear HF a;intro a HF
     refine wl_ne ?_
     refine wp_seq ?_
     refine wp_sr ?_
     refine zr 2 HF rfl ?_;clear HF a;intro a HF
     refine wl_ne ?_
     refine wc_false HF rfl ?_
     refine wp_skip ?_
     refine ex_then ?_
     refine wp_seq ?_
     refine wp_sr ?_
     refine zm HF ?_;clear HF a;intro a HF
     refine zy HF (yfa 3 rfl (HF.ev rfl)) ?_;clear HF a;intro a HF
     refine zy HF (ylr (cs := [.int .i64 n.fTree.fRoot.fAt, .int .i64 n.fTree.fRoot.fBirth, .int .i64 n.fTree.fRoot.fSize, .int .i64 n.fTree.fRoot.fSum, .int .i64 n.fTree.fRoot.fLevel, .int .i64 n.fTree.fDepth, .int .i64 n.fTree.fMany]) rfl (HF.ev rfl) ((HS.out.box 0 rfl).sub 3 7)) ?_;clear HF a;intro a HF
     refine wl_call rfl HF rfl (enter_of Tryz.func44 (by kernel_rfl) rfl) (args := #[.pointer (some ⟨b, 0, none⟩), tV n.fTree]) rfl (leaves_any a0 c0 a1 c1 a2 c2 a4 c4 a6 c6 st n.fTree b _ (HT.out.below HS.out.bel) (HM.out.below HS.out.bel) (HE.out.below HS.out.bel) (HB.out.below HS.out.bel (Nat.le_refl _)) (HR.out.below HS.out.bel) hrow) rfl rfl ?_
     rintro _ w12 (⟨l2, hlf2, ao2, rfl, hs1⟩ | ⟨hlf2, rfl, hb⟩)
     ·skip
      refine ⟨_, rfl, ?_⟩; replace HS := Bx.mk (HS.out.add hs1);clear hs1 HF a;intro a HF
      try dsimp only [List.eraseIdx] at HS
      refine zr 5 HF rfl ?_;clear HF a;intro a HF
      refine wl_ne ?_
      refine wp_sr ?_
      refine zr 2 HF rfl ?_;clear HF a;intro a HF
      refine wl_ne ?_
      refine wc_false HF rfl ?_
      refine wp_skip ?_
      refine ex_then ?_
      refine wp_region_lit ?_
      refine zr 2 HF rfl ?_;clear HF a;intro a HF
      refine zy HF (yl_indexAddr (e := 119) (i := k) (size := 1) rfl (HF.ev rfl) (HF.ev rfl) (by kernel_rfl) rfl (by omega)) ?_;clear HF a;intro a HF
      refine wl_storeE encA_len rfl rfl rfl (HF.ev rfl) (HF.ev rfl) (by kernel_rfl) HS.out 4 rfl (by omega) (z := (some ⟨b4, 0, none⟩)) rfl rfl ?_; clear HS; intro w13 HS; replace HS := Bx.mk HS
      refine wpList_nil ?_
      refine ex_block ?_
      refine ex_then ?_
      refine wp_region_lit ?_
      refine zy HF (yl_addI rfl (HF.ev rfl) (HF.ev rfl) (i64w (by omega))) ?_;clear HF a;intro a HF
      refine zm HF ?_;clear HF a;intro a HF
      refine wl_ne ?_
      replace HS:=Bx.mk ((HS.out.pick 3 rfl).pick 2 rfl)
      replace HS := Bx.mk (St.nodeSnoc (n := n) HS.out)
      have hstep := tab_step htl (show k < l.length by omega) (tabL_yes cc2 (nodeG_yes hno hnb) (treeOk_yes hlf2))
      obtain ⟨as2, has2⟩ : ∃ as2 : List (Option Addr), as2 = av.set k (some ⟨b4, 0, none⟩) := ⟨_, rfl⟩; rw [← has2] at HS
      have hrep : as2 = ((qs ++ [nd1 b4 n]).map Prod.fst) ++ List.replicate (l.length - (k + 1)) none := by have := rep_step has (by omega) (some ⟨b4, 0, none⟩); rw [List.length_map, hql] at this; rw [has2, List.map_append, Nat.sub_add_eq]; exact this
      have hal2 : as2.length = l.length := by rw [has2, List.length_set]; exact hal
      try dsimp only [List.eraseIdx] at HS
      replace HS:=Bx.mk ((((HS.out.pick 5 rfl).pick 5 rfl).pick 5 rfl).pick 3 rfl)
      exact ⟨(k + 1), ⟨qs ++ [nd1 b4 n], as2, ⟨by omega, by rw [List.length_append, hql]; rfl, hrep, hal2, by rw [List.map_append]; exact hstep⟩, HF.less _ ⟨rfl, rfl, rfl, rfl, rfl, trivial⟩, ((HS.out.erase 5).erase 4)⟩, (by omega)⟩
     ·skip
      refine ⟨_, rfl, ?_⟩; replace HS := Bx.mk (HS.out.later hb);clear hb HF a;intro a HF
      refine zr 5 HF rfl ?_;clear HF a;intro a HF
      refine wl_ne ?_
      refine wp_sr ?_
      refine zr 2 HF rfl ?_;clear HF a;intro a HF
      refine wl_ne ?_
      refine wc_true HF rfl ?_
      refine wp_sr ?_
      refine zr 2 HF rfl ?_;clear HF a;intro a HF
      refine wl_ne ?_
      refine wp_ret ?_
      refine ex_then_ret ?_
      refine ex_block_ret ?_
      refine ex_then_ret ?_
      refine ex_then_ret ?_
      refine ex_block_ret ?_
      refine ex_then_ret ?_
      refine bp_ret2 HF Tryz.results90 (HF.res rfl) (HF.res rfl) ?_
      exact .inr ⟨by rw [tabF_some hlf]; exact tab_stop htl (show k < l.length by omega) (tabL_tree cc2 (nodeG_yes hno hnb) (treeOk_no hlf2)), rfl, HS.out.bel⟩
    ·skip
     refine ⟨_, rfl, ?_⟩; replace HS := Bx.mk (HS.out.later hb);clear hb HF a;intro a HF
     refine zr 3 HF rfl ?_;clear HF a;intro a HF
     refine wl_alloc rfl HF rfl rfl rfl (Z := [.int .i64 0, .int .i64 0, .int .i64 0, .int .i64 0, .int .i64 0, .int .i64 0, .int .i64 0, .int .i64 0, .int .i64 0, .int .i64 0]) (by kernel_rfl) rfl HS.out ?_; clear HF HS a; intro a w14 b5 HF HS; replace HS := Bx.mk HS
     refine wl_storeBox rfl HF rfl rfl (HF.ev rfl) (HF.ev rfl) HS.out 0 rfl (cells_lit [.int .i64 0, .int .i64 0, .int .i64 0, .int .i64 0, .int .i64 0, .int .i64 0, .int .i64 0, .int .i64 0, .int .i64 0, .int .i64 0] rfl rfl) (by kernel_rfl) ?_; clear HS; intro w15 HS; replace HS := Bx.mk HS
     try dsimp only [List.set] at HS
     refine za HF ?_;clear HF a;intro a HF
     refine wl_ne ?_
     refine wp_seq ?_
     refine wp_sr ?_
     refine zr 2 HF rfl ?_;clear HF a;intro a HF
     refine wl_ne ?_
     refine wc_true HF rfl ?_
     refine wp_sr ?_
     refine zr 2 HF rfl ?_;clear HF a;intro a HF
     refine wl_ne ?_
     refine wp_ret ?_
     refine ex_then_ret ?_
     refine ex_block_ret ?_
     refine ex_then_ret ?_
     refine ex_then_ret ?_
     refine ex_block_ret ?_
     refine ex_then_ret ?_
     refine bp_ret2 HF Tryz.results90 (HF.res rfl) (HF.res rfl) ?_
     exact .inr ⟨by rw [tabF_some hlf]; exact tab_stop htl (show k < l.length by omega) (tabL_bad cc2 (nodeG_no hnn)), rfl, HS.out.bel⟩
  ·clear HF;rename_i HF
   have dcc1 := of_decide_eq_false cc1
   refine wc_false HF rfl ?_
   refine wp_exit ?_
   refine ex_then_exit ?_
   refine ex_then_exit ?_
   refine ex_block_hit ?_
   refine ex_then ?_
   refine wp_sr ?_
   refine zr 3 HF rfl ?_;clear HF a;intro a HF
   refine wl_ne ?_
   refine wp_ret ?_
   refine bp_ret2 HF Tryz.results90 (HF.res rfl) (HF.res rfl) ?_
   obtain rfl : k = l.length := by omega
   have hns := tab_end htl (Nat.lt_irrefl _)
   rw [Nat.sub_self, List.replicate_zero, List.append_nil] at has; subst has
   replace HS:=Bx.mk ((HS.out.pick 0 rfl).pick 1 rfl)
   have hq1 : l.length = (qs.map Prod.fst).length := by rw [List.length_map]; exact hql.symm
   have hq2 : l.length = (qs.map Prod.snd).length := by rw [List.length_map]; exact hql.symm
   have HS9 := nodesHold (ao := some ⟨b2, 0, none⟩) (c := l.length) (qs := qs) (by have h := HS.out; rw [← hq1]; exact h)
   refine .inl ⟨qs.map Prod.snd, by rw [tabF_some hlf]; exact hns, some ⟨b2, 0, none⟩, by rw [← hq2], ((HS9.erase 2).erase 1)⟩
 ·skip
  refine ⟨_, rfl, ?_⟩; replace HS := Bx.mk (HS.out.later hb);clear hb HF a;intro a HF
  refine zr 5 HF rfl ?_;clear HF a;intro a HF
  refine wl_ne ?_
  refine wp_seq ?_
  refine wp_sr ?_
  refine zr 2 HF rfl ?_;clear HF a;intro a HF
  refine wl_ne ?_
  refine wc_true HF rfl ?_
  refine wp_sr ?_
  refine zr 2 HF rfl ?_;clear HF a;intro a HF
  refine wl_ne ?_
  refine wp_ret ?_
  refine ex_then_ret ?_
  refine bp_ret2 HF Tryz.results90 (HF.res rfl) (HF.res rfl) ?_
  exact .inr ⟨tabF_none hlf, rfl, HS.out.bel⟩

theorem table_any (a0 : Option Addr) (c0 : Nat) (a1 : Option Addr) (c1 : Nat) (a2 : Option Addr) (c2 : Nat) (a4 : Option Addr) (c4 : Nat) (a6 : Option Addr) (c6 : Nat) (st : StoreD) (t : TreeD) (w0 : World) (hT : TabP w0) (hM : MaxP w0) (hE : ErrP w0) (hV0 : StoreD.Reads w0 (sV a0 c0 a1 c1 a2 c2 a4 c4 a6 c6 st) st) (hf : st.Fit) : Calls Tryz.prog 88 #[sV a0 c0 a1 c1 a2 c2 a4 c4 a6 c6 st, tV t] w0 fun e w' => (∃ ns, tabT st t = some ns ∧ ∃ ao, e = .returned (.tuple #[.slice ao ns.length ns.length, .bool true]) ∧ St w0 [holdsA (NodesP ao ns)] w') ∨ (tabT st t = none ∧ e = .returned (.tuple #[.slice none 0 0, .bool false]) ∧ Below w0.heap.size w0 w') := by
 have HT := Bx.mk hT; have HM := Bx.mk hM; have HE := Bx.mk hE; have hV := Bx.mk hV0; clear hT hM hE hV0
 have HS := Bx.mk (St.start w0)
 refine wc_enter Tryz.func88 rfl Tryz.ntmps88 [(0, sV a0 c0 a1 c1 a2 c2 a4 c4 a6 c6 st), (1, tV t)] ⟨rfl, rfl, trivial⟩ rfl ?_; intro a HF
 refine wp_sr ?_
 refine wl_box rfl HF rfl (HF.ev rfl) (Z := [.slice a0 st.fRows.length c0, .slice a1 st.fSpace.fRefs.length c1, .slice a2 st.fSpace.fLast.length c2, .int .i64 st.fTxg, .slice a4 st.fGone.length c4, .int .i64 st.fKeep, .slice a6 st.fDead.length c6, .bool st.fSame]) rfl rfl rfl rfl HS.out ?_; clear HF HS a; intro a w1 b1 HF HS; replace HS := Bx.mk HS
 refine wl_box rfl HF rfl (HF.ev rfl) (Z := [.int .i64 t.fRoot.fAt, .int .i64 t.fRoot.fBirth, .int .i64 t.fRoot.fSize, .int .i64 t.fRoot.fSum, .int .i64 t.fRoot.fLevel, .int .i64 t.fDepth, .int .i64 t.fMany]) rfl rfl rfl rfl HS.out ?_; clear HF HS a; intro a w2 b2 HF HS; replace HS := Bx.mk HS
 refine zr 2 HF rfl ?_;clear HF a;intro a HF
 refine wl_ne ?_
 refine wp_seq ?_
 refine wp_sr ?_
 refine zy HF (ylr (cs := [.slice a0 st.fRows.length c0, .slice a1 st.fSpace.fRefs.length c1, .slice a2 st.fSpace.fLast.length c2, .int .i64 st.fTxg, .slice a4 st.fGone.length c4, .int .i64 st.fKeep, .slice a6 st.fDead.length c6, .bool st.fSame]) rfl (HF.ev rfl) ((HS.out.box 1 rfl).sub 0 8)) ?_;clear HF a;intro a HF
 refine wl_callB rfl HF rfl (enter_of Tryz.func36 (by kernel_rfl) rfl) (args := #[sV a0 c0 a1 c1 a2 c2 a4 c4 a6 c6 st]) rfl (v := .bool st.ok) (implStoreOk_any _ st _ (hV.out.below HS.out.bel) hf) rfl rfl HS.out ?_; clear HF HS a; intro w3 a HS HF; replace HS := Bx.mk HS
 refine zy HF (yl_not rfl (HF.ev rfl)) ?_;clear HF a;intro a HF
 refine wl_ne ?_
 refine HF.cases 8 rfl (fun cc1 _ => ?_) fun cc1 _ => ?_
 ·clear HF;rename_i HF
  have hsok : st.ok = false := by simpa using cc1
  refine wc_true HF rfl ?_
  refine wp_sr ?_
  refine zr 2 HF rfl ?_;clear HF a;intro a HF
  refine wl_ne ?_
  refine wp_ret ?_
  refine ex_then_ret ?_
  refine bp_ret2 HF Tryz.results88 (HF.res rfl) (HF.res rfl) ?_
  exact .inr ⟨tabT_no hsok, rfl, HS.out.bel⟩
 ·clear HF;rename_i HF
  have hsok : st.ok = true := by simpa using cc1
  refine wc_false HF rfl ?_
  refine wp_skip ?_
  refine ex_then ?_
  refine wp_sr ?_
  refine zy HF (ylr (cs := [.int .i64 t.fRoot.fAt, .int .i64 t.fRoot.fBirth, .int .i64 t.fRoot.fSize, .int .i64 t.fRoot.fSum, .int .i64 t.fRoot.fLevel, .int .i64 t.fDepth, .int .i64 t.fMany]) rfl (HF.ev rfl) ((HS.out.box 0 rfl).sub 0 7)) ?_;clear HF a;intro a HF
  refine wl_call rfl HF rfl (enter_of Tryz.func90 (by kernel_rfl) rfl) (args := #[.pointer (some ⟨b1, 0, none⟩), tV t]) rfl (nodes_any a0 c0 a1 c1 a2 c2 a4 c4 a6 c6 st t b1 _ (HT.out.below HS.out.bel) (HM.out.below HS.out.bel) (HE.out.below HS.out.bel) (HS.out.box 1 rfl) ((reads_rows hV.out).below HS.out.bel) (ok_rows hsok)) rfl rfl ?_
  rintro _ w4 (⟨ns, htb, ao, rfl, hs1⟩ | ⟨htb, rfl, hb⟩)
  ·skip
   refine ⟨_, rfl, ?_⟩; replace HS := Bx.mk (HS.out.add hs1);clear hs1 HF a;intro a HF
   try dsimp only [List.eraseIdx] at HS
   refine zr 4 HF rfl ?_;clear HF a;intro a HF
   refine wl_ne ?_
   refine wp_ret ?_
   refine bp_ret2 HF Tryz.results88 (HF.res rfl) (HF.res rfl) ?_
   exact .inl ⟨ns, (tabT_ok hsok).trans htb, ao, rfl, ((HS.out.erase 2).erase 1)⟩
  ·skip
   refine ⟨_, rfl, ?_⟩; replace HS := Bx.mk (HS.out.later hb);clear hb HF a;intro a HF
   refine zr 4 HF rfl ?_;clear HF a;intro a HF
   refine wl_ne ?_
   refine wp_ret ?_
   refine bp_ret2 HF Tryz.results88 (HF.res rfl) (HF.res rfl) ?_
   exact .inr ⟨(tabT_ok hsok).trans htb, rfl, HS.out.bel⟩

theorem implTableOk_any (a0 : Option Addr) (c0 : Nat) (a1 : Option Addr) (c1 : Nat) (a2 : Option Addr) (c2 : Nat) (a4 : Option Addr) (c4 : Nat) (a6 : Option Addr) (c6 : Nat) (st : StoreD) (t : TreeD) (w0 : World) (hT : TabP w0) (hM : MaxP w0) (hE : ErrP w0) (hV0 : StoreD.Reads w0 (sV a0 c0 a1 c1 a2 c2 a4 c4 a6 c6 st) st) (hf : st.Fit) : Calls Tryz.prog 52 #[sV a0 c0 a1 c1 a2 c2 a4 c4 a6 c6 st, tV t] w0 fun e w' => e = .returned (.bool (tabT st t).isSome) ∧ Below w0.heap.size w0 w' := by
 have HT := Bx.mk hT; have HM := Bx.mk hM; have HE := Bx.mk hE; have hV := Bx.mk hV0; clear hT hM hE hV0
 have HS := Bx.mk (St.start w0)
 refine wc_enter Tryz.func52 rfl Tryz.ntmps52 [(0, sV a0 c0 a1 c1 a2 c2 a4 c4 a6 c6 st), (1, tV t)] ⟨rfl, rfl, trivial⟩ rfl ?_; intro a HF
 refine wp_sr ?_
 refine wl_box rfl HF rfl (HF.ev rfl) (Z := [.slice a0 st.fRows.length c0, .slice a1 st.fSpace.fRefs.length c1, .slice a2 st.fSpace.fLast.length c2, .int .i64 st.fTxg, .slice a4 st.fGone.length c4, .int .i64 st.fKeep, .slice a6 st.fDead.length c6, .bool st.fSame]) rfl rfl rfl rfl HS.out ?_; clear HF HS a; intro a w1 b1 HF HS; replace HS := Bx.mk HS
 refine wl_box rfl HF rfl (HF.ev rfl) (Z := [.int .i64 t.fRoot.fAt, .int .i64 t.fRoot.fBirth, .int .i64 t.fRoot.fSize, .int .i64 t.fRoot.fSum, .int .i64 t.fRoot.fLevel, .int .i64 t.fDepth, .int .i64 t.fMany]) rfl rfl rfl rfl HS.out ?_; clear HF HS a; intro a w2 b2 HF HS; replace HS := Bx.mk HS
 refine za HF ?_;clear HF a;intro a HF
 refine wl_ne ?_
 refine wp_sr ?_
 refine zy HF (ylr (cs := [.slice a0 st.fRows.length c0, .slice a1 st.fSpace.fRefs.length c1, .slice a2 st.fSpace.fLast.length c2, .int .i64 st.fTxg, .slice a4 st.fGone.length c4, .int .i64 st.fKeep, .slice a6 st.fDead.length c6, .bool st.fSame]) rfl (HF.ev rfl) ((HS.out.box 1 rfl).sub 0 8)) ?_;clear HF a;intro a HF
 refine zy HF (ylr (cs := [.int .i64 t.fRoot.fAt, .int .i64 t.fRoot.fBirth, .int .i64 t.fRoot.fSize, .int .i64 t.fRoot.fSum, .int .i64 t.fRoot.fLevel, .int .i64 t.fDepth, .int .i64 t.fMany]) rfl (HF.ev rfl) ((HS.out.box 0 rfl).sub 0 7)) ?_;clear HF a;intro a HF
 refine wl_call rfl HF rfl (enter_of Tryz.func88 (by kernel_rfl) rfl) (args := #[sV a0 c0 a1 c1 a2 c2 a4 c4 a6 c6 st, tV t]) rfl (table_any a0 c0 a1 c1 a2 c2 a4 c4 a6 c6 st t _ (HT.out.below HS.out.bel) (HM.out.below HS.out.bel) (HE.out.below HS.out.bel) (hV.out.below HS.out.bel) hf) rfl rfl ?_
 rintro _ w3 (⟨ns, htb, ao, rfl, hs1⟩ | ⟨htb, rfl, hb⟩)
 ·skip
  refine ⟨_, rfl, ?_⟩; replace HS := Bx.mk (HS.out.add hs1);clear hs1 HF a;intro a HF
  try dsimp only [List.eraseIdx] at HS
  refine zr 5 HF rfl ?_;clear HF a;intro a HF
  refine wl_ne ?_
  refine wp_sr ?_
  refine zr 2 HF rfl ?_;clear HF a;intro a HF
  refine wl_ne ?_
  refine wp_ret ?_
  refine bp_ret1 HF Tryz.results52 (HF.res rfl) ?_
  exact ⟨by rw [htb] <;> rfl, HS.out.bel⟩
 ·skip
  refine ⟨_, rfl, ?_⟩; replace HS := Bx.mk (HS.out.later hb);clear hb HF a;intro a HF
  refine zr 5 HF rfl ?_;clear HF a;intro a HF
  refine wl_ne ?_
  refine wp_sr ?_
  refine zr 2 HF rfl ?_;clear HF a;intro a HF
  refine wl_ne ?_
  refine wp_ret ?_
  refine bp_ret1 HF Tryz.results52 (HF.res rfl) ?_
  exact ⟨by rw [htb] <;> rfl, HS.out.bel⟩

end Go.Proofs.YtgaodbdadncfhaaGreatDoor

/- All pointers of a tree: walked. -/
namespace Go.Proofs.YtgaodbdadncfhaaGreatDoor
set_option linter.unusedVariables false
set_option linter.unusedSimpArgs false
set_option maxHeartbeats 1000000
set_option maxRecDepth 100000
open Go.RowKit

/-- How many pointers there are at most at a level and below. -/
def wg : Nat → Nat
  | 0 => 1
  | n + 1 => 1 + 4 * wg n
theorem mul_room {k m : Nat} (h : k < 4) : k * m + m ≤ 4 * m := by
  have := Nat.mul_le_mul_right m (show k + 1 ≤ 4 by omega)
  rw [Nat.succ_mul] at this
  exact this
theorem flat_le {vis : PtrD → List PtrD} (h : ∀ p, (vis p).length ≤ 1) : ∀ l : List PtrD, (l.flatMap vis).length ≤ l.length
  | [] => Nat.le_refl _
  | p :: r => by
    rw [List.flatMap_cons, List.length_append, List.length_cons]
    have := flat_le h r
    have := h p
    omega
theorem flat_many {f : PtrD → List PtrD} {m : Nat} : ∀ {l : List PtrD}, (∀ p ∈ l, (f p).length ≤ m) → (l.flatMap f).length ≤ l.length * m
  | [], _ => by simp
  | p :: r, h => by
    rw [List.flatMap_cons, List.length_append, List.length_cons, Nat.succ_mul]
    have := flat_many fun q hq => h q (List.mem_cons_of_mem _ hq)
    have := h p (List.mem_cons_self ..)
    omega
theorem allL_len {st : StoreD} : ∀ {n : Nat} {p : PtrD}, Wf st n p → (allL st n p).length ≤ wg n
  | 0, p, _ => by
    cases hh : p.hole with
    | true => rw [allL_hole hh]; exact Nat.zero_le _
    | false => rw [allL_zero hh]; exact Nat.le_refl _
  | n + 1, p, ⟨_, _, l, hk, hw⟩ => by
    cases hh : p.hole with
    | true => rw [allL_hole hh]; exact Nat.zero_le _
    | false =>
      rw [allL_succ hh hk, List.length_cons]
      have h1 := flat_many (f := allL st n) (m := wg n) fun q hq => allL_len (hw q hq)
      rw [kids_len hk] at h1
      show _ ≤ 1 + 4 * wg n
      omega

theorem walk0_any (a0 : Option Addr) (c0 : Nat) (a1 : Option Addr) (c1 : Nat) (a2 : Option Addr) (c2 : Nat) (a4 : Option Addr) (c4 : Nat) (a6 : Option Addr) (c6 : Nat) (st : StoreD)  (w0 : World) (V : List PtrD → Asr) (vis : PtrD → List PtrD) (f : FuncId) (caps : Array Value) (HE0 : ∀ (args : Array Value) (w : World), (callFunc f args).run Tryz.prog w = .ok (.enter f args) w) (hvis : ∀ (p : PtrD) (xs : List PtrD) (F : List Asr) (w : World), xs.length ≤ 100 → St w0 (V xs :: F) w → Calls Tryz.prog f (#[] ++ #[pV p] ++ caps) w fun e w' => e = .returned (.tuple #[]) ∧ St w0 (V (xs ++ vis p) :: F) w') (hvl : ∀ p, (vis p).length ≤ 1) (hT : TabP w0) (hM : MaxP w0) (hE : ErrP w0) (hR : Rd encS 1 w0 a0 st.fRows.length st.fRows) (hrow : RowsOk st) (b : Nat) : ∀ (p : PtrD) (xs : List PtrD) (F : List Asr) (w : World), 0 ≤ 2 → xs.length + wg 0 ≤ 100 → Wf st 0 p → St w0 (V xs :: boxA b 8 41 (sV a0 c0 a1 c1 a2 c2 a4 c4 a6 c6 st) :: F) w → Calls Tryz.prog 114 #[.pointer (some ⟨b, 0, none⟩), pV p, .int .i64 ((0 : Nat) : Int), .func (.func f) #[] caps] w fun e w' => e = .returned (.tuple #[]) ∧ St w0 (V (xs ++ (allL st 0 p).flatMap vis) :: boxA b 8 41 (sV a0 c0 a1 c1 a2 c2 a4 c4 a6 c6 st) :: F) w' := by
 have HT := Bx.mk hT; have HM := Bx.mk hM; have HE := Bx.mk hE; have HR := Bx.mk hR; have HVI := Bx.mk hvis; clear hT hM hE hR hvis
 intro p xs F w hn2 hwg hwf hS; have hwgn : wg 0 = 1 := rfl
 have HS := Bx.mk hS; clear hS
 refine wc_enter Tryz.func114 rfl Tryz.ntmps114 [(0, .pointer (some ⟨b, 0, none⟩)), (1, pV p), (2, .int .i64 ((0 : Nat) : Int)), (3, .func (.func f) #[] caps)] ⟨rfl, rfl, rfl, rfl, trivial⟩ rfl ?_; intro a HF
 refine wp_sr ?_
 refine wl_box rfl HF rfl (HF.ev rfl) (Z := [.int .i64 p.fAt, .int .i64 p.fBirth, .int .i64 p.fSize, .int .i64 p.fSum, .int .i64 p.fLevel]) rfl rfl rfl rfl HS.out ?_; clear HF HS a; intro a w1 b1 HF HS; replace HS := Bx.mk HS
 refine wl_ne ?_
 refine wp_seq ?_
 refine wp_sr ?_
 refine zy HF (ylr (cs := [.int .i64 p.fAt, .int .i64 p.fBirth, .int .i64 p.fSize, .int .i64 p.fSum, .int .i64 p.fLevel]) rfl (HF.ev rfl) ((HS.out.box 0 rfl).sub 0 5)) ?_;clear HF a;intro a HF
 refine wl_callB rfl HF rfl (enter_of Tryz.func45 (by kernel_rfl) rfl) (args := #[pV p]) rfl (v := .bool p.hole) (implHole_any p _) rfl rfl HS.out ?_; clear HF HS a; intro w2 a HS HF; replace HS := Bx.mk HS
 refine wl_ne ?_
 refine HF.cases 13 rfl (fun cc1 _ => ?_) fun cc1 _ => ?_
 ·clear HF;rename_i HF
  refine wc_true HF rfl ?_
  refine wp_ret ?_
  refine ex_then_ret ?_
  refine bp_ret0 HF Tryz.results114  ?_
  replace HS:=Bx.mk ((HS.out.pick 2 rfl).pick 2 rfl)
  exact ⟨rfl, by rw [allL_hole cc1, List.flatMap_nil, List.append_nil]; exact (HS.out.erase 2)⟩
 ·clear HF;rename_i HF
  refine wc_false HF rfl ?_
  refine wp_skip ?_
  refine ex_then ?_
  refine wp_sr ?_
  refine zm HF ?_;clear HF a;intro a HF
  refine zy HF (ylr (cs := [.int .i64 p.fAt, .int .i64 p.fBirth, .int .i64 p.fSize, .int .i64 p.fSum, .int .i64 p.fLevel]) rfl (HF.ev rfl) ((HS.out.box 0 rfl).sub 0 5)) ?_;clear HF a;intro a HF
  replace HS:=Bx.mk (HS.out.pick 1 rfl)
  refine wl_callv rfl HF rfl (HF.ev rfl) HE0 (args := #[pV p]) rfl (HVI.out p xs _ _ (by omega) HS.out) rfl rfl ?_
  rintro _ w3 ⟨rfl, hs1⟩
  refine ⟨_, rfl, ?_⟩; replace HS := Bx.mk hs1;clear hs1 HF a;intro a HF
  try dsimp only [List.eraseIdx] at HS
  refine wl_ne ?_
  refine wp_sr ?_
  refine zr 2 HF rfl ?_;clear HF a;intro a HF
  refine wl_ne ?_
  refine HF.cases 18 rfl (fun cc2 _ => ?_) fun cc2 _ => ?_
  ·clear HF;rename_i HF
   have dcc2 := of_decide_eq_true cc2
   exact absurd dcc2 (by omega)
  ·clear HF;rename_i HF
   have dcc2 := of_decide_eq_false cc2
   refine wc_false HF rfl ?_
   refine wp_skip ?_
   refine bp_end0 HF Tryz.results114 ?_
   replace HS:=Bx.mk ((HS.out.pick 2 rfl).pick 1 rfl)
   exact ⟨rfl, by rw [allL_zero cc1, List.flatMap_cons, List.flatMap_nil, List.append_nil]; exact (HS.out.erase 2)⟩

theorem take_snocP {l : List PtrD} {k : Nat} (h : k < l.length) : l.take (k + 1) = l.take k ++ [l.getD k PtrD.zero] := by
  rw [List.take_succ_eq_append_getElem h, List.getD_eq_getElem?_getD, List.getElem?_eq_getElem h]; rfl

theorem walk1_any (a0 : Option Addr) (c0 : Nat) (a1 : Option Addr) (c1 : Nat) (a2 : Option Addr) (c2 : Nat) (a4 : Option Addr) (c4 : Nat) (a6 : Option Addr) (c6 : Nat) (st : StoreD)  (w0 : World) (V : List PtrD → Asr) (vis : PtrD → List PtrD) (f : FuncId) (caps : Array Value) (HE0 : ∀ (args : Array Value) (w : World), (callFunc f args).run Tryz.prog w = .ok (.enter f args) w) (hvis : ∀ (p : PtrD) (xs : List PtrD) (F : List Asr) (w : World), xs.length ≤ 100 → St w0 (V xs :: F) w → Calls Tryz.prog f (#[] ++ #[pV p] ++ caps) w fun e w' => e = .returned (.tuple #[]) ∧ St w0 (V (xs ++ vis p) :: F) w') (hvl : ∀ p, (vis p).length ≤ 1) (hT : TabP w0) (hM : MaxP w0) (hE : ErrP w0) (hR : Rd encS 1 w0 a0 st.fRows.length st.fRows) (hrow : RowsOk st) (b : Nat) (n : Nat) (ih : ∀ (p : PtrD) (xs : List PtrD) (F : List Asr) (w : World), n ≤ 2 → xs.length + wg n ≤ 100 → Wf st n p → St w0 (V xs :: boxA b 8 41 (sV a0 c0 a1 c1 a2 c2 a4 c4 a6 c6 st) :: F) w → Calls Tryz.prog 114 #[.pointer (some ⟨b, 0, none⟩), pV p, .int .i64 ((n : Nat) : Int), .func (.func f) #[] caps] w fun e w' => e = .returned (.tuple #[]) ∧ St w0 (V (xs ++ (allL st n p).flatMap vis) :: boxA b 8 41 (sV a0 c0 a1 c1 a2 c2 a4 c4 a6 c6 st) :: F) w') : ∀ (p : PtrD) (xs : List PtrD) (F : List Asr) (w : World), (n + 1) ≤ 2 → xs.length + wg (n + 1) ≤ 100 → Wf st (n + 1) p → St w0 (V xs :: boxA b 8 41 (sV a0 c0 a1 c1 a2 c2 a4 c4 a6 c6 st) :: F) w → Calls Tryz.prog 114 #[.pointer (some ⟨b, 0, none⟩), pV p, .int .i64 (((n + 1) : Nat) : Int), .func (.func f) #[] caps] w fun e w' => e = .returned (.tuple #[]) ∧ St w0 (V (xs ++ (allL st (n + 1) p).flatMap vis) :: boxA b 8 41 (sV a0 c0 a1 c1 a2 c2 a4 c4 a6 c6 st) :: F) w' := by
 have HT := Bx.mk hT; have HM := Bx.mk hM; have HE := Bx.mk hE; have HR := Bx.mk hR; have HVI := Bx.mk hvis; clear hT hM hE hR hvis
 intro p xs F w hn2 hwg hwf hS; have hwgn : wg 0 = 1 := rfl
 have HS := Bx.mk hS; clear hS
 refine wc_enter Tryz.func114 rfl Tryz.ntmps114 [(0, .pointer (some ⟨b, 0, none⟩)), (1, pV p), (2, .int .i64 ((n + 1 : Nat) : Int)), (3, .func (.func f) #[] caps)] ⟨rfl, rfl, rfl, rfl, trivial⟩ rfl ?_; intro a HF
 refine wp_sr ?_
 refine wl_box rfl HF rfl (HF.ev rfl) (Z := [.int .i64 p.fAt, .int .i64 p.fBirth, .int .i64 p.fSize, .int .i64 p.fSum, .int .i64 p.fLevel]) rfl rfl rfl rfl HS.out ?_; clear HF HS a; intro a w1 b1 HF HS; replace HS := Bx.mk HS
 refine wl_ne ?_
 refine wp_seq ?_
 refine wp_sr ?_
 refine zy HF (ylr (cs := [.int .i64 p.fAt, .int .i64 p.fBirth, .int .i64 p.fSize, .int .i64 p.fSum, .int .i64 p.fLevel]) rfl (HF.ev rfl) ((HS.out.box 0 rfl).sub 0 5)) ?_;clear HF a;intro a HF
 refine wl_callB rfl HF rfl (enter_of Tryz.func45 (by kernel_rfl) rfl) (args := #[pV p]) rfl (v := .bool p.hole) (implHole_any p _) rfl rfl HS.out ?_; clear HF HS a; intro w2 a HS HF; replace HS := Bx.mk HS
 refine wl_ne ?_
 refine HF.cases 13 rfl (fun cc1 _ => ?_) fun cc1 _ => ?_
 ·clear HF;rename_i HF
  refine wc_true HF rfl ?_
  refine wp_ret ?_
  refine ex_then_ret ?_
  refine bp_ret0 HF Tryz.results114  ?_
  replace HS:=Bx.mk ((HS.out.pick 2 rfl).pick 2 rfl)
  exact ⟨rfl, by rw [allL_hole cc1, List.flatMap_nil, List.append_nil]; exact (HS.out.erase 2)⟩
 ·clear HF;rename_i HF
  refine wc_false HF rfl ?_
  refine wp_skip ?_
  refine ex_then ?_
  refine wp_sr ?_
  refine zm HF ?_;clear HF a;intro a HF
  refine zy HF (ylr (cs := [.int .i64 p.fAt, .int .i64 p.fBirth, .int .i64 p.fSize, .int .i64 p.fSum, .int .i64 p.fLevel]) rfl (HF.ev rfl) ((HS.out.box 0 rfl).sub 0 5)) ?_;clear HF a;intro a HF
  replace HS:=Bx.mk (HS.out.pick 1 rfl)
  refine wl_callv rfl HF rfl (HF.ev rfl) HE0 (args := #[pV p]) rfl (HVI.out p xs _ _ (by omega) HS.out) rfl rfl ?_
  rintro _ w3 ⟨rfl, hs1⟩
  refine ⟨_, rfl, ?_⟩; replace HS := Bx.mk hs1;clear hs1 HF a;intro a HF
  try dsimp only [List.eraseIdx] at HS
  refine wl_ne ?_
  refine wp_sr ?_
  refine zr 2 HF rfl ?_;clear HF a;intro a HF
  refine wl_ne ?_
  refine HF.cases 18 rfl (fun cc2 _ => ?_) fun cc2 _ => ?_
  ·clear HF;rename_i HF
   have dcc2 := of_decide_eq_true cc2
   refine wc_true HF rfl ?_
   refine wp_sr ?_
   refine zm HF ?_;clear HF a;intro a HF
   refine zy HF (ylr (cs := [.int .i64 p.fAt, .int .i64 p.fBirth, .int .i64 p.fSize, .int .i64 p.fSum, .int .i64 p.fLevel]) rfl (HF.ev rfl) ((HS.out.box 1 rfl).sub 0 5)) ?_;clear HF a;intro a HF
   refine zm HF ?_;clear HF a;intro a HF
   refine wl_call rfl HF rfl (enter_of Tryz.func83 (by kernel_rfl) rfl) (args := #[.pointer (some ⟨b, 0, none⟩), pV p, .int .i64 ((n + 1 : Nat) : Int)]) rfl (fanOf_any a0 c0 a1 c1 a2 c2 a4 c4 a6 c6 st p ((n + 1 : Nat) : Int) b _ (HT.out.below HS.out.bel) (HM.out.below HS.out.bel) (HE.out.below HS.out.bel) (HS.out.box 2 rfl) (HR.out.below HS.out.bel) hrow hwf.ok.1) rfl rfl ?_
   rintro _ w4 (⟨l2, hk2, ao2, cp2, rfl, hs1⟩ | ⟨hk2, ao2, nn2, cp2, rfl, hb⟩)
   ·skip
    have hll2 := kids_len hk2
    refine ⟨_, rfl, ?_⟩; replace HS := Bx.mk (HS.out.add hs1);clear hs1 HF a;intro a HF
    try dsimp only [List.eraseIdx] at HS
    refine zr 5 HF rfl ?_;clear HF a;intro a HF
    refine wl_ne ?_
    refine wp_seq ?_
    have hwg1 : wg (n + 1) = 1 + 4 * wg n := rfl; have hkw : ∀ q ∈ l2, Wf st n q := by obtain ⟨_, _, l, hkl, hw⟩ := hwf; rw [hkl] at hk2; obtain rfl := Option.some.inj hk2; exact hw
    refine wp_region_lit ?_
    refine zm HF ?_;clear HF a;intro a HF
    refine zy HF (yl_lenL (e := 43) (size := 5) rfl (HF.ev rfl) (by kernel_rfl)) ?_;clear HF a;intro a HF
    refine zm HF ?_;clear HF a;intro a HF
    refine wl_ne ?_
    refine wp_block ?_
    refine wc_loop (ι := Nat) (fun k a w => ∃ (zs : List PtrD), (k ≤ l2.length ∧ zs = xs ++ (p :: (l2.take k).flatMap (allL st n)).flatMap vis ∧ zs.length ≤ xs.length + 1 + k * wg n) ∧ Fr 39 a [(0, .pointer (some ⟨b, 0, none⟩)), (2, .int .i64 ((n + 1 : Nat) : Int)), (3, .func (.func f) #[] caps), (5, .pointer (some ⟨b1, 0, none⟩)), (26, .slice ao2 l2.length cp2), (27, .int .i64 (l2.length : Int)), (28, .int .i64 (k : Int))] ∧ St w0 (rowA PtrD.cells 5 43 (.slice ao2 l2.length cp2) l2 :: V zs :: boxA b1 5 43 (pV p) :: boxA b 8 41 (sV a0 c0 a1 c1 a2 c2 a4 c4 a6 c6 st) :: F) w) (fun k => l2.length - k) 0 ⟨xs ++ vis p, ⟨Nat.zero_le _, by simp, by have := hvl p; rw [List.length_append]; omega⟩, HF.less _ ⟨rfl, rfl, rfl, rfl, rfl, rfl, rfl, trivial⟩, HS.out⟩ ?_
    clear HF HS; clear a
    rintro k a w5 ⟨zs, ⟨hk, hz, hzl⟩, HF, HS⟩
    replace HS := Bx.mk HS
    refine wp_sr ?_
    refine zy HF (yl_lssI rfl (HF.ev rfl) (HF.ev rfl)) ?_;clear HF a;intro a HF
    refine wl_ne ?_
    refine wp_seq ?_
    refine HF.cases 29 rfl (fun cc3 _ => ?_) fun cc3 _ => ?_
    ·clear HF;rename_i HF
     have dcc3 := of_decide_eq_true cc3
     refine wc_true HF rfl ?_
     refine wp_skip ?_
     refine ex_then ?_
     refine wp_seq ?_
     refine wp_block ?_
     refine wp_seq ?_
     obtain ⟨g3, rfl, _, _, _, _⟩ := HS.out.rowOpen 0 rfl (by omega)
     refine wp_region_lit ?_
     refine zy HF (yl_indexAddr (e := 43) (i := k) (size := 5) rfl (HF.ev rfl) (HF.ev rfl) (by kernel_rfl) rfl (by omega)) ?_;clear HF a;intro a HF
     refine zy HF (ylr (cs := [.int .i64 ((l2.getD k PtrD.zero).fAt), .int .i64 ((l2.getD k PtrD.zero).fBirth), .int .i64 ((l2.getD k PtrD.zero).fSize), .int .i64 ((l2.getD k PtrD.zero).fSum), .int .i64 ((l2.getD k PtrD.zero).fLevel)]) rfl (HF.ev rfl) (HS.out.elem PtrD.cells_len 0 rfl (get_getD (xs := l2) (j := k) (d := PtrD.zero) (by omega)))) ?_;clear HF a;intro a HF
     refine wl_alloc rfl HF rfl rfl rfl (Z := [.int .i64 0, .int .i64 0, .int .i64 0, .int .i64 0, .int .i64 0]) (by kernel_rfl) rfl HS.out ?_; clear HF HS a; intro a w6 b4 HF HS; replace HS := Bx.mk HS
     refine wl_storeBox rfl HF rfl rfl (HF.ev rfl) (HF.ev rfl) HS.out 0 rfl (cells_lit [.int .i64 ((l2.getD k PtrD.zero).fAt), .int .i64 ((l2.getD k PtrD.zero).fBirth), .int .i64 ((l2.getD k PtrD.zero).fSize), .int .i64 ((l2.getD k PtrD.zero).fSum), .int .i64 ((l2.getD k PtrD.zero).fLevel)] rfl rfl) (by kernel_rfl) ?_; clear HS; intro w7 HS; replace HS := Bx.mk HS
     try dsimp only [List.set] at HS
     refine wl_ne ?_
     refine wp_region_lit ?_
     refine zm HF ?_;clear HF a;intro a HF
     refine zy HF (ylr (cs := [.int .i64 ((l2.getD k PtrD.zero).fAt), .int .i64 ((l2.getD k PtrD.zero).fBirth), .int .i64 ((l2.getD k PtrD.zero).fSize), .int .i64 ((l2.getD k PtrD.zero).fSum), .int .i64 ((l2.getD k PtrD.zero).fLevel)]) rfl (HF.ev rfl) ((HS.out.box 0 rfl).sub 0 5)) ?_;clear HF a;intro a HF
     refine zm HF ?_;clear HF a;intro a HF
     refine zy HF (yl_subI (r := ((n : Nat) : Int)) rfl (HF.ev rfl) (HF.ev rfl) ((i64w (by omega)).trans (by omega))) ?_;clear HF a;intro a HF
     refine zm HF ?_;clear HF a;intro a HF
     replace HS:=Bx.mk ((HS.out.pick 4 rfl).pick 3 rfl)
     refine wl_call rfl HF rfl (enter_of Tryz.func114 (by kernel_rfl) rfl) (args := #[.pointer (some ⟨b, 0, none⟩), pV (l2.getD k PtrD.zero), .int .i64 ((n : Nat) : Int), .func (.func f) #[] caps]) rfl (ih (l2.getD k PtrD.zero) zs _ _ (by omega) (by have := mul_room (m := wg n) (show k < 4 by omega); omega) (hkw _ (getD_mem (by omega))) HS.out) rfl rfl ?_
     rintro _ w8 ⟨rfl, hs1⟩
     refine ⟨_, rfl, ?_⟩; replace HS := Bx.mk hs1;clear hs1 HF a;intro a HF
     try dsimp only [List.eraseIdx] at HS
     refine wpList_nil ?_
     refine ex_block ?_
     refine ex_then ?_
     refine wp_region_lit ?_
     refine zy HF (yl_addI rfl (HF.ev rfl) (HF.ev rfl) (i64w (by omega))) ?_;clear HF a;intro a HF
     refine zm HF ?_;clear HF a;intro a HF
     refine wl_ne ?_
     have hz2 : zs ++ (allL st n (l2.getD k PtrD.zero)).flatMap vis = xs ++ (p :: (l2.take (k + 1)).flatMap (allL st n)).flatMap vis := by rw [hz, take_snocP (show k < l2.length by omega), List.flatMap_append]; simp [List.flatMap_cons, List.flatMap_append, List.append_assoc]
     have hzl2 : (zs ++ (allL st n (l2.getD k PtrD.zero)).flatMap vis).length ≤ xs.length + 1 + (k + 1) * wg n := by have h1 := flat_le hvl (allL st n (l2.getD k PtrD.zero)); have h2 := allL_len (hkw _ (getD_mem (show k < l2.length by omega))); rw [List.length_append, Nat.succ_mul]; omega
     replace HS:=Bx.mk ((((HS.out.pick 1 rfl).pick 4 rfl).pick 2 rfl).pick 4 rfl)
     exact ⟨k + 1, ⟨_, ⟨by omega, hz2, hzl2⟩, HF.less _ ⟨rfl, rfl, rfl, rfl, rfl, rfl, rfl, trivial⟩, (HS.out.erase 4)⟩, (by omega)⟩
    ·clear HF;rename_i HF
     have dcc3 := of_decide_eq_false cc3
     refine wc_false HF rfl ?_
     refine wp_exit ?_
     refine ex_then_exit ?_
     refine ex_then_exit ?_
     refine ex_block_hit ?_
     refine bp_end0 HF Tryz.results114 ?_
     replace HS:=Bx.mk ((HS.out.pick 3 rfl).pick 2 rfl)
     have hkl : k = l2.length := by omega
     have hfin : zs = xs ++ (allL st (n + 1) p).flatMap vis := by rw [hz, allL_succ cc1 hk2, hkl, List.take_length]
     rw [← hfin]; exact ⟨rfl, ((HS.out.erase 3).erase 2)⟩
   ·skip
    refine ⟨_, rfl, ?_⟩; replace HS := Bx.mk (HS.out.later hb);clear hb HF a;intro a HF
    obtain ⟨_, _, l, hkl, _⟩ := hwf; rw [hkl] at hk2; cases hk2
  ·clear HF;rename_i HF
   have dcc2 := of_decide_eq_false cc2
   exact absurd dcc2 (by omega)

theorem walk_any (a0 : Option Addr) (c0 : Nat) (a1 : Option Addr) (c1 : Nat) (a2 : Option Addr) (c2 : Nat) (a4 : Option Addr) (c4 : Nat) (a6 : Option Addr) (c6 : Nat) (st : StoreD)  (w0 : World) (V : List PtrD → Asr) (vis : PtrD → List PtrD) (f : FuncId) (caps : Array Value) (HE0 : ∀ (args : Array Value) (w : World), (callFunc f args).run Tryz.prog w = .ok (.enter f args) w) (hvis : ∀ (p : PtrD) (xs : List PtrD) (F : List Asr) (w : World), xs.length ≤ 100 → St w0 (V xs :: F) w → Calls Tryz.prog f (#[] ++ #[.agg #[.int .i64 p.fAt, .int .i64 p.fBirth, .int .i64 p.fSize, .int .i64 p.fSum, .int .i64 p.fLevel]] ++ caps) w fun e w' => e = .returned (.tuple #[]) ∧ St w0 (V (xs ++ vis p) :: F) w') (hvl : ∀ p, (vis p).length ≤ 1) (hT : TabP w0) (hM : MaxP w0) (hE : ErrP w0) (hR : Rd encS 1 w0 a0 st.fRows.length st.fRows) (hrow : RowsOk st) (b : Nat) : ∀ n : Nat, ∀ (p : PtrD) (xs : List PtrD) (F : List Asr) (w : World), n ≤ 2 → xs.length + wg n ≤ 100 → Wf st n p → St w0 (V xs :: boxA b 8 41 (.agg #[.slice a0 st.fRows.length c0, .slice a1 st.fSpace.fRefs.length c1, .slice a2 st.fSpace.fLast.length c2, .int .i64 st.fTxg, .slice a4 st.fGone.length c4, .int .i64 st.fKeep, .slice a6 st.fDead.length c6, .bool st.fSame]) :: F) w → Calls Tryz.prog 114 #[.pointer (some ⟨b, 0, none⟩), .agg #[.int .i64 p.fAt, .int .i64 p.fBirth, .int .i64 p.fSize, .int .i64 p.fSum, .int .i64 p.fLevel], .int .i64 ((n : Nat) : Int), .func (.func f) #[] caps] w fun e w' => e = .returned (.tuple #[]) ∧ St w0 (V (xs ++ (allL st n p).flatMap vis) :: boxA b 8 41 (.agg #[.slice a0 st.fRows.length c0, .slice a1 st.fSpace.fRefs.length c1, .slice a2 st.fSpace.fLast.length c2, .int .i64 st.fTxg, .slice a4 st.fGone.length c4, .int .i64 st.fKeep, .slice a6 st.fDead.length c6, .bool st.fSame]) :: F) w'
  | 0 => walk0_any a0 c0 a1 c1 a2 c2 a4 c4 a6 c6 st w0 V vis f caps HE0 hvis hvl hT hM hE hR hrow b
  | n + 1 => walk1_any a0 c0 a1 c1 a2 c2 a4 c4 a6 c6 st w0 V vis f caps HE0 hvis hvl hT hM hE hR hrow b n (fun p xs F w hn => walk_any a0 c0 a1 c1 a2 c2 a4 c4 a6 c6 st w0 V vis f caps HE0 hvis hvl hT hM hE hR hrow b n p xs F w hn)

/-- A list in a variable: its box and its row. -/
def accA (b : Nat) (xs : List PtrD) : Asr := exA fun (q : Option Addr × Nat) => sepA [boxA b 1 39 (.agg #[.slice q.1 xs.length q.2]), rowA PtrD.cells 5 43 (.slice q.1 xs.length q.2) xs]
theorem St.accOut {W w : World} {b : Nat} {xs : List PtrD} {F : List Asr} (h : St W (accA b xs :: F) w) : ∃ ao cp, St W (boxA b 1 39 (.agg #[.slice ao xs.length cp]) :: rowA PtrD.cells 5 43 (.slice ao xs.length cp) xs :: F) w := by
  obtain ⟨⟨ao, cp⟩, h⟩ := h.ex
  exact ⟨ao, cp, (St.join (r := [_, _])).2 h⟩
theorem St.accIn {W w : World} {b : Nat} {xs : List PtrD} {F : List Asr} {ao : Option Addr} {cp : Nat} (h : St W (boxA b 1 39 (.agg #[.slice ao xs.length cp]) :: rowA PtrD.cells 5 43 (.slice ao xs.length cp) xs :: F) w) : St W (accA b xs :: F) w := St.exI (A := fun (q : Option Addr × Nat) => sepA [boxA b 1 39 (.agg #[.slice q.1 xs.length q.2]), rowA PtrD.cells 5 43 (.slice q.1 xs.length q.2) xs]) (ao, cp) ((St.join (r := [_, _])).1 h)

theorem all1_any (p : PtrD) (b : Nat) (xs : List PtrD) (hxs : xs.length ≤ 100) (F : List Asr) (w0 w : World) (hS : St w0 (accA b xs :: F) w) : Calls Tryz.prog 115 #[pV p, .pointer (some ⟨b, 0, none⟩)] w fun e w' => e = .returned (.tuple #[]) ∧ St w0 (accA b (xs ++ [p]) :: F) w' := by
 obtain ⟨ao, cp, hS⟩ := hS.accOut
 have HS := Bx.mk hS; clear hS
 refine wc_enter Tryz.func115 rfl Tryz.ntmps115 [(0, pV p), (1, .pointer (some ⟨b, 0, none⟩))] ⟨rfl, rfl, trivial⟩ rfl ?_; intro a HF
 refine wp_sr ?_
 refine wl_box rfl HF rfl (HF.ev rfl) (Z := [.int .i64 p.fAt, .int .i64 p.fBirth, .int .i64 p.fSize, .int .i64 p.fSum, .int .i64 p.fLevel]) rfl rfl rfl rfl HS.out ?_; clear HF HS a; intro a w1 b1 HF HS; replace HS := Bx.mk HS
 refine wl_ne ?_
 refine wp_region_lit ?_
 refine zy HF (ylo (v := .slice ao xs.length cp) rfl (HF.ev rfl) (((HS.out.box 1 rfl).cell 0).trans rfl)) ?_;clear HF a;intro a HF
 refine zy HF (ylr (cs := [.int .i64 p.fAt, .int .i64 p.fBirth, .int .i64 p.fSize, .int .i64 p.fSum, .int .i64 p.fLevel]) rfl (HF.ev rfl) ((HS.out.box 0 rfl).sub 0 5)) ?_;clear HF a;intro a HF
 refine wl_buildS (enc := PtrD.cells) (e := 43) (size := 5) rfl HF rfl rfl rfl (ps := [(0, pV p)]) rfl (cells := [.int .i64 p.fAt, .int .i64 p.fBirth, .int .i64 p.fSize, .int .i64 p.fSum, .int .i64 p.fLevel]) (by kernel_rfl) [p] rfl rfl (by unfold maxLen; omega) rfl HS.out ?_; clear HF HS a; intro b2 a w2 HF HS; replace HS := Bx.mk HS
 refine wl_appL rfl HF rfl rfl rfl (HF.ev rfl) (HF.ev rfl) elemQ PtrD.cells_len HS.out 3 (xs := xs) rfl (ys := [p]) (St.rdN HS.out PtrD.cells_len 0 rfl) (cells_one_Q _) (by unfold maxLen; (try simp only [List.length_append, List.length_cons, List.length_nil, List.nil_append, List.length_map]); omega) (by (try simp only [List.length_append, List.length_cons, List.length_nil, List.nil_append, List.length_map]); omega) ?_; clear HF HS a; intro ao3 cp4 w3 a HF HS; replace HS := Bx.mk HS
 try dsimp only [List.eraseIdx] at HS
 refine wl_storeF rfl rfl rfl (HF.ev rfl) (HF.ev rfl) (by kernel_rfl) HS.out 2 rfl rfl rfl ?_; clear HS; intro w4 HS; replace HS := Bx.mk HS
 try dsimp only [List.set] at HS
 refine wpList_nil ?_
 refine bp_end0 HF Tryz.results115 ?_
 replace HS:=Bx.mk ((HS.out.pick 3 rfl).pick 3 rfl)
 have hz : xs.length + ([p]).length = (xs ++ ([p])).length := (List.length_append ..).symm
 rw [hz] at HS
 exact ⟨rfl, St.accIn ((HS.out.erase 3).erase 2)⟩

theorem flat_self (l : List PtrD) : l.flatMap (fun p => [p]) = l := by induction l with
  | nil => rfl
  | cons p r ih => rw [List.flatMap_cons, ih]; rfl
theorem allWalk_any (a0 : Option Addr) (c0 : Nat) (a1 : Option Addr) (c1 : Nat) (a2 : Option Addr) (c2 : Nat) (a4 : Option Addr) (c4 : Nat) (a6 : Option Addr) (c6 : Nat) (st : StoreD) (w0 : World) (hT : TabP w0) (hM : MaxP w0) (hE : ErrP w0) (hR : Rd encS 1 w0 a0 st.fRows.length st.fRows) (hrow : RowsOk st) (b c : Nat) (t : TreeD) (hdep : t.fDepth = ((depthN t.fMany : Nat) : Int)) (hwf : Wf st (depthN t.fMany) t.fRoot) (F : List Asr) (w : World) (hS : St w0 (accA c [] :: boxA b 8 41 (.agg #[.slice a0 st.fRows.length c0, .slice a1 st.fSpace.fRefs.length c1, .slice a2 st.fSpace.fLast.length c2, .int .i64 st.fTxg, .slice a4 st.fGone.length c4, .int .i64 st.fKeep, .slice a6 st.fDead.length c6, .bool st.fSame]) :: F) w) : Calls Tryz.prog 114 #[.pointer (some ⟨b, 0, none⟩), .agg #[.int .i64 t.fRoot.fAt, .int .i64 t.fRoot.fBirth, .int .i64 t.fRoot.fSize, .int .i64 t.fRoot.fSum, .int .i64 t.fRoot.fLevel], .int .i64 t.fDepth, .func (.func 115) #[] #[.pointer (some ⟨c, 0, none⟩)]] w fun e w' => e = .returned (.tuple #[]) ∧ St w0 (accA c (allL st (depthN t.fMany) t.fRoot) :: boxA b 8 41 (.agg #[.slice a0 st.fRows.length c0, .slice a1 st.fSpace.fRefs.length c1, .slice a2 st.fSpace.fLast.length c2, .int .i64 st.fTxg, .slice a4 st.fGone.length c4, .int .i64 st.fKeep, .slice a6 st.fDead.length c6, .bool st.fSame]) :: F) w' := by
  have h := walk_any a0 c0 a1 c1 a2 c2 a4 c4 a6 c6 st w0 (accA c) (fun p => [p]) 115 #[.pointer (some ⟨c, 0, none⟩)] (enter_of Tryz.func115 (by kernel_rfl) rfl) (fun p xs F w hx hS => all1_any p c xs hx F w0 w hS) (fun _ => Nat.le_refl _) hT hM hE hR hrow b (depthN t.fMany) t.fRoot [] F w (depthN_le _) (by
    have := depthN_le t.fMany
    rcases (by omega : depthN t.fMany = 0 ∨ depthN t.fMany = 1 ∨ depthN t.fMany = 2) with e | e | e <;> rw [e] <;> decide) hwf hS
  rw [← hdep, flat_self, List.nil_append] at h
  exact h

theorem all_any (a0 : Option Addr) (c0 : Nat) (a1 : Option Addr) (c1 : Nat) (a2 : Option Addr) (c2 : Nat) (a4 : Option Addr) (c4 : Nat) (a6 : Option Addr) (c6 : Nat) (st : StoreD) (t : TreeD) (b : Nat) (w0 w : World) (hT : TabP w0) (hM : MaxP w0) (hE : ErrP w0) (hV0 : StoreD.Reads w0 (sV a0 c0 a1 c1 a2 c2 a4 c4 a6 c6 st) st) (hf : st.Fit) (hsok : st.ok = true) (hwf : t.fDepth = ((depthN t.fMany : Nat) : Int) ∧ Wf st (depthN t.fMany) t.fRoot) (F : List Asr) (hS : St w0 (boxA b 8 41 (sV a0 c0 a1 c1 a2 c2 a4 c4 a6 c6 st) :: F) w) : Calls Tryz.prog 89 #[.pointer (some ⟨b, 0, none⟩), tV t] w fun e w' => ∃ ao cp, e = .returned (.slice ao (allL st (depthN t.fMany) t.fRoot).length cp) ∧ St w0 (rowA PtrD.cells 5 43 (.slice ao (allL st (depthN t.fMany) t.fRoot).length cp) (allL st (depthN t.fMany) t.fRoot) :: boxA b 8 41 (sV a0 c0 a1 c1 a2 c2 a4 c4 a6 c6 st) :: F) w' := by
 have HT := Bx.mk hT; have HM := Bx.mk hM; have HE := Bx.mk hE; have hV := Bx.mk hV0; clear hT hM hE hV0
 have HS := Bx.mk hS; clear hS
 refine wc_enter Tryz.func89 rfl Tryz.ntmps89 [(0, .pointer (some ⟨b, 0, none⟩)), (1, tV t)] ⟨rfl, rfl, trivial⟩ rfl ?_; intro a HF
 refine wp_sr ?_
 refine wl_box rfl HF rfl (HF.ev rfl) (Z := [.int .i64 t.fRoot.fAt, .int .i64 t.fRoot.fBirth, .int .i64 t.fRoot.fSize, .int .i64 t.fRoot.fSum, .int .i64 t.fRoot.fLevel, .int .i64 t.fDepth, .int .i64 t.fMany]) rfl rfl rfl rfl HS.out ?_; clear HF HS a; intro a w1 b1 HF HS; replace HS := Bx.mk HS
 refine za HF ?_;clear HF a;intro a HF
 refine wl_ne ?_
 refine wp_sr ?_
 refine wl_alloc rfl HF rfl rfl rfl (Z := [.slice none 0 0]) (by kernel_rfl) rfl HS.out ?_; clear HF HS a; intro a w2 b2 HF HS; replace HS := Bx.mk HS
 refine wl_ne ?_
 refine wp_sr ?_
 refine zm HF ?_;clear HF a;intro a HF
 refine zy HF (yfa 0 rfl (HF.ev rfl)) ?_;clear HF a;intro a HF
 refine zy HF (ylr (cs := [.int .i64 t.fRoot.fAt, .int .i64 t.fRoot.fBirth, .int .i64 t.fRoot.fSize, .int .i64 t.fRoot.fSum, .int .i64 t.fRoot.fLevel]) rfl (HF.ev rfl) ((HS.out.box 1 rfl).sub 0 5)) ?_;clear HF a;intro a HF
 refine zy HF (yfa 5 rfl (HF.ev rfl)) ?_;clear HF a;intro a HF
 refine zy HF (ylo (v := .int .i64 t.fDepth) rfl (HF.ev rfl) (((HS.out.box 1 rfl).cell 5).trans rfl)) ?_;clear HF a;intro a HF
 refine zy HF (yl_makeFunc HF rfl (cs := #[.pointer (some ⟨b2, 0, none⟩)]) rfl) ?_;clear HF a;intro a HF
 replace HS:=Bx.mk (HS.out.pick 0 rfl)
 replace HS := Bx.mk ((HS.out.nilRow PtrD.cells 5 43 none).pick 1 rfl)
 replace HS := Bx.mk (St.accIn (xs := []) HS.out)
 try dsimp only [List.eraseIdx] at HS
 replace HS:=Bx.mk ((HS.out.pick 2 rfl).pick 1 rfl)
 refine wl_call rfl HF rfl (enter_of Tryz.func114 (by kernel_rfl) rfl) (args := #[.pointer (some ⟨b, 0, none⟩), pV t.fRoot, .int .i64 t.fDepth, .func (.func 115) #[] #[.pointer (some ⟨b2, 0, none⟩)]]) rfl (allWalk_any a0 c0 a1 c1 a2 c2 a4 c4 a6 c6 st w0 (HT.out) (HM.out) (HE.out) (reads_rows hV.out) (ok_rows hsok) b b2 t hwf.1 hwf.2 _ _ HS.out) rfl rfl ?_
 rintro _ w3 ⟨rfl, hs1⟩
 refine ⟨_, rfl, ?_⟩; replace HS := Bx.mk hs1;clear hs1 HF a;intro a HF
 try dsimp only [List.eraseIdx] at HS
 obtain ⟨aoA, cpA, hA⟩ := HS.out.accOut; replace HS := Bx.mk hA; clear hA
 try dsimp only [List.eraseIdx] at HS
 refine wl_ne ?_
 refine wp_sr ?_
 refine zy HF (ylo (v := .slice aoA ((allL st (depthN t.fMany) t.fRoot).length) cpA) rfl (HF.ev rfl) (((HS.out.box 0 rfl).cell 0).trans rfl)) ?_;clear HF a;intro a HF
 refine za HF ?_;clear HF a;intro a HF
 refine wl_ne ?_
 refine wp_ret ?_
 refine bp_ret1 HF Tryz.results89 (HF.res rfl) ?_
 replace HS:=Bx.mk ((HS.out.pick 2 rfl).pick 2 rfl)
 exact ⟨_, _, rfl, ((HS.out.erase 3).erase 2)⟩

end Go.Proofs.YtgaodbdadncfhaaGreatDoor

/- All pointers of a tree, by the reference: walked. -/
namespace Go.Proofs.YtgaodbdadncfhaaGreatDoor
set_option linter.unusedVariables false
set_option linter.unusedSimpArgs false
set_option maxHeartbeats 1000000
set_option maxRecDepth 100000
open Go.RowKit

theorem flatMap_congr {f g : PtrD → List PtrD} : ∀ {l : List PtrD}, (∀ q ∈ l, f q = g q) → l.flatMap f = l.flatMap g
  | [], _ => rfl
  | p :: r, h => by rw [List.flatMap_cons, List.flatMap_cons, h p (List.mem_cons_self ..), flatMap_congr fun q hq => h q (List.mem_cons_of_mem _ hq)]
theorem Rd.dropP {α : Type} {enc : α → List Value} {size : Nat} {w : World} {g off n : Nat} {xs : List α} (h : Rd enc size w (some ⟨g, off, none⟩) n xs) {k : Nat} (hk : k ≤ n) : Rd enc size w (some ⟨g, off + k * size, none⟩) (n - k) (xs.drop k) := by
  have hl := h.len
  refine ⟨by rw [List.length_drop]; omega, fun i hi => ?_⟩
  rw [List.length_drop] at hi
  obtain ⟨b, o, x, hx, ha, hb, hr⟩ := h.at_ (k + i) (by omega)
  simp only [Option.some.injEq, Addr.mk.injEq, and_true] at ha
  obtain ⟨rfl, rfl⟩ := ha
  refine ⟨g, off + k * size, x, by rw [List.getElem?_drop]; exact hx, rfl, hb, ?_⟩
  rw [Nat.add_assoc, ← Nat.add_mul]
  exact hr

/-- All below a pointer, by its own level. -/
noncomputable def allO (st : StoreD) (p : PtrD) : List PtrD := allL st p.fLevel.toNat p
theorem allO_wf {st : StoreD} {n : Nat} {p : PtrD} (h : Wf st n p) : allO st p = allL st n p := by
  unfold allO
  cases hh : p.hole with
  | true => rw [allL_hole hh, allL_hole hh]
  | false => rw [h.level hh]; rfl
def mz : List PtrD → Nat
  | [] => 0
  | p :: r => (bif p.hole then 1 else wg p.fLevel.toNat) + mz r
theorem wg_pos : ∀ n, 1 ≤ wg n
  | 0 => Nat.le_refl _
  | n + 1 => by show 1 ≤ 1 + 4 * wg n; omega
theorem mz_app : ∀ a b : List PtrD, mz (a ++ b) = mz a + mz b
  | [], b => by simp [mz]
  | p :: r, b => by
    show _ + mz (r ++ b) = _ + mz r + mz b
    rw [mz_app r b]; omega
theorem mz_kids {st : StoreD} {n : Nat} : ∀ {l : List PtrD}, (∀ q ∈ l, Wf st n q) → mz l ≤ l.length * wg n
  | [], _ => Nat.zero_le _
  | p :: r, h => by
    have ih := mz_kids fun q hq => h q (List.mem_cons_of_mem _ hq)
    have hw := h p (List.mem_cons_self ..)
    have h1 : (bif p.hole then 1 else wg p.fLevel.toNat) ≤ wg n := by
      cases hh : p.hole with
      | true => exact wg_pos n
      | false => rw [hw.level hh]; exact Nat.le_refl _
    show (bif p.hole then 1 else wg p.fLevel.toNat) + mz r ≤ (r.length + 1) * wg n
    rw [Nat.succ_mul]; omega
theorem mz_len : ∀ l : List PtrD, l.length ≤ mz l
  | [] => Nat.le_refl _
  | p :: r => by
    have := mz_len r
    have h1 : 1 ≤ (bif p.hole then 1 else wg p.fLevel.toNat) := by
      cases p.hole
      · exact wg_pos _
      · exact Nat.le_refl _
    show r.length + 1 ≤ _ + mz r
    omega
/-- What is told, and what is to do. -/
structure AllTo (st : StoreD) (A os ts : List PtrD) : Prop where
  sum : os ++ ts.flatMap (allO st) = A
  wf : ∀ p ∈ ts, ∃ n, n ≤ 2 ∧ Wf st n p
  room : os.length + mz ts ≤ 21
theorem AllTo.start {st : StoreD} {n : Nat} {p : PtrD} (hn : n ≤ 2) (h : Wf st n p) : AllTo st (allL st n p) [] [p] := by
  refine ⟨?_, fun q hq => ⟨n, hn, by rw [List.mem_singleton.1 hq]; exact h⟩, ?_⟩
  · rw [List.nil_append, List.flatMap_cons, List.flatMap_nil, List.append_nil, allO_wf h]
  · have h1 := mz_kids (l := [p]) (n := n) fun q hq => by rw [List.mem_singleton.1 hq]; exact h
    have h2 : wg n ≤ 21 := by rcases (by omega : n = 0 ∨ n = 1 ∨ n = 2) with e | e | e <;> rw [e] <;> decide
    rw [List.length_singleton, Nat.one_mul] at h1
    show 0 + mz [p] ≤ 21
    omega
theorem AllTo.done {st : StoreD} {A os : List PtrD} (h : AllTo st A os []) : os = A := by
  have := h.sum
  rwa [List.flatMap_nil, List.append_nil] at this
section
variable {st : StoreD} {A os r : List PtrD} {p : PtrD}
theorem AllTo.tail (h : AllTo st A os (p :: r)) : ∀ q ∈ ([] ++ r : List PtrD), ∃ n, n ≤ 2 ∧ Wf st n q := fun q hq => h.wf q (List.mem_cons_of_mem _ (by simpa using hq))
theorem AllTo.hole (h : AllTo st A os (p :: r)) (hh : p.hole = true) : AllTo st A os ([] ++ r) ∧ mz ([] ++ r) < mz (p :: r) := by
  have h1 := h.sum
  have h2 := h.room
  have e : mz (p :: r) = 1 + mz r := by show (bif p.hole then 1 else wg p.fLevel.toNat) + mz r = _; rw [hh]; rfl
  refine ⟨⟨?_, h.tail, ?_⟩, ?_⟩
  · rw [List.nil_append, ← h1, List.flatMap_cons, show allO st p = [] from allL_hole hh _, List.nil_append]
  · rw [List.nil_append]; omega
  · rw [List.nil_append]; omega
theorem AllTo.leaf (h : AllTo st A os (p :: r)) (hh : p.hole = false) (hl : ¬ 0 < p.fLevel) : AllTo st A (os ++ [p]) ([] ++ r) ∧ mz ([] ++ r) < mz (p :: r) := by
  have h1 := h.sum
  have h2 := h.room
  obtain ⟨n, hn, hw⟩ := h.wf p (List.mem_cons_self ..)
  have hl2 := hw.level hh
  obtain rfl : n = 0 := by omega
  have e : mz (p :: r) = 1 + mz r := by show (bif p.hole then 1 else wg p.fLevel.toNat) + mz r = _; rw [hh, hl2]; rfl
  refine ⟨⟨?_, h.tail, ?_⟩, ?_⟩
  · rw [List.nil_append, ← h1, List.flatMap_cons, allO_wf hw, allL_zero hh, List.append_assoc]
  · rw [List.nil_append, List.length_append, List.length_singleton]; omega
  · rw [List.nil_append]; omega
theorem AllTo.below (h : AllTo st A os (p :: r)) (hh : p.hole = false) (hl : 0 < p.fLevel) : ∃ n l, n + 1 ≤ 2 ∧ p.fLevel = ((n + 1 : Nat) : Int) ∧ kidsS st p p.fLevel = some l ∧ kids st p ((n + 1 : Nat) : Int) = some l ∧ ∀ q ∈ l, Wf st n q := by
  obtain ⟨n, hn, hw⟩ := h.wf p (List.mem_cons_self ..)
  have hl2 := hw.level hh
  match n, hw, hl2, hn with
  | 0, _, hl2, _ => omega
  | n + 1, hw, hl2, hn =>
    obtain ⟨hp, hb, l, hk, hq⟩ := hw
    exact ⟨n, l, hn, hl2, by rw [kidsS_eq hp hb, hl2]; exact hk, hk, hq⟩
theorem AllTo.kids (h : AllTo st A os (p :: r)) (hh : p.hole = false) (hl : 0 < p.fLevel) {l : List PtrD} (hk : kidsS st p p.fLevel = some l) : AllTo st A (os ++ [p]) (([] ++ l) ++ ([] ++ r)) ∧ mz (([] ++ l) ++ ([] ++ r)) < mz (p :: r) := by
  obtain ⟨n, m, hn, hl2, hk2, hk3, hq⟩ := h.below hh hl
  rw [hk] at hk2
  obtain rfl := Option.some.inj hk2
  have h1 := h.sum
  have h2 := h.room
  have hw : Wf st (n + 1) p := by
    obtain ⟨k, _, hw⟩ := h.wf p (List.mem_cons_self ..)
    have := hw.level hh
    obtain rfl : k = n + 1 := by omega
    exact hw
  have e : mz (p :: r) = (1 + 4 * wg n) + mz r := by show (bif p.hole then 1 else wg p.fLevel.toNat) + mz r = _; rw [hh, hl2]; rfl
  have hm := mz_kids hq
  rw [kids_len hk3] at hm
  refine ⟨⟨?_, fun q hx => ?_, ?_⟩, ?_⟩
  · have e2 : l.flatMap (allO st) = l.flatMap (allL st n) := flatMap_congr fun q hx => allO_wf (hq q hx)
    rw [← h1, List.flatMap_cons, allO_wf hw, allL_succ hh hk3]
    simp [List.flatMap_append, e2]
  · rw [List.nil_append, List.nil_append] at hx
    rcases List.mem_append.1 hx with hx | hx
    · exact ⟨n, by omega, hq q hx⟩
    · exact h.wf q (List.mem_cons_of_mem _ hx)
  · rw [List.nil_append, List.nil_append, mz_app, List.length_append, List.length_singleton]; omega
  · rw [List.nil_append, List.nil_append, mz_app]; omega
end
section
variable {P : Program} {o : Oper} {a : Act} {w : World} {e : TypeId}
/-- Where a slice without its head begins. -/
def loA (g off k size cap : Nat) : Option Addr := some ⟨g, if cap = k then off else off + k * size, none⟩
theorem yl_sliceLoA {t : TypeId} {x y : Operand} (ho : o.op = .slice t x (some y) none none) {g off n cap : Nat} (hx : a.eval x = .slice (some ⟨g, off, none⟩) n cap) {kk : IntKind} {m : Int} (hy : a.eval y = .int kk m) {size : Nat} (hu : elemOf? P t = some (e, size)) {k : Nat} (hm : m = (k : Int)) (hk : k ≤ n) (hc : n ≤ cap) : Yl P w o a (.slice (loA g off k size cap) (n - k) (cap - k)) := by
  by_cases h : k < cap
  · have e1 : loA g off k size cap = some ⟨g, off + k * size, none⟩ := by unfold loA; rw [if_neg (by omega)]
    rw [e1]
    exact yl_sliceLo ho hx hy hu hm hk h
  · have e1 : loA g off k size cap = some ⟨g, off, none⟩ := by unfold loA; rw [if_pos (by omega)]
    rw [e1]
    unfold elemOf? at hu
    split at hu
    · rename_i e' hu'
      split at hu
      · rename_i inf hq
        subst hm
        obtain rfl : cap = k := by omega
        obtain rfl : n = cap := by omega
        unfold Yl execOp
        simp only [ho, hx, hy, Option.map_some, Option.map_none, Instr.sliceAt, Instr.slice, Sem.run_bind, run_underlying hu' w, Result.andThen_ok]
        simp [Instr.slice, Instr.sliceBounds, Instr.sliceBound, asIntOf, go_sem, run_underlying hu' w, sizeOf, typeInfo, hq]
      · cases hu
    · cases hu
theorem rd_loA {α : Type} {enc : α → List Value} {size g off n k cap : Nat} {xs : List α} (h : Rd enc size w (some ⟨g, off, none⟩) n xs) (hk : k ≤ n) (hc : n ≤ cap) : Rd enc size w (loA g off k size cap) (n - k) (xs.drop k) := by
  have hl := h.len
  by_cases e : k < cap
  · rw [show loA g off k size cap = some ⟨g, off + k * size, none⟩ by unfold loA; rw [if_neg (by omega)]]
    exact h.dropP hk
  · rw [List.drop_eq_nil_of_le (by omega), show n - k = 0 by omega]
    exact rd_of_nil _ _ _ _
end

theorem l8All_any (a0 : Option Addr) (c0 : Nat) (a1 : Option Addr) (c1 : Nat) (a2 : Option Addr) (c2 : Nat) (a4 : Option Addr) (c4 : Nat) (a6 : Option Addr) (c6 : Nat) (st : StoreD) (t : TreeD) (w0 : World) (hR : Rd encS 1 w0 a0 st.fRows.length st.fRows) (hrow : RowsOk st) (hwf : Wf st (depthN t.fMany) t.fRoot) : Calls Tryz.prog 86 #[sV a0 c0 a1 c1 a2 c2 a4 c4 a6 c6 st, tV t] w0 fun e w' => ∃ ao cp, e = .returned (.slice ao (allL st (depthN t.fMany) t.fRoot).length cp) ∧ St w0 [rowA PtrD.cells 5 43 (.slice ao (allL st (depthN t.fMany) t.fRoot).length cp) (allL st (depthN t.fMany) t.fRoot)] w' := by
 have HR := Bx.mk hR; clear hR
 have HS := Bx.mk (St.start w0)
 refine wc_enter Tryz.func86 rfl Tryz.ntmps86 [(0, sV a0 c0 a1 c1 a2 c2 a4 c4 a6 c6 st), (1, tV t)] ⟨rfl, rfl, trivial⟩ rfl ?_; intro a HF
 refine wp_sr ?_
 refine wl_box rfl HF rfl (HF.ev rfl) (Z := [.slice a0 st.fRows.length c0, .slice a1 st.fSpace.fRefs.length c1, .slice a2 st.fSpace.fLast.length c2, .int .i64 st.fTxg, .slice a4 st.fGone.length c4, .int .i64 st.fKeep, .slice a6 st.fDead.length c6, .bool st.fSame]) rfl rfl rfl rfl HS.out ?_; clear HF HS a; intro a w1 b1 HF HS; replace HS := Bx.mk HS
 refine wl_box rfl HF rfl (HF.ev rfl) (Z := [.int .i64 t.fRoot.fAt, .int .i64 t.fRoot.fBirth, .int .i64 t.fRoot.fSize, .int .i64 t.fRoot.fSum, .int .i64 t.fRoot.fLevel, .int .i64 t.fDepth, .int .i64 t.fMany]) rfl rfl rfl rfl HS.out ?_; clear HF HS a; intro a w2 b2 HF HS; replace HS := Bx.mk HS
 refine za HF ?_;clear HF a;intro a HF
 refine wl_ne ?_
 refine wp_sr ?_
 refine wl_empty (e := 43) (size := 5) rfl HF rfl rfl rfl (by kernel_rfl) HS.out ?_; clear HF HS a; intro a w3 b3 HF HS; replace HS := Bx.mk HS
 refine za HF ?_;clear HF a;intro a HF
 refine wl_ne ?_
 refine wp_sr ?_
 refine zy HF (yfa 0 rfl (HF.ev rfl)) ?_;clear HF a;intro a HF
 refine zy HF (ylr (cs := [.int .i64 t.fRoot.fAt, .int .i64 t.fRoot.fBirth, .int .i64 t.fRoot.fSize, .int .i64 t.fRoot.fSum, .int .i64 t.fRoot.fLevel]) rfl (HF.ev rfl) ((HS.out.box 0 rfl).sub 0 5)) ?_;clear HF a;intro a HF
 refine wl_buildS (enc := PtrD.cells) (e := 43) (size := 5) rfl HF rfl rfl rfl (ps := [(0, pV t.fRoot)]) rfl (cells := [.int .i64 t.fRoot.fAt, .int .i64 t.fRoot.fBirth, .int .i64 t.fRoot.fSize, .int .i64 t.fRoot.fSum, .int .i64 t.fRoot.fLevel]) (by kernel_rfl) [t.fRoot] rfl rfl (by unfold maxLen; omega) rfl HS.out ?_; clear HF HS a; intro b4 a w4 HF HS; replace HS := Bx.mk HS
 refine za HF ?_;clear HF a;intro a HF
 refine wl_ne ?_
 refine wp_seq ?_
 refine wp_block ?_
 replace HS := Bx.mk (HS.out.nilRow PtrD.cells 5 43 (some ⟨b3, 0, none⟩))
 replace HS:=Bx.mk ((HS.out.pick 1 rfl).pick 1 rfl)
 refine wc_loop (ι := Nat) (fun n a w => ∃ (ao : Option Addr) (cp : Nat) (os : List PtrD) (at_ : Option Addr) (ct : Nat) (ts : List PtrD), (AllTo st (allL st (depthN t.fMany) t.fRoot) os ts ∧ mz ts = n) ∧ Fr 47 a [(0, sV a0 c0 a1 c1 a2 c2 a4 c4 a6 c6 st), (1, tV t), (2, .pointer (some ⟨b1, 0, none⟩)), (3, .pointer (some ⟨b2, 0, none⟩)), (4, .slice none 0 0), (5, .slice ao os.length cp), (6, .slice at_ ts.length ct)] ∧ St w0 ([rowA PtrD.cells 5 43 (.slice ao os.length cp) os, rowA PtrD.cells 5 43 (.slice at_ ts.length ct) ts, boxA b2 7 45 (tV t), boxA b1 8 41 (sV a0 c0 a1 c1 a2 c2 a4 c4 a6 c6 st)]) w) (fun n => n) (mz [t.fRoot]) ⟨_, _, [], _, _, [t.fRoot], ⟨AllTo.start (depthN_le _) hwf, rfl⟩, HF.less _ ⟨rfl, rfl, rfl, rfl, rfl, rfl, rfl, trivial⟩, HS.out⟩ ?_
 clear HF HS; clear a
 rintro n a w5 ⟨ao, cp, os, at_, ct, ts, ⟨hall, hmz⟩, HF, HS⟩
 replace HS := Bx.mk HS
 have hroom := hall.room; have htl := mz_len ts
 refine wp_seq ?_
 refine wp_sr ?_
 refine zm HF ?_;clear HF a;intro a HF
 refine zy HF (yl_lenL (e := 43) (size := 5) rfl (HF.ev rfl) (by kernel_rfl)) ?_;clear HF a;intro a HF
 refine zy HF (yl_gtrI rfl (HF.ev rfl) (HF.ev rfl)) ?_;clear HF a;intro a HF
 refine wl_ne ?_
 refine HF.cases 16 rfl (fun cc1 _ => ?_) fun cc1 _ => ?_
 ·clear HF;rename_i HF
  have dcc1 := of_decide_eq_true cc1
  refine wc_true HF rfl ?_
  refine wp_skip ?_
  refine ex_then ?_
  refine wp_block ?_
  refine wp_seq ?_
  obtain ⟨p, r, rfl⟩ : ∃ p r, ts = p :: r := by cases ts with | nil => exact absurd (by assumption : (0 : Int) < ((([] : List PtrD).length : Nat) : Int)) (by simp) | cons p r => exact ⟨p, r, rfl⟩
  have hrl : (p :: r).length = r.length + 1 := rfl
  obtain ⟨g5, rfl, _, _, _, _⟩ := HS.out.rowOpen 1 rfl (by omega)
  have hcap := HS.out.capLe 1 rfl
  refine wp_region_lit ?_
  refine zm HF ?_;clear HF a;intro a HF
  refine zy HF (yl_indexAddr (e := 43) (i := 0) (size := 5) rfl (HF.ev rfl) (HF.ev rfl) (by kernel_rfl) rfl (by omega)) ?_;clear HF a;intro a HF
  refine zy HF (ylr (cs := [.int .i64 p.fAt, .int .i64 p.fBirth, .int .i64 p.fSize, .int .i64 p.fSum, .int .i64 p.fLevel]) rfl (HF.ev rfl) (HS.out.elem PtrD.cells_len 1 rfl (show (p :: r)[0]? = some _ from rfl))) ?_;clear HF a;intro a HF
  refine wl_alloc rfl HF rfl rfl rfl (Z := [.int .i64 0, .int .i64 0, .int .i64 0, .int .i64 0, .int .i64 0]) (by kernel_rfl) rfl HS.out ?_; clear HF HS a; intro a w6 b6 HF HS; replace HS := Bx.mk HS
  refine wl_storeBox rfl HF rfl rfl (HF.ev rfl) (HF.ev rfl) HS.out 0 rfl (cells_lit [.int .i64 p.fAt, .int .i64 p.fBirth, .int .i64 p.fSize, .int .i64 p.fSum, .int .i64 p.fLevel] rfl rfl) (by kernel_rfl) ?_; clear HS; intro w7 HS; replace HS := Bx.mk HS
  try dsimp only [List.set] at HS
  refine wl_ne ?_
  refine wp_sr ?_
  refine wl_empty (e := 43) (size := 5) rfl HF rfl rfl rfl (by kernel_rfl) HS.out ?_; clear HF HS a; intro a w8 b7 HF HS; replace HS := Bx.mk HS
  refine zm HF ?_;clear HF a;intro a HF
  refine zy HF (yl_sliceLoA (e := 43) (size := 5) (k := 1) rfl (HF.ev rfl) (HF.ev rfl) (by kernel_rfl) rfl (by omega) hcap) ?_;clear HF a;intro a HF
  replace HS := Bx.mk (HS.out.nilRow PtrD.cells 5 43 (some ⟨b7, 0, none⟩))
  refine wl_appL rfl HF rfl rfl rfl (HF.ev rfl) (HF.ev rfl) elemQ PtrD.cells_len HS.out 0 (xs := []) rfl (ys := r) (rd_loA (k := 1) (St.rdOf HS.out PtrD.cells_len 3 rfl) (by omega) hcap) (cells_one_Q _) (by unfold maxLen; (try simp only [List.length_append, List.length_cons, List.length_nil, List.nil_append, List.length_map]); omega) (by (try simp only [List.length_append, List.length_cons, List.length_nil, List.nil_append, List.length_map]); omega) ?_; clear HF HS a; intro ao9 cp10 w9 a HF HS; replace HS := Bx.mk HS
  try dsimp only [List.eraseIdx] at HS
  refine za HF ?_;clear HF a;intro a HF
  refine wl_ne ?_
  refine wp_seq ?_
  refine wp_sr ?_
  refine zy HF (ylr (cs := [.int .i64 p.fAt, .int .i64 p.fBirth, .int .i64 p.fSize, .int .i64 p.fSum, .int .i64 p.fLevel]) rfl (HF.ev rfl) ((HS.out.box 1 rfl).sub 0 5)) ?_;clear HF a;intro a HF
  refine wl_callB rfl HF rfl (enter_of Tryz.func43 (by kernel_rfl) rfl) (args := #[pV p]) rfl (v := .bool p.hole) (specHole_any p _) rfl rfl HS.out ?_; clear HF HS a; intro w10 a HS HF; replace HS := Bx.mk HS
  refine wl_ne ?_
  refine HF.cases 25 rfl (fun cc2 _ => ?_) fun cc2 _ => ?_
  ·clear HF;rename_i HF
   have hph := cc2
   refine wc_true HF rfl ?_
   refine wp_exit ?_
   refine ex_then_exit ?_
   refine ex_block_hit ?_
   refine ex_then ?_
   have hz11 : ([] : List PtrD).length + r.length = (([]) ++ r).length := by simp only [List.length_append, List.length_nil, List.length_cons]
   rw [hz11] at HS HF
   obtain ⟨hnew, hlt⟩ := hall.hole hph
   replace HS:=Bx.mk ((((HS.out.pick 5 rfl).pick 5 rfl).pick 2 rfl).pick 4 rfl)
   exact ⟨_, ⟨_, _, _, _, _, _, ⟨hnew, rfl⟩, HF.less _ ⟨rfl, rfl, rfl, rfl, rfl, rfl, rfl, trivial⟩, ((HS.out.erase 5).erase 4)⟩, (by omega)⟩
  ·clear HF;rename_i HF
   have hph := cc2
   refine wc_false HF rfl ?_
   refine wp_skip ?_
   refine ex_then ?_
   refine wp_sr ?_
   refine zm HF ?_;clear HF a;intro a HF
   refine zy HF (ylr (cs := [.int .i64 p.fAt, .int .i64 p.fBirth, .int .i64 p.fSize, .int .i64 p.fSum, .int .i64 p.fLevel]) rfl (HF.ev rfl) ((HS.out.box 1 rfl).sub 0 5)) ?_;clear HF a;intro a HF
   refine wl_buildS (enc := PtrD.cells) (e := 43) (size := 5) rfl HF rfl rfl rfl (ps := [(0, pV p)]) rfl (cells := [.int .i64 p.fAt, .int .i64 p.fBirth, .int .i64 p.fSize, .int .i64 p.fSum, .int .i64 p.fLevel]) (by kernel_rfl) [p] rfl rfl (by unfold maxLen; omega) rfl HS.out ?_; clear HF HS a; intro b12 a w11 HF HS; replace HS := Bx.mk HS
   refine wl_appL rfl HF rfl rfl rfl (HF.ev rfl) (HF.ev rfl) elemQ PtrD.cells_len HS.out 3 (xs := os) rfl (ys := [p]) (St.rdN HS.out PtrD.cells_len 0 rfl) (cells_one_Q _) (by unfold maxLen; (try simp only [List.length_append, List.length_cons, List.length_nil, List.nil_append, List.length_map]); omega) (by (try simp only [List.length_append, List.length_cons, List.length_nil, List.nil_append, List.length_map]); omega) ?_; clear HF HS a; intro ao13 cp14 w12 a HF HS; replace HS := Bx.mk HS
   try dsimp only [List.eraseIdx] at HS
   refine za HF ?_;clear HF a;intro a HF
   refine wl_ne ?_
   refine wp_sr ?_
   refine zy HF (yfa 4 rfl (HF.ev rfl)) ?_;clear HF a;intro a HF
   refine zy HF (ylo (v := .int .i64 p.fLevel) rfl (HF.ev rfl) (((HS.out.box 2 rfl).cell 4).trans rfl)) ?_;clear HF a;intro a HF
   refine zy HF (yl_gtrI rfl (HF.ev rfl) (HF.ev rfl)) ?_;clear HF a;intro a HF
   refine wl_ne ?_
   refine HF.cases 32 rfl (fun cc3 _ => ?_) fun cc3 _ => ?_
   ·clear HF;rename_i HF
    have dcc3 := of_decide_eq_true cc3
    refine wc_true HF rfl ?_
    refine wp_sr ?_
    refine zy HF (ylr (cs := [.slice a0 st.fRows.length c0, .slice a1 st.fSpace.fRefs.length c1, .slice a2 st.fSpace.fLast.length c2, .int .i64 st.fTxg, .slice a4 st.fGone.length c4, .int .i64 st.fKeep, .slice a6 st.fDead.length c6, .bool st.fSame]) rfl (HF.ev rfl) ((HS.out.box 6 rfl).sub 0 8)) ?_;clear HF a;intro a HF
    refine zy HF (ylr (cs := [.int .i64 p.fAt, .int .i64 p.fBirth, .int .i64 p.fSize, .int .i64 p.fSum, .int .i64 p.fLevel]) rfl (HF.ev rfl) ((HS.out.box 2 rfl).sub 0 5)) ?_;clear HF a;intro a HF
    refine zy HF (yfa 4 rfl (HF.ev rfl)) ?_;clear HF a;intro a HF
    refine zy HF (ylo (v := .int .i64 p.fLevel) rfl (HF.ev rfl) (((HS.out.box 2 rfl).cell 4).trans rfl)) ?_;clear HF a;intro a HF
    refine wl_call rfl HF rfl (enter_of Tryz.func106 (by kernel_rfl) rfl) (args := #[sV a0 c0 a1 c1 a2 c2 a4 c4 a6 c6 st, pV p, .int .i64 p.fLevel]) rfl (l8Below_any a0 c0 a1 c1 a2 c2 a4 c4 a6 c6 st p p.fLevel _ (HR.out.below HS.out.bel) hrow) rfl rfl ?_
    rintro _ w13 (⟨l15, hk15, ao15, cp15, rfl, hs1⟩ | ⟨hk15, ao15, nn15, cp15, rfl, hb⟩)
    ·skip
     have hll15 := kidsS_len hk15
     refine ⟨_, rfl, ?_⟩; replace HS := Bx.mk (HS.out.add hs1);clear hs1 HF a;intro a HF
     try dsimp only [List.eraseIdx] at HS
     refine zr 5 HF rfl ?_;clear HF a;intro a HF
     refine wl_ne ?_
     refine wp_region_lit ?_
     refine wl_empty (e := 43) (size := 5) rfl HF rfl rfl rfl (by kernel_rfl) HS.out ?_; clear HF HS a; intro a w14 b16 HF HS; replace HS := Bx.mk HS
     refine zm HF ?_;clear HF a;intro a HF
     replace HS := Bx.mk (HS.out.nilRow PtrD.cells 5 43 (some ⟨b16, 0, none⟩))
     refine wl_appL rfl HF rfl rfl rfl (HF.ev rfl) (HF.ev rfl) elemQ PtrD.cells_len HS.out 0 (xs := []) rfl (ys := l15) (St.rdOf HS.out PtrD.cells_len 1 rfl) (cells_one_Q _) (by unfold maxLen; (try simp only [List.length_append, List.length_cons, List.length_nil, List.nil_append, List.length_map]); omega) (by (try simp only [List.length_append, List.length_cons, List.length_nil, List.nil_append, List.length_map]); omega) ?_; clear HF HS a; intro ao18 cp19 w15 a HF HS; replace HS := Bx.mk HS
     try dsimp only [List.eraseIdx] at HS
     refine zm HF ?_;clear HF a;intro a HF
     refine wl_appL rfl HF rfl rfl rfl (HF.ev rfl) (HF.ev rfl) elemQ PtrD.cells_len HS.out 0 (xs := ([]) ++ l15) rfl (ys := ([]) ++ r) (St.rdN HS.out PtrD.cells_len 3 rfl) (cells_one_Q _) (by unfold maxLen; (try simp only [List.length_append, List.length_cons, List.length_nil, List.nil_append, List.length_map]); omega) (by (try simp only [List.length_append, List.length_cons, List.length_nil, List.nil_append, List.length_map]); omega) ?_; clear HF HS a; intro ao20 cp21 w16 a HF HS; replace HS := Bx.mk HS
     try dsimp only [List.eraseIdx] at HS
     refine za HF ?_;clear HF a;intro a HF
     refine wpList_nil ?_
     refine ex_block ?_
     refine ex_then ?_
     have hz22 : os.length + ([p]).length = (os ++ ([p])).length := by simp only [List.length_append, List.length_nil, List.length_cons]
     rw [hz22] at HS HF
     have hz23 : (([] : List PtrD) ++ l15).length + (([] : List PtrD) ++ r).length = ((([]) ++ l15) ++ (([]) ++ r)).length := by simp only [List.length_append, List.length_nil, List.length_cons]
     rw [hz23] at HS HF
     obtain ⟨hnew, hlt⟩ := hall.kids hph (by omega) hk15
     replace HS:=Bx.mk ((((HS.out.pick 8 rfl).pick 8 rfl).pick 2 rfl).pick 7 rfl)
     exact ⟨_, ⟨_, _, _, _, _, _, ⟨hnew, rfl⟩, HF.less _ ⟨rfl, rfl, rfl, rfl, rfl, rfl, rfl, trivial⟩, (((((HS.out.erase 8).erase 7).erase 6).erase 5).erase 4)⟩, (by omega)⟩
    ·skip
     obtain ⟨_, _, _, _, hks, _⟩ := hall.below hph (by omega); rw [hks] at hk15; cases hk15
   ·clear HF;rename_i HF
    have dcc3 := of_decide_eq_false cc3
    refine wc_false HF rfl ?_
    refine wp_skip ?_
    refine ex_block ?_
    refine ex_then ?_
    have hz24 : os.length + ([p]).length = (os ++ ([p])).length := by simp only [List.length_append, List.length_nil, List.length_cons]
    rw [hz24] at HS HF
    have hz25 : ([] : List PtrD).length + r.length = (([]) ++ r).length := by simp only [List.length_append, List.length_nil, List.length_cons]
    rw [hz25] at HS HF
    obtain ⟨hnew, hlt⟩ := hall.leaf hph (by omega)
    replace HS:=Bx.mk ((((HS.out.pick 6 rfl).pick 6 rfl).pick 3 rfl).pick 5 rfl)
    exact ⟨_, ⟨_, _, _, _, _, _, ⟨hnew, rfl⟩, HF.less _ ⟨rfl, rfl, rfl, rfl, rfl, rfl, rfl, trivial⟩, (((HS.out.erase 6).erase 5).erase 4)⟩, (by omega)⟩
 ·clear HF;rename_i HF
  have dcc1 := of_decide_eq_false cc1
  refine wc_false HF rfl ?_
  refine wp_exit ?_
  refine ex_then_exit ?_
  refine ex_then_exit ?_
  refine ex_block_hit ?_
  refine ex_then ?_
  refine wp_sr ?_
  refine zr 2 HF rfl ?_;clear HF a;intro a HF
  refine wl_ne ?_
  refine wp_ret ?_
  refine bp_ret1 HF Tryz.results86 (HF.res rfl) ?_
  obtain rfl : ts = [] := by cases ts with | nil => rfl | cons p r => exact absurd (by assumption : ¬ (0 : Int) < (((p :: r).length : Nat) : Int)) (by simp)
  have hA := hall.done; subst hA
  exact ⟨_, _, rfl, (((HS.out.erase 3).erase 2).erase 1)⟩

end Go.Proofs.YtgaodbdadncfhaaGreatDoor

/- All pointers of a table, by the program: walked. -/
namespace Go.Proofs.YtgaodbdadncfhaaGreatDoor
set_option linter.unusedVariables false
set_option linter.unusedSimpArgs false
set_option maxHeartbeats 1000000
set_option maxRecDepth 100000
open Go.RowKit

section
variable {P : Program} {w : World} {o : Oper} {a : Act} {t t' e : TypeId} {x y : Operand}
theorem yl_neqP (ho : o.op = .binOp .neq t x y t') {p : Option Addr} (hx : a.eval x = .pointer p) (hy : a.eval y = .pointer none) (hu : P.underlying t = some (.pointer e)) : Yl P w o a (.bool p.isSome) := by
  have h : (Op.equal t (.pointer p) (.pointer none)).run P w = .ok (!p.isSome) w := by
    unfold Op.equal Op.maxDepth
    rw [Op.equalIn]
    cases p <;> simp only [Sem.run_bind, run_underlying hu w, Result.andThen_ok, Sem.run_pure] <;> rfl
  unfold Yl execOp
  simp only [ho, hx, hy]
  simp [eqGuard, binOp, h]
end

theorem clip_any (ao : Option Addr) (cp : Nat) (xs : List PtrD) (F : List Asr) (w0 w : World) (hS : St w0 (rowA PtrD.cells 5 43 (.slice ao xs.length cp) xs :: F) w) : Calls Tryz.prog 91 #[.slice ao xs.length cp] w fun e w' => e = .returned (.slice ao xs.length xs.length) ∧ St w0 (rowA PtrD.cells 5 43 (.slice ao xs.length cp) xs :: F) w' := by
 have HS := Bx.mk hS; clear hS
 refine wc_enter Tryz.func91 rfl Tryz.ntmps91 [(0, .slice ao xs.length cp)] ⟨rfl, trivial⟩ rfl ?_; intro a HF
 refine wp_sr ?_
 refine za HF ?_;clear HF a;intro a HF
 refine wl_ne ?_
 refine wp_sr ?_
 refine zr 2 HF rfl ?_;clear HF a;intro a HF
 refine zy HF (yl_lenL (e := 43) (size := 5) rfl (HF.ev rfl) (by kernel_rfl)) ?_;clear HF a;intro a HF
 refine zm HF ?_;clear HF a;intro a HF
 refine zy HF (yl_lenL (e := 43) (size := 5) rfl (HF.ev rfl) (by kernel_rfl)) ?_;clear HF a;intro a HF
 refine zy HF (yl_sliceH3 (e := 43) (size := 5) (k := xs.length) rfl (HF.ev rfl) (HF.ev rfl) (HF.ev rfl) (by kernel_rfl) (by omega) (by omega) (Nat.le_trans (by omega) (St.capLe HS.out 0 rfl))) ?_;clear HF a;intro a HF
 refine za HF ?_;clear HF a;intro a HF
 refine wl_ne ?_
 refine wp_ret ?_
 refine bp_ret1 HF Tryz.results91 (HF.res rfl) ?_
 exact ⟨rfl, HS.out⟩

theorem allT_21 {st : StoreD} {t : TreeD} (h : Wf st (depthN t.fMany) t.fRoot) : (allT st t).length ≤ 21 := by
  have h1 := allL_len h
  have h2 := depthN_le t.fMany
  unfold allT
  rcases (by omega : depthN t.fMany = 0 ∨ depthN t.fMany = 1 ∨ depthN t.fMany = 2) with e | e | e <;> rw [e] at h1 ⊢ <;> exact Nat.le_trans h1 (by decide)
theorem treeOk_wf {st : StoreD} {t : TreeD} (h : treeOk st t = true) (h0 : 0 ≤ st.fTxg) : t.fDepth = (depthN t.fMany : Int) ∧ Wf st (depthN t.fMany) t.fRoot := by
  obtain ⟨l, hl⟩ := Option.isSome_iff_exists.1 h
  exact tree_wf hl h0
theorem tab_node {st : StoreD} {t : TreeD} {ns : List (Option NodeD)} (h : tabF st t = some ns) {k : Nat} {n : NodeD} (hn : ns.getD k none = some n) : n.ok = true ∧ treeOk st n.fTree = true := by
  obtain ⟨l, _, ht, hlen⟩ := tabF_is h
  have hk : k < ns.length := by
    by_cases hk : k < ns.length
    · exact hk
    · rw [List.getD_eq_getElem?_getD, List.getElem?_eq_none (by omega)] at hn; cases hn
  rcases tabL_at ht k (by omega) with ⟨_, h2⟩ | ⟨_, m, h2, h3, h4⟩
  · rw [hn] at h2; cases h2
  · rw [hn] at h2
    obtain rfl := Option.some.inj h2
    exact ⟨(nodeG_is h3).1, h4⟩
theorem allN_len {st : StoreD} {t : TreeD} {ns : List (Option NodeD)} (h : tabF st t = some ns) (h0 : 0 ≤ st.fTxg) : ∀ k, k ≤ ns.length → (allN st (ns.take k)).length ≤ k * 21
  | 0, _ => by unfold allN; simp
  | k + 1, hk => by
    have ih := allN_len h h0 k (by omega)
    rw [allN_take (by omega), List.length_append, Nat.succ_mul]
    cases hn : ns.getD k none with
    | none => simp only [List.length_nil]; omega
    | some n =>
      have := allT_21 (treeOk_wf (tab_node h hn).2 h0).2
      simp only
      omega
theorem tab_16 {st : StoreD} {t : TreeD} {ns : List (Option NodeD)} (h : tabF st t = some ns) : ns.length ≤ 16 := by
  obtain ⟨l, hl, _, hlen⟩ := tabF_is h
  have := leaves_16 hl
  omega
theorem tab_wf {st : StoreD} {t : TreeD} {ns : List (Option NodeD)} (h : tabF st t = some ns) (h0 : 0 ≤ st.fTxg) : t.fDepth = (depthN t.fMany : Int) ∧ Wf st (depthN t.fMany) t.fRoot := by
  obtain ⟨l, hl, _⟩ := tabF_is h
  exact tree_wf hl h0

theorem tableAll_any (a0 : Option Addr) (c0 : Nat) (a1 : Option Addr) (c1 : Nat) (a2 : Option Addr) (c2 : Nat) (a4 : Option Addr) (c4 : Nat) (a6 : Option Addr) (c6 : Nat) (st : StoreD) (t : TreeD) (b : Nat) {ns : List (Option NodeD)} (htb : tabF st t = some ns) (w0 w : World) (hT : TabP w0) (hM : MaxP w0) (hE : ErrP w0) (hV0 : StoreD.Reads w0 (sV a0 c0 a1 c1 a2 c2 a4 c4 a6 c6 st) st) (hf : st.Fit) (hsok : st.ok = true) (F : List Asr) (hS : St w0 (boxA b 8 41 (sV a0 c0 a1 c1 a2 c2 a4 c4 a6 c6 st) :: F) w) : Calls Tryz.prog 53 #[.pointer (some ⟨b, 0, none⟩), tV t] w fun e w' => ∃ ao cp cz, e = .returned (.slice ao (allTab st t ns).length cz) ∧ St w0 (rowA PtrD.cells 5 43 (.slice ao (allTab st t ns).length cp) (allTab st t ns) :: boxA b 8 41 (sV a0 c0 a1 c1 a2 c2 a4 c4 a6 c6 st) :: F) w' := by
 have HT := Bx.mk hT; have HM := Bx.mk hM; have HE := Bx.mk hE; have hV := Bx.mk hV0; clear hT hM hE hV0
 have HS := Bx.mk hS; clear hS
 have h0 : 0 ≤ st.fTxg := by have := (StoreD.ok_spec hsok).txg; omega
 have hwf := tab_wf htb h0; have h16 := tab_16 htb
 refine wc_enter Tryz.func53 rfl Tryz.ntmps53 [(0, .pointer (some ⟨b, 0, none⟩)), (1, tV t)] ⟨rfl, rfl, trivial⟩ rfl ?_; intro a HF
 refine wp_sr ?_
 refine wl_box rfl HF rfl (HF.ev rfl) (Z := [.int .i64 t.fRoot.fAt, .int .i64 t.fRoot.fBirth, .int .i64 t.fRoot.fSize, .int .i64 t.fRoot.fSum, .int .i64 t.fRoot.fLevel, .int .i64 t.fDepth, .int .i64 t.fMany]) rfl rfl rfl rfl HS.out ?_; clear HF HS a; intro a w1 b1 HF HS; replace HS := Bx.mk HS
 refine za HF ?_;clear HF a;intro a HF
 refine wl_ne ?_
 refine wp_sr ?_
 refine zm HF ?_;clear HF a;intro a HF
 refine zy HF (ylr (cs := [.int .i64 t.fRoot.fAt, .int .i64 t.fRoot.fBirth, .int .i64 t.fRoot.fSize, .int .i64 t.fRoot.fSum, .int .i64 t.fRoot.fLevel, .int .i64 t.fDepth, .int .i64 t.fMany]) rfl (HF.ev rfl) ((HS.out.box 0 rfl).sub 0 7)) ?_;clear HF a;intro a HF
 replace HS:=Bx.mk (HS.out.pick 1 rfl)
 refine wl_call rfl HF rfl (enter_of Tryz.func89 (by kernel_rfl) rfl) (args := #[.pointer (some ⟨b, 0, none⟩), tV t]) rfl (all_any a0 c0 a1 c1 a2 c2 a4 c4 a6 c6 st t b w0 _ HT.out HM.out HE.out hV.out hf hsok hwf _ HS.out) rfl rfl ?_
 rintro _ w2 ⟨aoB2, cpB2, rfl, hs1⟩
 refine ⟨_, rfl, ?_⟩; replace HS := Bx.mk hs1;clear hs1 HF a;intro a HF
 try dsimp only [List.eraseIdx] at HS
 refine za HF ?_;clear HF a;intro a HF
 refine wl_ne ?_
 refine wp_sr ?_
 refine zm HF ?_;clear HF a;intro a HF
 refine zy HF (ylr (cs := [.int .i64 t.fRoot.fAt, .int .i64 t.fRoot.fBirth, .int .i64 t.fRoot.fSize, .int .i64 t.fRoot.fSum, .int .i64 t.fRoot.fLevel, .int .i64 t.fDepth, .int .i64 t.fMany]) rfl (HF.ev rfl) ((HS.out.box 2 rfl).sub 0 7)) ?_;clear HF a;intro a HF
 refine wl_call rfl HF rfl (enter_of Tryz.func90 (by kernel_rfl) rfl) (args := #[.pointer (some ⟨b, 0, none⟩), tV t]) rfl (nodes_any a0 c0 a1 c1 a2 c2 a4 c4 a6 c6 st t b _ (HT.out.below HS.out.bel) (HM.out.below HS.out.bel) (HE.out.below HS.out.bel) (HS.out.box 1 rfl) ((reads_rows hV.out).below HS.out.bel) (ok_rows hsok)) rfl rfl ?_
 rintro _ w3 (⟨ns2, htb2, ao, rfl, hs1⟩ | ⟨htb2, rfl, hb⟩)
 ·skip
  obtain rfl : ns = ns2 := Option.some.inj (htb.symm.trans htb2)
  refine ⟨_, rfl, ?_⟩; replace HS := Bx.mk (HS.out.add hs1);clear hs1 HF a;intro a HF
  try dsimp only [List.eraseIdx] at HS
  refine zr 5 HF rfl ?_;clear HF a;intro a HF
  refine wl_ne ?_
  refine wp_seq ?_
  refine wp_seq ?_
  replace HS:=Bx.mk (HS.out.pick 1 rfl)
  refine wp_region_lit ?_
  refine zm HF ?_;clear HF a;intro a HF
  refine zy HF (yl_lenL (e := 119) (size := 1) rfl (HF.ev rfl) (by kernel_rfl)) ?_;clear HF a;intro a HF
  refine zm HF ?_;clear HF a;intro a HF
  refine wl_ne ?_
  refine wp_block ?_
  have hx0 : allT st t = allT st t ++ allN st (ns.take 0) := by rw [List.take_zero]; exact (List.append_nil _).symm
  refine wc_loop (ι := Nat) (fun k a w => ∃ (aoX : Option Addr) (cpX : Nat) (xs : List PtrD), (k ≤ ns.length ∧ xs = allT st t ++ allN st (ns.take k)) ∧ Fr 38 a [(0, .pointer (some ⟨b, 0, none⟩)), (19, .slice ao ns.length ns.length), (20, .int .i64 (ns.length : Int)), (5, .slice aoX xs.length cpX), (21, .int .i64 (k : Int))] ∧ St w0 (rowA PtrD.cells 5 43 (.slice aoX xs.length cpX) xs :: holdsA (NodesP ao ns) :: boxA b 8 41 (sV a0 c0 a1 c1 a2 c2 a4 c4 a6 c6 st) :: boxA b1 7 45 (tV t) :: F) w) (fun k => ns.length - k) 0 ⟨_, _, allT st t, ⟨Nat.zero_le _, hx0⟩, HF.less _ ⟨rfl, rfl, rfl, rfl, rfl, trivial⟩, HS.out⟩ ?_
  clear HF HS; clear a
  rintro k a w4 ⟨aoX, cpX, xs, ⟨hk, hxs⟩, HF, HS⟩
  replace HS := Bx.mk HS
  have hxl : xs.length = (allT st t).length + (allN st (ns.take k)).length := by rw [hxs, List.length_append]
  have hx1 := allT_21 hwf.2; have hx2 := allN_len htb h0 k hk
  refine wp_sr ?_
  refine zy HF (yl_lssI rfl (HF.ev rfl) (HF.ev rfl)) ?_;clear HF a;intro a HF
  refine wl_ne ?_
  refine wp_seq ?_
  refine HF.cases 22 rfl (fun cc1 _ => ?_) fun cc1 _ => ?_
  ·clear HF;rename_i HF
   have dcc1 := of_decide_eq_true cc1
   refine wc_true HF rfl ?_
   refine wp_skip ?_
   refine ex_then ?_
   refine wp_seq ?_
   refine wp_block ?_
   refine wp_seq ?_
   obtain ⟨g5, o5, as5, r5, hal, hlk⟩ := (HS.out.holds 1 rfl).look; have RN := Bx.mk r5; clear r5
   refine wp_region_lit ?_
   refine zy HF (yl_indexAddrR (e := 119) (i := k) (size := 1) rfl (HF.ev rfl) (HF.ev rfl) (by kernel_rfl) rfl (by omega) (RN.out.ao k (by omega))) ?_;clear HF a;intro a HF
   rcases hlk k (by omega) with ⟨hn3, ha3⟩ | ⟨n3, bn3, hn3, ha3, hbn3⟩
   ·skip
    refine zy HF (ylo (v := .pointer none) rfl (HF.ev rfl) (RN.out.elem1 (St.start _) ha3 rfl)) ?_;clear HF a;intro a HF
    refine za HF ?_;clear HF a;intro a HF
    refine wl_ne ?_
    refine wp_sr ?_
    refine zm HF ?_;clear HF a;intro a HF
    refine zy HF (show Yl _ _ _ _ (.bool false) from yl_neqP (e := 47) (p := none) rfl (HF.ev rfl) (HF.ev rfl) (by kernel_rfl)) ?_;clear HF a;intro a HF
    refine wl_ne ?_
    refine wc_false HF rfl ?_
    refine wp_skip ?_
    refine ex_block ?_
    refine ex_then ?_
    refine wp_region_lit ?_
    refine zy HF (yl_addI rfl (HF.ev rfl) (HF.ev rfl) (i64w (by omega))) ?_;clear HF a;intro a HF
    refine zm HF ?_;clear HF a;intro a HF
    refine wl_ne ?_
    have hz : xs = allT st t ++ allN st (ns.take (k + 1)) := by rw [allN_take (by omega), hn3]; simp only [List.append_nil]; exact hxs
    exact ⟨(k + 1), ⟨_, _, xs, ⟨by omega, hz⟩, HF.less _ ⟨rfl, rfl, rfl, rfl, rfl, trivial⟩, HS.out⟩, (by omega)⟩
   ·skip
    have HBN3 := Bx.mk hbn3; clear hbn3
    refine zy HF (ylo (v := .pointer (some ⟨bn3, 0, none⟩)) rfl (HF.ev rfl) (RN.out.elem1 (St.start _) ha3 rfl)) ?_;clear HF a;intro a HF
    refine za HF ?_;clear HF a;intro a HF
    refine wl_ne ?_
    refine wp_sr ?_
    refine zm HF ?_;clear HF a;intro a HF
    refine zy HF (show Yl _ _ _ _ (.bool true) from yl_neqP (e := 47) (p := (some ⟨bn3, 0, none⟩)) rfl (HF.ev rfl) (HF.ev rfl) (by kernel_rfl)) ?_;clear HF a;intro a HF
    refine wl_ne ?_
    refine wc_true HF rfl ?_
    have htn := tab_node htb hn3; have hwfn := treeOk_wf htn.2 h0; have h21 := allT_21 hwfn.2
    refine wp_region_lit ?_
    refine zr 4 HF rfl ?_;clear HF a;intro a HF
    refine zy HF (yfa 3 rfl (HF.ev rfl)) ?_;clear HF a;intro a HF
    refine zy HF (ylr (cs := [.int .i64 n3.fTree.fRoot.fAt, .int .i64 n3.fTree.fRoot.fBirth, .int .i64 n3.fTree.fRoot.fSize, .int .i64 n3.fTree.fRoot.fSum, .int .i64 n3.fTree.fRoot.fLevel, .int .i64 n3.fTree.fDepth, .int .i64 n3.fTree.fMany]) rfl (HF.ev rfl) ((HBN3.out.below (St.start _).bel (Nat.le_refl _)).sub 3 7)) ?_;clear HF a;intro a HF
    replace HS:=Bx.mk (HS.out.pick 2 rfl)
    refine wl_call rfl HF rfl (enter_of Tryz.func89 (by kernel_rfl) rfl) (args := #[.pointer (some ⟨b, 0, none⟩), tV n3.fTree]) rfl (all_any a0 c0 a1 c1 a2 c2 a4 c4 a6 c6 st n3.fTree b w0 _ HT.out HM.out HE.out hV.out hf hsok hwfn _ HS.out) rfl rfl ?_
    rintro _ w5 ⟨aoB4, cpB4, rfl, hs1⟩
    refine ⟨_, rfl, ?_⟩; replace HS := Bx.mk hs1;clear hs1 HF a;intro a HF
    try dsimp only [List.eraseIdx] at HS
    refine wl_appL rfl HF rfl rfl rfl (HF.ev rfl) (HF.ev rfl) elemQ PtrD.cells_len HS.out 2 (xs := xs) rfl (ys := allT st n3.fTree) (St.rdOf HS.out PtrD.cells_len 0 rfl) (cells_one_Q _) (by unfold maxLen; omega) (by omega) ?_; clear HF HS a; intro ao5 cp6 w6 a HF HS; replace HS := Bx.mk HS
    try dsimp only [List.eraseIdx] at HS
    refine za HF ?_;clear HF a;intro a HF
    refine wpList_nil ?_
    refine ex_block ?_
    refine ex_then ?_
    refine wp_region_lit ?_
    refine zy HF (yl_addI rfl (HF.ev rfl) (HF.ev rfl) (i64w (by omega))) ?_;clear HF a;intro a HF
    refine zm HF ?_;clear HF a;intro a HF
    refine wl_ne ?_
    have hz0 : xs.length + (allT st n3.fTree).length = (xs ++ allT st n3.fTree).length := (List.length_append ..).symm
    rw [hz0] at HS HF
    have hz : xs ++ allT st n3.fTree = allT st t ++ allN st (ns.take (k + 1)) := by rw [allN_take (by omega), hn3, hxs, List.append_assoc]
    replace HS:=Bx.mk ((((HS.out.pick 4 rfl).pick 2 rfl).pick 4 rfl).pick 4 rfl)
    exact ⟨(k + 1), ⟨_, _, xs ++ allT st n3.fTree, ⟨by omega, hz⟩, HF.less _ ⟨rfl, rfl, rfl, rfl, rfl, trivial⟩, (HS.out.erase 4)⟩, (by omega)⟩
  ·clear HF;rename_i HF
   have dcc1 := of_decide_eq_false cc1
   refine wc_false HF rfl ?_
   refine wp_exit ?_
   refine ex_then_exit ?_
   refine ex_then_exit ?_
   refine ex_block_hit ?_
   refine ex_then ?_
   refine wp_sr ?_
   refine zm HF ?_;clear HF a;intro a HF
   replace HS:=Bx.mk (HS.out.pick 0 rfl)
   refine wl_call rfl HF rfl (enter_of Tryz.func91 (by kernel_rfl) rfl) (args := #[.slice aoX xs.length cpX]) rfl (clip_any _ _ (xs) _ _ _ HS.out) rfl rfl ?_
   rintro _ w7 ⟨rfl, hs1⟩
   refine ⟨_, rfl, ?_⟩; replace HS := Bx.mk hs1;clear hs1 HF a;intro a HF
   try dsimp only [List.eraseIdx] at HS
   refine za HF ?_;clear HF a;intro a HF
   refine wl_ne ?_
   refine wp_ret ?_
   refine bp_ret1 HF Tryz.results53 (HF.res rfl) ?_
   obtain rfl : k = ns.length := by omega
   rw [List.take_length] at hxs; have hx9 : xs = allTab st t ns := hxs; subst hx9
   replace HS:=Bx.mk ((HS.out.pick 2 rfl).pick 1 rfl)
   exact ⟨_, _, _, rfl, ((HS.out.erase 3).erase 2)⟩
 ·skip
  rw [htb] at htb2; cases htb2

theorem implTableAll_any (a0 : Option Addr) (c0 : Nat) (a1 : Option Addr) (c1 : Nat) (a2 : Option Addr) (c2 : Nat) (a4 : Option Addr) (c4 : Nat) (a6 : Option Addr) (c6 : Nat) (st : StoreD) (t : TreeD) (w0 : World) (hT : TabP w0) (hM : MaxP w0) (hE : ErrP w0) (hV0 : StoreD.Reads w0 (sV a0 c0 a1 c1 a2 c2 a4 c4 a6 c6 st) st) (hf : st.Fit) : Calls Tryz.prog 21 #[sV a0 c0 a1 c1 a2 c2 a4 c4 a6 c6 st, tV t] w0 fun e w' => ∃ ao cp cz, e = .returned (.tuple #[.slice ao (tabAllF st t).length cz, .bool (tabT st t).isSome]) ∧ St w0 [rowA PtrD.cells 5 43 (.slice ao (tabAllF st t).length cp) (tabAllF st t)] w' := by
 have HT := Bx.mk hT; have HM := Bx.mk hM; have HE := Bx.mk hE; have hV := Bx.mk hV0; clear hT hM hE hV0
 have HS := Bx.mk (St.start w0)
 refine wc_enter Tryz.func21 rfl Tryz.ntmps21 [(0, sV a0 c0 a1 c1 a2 c2 a4 c4 a6 c6 st), (1, tV t)] ⟨rfl, rfl, trivial⟩ rfl ?_; intro a HF
 refine wp_sr ?_
 refine wl_box rfl HF rfl (HF.ev rfl) (Z := [.slice a0 st.fRows.length c0, .slice a1 st.fSpace.fRefs.length c1, .slice a2 st.fSpace.fLast.length c2, .int .i64 st.fTxg, .slice a4 st.fGone.length c4, .int .i64 st.fKeep, .slice a6 st.fDead.length c6, .bool st.fSame]) rfl rfl rfl rfl HS.out ?_; clear HF HS a; intro a w1 b1 HF HS; replace HS := Bx.mk HS
 refine wl_box rfl HF rfl (HF.ev rfl) (Z := [.int .i64 t.fRoot.fAt, .int .i64 t.fRoot.fBirth, .int .i64 t.fRoot.fSize, .int .i64 t.fRoot.fSum, .int .i64 t.fRoot.fLevel, .int .i64 t.fDepth, .int .i64 t.fMany]) rfl rfl rfl rfl HS.out ?_; clear HF HS a; intro a w2 b2 HF HS; replace HS := Bx.mk HS
 refine zr 2 HF rfl ?_;clear HF a;intro a HF
 refine wl_ne ?_
 refine wp_seq ?_
 refine wp_sr ?_
 refine zy HF (ylr (cs := [.slice a0 st.fRows.length c0, .slice a1 st.fSpace.fRefs.length c1, .slice a2 st.fSpace.fLast.length c2, .int .i64 st.fTxg, .slice a4 st.fGone.length c4, .int .i64 st.fKeep, .slice a6 st.fDead.length c6, .bool st.fSame]) rfl (HF.ev rfl) ((HS.out.box 1 rfl).sub 0 8)) ?_;clear HF a;intro a HF
 refine zy HF (ylr (cs := [.int .i64 t.fRoot.fAt, .int .i64 t.fRoot.fBirth, .int .i64 t.fRoot.fSize, .int .i64 t.fRoot.fSum, .int .i64 t.fRoot.fLevel, .int .i64 t.fDepth, .int .i64 t.fMany]) rfl (HF.ev rfl) ((HS.out.box 0 rfl).sub 0 7)) ?_;clear HF a;intro a HF
 refine wl_callB rfl HF rfl (enter_of Tryz.func52 (by kernel_rfl) rfl) (args := #[sV a0 c0 a1 c1 a2 c2 a4 c4 a6 c6 st, tV t]) rfl (v := .bool ((tabT st t).isSome)) (implTableOk_any a0 c0 a1 c1 a2 c2 a4 c4 a6 c6 st t _ (HT.out.below HS.out.bel) (HM.out.below HS.out.bel) (HE.out.below HS.out.bel) (hV.out.below HS.out.bel) hf) rfl rfl HS.out ?_; clear HF HS a; intro w3 a HS HF; replace HS := Bx.mk HS
 refine zy HF (yl_not rfl (HF.ev rfl)) ?_;clear HF a;intro a HF
 refine wl_ne ?_
 refine HF.cases 9 rfl (fun cc1 _ => ?_) fun cc1 _ => ?_
 ·clear HF;rename_i HF
  have hokt : (tabT st t).isSome = false := by simpa using cc1
  refine wc_true HF rfl ?_
  refine wp_sr ?_
  refine zr 2 HF rfl ?_;clear HF a;intro a HF
  refine wl_ne ?_
  refine wp_ret ?_
  refine ex_then_ret ?_
  refine bp_ret2 HF Tryz.results21 (HF.res rfl) (HF.res rfl) ?_
  have h : tabT st t = none := Option.isNone_iff_eq_none.1 (by simpa using hokt)
  have h2 := tabAllF_no h; exact ⟨none, 0, 0, by rw [h2, hokt] <;> rfl, by rw [h2]; exact ((((HS.out).nilRow PtrD.cells 5 43 none).erase 2).erase 1)⟩
 ·clear HF;rename_i HF
  have hokt : (tabT st t).isSome = true := by simpa using cc1
  refine wc_false HF rfl ?_
  refine wp_skip ?_
  refine ex_then ?_
  refine wp_sr ?_
  refine zy HF (ylr (cs := [.int .i64 t.fRoot.fAt, .int .i64 t.fRoot.fBirth, .int .i64 t.fRoot.fSize, .int .i64 t.fRoot.fSum, .int .i64 t.fRoot.fLevel, .int .i64 t.fDepth, .int .i64 t.fMany]) rfl (HF.ev rfl) ((HS.out.box 0 rfl).sub 0 7)) ?_;clear HF a;intro a HF
  replace HS:=Bx.mk (HS.out.pick 1 rfl)
  obtain ⟨ns, htT⟩ := Option.isSome_iff_exists.1 hokt; obtain ⟨hsok, htb⟩ := tabT_is htT
  refine wl_call rfl HF rfl (enter_of Tryz.func53 (by kernel_rfl) rfl) (args := #[.pointer (some ⟨b1, 0, none⟩), tV t]) rfl (tableAll_any a0 c0 a1 c1 a2 c2 a4 c4 a6 c6 st t b1 htb w0 _ HT.out HM.out HE.out hV.out hf hsok _ HS.out) rfl rfl ?_
  rintro _ w4 ⟨aoB, cpB, czB, rfl, hs1⟩
  refine ⟨_, rfl, ?_⟩; replace HS := Bx.mk hs1;clear hs1 HF a;intro a HF
  try dsimp only [List.eraseIdx] at HS
  refine zr 2 HF rfl ?_;clear HF a;intro a HF
  refine wl_ne ?_
  refine wp_ret ?_
  refine bp_ret2 HF Tryz.results21 (HF.res rfl) (HF.res rfl) ?_
  have h := tabAllF_yes htT; exact ⟨_, _, _, by rw [h, hokt] <;> rfl, by rw [h]; exact ((HS.out.erase 2).erase 1)⟩

def PtrD.putF (p : PtrD) : Nat → Int → PtrD
  | 0, v => { p with fAt := v }
  | 1, v => { p with fBirth := v }
  | 2, v => { p with fSize := v }
  | 3, v => { p with fSum := v }
  | _, v => { p with fLevel := v }
theorem getD_setP {xs : List PtrD} {i : Nat} (h : i < xs.length) (z : PtrD) : (xs.set i z).getD i PtrD.zero = z := by
  rw [List.getD_eq_getElem?_getD, List.getElem?_set_self h]; rfl
theorem getD_getP {xs : List PtrD} {i : Nat} (h : i < xs.length) : xs.getD i PtrD.zero = xs[i] := by
  rw [List.getD_eq_getElem?_getD, List.getElem?_eq_getElem h]; rfl
theorem marks_snoc (k : Int) (i : Nat) : marks mkPtr 5 k (i + 1) = marks mkPtr 5 k i ++ [mkPtr (k + (i : Int) * 5)] := by
  unfold marks; rw [List.range_succ, List.map_append]; rfl
theorem marks_setP {xs ys : List PtrD} {k : Int} {i : Nat} (hi : i < xs.length) (h : ys = marks mkPtr 5 k i ++ xs.drop i) : ys.set i (mkPtr (k + (i : Int) * 5)) = marks mkPtr 5 k (i + 1) ++ xs.drop (i + 1) := by
  have hm := marks_len mkPtr 5 k i
  rw [h, List.set_append_right _ _ (by omega), hm, Nat.sub_self, List.drop_eq_getElem_cons hi, List.set_cons_zero, marks_snoc, List.append_assoc]; rfl

theorem markPtrS_c (ao : Option Addr) (cp c2 : Nat) (xs : List PtrD) (k : Int) (hk : 0 ≤ k ∧ k ≤ 1000000) (hxs : xs.length ≤ 1000) (F : List Asr) (w0 w : World) (hS : St w0 (rowA PtrD.cells 5 43 (.slice ao xs.length cp) xs :: F) w) : Calls Tryz.prog 24 #[.slice ao xs.length c2, .int .i64 k] w fun e w' => e = .returned (.int .i64 (k + (xs.length : Int) * 5)) ∧ St w0 (rowA PtrD.cells 5 43 (.slice ao xs.length cp) (marks mkPtr 5 k xs.length) :: F) w' := by
 have HS := Bx.mk hS; clear hS
 refine wc_enter Tryz.func24 rfl Tryz.ntmps24 [(0, .slice ao xs.length c2), (1, .int .i64 k)] ⟨rfl, rfl, trivial⟩ rfl ?_; intro a HF
 refine wp_sr ?_
 refine za HF ?_;clear HF a;intro a HF
 refine wl_ne ?_
 refine wp_seq ?_
 refine wp_sr ?_
 refine za HF ?_;clear HF a;intro a HF
 refine wl_ne ?_
 refine wp_block ?_
 obtain ⟨ys, hys⟩ : ∃ ys : List PtrD, ys = xs := ⟨_, rfl⟩
 have hyl : ys.length = xs.length := congrArg List.length hys
 replace HS : Bx (St w0 (rowA PtrD.cells 5 43 (.slice ao xs.length cp) ys :: F) _) := ⟨by rw [hys]; exact HS.out⟩
 refine wc_loop (ι := Nat) (fun i a w => ∃ (ys : List PtrD), (i ≤ xs.length ∧ ys = marks mkPtr 5 k i ++ xs.drop i ∧ ys.length = xs.length) ∧ Fr 48 a [(0, .slice ao xs.length c2), (1, .int .i64 (k + (i : Int) * 5)), (5, .int .i64 (i : Int))] ∧ St w0 (rowA PtrD.cells 5 43 (.slice ao xs.length cp) ys :: F) w) (fun i => xs.length - i) 0 ⟨ys, ⟨Nat.zero_le _, by rw [hys]; rfl, hyl⟩, HF.less _ ⟨rfl, (by show some (Value.int .i64 _) = some (Value.int .i64 _); congr 2; omega), rfl, trivial⟩, HS.out⟩ ?_
 clear HF HS; clear a
 rintro i a w1 ⟨ys, ⟨hi, hys, hyl⟩, HF, HS⟩
 replace HS := Bx.mk HS
 refine wp_seq ?_
 refine wp_sr ?_
 refine zr 2 HF rfl ?_;clear HF a;intro a HF
 refine zy HF (yl_lenL (e := 43) (size := 5) rfl (HF.ev rfl) (by kernel_rfl)) ?_;clear HF a;intro a HF
 refine zy HF (yl_lssI rfl (HF.ev rfl) (HF.ev rfl)) ?_;clear HF a;intro a HF
 refine wl_ne ?_
 refine HF.cases 9 rfl (fun cc1 _ => ?_) fun cc1 _ => ?_
 ·clear HF;rename_i HF
  have dcc1 := of_decide_eq_true cc1
  refine wc_true HF rfl ?_
  refine wp_skip ?_
  refine ex_then ?_
  refine wp_seq ?_
  refine wp_block ?_
  refine wp_seq ?_
  obtain ⟨g1, rfl, _, _, _, _⟩ := HS.out.rowOpen 0 rfl (by omega)
  refine wp_region_lit ?_
  refine zr 3 HF rfl ?_;clear HF a;intro a HF
  refine zy HF (yl_indexAddr (e := 43) (i := i) (size := 5) rfl (HF.ev rfl) (HF.ev rfl) (by kernel_rfl) rfl (by omega)) ?_;clear HF a;intro a HF
  refine zy HF (yfa 0 rfl (HF.ev rfl)) ?_;clear HF a;intro a HF
  refine wl_storeEF PtrD.cells_len rfl rfl rfl (HF.ev rfl) (HF.ev rfl) (by kernel_rfl) HS.out 0 rfl (by omega) (by omega) ((PtrD.putF (ys.getD i PtrD.zero) 0 (k + (i : Int) * 5))) (by rw [getD_getP (by (try simp only [List.length_set]); omega)]; rfl) rfl ?_; clear HS; intro w2 HS; replace HS := Bx.mk HS
  refine wl_ne ?_
  refine wp_sr ?_
  refine zm HF ?_;clear HF a;intro a HF
  refine zy HF (yl_addI rfl (HF.ev rfl) (HF.ev rfl) (i64w (by omega))) ?_;clear HF a;intro a HF
  refine za HF ?_;clear HF a;intro a HF
  refine wl_ne ?_
  refine wp_seq ?_
  have hyn : (ys.set i (PtrD.putF (ys.getD i PtrD.zero) 0 (k + (i : Int) * 5))).length = xs.length := by simp only [List.length_set]; exact hyl
  refine wp_region_lit ?_
  refine zr 3 HF rfl ?_;clear HF a;intro a HF
  refine zy HF (yl_indexAddr (e := 43) (i := i) (size := 5) rfl (HF.ev rfl) (HF.ev rfl) (by kernel_rfl) rfl (by omega)) ?_;clear HF a;intro a HF
  refine zy HF (yfa 1 rfl (HF.ev rfl)) ?_;clear HF a;intro a HF
  refine wl_storeEF PtrD.cells_len rfl rfl rfl (HF.ev rfl) (HF.ev rfl) (by kernel_rfl) HS.out 0 rfl (by omega) (by omega) ((PtrD.putF ((ys.set i (PtrD.putF (ys.getD i PtrD.zero) 0 (k + (i : Int) * 5))).getD i PtrD.zero) 1 ((k + (i : Int) * 5) + 1))) (by rw [getD_getP (by (try simp only [List.length_set]); omega)]; rfl) rfl ?_; clear HS; intro w3 HS; replace HS := Bx.mk HS
  refine wl_ne ?_
  refine wp_sr ?_
  refine zm HF ?_;clear HF a;intro a HF
  refine zy HF (yl_addI rfl (HF.ev rfl) (HF.ev rfl) (i64w (by omega))) ?_;clear HF a;intro a HF
  refine za HF ?_;clear HF a;intro a HF
  refine wl_ne ?_
  refine wp_seq ?_
  have hyn : ((ys.set i (PtrD.putF (ys.getD i PtrD.zero) 0 (k + (i : Int) * 5))).set i (PtrD.putF ((ys.set i (PtrD.putF (ys.getD i PtrD.zero) 0 (k + (i : Int) * 5))).getD i PtrD.zero) 1 ((k + (i : Int) * 5) + 1))).length = xs.length := by simp only [List.length_set]; exact hyl
  refine wp_region_lit ?_
  refine zr 3 HF rfl ?_;clear HF a;intro a HF
  refine zy HF (yl_indexAddr (e := 43) (i := i) (size := 5) rfl (HF.ev rfl) (HF.ev rfl) (by kernel_rfl) rfl (by omega)) ?_;clear HF a;intro a HF
  refine zy HF (yfa 2 rfl (HF.ev rfl)) ?_;clear HF a;intro a HF
  refine wl_storeEF PtrD.cells_len rfl rfl rfl (HF.ev rfl) (HF.ev rfl) (by kernel_rfl) HS.out 0 rfl (by omega) (by omega) ((PtrD.putF (((ys.set i (PtrD.putF (ys.getD i PtrD.zero) 0 (k + (i : Int) * 5))).set i (PtrD.putF ((ys.set i (PtrD.putF (ys.getD i PtrD.zero) 0 (k + (i : Int) * 5))).getD i PtrD.zero) 1 ((k + (i : Int) * 5) + 1))).getD i PtrD.zero) 2 (((k + (i : Int) * 5) + 1) + 1))) (by rw [getD_getP (by (try simp only [List.length_set]); omega)]; rfl) rfl ?_; clear HS; intro w4 HS; replace HS := Bx.mk HS
  refine wl_ne ?_
  refine wp_sr ?_
  refine zm HF ?_;clear HF a;intro a HF
  refine zy HF (yl_addI rfl (HF.ev rfl) (HF.ev rfl) (i64w (by omega))) ?_;clear HF a;intro a HF
  refine za HF ?_;clear HF a;intro a HF
  refine wl_ne ?_
  refine wp_seq ?_
  have hyn : (((ys.set i (PtrD.putF (ys.getD i PtrD.zero) 0 (k + (i : Int) * 5))).set i (PtrD.putF ((ys.set i (PtrD.putF (ys.getD i PtrD.zero) 0 (k + (i : Int) * 5))).getD i PtrD.zero) 1 ((k + (i : Int) * 5) + 1))).set i (PtrD.putF (((ys.set i (PtrD.putF (ys.getD i PtrD.zero) 0 (k + (i : Int) * 5))).set i (PtrD.putF ((ys.set i (PtrD.putF (ys.getD i PtrD.zero) 0 (k + (i : Int) * 5))).getD i PtrD.zero) 1 ((k + (i : Int) * 5) + 1))).getD i PtrD.zero) 2 (((k + (i : Int) * 5) + 1) + 1))).length = xs.length := by simp only [List.length_set]; exact hyl
  refine wp_region_lit ?_
  refine zr 3 HF rfl ?_;clear HF a;intro a HF
  refine zy HF (yl_indexAddr (e := 43) (i := i) (size := 5) rfl (HF.ev rfl) (HF.ev rfl) (by kernel_rfl) rfl (by omega)) ?_;clear HF a;intro a HF
  refine zy HF (yfa 3 rfl (HF.ev rfl)) ?_;clear HF a;intro a HF
  refine wl_storeEF PtrD.cells_len rfl rfl rfl (HF.ev rfl) (HF.ev rfl) (by kernel_rfl) HS.out 0 rfl (by omega) (by omega) ((PtrD.putF ((((ys.set i (PtrD.putF (ys.getD i PtrD.zero) 0 (k + (i : Int) * 5))).set i (PtrD.putF ((ys.set i (PtrD.putF (ys.getD i PtrD.zero) 0 (k + (i : Int) * 5))).getD i PtrD.zero) 1 ((k + (i : Int) * 5) + 1))).set i (PtrD.putF (((ys.set i (PtrD.putF (ys.getD i PtrD.zero) 0 (k + (i : Int) * 5))).set i (PtrD.putF ((ys.set i (PtrD.putF (ys.getD i PtrD.zero) 0 (k + (i : Int) * 5))).getD i PtrD.zero) 1 ((k + (i : Int) * 5) + 1))).getD i PtrD.zero) 2 (((k + (i : Int) * 5) + 1) + 1))).getD i PtrD.zero) 3 ((((k + (i : Int) * 5) + 1) + 1) + 1))) (by rw [getD_getP (by (try simp only [List.length_set]); omega)]; rfl) rfl ?_; clear HS; intro w5 HS; replace HS := Bx.mk HS
  refine wl_ne ?_
  refine wp_sr ?_
  refine zm HF ?_;clear HF a;intro a HF
  refine zy HF (yl_addI rfl (HF.ev rfl) (HF.ev rfl) (i64w (by omega))) ?_;clear HF a;intro a HF
  refine za HF ?_;clear HF a;intro a HF
  refine wl_ne ?_
  refine wp_seq ?_
  have hyn : ((((ys.set i (PtrD.putF (ys.getD i PtrD.zero) 0 (k + (i : Int) * 5))).set i (PtrD.putF ((ys.set i (PtrD.putF (ys.getD i PtrD.zero) 0 (k + (i : Int) * 5))).getD i PtrD.zero) 1 ((k + (i : Int) * 5) + 1))).set i (PtrD.putF (((ys.set i (PtrD.putF (ys.getD i PtrD.zero) 0 (k + (i : Int) * 5))).set i (PtrD.putF ((ys.set i (PtrD.putF (ys.getD i PtrD.zero) 0 (k + (i : Int) * 5))).getD i PtrD.zero) 1 ((k + (i : Int) * 5) + 1))).getD i PtrD.zero) 2 (((k + (i : Int) * 5) + 1) + 1))).set i (PtrD.putF ((((ys.set i (PtrD.putF (ys.getD i PtrD.zero) 0 (k + (i : Int) * 5))).set i (PtrD.putF ((ys.set i (PtrD.putF (ys.getD i PtrD.zero) 0 (k + (i : Int) * 5))).getD i PtrD.zero) 1 ((k + (i : Int) * 5) + 1))).set i (PtrD.putF (((ys.set i (PtrD.putF (ys.getD i PtrD.zero) 0 (k + (i : Int) * 5))).set i (PtrD.putF ((ys.set i (PtrD.putF (ys.getD i PtrD.zero) 0 (k + (i : Int) * 5))).getD i PtrD.zero) 1 ((k + (i : Int) * 5) + 1))).getD i PtrD.zero) 2 (((k + (i : Int) * 5) + 1) + 1))).getD i PtrD.zero) 3 ((((k + (i : Int) * 5) + 1) + 1) + 1))).length = xs.length := by simp only [List.length_set]; exact hyl
  refine wp_region_lit ?_
  refine zr 3 HF rfl ?_;clear HF a;intro a HF
  refine zy HF (yl_indexAddr (e := 43) (i := i) (size := 5) rfl (HF.ev rfl) (HF.ev rfl) (by kernel_rfl) rfl (by omega)) ?_;clear HF a;intro a HF
  refine zy HF (yfa 4 rfl (HF.ev rfl)) ?_;clear HF a;intro a HF
  refine wl_storeEF PtrD.cells_len rfl rfl rfl (HF.ev rfl) (HF.ev rfl) (by kernel_rfl) HS.out 0 rfl (by omega) (by omega) ((PtrD.putF (((((ys.set i (PtrD.putF (ys.getD i PtrD.zero) 0 (k + (i : Int) * 5))).set i (PtrD.putF ((ys.set i (PtrD.putF (ys.getD i PtrD.zero) 0 (k + (i : Int) * 5))).getD i PtrD.zero) 1 ((k + (i : Int) * 5) + 1))).set i (PtrD.putF (((ys.set i (PtrD.putF (ys.getD i PtrD.zero) 0 (k + (i : Int) * 5))).set i (PtrD.putF ((ys.set i (PtrD.putF (ys.getD i PtrD.zero) 0 (k + (i : Int) * 5))).getD i PtrD.zero) 1 ((k + (i : Int) * 5) + 1))).getD i PtrD.zero) 2 (((k + (i : Int) * 5) + 1) + 1))).set i (PtrD.putF ((((ys.set i (PtrD.putF (ys.getD i PtrD.zero) 0 (k + (i : Int) * 5))).set i (PtrD.putF ((ys.set i (PtrD.putF (ys.getD i PtrD.zero) 0 (k + (i : Int) * 5))).getD i PtrD.zero) 1 ((k + (i : Int) * 5) + 1))).set i (PtrD.putF (((ys.set i (PtrD.putF (ys.getD i PtrD.zero) 0 (k + (i : Int) * 5))).set i (PtrD.putF ((ys.set i (PtrD.putF (ys.getD i PtrD.zero) 0 (k + (i : Int) * 5))).getD i PtrD.zero) 1 ((k + (i : Int) * 5) + 1))).getD i PtrD.zero) 2 (((k + (i : Int) * 5) + 1) + 1))).getD i PtrD.zero) 3 ((((k + (i : Int) * 5) + 1) + 1) + 1))).getD i PtrD.zero) 4 (((((k + (i : Int) * 5) + 1) + 1) + 1) + 1))) (by rw [getD_getP (by (try simp only [List.length_set]); omega)]; rfl) rfl ?_; clear HS; intro w6 HS; replace HS := Bx.mk HS
  refine wl_ne ?_
  refine wp_region_lit ?_
  refine zm HF ?_;clear HF a;intro a HF
  refine zy HF (yl_addI rfl (HF.ev rfl) (HF.ev rfl) (i64w (by omega))) ?_;clear HF a;intro a HF
  refine za HF ?_;clear HF a;intro a HF
  refine wpList_nil ?_
  refine ex_block ?_
  refine ex_then ?_
  refine wp_region_lit ?_
  refine zm HF ?_;clear HF a;intro a HF
  refine zy HF (yl_addI rfl (HF.ev rfl) (HF.ev rfl) (i64w (by omega))) ?_;clear HF a;intro a HF
  refine za HF ?_;clear HF a;intro a HF
  refine wl_ne ?_
  obtain ⟨zs, hzs⟩ : ∃ zs : List PtrD, zs = ((((ys.set i (PtrD.putF (ys.getD i PtrD.zero) 0 (k + (i : Int) * 5))).set i (PtrD.putF ((ys.set i (PtrD.putF (ys.getD i PtrD.zero) 0 (k + (i : Int) * 5))).getD i PtrD.zero) 1 ((k + (i : Int) * 5) + 1))).set i (PtrD.putF (((ys.set i (PtrD.putF (ys.getD i PtrD.zero) 0 (k + (i : Int) * 5))).set i (PtrD.putF ((ys.set i (PtrD.putF (ys.getD i PtrD.zero) 0 (k + (i : Int) * 5))).getD i PtrD.zero) 1 ((k + (i : Int) * 5) + 1))).getD i PtrD.zero) 2 (((k + (i : Int) * 5) + 1) + 1))).set i (PtrD.putF ((((ys.set i (PtrD.putF (ys.getD i PtrD.zero) 0 (k + (i : Int) * 5))).set i (PtrD.putF ((ys.set i (PtrD.putF (ys.getD i PtrD.zero) 0 (k + (i : Int) * 5))).getD i PtrD.zero) 1 ((k + (i : Int) * 5) + 1))).set i (PtrD.putF (((ys.set i (PtrD.putF (ys.getD i PtrD.zero) 0 (k + (i : Int) * 5))).set i (PtrD.putF ((ys.set i (PtrD.putF (ys.getD i PtrD.zero) 0 (k + (i : Int) * 5))).getD i PtrD.zero) 1 ((k + (i : Int) * 5) + 1))).getD i PtrD.zero) 2 (((k + (i : Int) * 5) + 1) + 1))).getD i PtrD.zero) 3 ((((k + (i : Int) * 5) + 1) + 1) + 1))).set i (PtrD.putF (((((ys.set i (PtrD.putF (ys.getD i PtrD.zero) 0 (k + (i : Int) * 5))).set i (PtrD.putF ((ys.set i (PtrD.putF (ys.getD i PtrD.zero) 0 (k + (i : Int) * 5))).getD i PtrD.zero) 1 ((k + (i : Int) * 5) + 1))).set i (PtrD.putF (((ys.set i (PtrD.putF (ys.getD i PtrD.zero) 0 (k + (i : Int) * 5))).set i (PtrD.putF ((ys.set i (PtrD.putF (ys.getD i PtrD.zero) 0 (k + (i : Int) * 5))).getD i PtrD.zero) 1 ((k + (i : Int) * 5) + 1))).getD i PtrD.zero) 2 (((k + (i : Int) * 5) + 1) + 1))).set i (PtrD.putF ((((ys.set i (PtrD.putF (ys.getD i PtrD.zero) 0 (k + (i : Int) * 5))).set i (PtrD.putF ((ys.set i (PtrD.putF (ys.getD i PtrD.zero) 0 (k + (i : Int) * 5))).getD i PtrD.zero) 1 ((k + (i : Int) * 5) + 1))).set i (PtrD.putF (((ys.set i (PtrD.putF (ys.getD i PtrD.zero) 0 (k + (i : Int) * 5))).set i (PtrD.putF ((ys.set i (PtrD.putF (ys.getD i PtrD.zero) 0 (k + (i : Int) * 5))).getD i PtrD.zero) 1 ((k + (i : Int) * 5) + 1))).getD i PtrD.zero) 2 (((k + (i : Int) * 5) + 1) + 1))).getD i PtrD.zero) 3 ((((k + (i : Int) * 5) + 1) + 1) + 1))).getD i PtrD.zero) 4 (((((k + (i : Int) * 5) + 1) + 1) + 1) + 1)) := ⟨_, rfl⟩; rw [← hzs] at HS
  have hz1 : zs = ys.set i (mkPtr (k + (i : Int) * 5)) := by rw [hzs]; simp only [getD_setP (show i < ys.length by omega), List.set_set, PtrD.putF, mkPtr, List.length_set]
  have hz2 := hz1.trans (marks_setP (by omega) hys); have hzl : zs.length = xs.length := by rw [hz1, List.length_set]; exact hyl
  exact ⟨(i + 1), ⟨zs, ⟨by omega, hz2, hzl⟩, HF.less _ ⟨rfl, (by show some (Value.int .i64 _) = some (Value.int .i64 _); congr 2; omega), rfl, trivial⟩, HS.out⟩, (by omega)⟩
 ·clear HF;rename_i HF
  have dcc1 := of_decide_eq_false cc1
  refine wc_false HF rfl ?_
  refine wp_exit ?_
  refine ex_then_exit ?_
  refine ex_then_exit ?_
  refine ex_block_hit ?_
  refine ex_then ?_
  refine wp_sr ?_
  refine zr 2 HF rfl ?_;clear HF a;intro a HF
  refine wl_ne ?_
  refine wp_ret ?_
  refine bp_ret1 HF Tryz.results24 (HF.res rfl) ?_
  obtain rfl : i = xs.length := by omega
  rw [List.drop_length, List.append_nil] at hys; rw [← hys]
  exact ⟨rfl, HS.out⟩

end Go.Proofs.YtgaodbdadncfhaaGreatDoor

/- Texts of a tree, by the reference: walked. -/
namespace Go.Proofs.YtgaodbdadncfhaaGreatDoor
set_option linter.unusedVariables false
set_option linter.unusedSimpArgs false
set_option maxHeartbeats 1000000
set_option maxRecDepth 100000
open Go.RowKit

/-- The places of a tree, with holes up to sixteen. -/
def wideL (x : List PtrD) : List PtrD := x ++ List.replicate (16 - x.length) PtrD.zero
theorem wideL_len {x : List PtrD} (h : x.length ≤ 16) : (wideL x).length = 16 := by unfold wideL; rw [List.length_append, List.length_replicate]; omega
theorem wideL_ok {x : List PtrD} (h : ∀ p ∈ x, p.ok = true) : ∀ p ∈ wideL x, p.ok = true := fun p hp => by
  rcases List.mem_append.1 hp with hp | hp
  · exact h p hp
  · rw [List.eq_of_mem_replicate hp]; rfl

theorem l8Leaves_some (a0 : Option Addr) (c0 : Nat) (a1 : Option Addr) (c1 : Nat) (a2 : Option Addr) (c2 : Nat) (a4 : Option Addr) (c4 : Nat) (a6 : Option Addr) (c6 : Nat) (st : StoreD) (t : TreeD) {x : List PtrD} (hx : downL (kidsS st) (depthN t.fMany) [t.fRoot] = some x) (hdep : t.fDepth = ((depthN t.fMany : Nat) : Int)) (hxl : x.length ≤ 16) (w0 : World) (hR : Rd encS 1 w0 a0 st.fRows.length st.fRows) (hrow : RowsOk st) : Calls Tryz.prog 80 #[.agg #[.slice a0 st.fRows.length c0, .slice a1 st.fSpace.fRefs.length c1, .slice a2 st.fSpace.fLast.length c2, .int .i64 st.fTxg, .slice a4 st.fGone.length c4, .int .i64 st.fKeep, .slice a6 st.fDead.length c6, .bool st.fSame], .agg #[.int .i64 t.fRoot.fAt, .int .i64 t.fRoot.fBirth, .int .i64 t.fRoot.fSize, .int .i64 t.fRoot.fSum, .int .i64 t.fRoot.fLevel, .int .i64 t.fDepth, .int .i64 t.fMany]] w0 fun e w' => ∃ ao cp, e = .returned (.tuple #[.slice ao x.length cp, .bool true]) ∧ St w0 [rowA PtrD.cells 5 43 (.slice ao x.length cp) x] w' := by
  refine (l8Leaves_any a0 c0 a1 c1 a2 c2 a4 c4 a6 c6 st t hdep w0 hR hrow).mono ?_
  rintro e w' (⟨l, h, ao, cp, he, hs⟩ | ⟨h, _⟩)
  · rw [hx] at h
    obtain rfl := Option.some.inj h
    exact ⟨ao, cp, he, hs⟩
  · rw [hx] at h; cases h

theorem l8Wide_any (a0 : Option Addr) (c0 : Nat) (a1 : Option Addr) (c1 : Nat) (a2 : Option Addr) (c2 : Nat) (a4 : Option Addr) (c4 : Nat) (a6 : Option Addr) (c6 : Nat) (st : StoreD) (t : TreeD) {x : List PtrD} (hx : downL (kidsS st) (depthN t.fMany) [t.fRoot] = some x) (hdep : t.fDepth = ((depthN t.fMany : Nat) : Int)) (hxl : x.length ≤ 16) (w0 : World) (hR : Rd encS 1 w0 a0 st.fRows.length st.fRows) (hrow : RowsOk st) : Calls Tryz.prog 42 #[sV a0 c0 a1 c1 a2 c2 a4 c4 a6 c6 st, tV t] w0 fun e w' => ∃ ao cp, e = .returned (.slice ao (wideL x).length cp) ∧ St w0 [rowA PtrD.cells 5 43 (.slice ao (wideL x).length cp) (wideL x)] w' := by
 have HR := Bx.mk hR; clear hR
 have HS := Bx.mk (St.start w0)
 refine wc_enter Tryz.func42 rfl Tryz.ntmps42 [(0, sV a0 c0 a1 c1 a2 c2 a4 c4 a6 c6 st), (1, tV t)] ⟨rfl, rfl, trivial⟩ rfl ?_; intro a HF
 refine wp_sr ?_
 refine wl_box rfl HF rfl (HF.ev rfl) (Z := [.slice a0 st.fRows.length c0, .slice a1 st.fSpace.fRefs.length c1, .slice a2 st.fSpace.fLast.length c2, .int .i64 st.fTxg, .slice a4 st.fGone.length c4, .int .i64 st.fKeep, .slice a6 st.fDead.length c6, .bool st.fSame]) rfl rfl rfl rfl HS.out ?_; clear HF HS a; intro a w1 b1 HF HS; replace HS := Bx.mk HS
 refine wl_box rfl HF rfl (HF.ev rfl) (Z := [.int .i64 t.fRoot.fAt, .int .i64 t.fRoot.fBirth, .int .i64 t.fRoot.fSize, .int .i64 t.fRoot.fSum, .int .i64 t.fRoot.fLevel, .int .i64 t.fDepth, .int .i64 t.fMany]) rfl rfl rfl rfl HS.out ?_; clear HF HS a; intro a w2 b2 HF HS; replace HS := Bx.mk HS
 refine za HF ?_;clear HF a;intro a HF
 refine wl_ne ?_
 refine wp_sr ?_
 refine zy HF (ylr (cs := [.slice a0 st.fRows.length c0, .slice a1 st.fSpace.fRefs.length c1, .slice a2 st.fSpace.fLast.length c2, .int .i64 st.fTxg, .slice a4 st.fGone.length c4, .int .i64 st.fKeep, .slice a6 st.fDead.length c6, .bool st.fSame]) rfl (HF.ev rfl) ((HS.out.box 1 rfl).sub 0 8)) ?_;clear HF a;intro a HF
 refine zy HF (ylr (cs := [.int .i64 t.fRoot.fAt, .int .i64 t.fRoot.fBirth, .int .i64 t.fRoot.fSize, .int .i64 t.fRoot.fSum, .int .i64 t.fRoot.fLevel, .int .i64 t.fDepth, .int .i64 t.fMany]) rfl (HF.ev rfl) ((HS.out.box 0 rfl).sub 0 7)) ?_;clear HF a;intro a HF
 refine wl_call rfl HF rfl (enter_of Tryz.func80 (by kernel_rfl) rfl) (args := #[sV a0 c0 a1 c1 a2 c2 a4 c4 a6 c6 st, tV t]) rfl (l8Leaves_some a0 c0 a1 c1 a2 c2 a4 c4 a6 c6 st t hx hdep hxl _ (HR.out.below HS.out.bel) hrow) rfl rfl ?_
 rintro _ w3 ⟨ao, cp, rfl, hs⟩
 refine ⟨_, rfl, ?_⟩; replace HS := Bx.mk (HS.out.add hs);clear hs HF a;intro a HF
 try dsimp only [List.eraseIdx] at HS
 refine zr 5 HF rfl ?_;clear HF a;intro a HF
 refine wl_ne ?_
 refine wp_sr ?_
 refine wl_empty (e := 43) (size := 5) rfl HF rfl rfl rfl (by kernel_rfl) HS.out ?_; clear HF HS a; intro a w4 b3 HF HS; replace HS := Bx.mk HS
 refine zm HF ?_;clear HF a;intro a HF
 replace HS := Bx.mk (HS.out.nilRow PtrD.cells 5 43 (some ⟨b3, 0, none⟩))
 refine wl_appL rfl HF rfl rfl rfl (HF.ev rfl) (HF.ev rfl) elemQ PtrD.cells_len HS.out 0 (xs := []) rfl (ys := x) (St.rdOf HS.out PtrD.cells_len 1 rfl) (cells_one_Q _) (by unfold maxLen; (try simp only [List.length_append, List.length_cons, List.length_nil, List.nil_append, List.length_map, List.length_replicate]); omega) (by (try simp only [List.length_append, List.length_cons, List.length_nil, List.nil_append, List.length_map, List.length_replicate]); omega) ?_; clear HF HS a; intro ao5 cp6 w5 a HF HS; replace HS := Bx.mk HS
 try dsimp only [List.eraseIdx] at HS
 refine zm HF ?_;clear HF a;intro a HF
 refine zy HF (yl_lenL (e := 43) (size := 5) rfl (HF.ev rfl) (by kernel_rfl)) ?_;clear HF a;intro a HF
 refine zy HF (yl_subI (r := ((16 - x.length : Nat) : Int)) rfl (HF.ev rfl) (HF.ev rfl) ((i64w (by omega)).trans (by omega))) ?_;clear HF a;intro a HF
 refine wl_call rfl HF rfl (enter_of Tryz.func81 (by kernel_rfl) rfl) (args := #[.int .i64 ((16 - x.length : Nat) : Int)]) rfl (l8Holes_any (16 - x.length) (by omega) _) rfl rfl ?_
 rintro _ w6 ⟨ao7, cp7, rfl, hs⟩
 refine ⟨_, rfl, ?_⟩
 replace HS := Bx.mk (HS.out.add hs);clear hs HF a;intro a HF
 try dsimp only [List.eraseIdx] at HS
 refine wl_appL rfl HF rfl rfl rfl (HF.ev rfl) (HF.ev rfl) elemQ PtrD.cells_len HS.out 1 (xs := ([]) ++ x) rfl (ys := List.replicate (16 - x.length) PtrD.zero) (St.rdN HS.out PtrD.cells_len 0 rfl) (cells_one_Q _) (by unfold maxLen; (try simp only [List.length_append, List.length_cons, List.length_nil, List.nil_append, List.length_map, List.length_replicate]); omega) (by (try simp only [List.length_append, List.length_cons, List.length_nil, List.nil_append, List.length_map, List.length_replicate]); omega) ?_; clear HF HS a; intro ao8 cp9 w7 a HF HS; replace HS := Bx.mk HS
 try dsimp only [List.eraseIdx] at HS
 refine za HF ?_;clear HF a;intro a HF
 refine wl_ne ?_
 refine wp_ret ?_
 refine bp_ret1 HF Tryz.results42 (HF.res rfl) ?_
 have hwl : ([] ++ x).length + (List.replicate (16 - x.length) PtrD.zero).length = (wideL x).length := (List.length_append ..).symm; rw [hwl] at HS ⊢
 exact ⟨_, _, rfl, ((((HS.out.erase 4).erase 3).erase 2).erase 0)⟩

theorem take_read_snoc {st : StoreD} {l : List PtrD} {k : Nat} (h : k < l.length) : (l.take k).map (readT st) ++ [readT st (l.getD k PtrD.zero)] = (l.take (k + 1)).map (readT st) := by
  rw [List.take_succ_eq_append_getElem h, List.map_append, List.getD_eq_getElem?_getD, List.getElem?_eq_getElem h]; rfl

def textsL (st : StoreD) (t : TreeD) (x : List PtrD) : List ByteArray := ((wideL x).take t.fMany.toNat).map (readT st)

theorem l8Texts_any (a0 : Option Addr) (c0 : Nat) (a1 : Option Addr) (c1 : Nat) (a2 : Option Addr) (c2 : Nat) (a4 : Option Addr) (c4 : Nat) (a6 : Option Addr) (c6 : Nat) (st : StoreD) (t : TreeD) {x : List PtrD} (hx : downL (kidsS st) (depthN t.fMany) [t.fRoot] = some x) (hdep : t.fDepth = ((depthN t.fMany : Nat) : Int)) (hxl : x.length ≤ 16) (hxok : ∀ p ∈ x, p.ok = true) (hm : 0 ≤ t.fMany ∧ t.fMany ≤ 16) (w0 : World) (hR : Rd encS 1 w0 a0 st.fRows.length st.fRows) (hrow : RowsOk st) : Calls Tryz.prog 77 #[sV a0 c0 a1 c1 a2 c2 a4 c4 a6 c6 st, tV t] w0 fun e w' => ∃ ao cp, e = .returned (.slice ao (textsL st t x).length cp) ∧ St w0 [rowA encS 1 9 (.slice ao (textsL st t x).length cp) (textsL st t x)] w' := by
 have HR := Bx.mk hR; clear hR
 have HS := Bx.mk (St.start w0)
 refine wc_enter Tryz.func77 rfl Tryz.ntmps77 [(0, sV a0 c0 a1 c1 a2 c2 a4 c4 a6 c6 st), (1, tV t)] ⟨rfl, rfl, trivial⟩ rfl ?_; intro a HF
 refine wp_sr ?_
 refine wl_box rfl HF rfl (HF.ev rfl) (Z := [.slice a0 st.fRows.length c0, .slice a1 st.fSpace.fRefs.length c1, .slice a2 st.fSpace.fLast.length c2, .int .i64 st.fTxg, .slice a4 st.fGone.length c4, .int .i64 st.fKeep, .slice a6 st.fDead.length c6, .bool st.fSame]) rfl rfl rfl rfl HS.out ?_; clear HF HS a; intro a w1 b1 HF HS; replace HS := Bx.mk HS
 refine wl_box rfl HF rfl (HF.ev rfl) (Z := [.int .i64 t.fRoot.fAt, .int .i64 t.fRoot.fBirth, .int .i64 t.fRoot.fSize, .int .i64 t.fRoot.fSum, .int .i64 t.fRoot.fLevel, .int .i64 t.fDepth, .int .i64 t.fMany]) rfl rfl rfl rfl HS.out ?_; clear HF HS a; intro a w2 b2 HF HS; replace HS := Bx.mk HS
 refine za HF ?_;clear HF a;intro a HF
 refine wl_ne ?_
 refine wp_sr ?_
 refine wl_empty (e := 9) (size := 1) rfl HF rfl rfl rfl (by kernel_rfl) HS.out ?_; clear HF HS a; intro a w3 b3 HF HS; replace HS := Bx.mk HS
 refine za HF ?_;clear HF a;intro a HF
 refine wl_ne ?_
 refine wp_sr ?_
 refine zy HF (ylr (cs := [.slice a0 st.fRows.length c0, .slice a1 st.fSpace.fRefs.length c1, .slice a2 st.fSpace.fLast.length c2, .int .i64 st.fTxg, .slice a4 st.fGone.length c4, .int .i64 st.fKeep, .slice a6 st.fDead.length c6, .bool st.fSame]) rfl (HF.ev rfl) ((HS.out.box 1 rfl).sub 0 8)) ?_;clear HF a;intro a HF
 refine zy HF (ylr (cs := [.int .i64 t.fRoot.fAt, .int .i64 t.fRoot.fBirth, .int .i64 t.fRoot.fSize, .int .i64 t.fRoot.fSum, .int .i64 t.fRoot.fLevel, .int .i64 t.fDepth, .int .i64 t.fMany]) rfl (HF.ev rfl) ((HS.out.box 0 rfl).sub 0 7)) ?_;clear HF a;intro a HF
 refine wl_call rfl HF rfl (enter_of Tryz.func42 (by kernel_rfl) rfl) (args := #[sV a0 c0 a1 c1 a2 c2 a4 c4 a6 c6 st, tV t]) rfl (l8Wide_any a0 c0 a1 c1 a2 c2 a4 c4 a6 c6 st t hx hdep hxl _ (HR.out.below HS.out.bel) hrow) rfl rfl ?_
 rintro _ w4 ⟨ao4, cp4, rfl, hs⟩
 refine ⟨_, rfl, ?_⟩
 replace HS := Bx.mk (HS.out.add hs);clear hs HF a;intro a HF
 try dsimp only [List.eraseIdx] at HS
 refine za HF ?_;clear HF a;intro a HF
 refine wl_ne ?_
 refine wp_seq ?_
 refine wp_seq ?_
 have hwl := wideL_len hxl; have hwok := wideL_ok hxok
 refine wp_region_lit ?_
 refine za HF ?_;clear HF a;intro a HF
 refine wl_ne ?_
 refine wp_block ?_
 replace HS := Bx.mk (HS.out.nilRow encS 1 9 (some ⟨b3, 0, none⟩))
 refine wc_loop (ι := Nat) (fun k a w => ∃ (ao : Option Addr) (cp : Nat) (xs : List ByteArray), (k ≤ t.fMany.toNat ∧ xs = ((wideL x).take k).map (readT st)) ∧ Fr 34 a [(2, .pointer (some ⟨b1, 0, none⟩)), (3, .pointer (some ⟨b2, 0, none⟩)), (6, .slice ao4 ((wideL x).length) cp4), (5, .slice ao xs.length cp), (7, .int .i64 (k : Int))] ∧ St w0 ([rowA encS 1 9 (.slice ao xs.length cp) xs, rowA PtrD.cells 5 43 (.slice ao4 ((wideL x).length) cp4) (wideL x), boxA b2 7 45 (tV t), boxA b1 8 41 (sV a0 c0 a1 c1 a2 c2 a4 c4 a6 c6 st)]) w) (fun k => t.fMany.toNat - k) 0 ⟨_, _, [], ⟨Nat.zero_le _, rfl⟩, HF.less _ ⟨rfl, rfl, rfl, rfl, rfl, trivial⟩, HS.out⟩ ?_
 clear HF HS; clear a
 rintro k a w5 ⟨ao, cp, xs, ⟨hk, hq⟩, HF, HS⟩
 replace HS := Bx.mk HS
 have hxl : xs.length = k := by rw [hq]; simp; omega
 refine wp_seq ?_
 refine wp_sr ?_
 refine zm HF ?_;clear HF a;intro a HF
 refine zy HF (yfa 6 rfl (HF.ev rfl)) ?_;clear HF a;intro a HF
 refine zy HF (ylo (v := .int .i64 t.fMany) rfl (HF.ev rfl) (((HS.out.box 2 rfl).cell 6).trans rfl)) ?_;clear HF a;intro a HF
 refine zy HF (yl_lssI rfl (HF.ev rfl) (HF.ev rfl)) ?_;clear HF a;intro a HF
 refine wl_ne ?_
 refine HF.cases 17 rfl (fun cc1 _ => ?_) fun cc1 _ => ?_
 ·clear HF;rename_i HF
  have dcc1 := of_decide_eq_true cc1
  refine wc_true HF rfl ?_
  refine wp_skip ?_
  refine ex_then ?_
  refine wp_seq ?_
  refine wp_block ?_
  refine wp_seq ?_
  obtain ⟨g5, rfl, _, _, _, _⟩ := HS.out.rowOpen 1 rfl (by omega)
  refine wr_quiet (by kernel_rfl) (by kernel_rfl) HS.out ?_
  refine zq HF (fun _ HS => (ylr (cs := [.slice a0 st.fRows.length c0, .slice a1 st.fSpace.fRefs.length c1, .slice a2 st.fSpace.fLast.length c2, .int .i64 st.fTxg, .slice a4 st.fGone.length c4, .int .i64 st.fKeep, .slice a6 st.fDead.length c6, .bool st.fSame]) rfl (HF.ev rfl) ((HS.box 3 rfl).sub 0 8))) ?_;clear HF a;intro a HF
  refine zrq 2 HF rfl ?_;clear HF a;intro a HF
  refine zq HF (fun _ HS => (yl_indexAddr (e := 43) (i := k) (size := 5) rfl (HF.ev rfl) (HF.ev rfl) (by kernel_rfl) rfl (by omega))) ?_;clear HF a;intro a HF
  refine zq HF (fun _ HS => (ylr (cs := [.int .i64 (((wideL x).getD k PtrD.zero).fAt), .int .i64 (((wideL x).getD k PtrD.zero).fBirth), .int .i64 (((wideL x).getD k PtrD.zero).fSize), .int .i64 (((wideL x).getD k PtrD.zero).fSum), .int .i64 (((wideL x).getD k PtrD.zero).fLevel)]) rfl (HF.ev rfl) (HS.elem PtrD.cells_len 1 rfl (get_getD (xs := wideL x) (j := k) (d := PtrD.zero) (by omega))))) ?_;clear HF a;intro a HF
  refine wq_call rfl HF rfl (enter_of Tryz.func105 (by kernel_rfl) rfl) (args := #[sV a0 c0 a1 c1 a2 c2 a4 c4 a6 c6 st, pV ((wideL x).getD k PtrD.zero)]) rfl (v := .tuple #[.string (readT st ((wideL x).getD k PtrD.zero)), .bool (readB st ((wideL x).getD k PtrD.zero))]) (fun _ HS => (l7Read_any a0 c0 a1 c1 a2 c2 a4 c4 a6 c6 st ((wideL x).getD k PtrD.zero) _ (HR.out.below HS.bel) hrow (hwok _ (getD_mem (by omega))))) rfl rfl ?_;clear HF a;intro a HF
  refine zrq 5 HF rfl ?_;clear HF a;intro a HF
  refine wpQuiet_nil ?_; intro w6 HS; replace HS := Bx.mk HS
  refine ex_then ?_
  refine wp_region_lit ?_
  refine zr 2 HF rfl ?_;clear HF a;intro a HF
  refine wl_buildS (enc := encS) (e := 9) (size := 1) rfl HF rfl rfl rfl (ps := [(0, .string (readT st ((wideL x).getD k PtrD.zero)))]) rfl (cells := [.string (readT st ((wideL x).getD k PtrD.zero))]) (by kernel_rfl) [readT st ((wideL x).getD k PtrD.zero)] rfl rfl (by unfold maxLen; omega) rfl HS.out ?_; clear HF HS a; intro b6 a w7 HF HS; replace HS := Bx.mk HS
  refine wl_appL rfl HF rfl rfl rfl (HF.ev rfl) (HF.ev rfl) elemS encS_len HS.out 1 (xs := xs) rfl (ys := [readT st ((wideL x).getD k PtrD.zero)]) (St.rdN HS.out encS_len 0 rfl) (cells_one_S _) (by unfold maxLen; (try simp only [List.length_append, List.length_cons, List.length_nil, List.nil_append, List.length_map]); omega) (by (try simp only [List.length_append, List.length_cons, List.length_nil, List.nil_append, List.length_map]); omega) ?_; clear HF HS a; intro ao7 cp8 w8 a HF HS; replace HS := Bx.mk HS
  try dsimp only [List.eraseIdx] at HS
  refine za HF ?_;clear HF a;intro a HF
  refine wpList_nil ?_
  refine ex_block ?_
  refine ex_then ?_
  refine wp_region_lit ?_
  refine zm HF ?_;clear HF a;intro a HF
  refine zy HF (yl_addI rfl (HF.ev rfl) (HF.ev rfl) (i64w (by omega))) ?_;clear HF a;intro a HF
  refine za HF ?_;clear HF a;intro a HF
  refine wl_ne ?_
  have hz : xs.length + ([readT st ((wideL x).getD k PtrD.zero)]).length = (xs ++ ([readT st ((wideL x).getD k PtrD.zero)])).length := (List.length_append ..).symm
  rw [hz] at HS HF
  have hnext : xs ++ ([readT st ((wideL x).getD k PtrD.zero)]) = ((wideL x).take (k + 1)).map (readT st) := by rw [hq]; exact take_read_snoc (by omega)
  replace HS:=Bx.mk ((((HS.out.pick 4 rfl).pick 4 rfl).pick 4 rfl).pick 4 rfl)
  exact ⟨k + 1, ⟨_, _, xs ++ ([readT st ((wideL x).getD k PtrD.zero)]), ⟨by omega, hnext⟩, HF.less _ ⟨rfl, rfl, rfl, rfl, rfl, trivial⟩, (HS.out.erase 4)⟩, (by omega)⟩
 ·clear HF;rename_i HF
  have dcc1 := of_decide_eq_false cc1
  refine wc_false HF rfl ?_
  refine wp_exit ?_
  refine ex_then_exit ?_
  refine ex_then_exit ?_
  refine ex_block_hit ?_
  refine ex_then ?_
  refine wp_sr ?_
  refine zr 2 HF rfl ?_;clear HF a;intro a HF
  refine wl_ne ?_
  refine wp_ret ?_
  refine bp_ret1 HF Tryz.results77 (HF.res rfl) ?_
  obtain rfl : k = t.fMany.toNat := by omega
  subst hq
  exact ⟨_, _, rfl, (((HS.out.erase 3).erase 2).erase 1)⟩

end Go.Proofs.YtgaodbdadncfhaaGreatDoor

/- What a file tells, by the reference: walked. -/
namespace Go.Proofs.YtgaodbdadncfhaaGreatDoor
set_option linter.unusedVariables false
set_option linter.unusedSimpArgs false
set_option maxHeartbeats 1000000
set_option maxRecDepth 100000
open Go.RowKit

/-- A valid tree, with its places. -/
structure TreeX (st : StoreD) (t : TreeD) (x l : List PtrD) : Prop where
  dn : downL (kidsS st) (depthN t.fMany) [t.fRoot] = some x
  dep : t.fDepth = ((depthN t.fMany : Nat) : Int)
  x16 : x.length ≤ 16
  xok : ∀ p ∈ x, p.ok = true
  lv : leavesF st t = some l
  len : l.length = t.fMany.toNat
  many : 0 ≤ t.fMany ∧ t.fMany ≤ 16
  tk : (wideL x).take t.fMany.toNat = l
theorem treeX {st : StoreD} {t : TreeD} {l : List PtrD} (h0 : 0 ≤ st.fTxg) (h : leavesF st t = some l) : ∃ x, TreeX st t x l := by
  obtain ⟨x, ht, hd, hlb, hlx, hxl, hl⟩ := leavesF_is h
  unfold topB at ht
  simp only [Bool.and_eq_true, beq_iff_eq, decide_eq_true_eq] at ht
  have hin := inB_true ht.1
  have hy := young_down (st := st) (n := depthN t.fMany) (l := [t.fRoot]) (fun p hp => by rw [List.mem_singleton.1 hp]; exact ht.2.2) h0
  have hp4 := pow4 (depthN_le t.fMany)
  have hx16 : x.length ≤ 16 := by rw [hxl]; exact hp4
  refine ⟨x, hy.1.trans hd, ht.2.1, hx16, fun p hp => (hy.2 x hd p hp).1, h, hl, hin, ?_⟩
  have hle : t.fMany.toNat ≤ x.length := by
    have := congrArg List.length hlx
    rw [hl, List.length_take] at this
    omega
  rw [hlx]
  unfold wideL
  rw [List.take_append_of_le_length hle]
theorem l8Texts_x (a0 : Option Addr) (c0 : Nat) (a1 : Option Addr) (c1 : Nat) (a2 : Option Addr) (c2 : Nat) (a4 : Option Addr) (c4 : Nat) (a6 : Option Addr) (c6 : Nat) (st : StoreD) (t : TreeD) {x l : List PtrD} (X : TreeX st t x l) (w0 : World) (hR : Rd encS 1 w0 a0 st.fRows.length st.fRows) (hrow : RowsOk st) : Calls Tryz.prog 77 #[.agg #[.slice a0 st.fRows.length c0, .slice a1 st.fSpace.fRefs.length c1, .slice a2 st.fSpace.fLast.length c2, .int .i64 st.fTxg, .slice a4 st.fGone.length c4, .int .i64 st.fKeep, .slice a6 st.fDead.length c6, .bool st.fSame], .agg #[.int .i64 t.fRoot.fAt, .int .i64 t.fRoot.fBirth, .int .i64 t.fRoot.fSize, .int .i64 t.fRoot.fSum, .int .i64 t.fRoot.fLevel, .int .i64 t.fDepth, .int .i64 t.fMany]] w0 fun e w' => ∃ ao cp, e = .returned (.slice ao (l.map (readT st)).length cp) ∧ St w0 [rowA encS 1 9 (.slice ao (l.map (readT st)).length cp) (l.map (readT st))] w' := by
  have h := l8Texts_any a0 c0 a1 c1 a2 c2 a4 c4 a6 c6 st t X.dn X.dep X.x16 X.xok X.many w0 hR hrow
  unfold textsL at h
  rw [X.tk] at h
  exact h
theorem map_get {st : StoreD} {l : List PtrD} {k : Nat} (h : k < l.length) : (l.map (readT st))[k]? = some (readT st (l.getD k PtrD.zero)) := by
  rw [List.getElem?_map, List.getD_eq_getElem?_getD, List.getElem?_eq_getElem h]; rfl

theorem okS_some {st : StoreD} {t : TreeD} (h0 : 0 ≤ st.fTxg) (h : okS st t = true) : ∃ l, leavesF st t = some l := by
  rw [okS_eq h0] at h
  exact Option.isSome_iff_exists.1 h
theorem okS_none {st : StoreD} {t : TreeD} (h0 : 0 ≤ st.fTxg) (h : okS st t = false) : leavesF st t = none := by
  rw [okS_eq h0] at h
  cases hl : leavesF st t with
  | none => rfl
  | some l => exfalso; have h2 : (leavesF st t).isSome = false := h; rw [hl] at h2; cases h2
end Go.Proofs.YtgaodbdadncfhaaGreatDoor

/- Tables of nodes, by the reference: walked. -/
namespace Go.Proofs.YtgaodbdadncfhaaGreatDoor
set_option linter.unusedVariables false
set_option linter.unusedSimpArgs false
set_option maxHeartbeats 1000000
set_option maxRecDepth 100000
open Go.RowKit

theorem ok_size {p : PtrD} (h : p.ok = true) (hh : p.hole = false) : 1 ≤ p.fSize := by
  unfold PtrD.ok at h
  rw [hh] at h
  simp only [Bool.false_or, Bool.and_eq_true] at h
  exact (inB_true h.1.1.2).1
theorem leaf_at {st : StoreD} {t : TreeD} {l : List PtrD} (h : leavesF st t = some l) {k : Nat} (hk : k < l.length) : readB st (l.getD k PtrD.zero) = true := by
  obtain ⟨x, _, _, hb, rfl, _, _⟩ := leavesF_is h
  rw [List.getD_eq_getElem?_getD, List.getElem?_eq_getElem hk, Option.getD_some]
  exact (leavesB_all hb _ (List.mem_of_mem_take (List.getElem_mem hk))).2
/-- A place of a valid tree that reads as nothing is a hole. -/
theorem read_pos {st : StoreD} {p : PtrD} (h : readB st p = true) (hh : p.hole = false) : 1 ≤ (readT st p).size := by
  rw [readB_is hh] at h
  rw [readT_yes hh h]
  unfold fitsB at h
  simp only [Bool.and_eq_true, beq_iff_eq] at h
  have := ok_size h.1 hh
  omega
theorem leaf_hole {st : StoreD} {t : TreeD} {l : List PtrD} (h : leavesF st t = some l) {k : Nat} (hk : k < l.length) (he : ((readT st (l.getD k PtrD.zero)).toList == (⟨#[]⟩ : ByteArray).toList) = true) : (l.getD k PtrD.zero).hole = true := by
  cases hh : (l.getD k PtrD.zero).hole with
  | true => rfl
  | false =>
    have h1 := read_pos (leaf_at h hk) hh
    have h2 : readT st (l.getD k PtrD.zero) = ⟨#[]⟩ := bytes_toList he
    rw [h2] at h1
    exact absurd h1 (by decide)
theorem leaf_full {st : StoreD} {p : PtrD} (he : ((readT st p).toList == (⟨#[]⟩ : ByteArray).toList) = false) : p.hole = false := by
  cases hh : p.hole with
  | false => rfl
  | true =>
    rw [readT_hole hh, show (⟨#[]⟩ : ByteArray) = ByteArray.empty from rfl, beq_self_eq_true] at he
    cases he
theorem nodeB_pos {n : NodeD} (h : n.ok = true) : nodeB n ≠ ByteArray.empty := fun e => by
  have := (node_rec h).is
  rw [e] at this
  have h2 : (recB (nodeL n)).data.toList = [] := by rw [this]; rfl
  exact recB_ne _ _ h2

theorem l11Ok_any (a0 : Option Addr) (c0 : Nat) (a1 : Option Addr) (c1 : Nat) (a2 : Option Addr) (c2 : Nat) (a4 : Option Addr) (c4 : Nat) (a6 : Option Addr) (c6 : Nat) (st : StoreD) (t : TreeD) (w0 : World) (hR : Rd encS 1 w0 a0 st.fRows.length st.fRows) (hrow : RowsOk st) (h0 : 0 ≤ st.fTxg) : Calls Tryz.prog 85 #[sV a0 c0 a1 c1 a2 c2 a4 c4 a6 c6 st, tV t] w0 fun e w' => e = .returned (.bool (tabF st t).isSome) ∧ Below w0.heap.size w0 w' := by
 have HR := Bx.mk hR; clear hR
 have HS := Bx.mk (St.start w0)
 refine wc_enter Tryz.func85 rfl Tryz.ntmps85 [(0, sV a0 c0 a1 c1 a2 c2 a4 c4 a6 c6 st), (1, tV t)] ⟨rfl, rfl, trivial⟩ rfl ?_; intro a HF
 refine wp_sr ?_
 refine wl_box rfl HF rfl (HF.ev rfl) (Z := [.slice a0 st.fRows.length c0, .slice a1 st.fSpace.fRefs.length c1, .slice a2 st.fSpace.fLast.length c2, .int .i64 st.fTxg, .slice a4 st.fGone.length c4, .int .i64 st.fKeep, .slice a6 st.fDead.length c6, .bool st.fSame]) rfl rfl rfl rfl HS.out ?_; clear HF HS a; intro a w1 b1 HF HS; replace HS := Bx.mk HS
 refine wl_box rfl HF rfl (HF.ev rfl) (Z := [.int .i64 t.fRoot.fAt, .int .i64 t.fRoot.fBirth, .int .i64 t.fRoot.fSize, .int .i64 t.fRoot.fSum, .int .i64 t.fRoot.fLevel, .int .i64 t.fDepth, .int .i64 t.fMany]) rfl rfl rfl rfl HS.out ?_; clear HF HS a; intro a w2 b2 HF HS; replace HS := Bx.mk HS
 refine za HF ?_;clear HF a;intro a HF
 refine wl_ne ?_
 refine wp_seq ?_
 refine wp_sr ?_
 refine zy HF (ylr (cs := [.slice a0 st.fRows.length c0, .slice a1 st.fSpace.fRefs.length c1, .slice a2 st.fSpace.fLast.length c2, .int .i64 st.fTxg, .slice a4 st.fGone.length c4, .int .i64 st.fKeep, .slice a6 st.fDead.length c6, .bool st.fSame]) rfl (HF.ev rfl) ((HS.out.box 1 rfl).sub 0 8)) ?_;clear HF a;intro a HF
 refine zy HF (ylr (cs := [.int .i64 t.fRoot.fAt, .int .i64 t.fRoot.fBirth, .int .i64 t.fRoot.fSize, .int .i64 t.fRoot.fSum, .int .i64 t.fRoot.fLevel, .int .i64 t.fDepth, .int .i64 t.fMany]) rfl (HF.ev rfl) ((HS.out.box 0 rfl).sub 0 7)) ?_;clear HF a;intro a HF
 refine wl_callB rfl HF rfl (enter_of Tryz.func76 (by kernel_rfl) rfl) (args := #[sV a0 c0 a1 c1 a2 c2 a4 c4 a6 c6 st, tV t]) rfl (v := .bool (okS st t)) (l8Ok_any a0 c0 a1 c1 a2 c2 a4 c4 a6 c6 st t _ (HR.out.below HS.out.bel) hrow) rfl rfl HS.out ?_; clear HF HS a; intro w3 a HS HF; replace HS := Bx.mk HS
 refine zy HF (yl_not rfl (HF.ev rfl)) ?_;clear HF a;intro a HF
 refine wl_ne ?_
 refine HF.cases 13 rfl (fun cc1 _ => ?_) fun cc1 _ => ?_
 ·clear HF;rename_i HF
  refine wc_true HF rfl ?_
  refine wp_sr ?_
  refine za HF ?_;clear HF a;intro a HF
  refine wl_ne ?_
  refine wp_ret ?_
  refine ex_then_ret ?_
  refine bp_ret1 HF Tryz.results85 (HF.res rfl) ?_
  exact ⟨by rw [tabF_none (okS_none h0 (by simpa using cc1))]; rfl, HS.out.bel⟩
 ·clear HF;rename_i HF
  refine wc_false HF rfl ?_
  refine wp_skip ?_
  refine ex_then ?_
  refine wp_seq ?_
  have htk : okS st t = true := by simpa using cc1
  obtain ⟨l, hlf⟩ := okS_some h0 htk; obtain ⟨x, X⟩ := treeX h0 hlf; have hll := X.len; have hmm := X.many; have hlm : (l.map (readT st)).length = l.length := List.length_map ..; have h16 := leaves_16 hlf
  refine wp_region_lit ?_
  refine zy HF (ylr (cs := [.slice a0 st.fRows.length c0, .slice a1 st.fSpace.fRefs.length c1, .slice a2 st.fSpace.fLast.length c2, .int .i64 st.fTxg, .slice a4 st.fGone.length c4, .int .i64 st.fKeep, .slice a6 st.fDead.length c6, .bool st.fSame]) rfl (HF.ev rfl) ((HS.out.box 1 rfl).sub 0 8)) ?_;clear HF a;intro a HF
  refine zy HF (ylr (cs := [.int .i64 t.fRoot.fAt, .int .i64 t.fRoot.fBirth, .int .i64 t.fRoot.fSize, .int .i64 t.fRoot.fSum, .int .i64 t.fRoot.fLevel, .int .i64 t.fDepth, .int .i64 t.fMany]) rfl (HF.ev rfl) ((HS.out.box 0 rfl).sub 0 7)) ?_;clear HF a;intro a HF
  refine wl_call rfl HF rfl (enter_of Tryz.func77 (by kernel_rfl) rfl) (args := #[sV a0 c0 a1 c1 a2 c2 a4 c4 a6 c6 st, tV t]) rfl (l8Texts_x a0 c0 a1 c1 a2 c2 a4 c4 a6 c6 st t X _ (HR.out.below HS.out.bel) hrow) rfl rfl ?_
  rintro _ w4 ⟨ao3, cp3, rfl, hs⟩
  refine ⟨_, rfl, ?_⟩
  replace HS := Bx.mk (HS.out.add hs);clear hs HF a;intro a HF
  try dsimp only [List.eraseIdx] at HS
  refine za HF ?_;clear HF a;intro a HF
  refine wl_ne ?_
  refine wp_seq ?_
  refine wp_sr ?_
  refine za HF ?_;clear HF a;intro a HF
  refine wl_ne ?_
  refine wp_block ?_
  refine wc_loop (ι := Nat) (fun k a w => ∃ (qs : List (Option NodeD)), (k ≤ l.length ∧ tabL st l = (tabL st (l.drop k)).map (qs ++ ·)) ∧ Fr 43 a [(2, .pointer (some ⟨b1, 0, none⟩)), (3, .pointer (some ⟨b2, 0, none⟩)), (5, .slice ao3 ((l.map (readT st)).length) cp3), (6, .int .i64 (k : Int))] ∧ St w0 ([rowA encS 1 9 (.slice ao3 ((l.map (readT st)).length) cp3) (l.map (readT st)), boxA b2 7 45 (tV t), boxA b1 8 41 (sV a0 c0 a1 c1 a2 c2 a4 c4 a6 c6 st)]) w) (fun k => l.length - k) 0 ⟨[], ⟨Nat.zero_le _, mapL_nil⟩, HF.less _ ⟨rfl, rfl, rfl, rfl, trivial⟩, HS.out⟩ ?_
  clear HF HS; clear a
  rintro k a w5 ⟨qs, ⟨hk, htl⟩, HF, HS⟩
  replace HS := Bx.mk HS
  refine wp_seq ?_
  refine wp_sr ?_
  refine zm HF ?_;clear HF a;intro a HF
  refine zy HF (yfa 6 rfl (HF.ev rfl)) ?_;clear HF a;intro a HF
  refine zy HF (ylo (v := .int .i64 t.fMany) rfl (HF.ev rfl) (((HS.out.box 1 rfl).cell 6).trans rfl)) ?_;clear HF a;intro a HF
  refine zy HF (yl_lssI rfl (HF.ev rfl) (HF.ev rfl)) ?_;clear HF a;intro a HF
  refine wl_ne ?_
  refine HF.cases 20 rfl (fun cc2 _ => ?_) fun cc2 _ => ?_
  ·clear HF;rename_i HF
   have dcc2 := of_decide_eq_true cc2
   refine wc_true HF rfl ?_
   refine wp_skip ?_
   refine ex_then ?_
   refine wp_seq ?_
   refine wp_block ?_
   refine wp_seq ?_
   have hrt := readT_le hrow (l.getD k PtrD.zero)
   obtain ⟨g4, rfl, _, _, _, _⟩ := HS.out.rowOpen 0 rfl (by omega)
   refine wp_region_lit ?_
   refine zr 2 HF rfl ?_;clear HF a;intro a HF
   refine zy HF (yl_indexAddr (e := 9) (i := k) (size := 1) rfl (HF.ev rfl) (HF.ev rfl) (by kernel_rfl) rfl (by omega)) ?_;clear HF a;intro a HF
   refine zy HF (ylo (v := .string (readT st (l.getD k PtrD.zero))) rfl (HF.ev rfl) (HS.out.elem1 encS_len 0 rfl (map_get (by omega)) rfl)) ?_;clear HF a;intro a HF
   refine za HF ?_;clear HF a;intro a HF
   refine wl_ne ?_
   refine wp_seq ?_
   refine wp_sr ?_
   refine zm HF ?_;clear HF a;intro a HF
   refine zy HF (yl_eqlS rfl (HF.ev rfl) (HF.ev rfl)) ?_;clear HF a;intro a HF
   refine wl_ne ?_
   refine HF.cases 28 rfl (fun cc3 _ => ?_) fun cc3 _ => ?_
   ·clear HF;rename_i HF
    refine wc_true HF rfl ?_
    refine wp_exit ?_
    refine ex_then_exit ?_
    refine ex_block_hit ?_
    refine ex_then ?_
    refine wp_region_lit ?_
    refine zm HF ?_;clear HF a;intro a HF
    refine zy HF (yl_addI rfl (HF.ev rfl) (HF.ev rfl) (i64w (by omega))) ?_;clear HF a;intro a HF
    refine za HF ?_;clear HF a;intro a HF
    refine wl_ne ?_
    have hstep := tab_step htl (show k < l.length by omega) (tabL_hole (leaf_hole hlf (by omega) cc3))
    exact ⟨(k + 1), ⟨qs ++ [none], ⟨by omega, hstep⟩, HF.less _ ⟨rfl, rfl, rfl, rfl, trivial⟩, HS.out⟩, (by omega)⟩
   ·clear HF;rename_i HF
    refine wc_false HF rfl ?_
    refine wp_skip ?_
    refine ex_then ?_
    refine wp_sr ?_
    refine zm HF ?_;clear HF a;intro a HF
    refine wl_call rfl HF rfl (enter_of Tryz.func87 (by kernel_rfl) rfl) (args := #[.string (readT st (l.getD k PtrD.zero))]) rfl (specNodeGet_any (readT st (l.getD k PtrD.zero)) _ hrt) rfl rfl ?_
    rintro _ w6 (⟨n, hno, hnb, rfl, hb⟩ | ⟨hnn, rfl, hb⟩)
    ·skip
     refine ⟨_, rfl, ?_⟩; replace HS := Bx.mk (HS.out.later hb);clear hb HF a;intro a HF
     refine zr 3 HF rfl ?_;clear HF a;intro a HF
     refine wl_alloc rfl HF rfl rfl rfl (Z := [.int .i64 0, .int .i64 0, .int .i64 0, .int .i64 0, .int .i64 0, .int .i64 0, .int .i64 0, .int .i64 0, .int .i64 0, .int .i64 0]) (by kernel_rfl) rfl HS.out ?_; clear HF HS a; intro a w7 b5 HF HS; replace HS := Bx.mk HS
     refine wl_storeBox rfl HF rfl rfl (HF.ev rfl) (HF.ev rfl) HS.out 0 rfl (cells_lit [.int .i64 n.fKind, .int .i64 n.fLinks, .int .i64 n.fSize, .int .i64 n.fTree.fRoot.fAt, .int .i64 n.fTree.fRoot.fBirth, .int .i64 n.fTree.fRoot.fSize, .int .i64 n.fTree.fRoot.fSum, .int .i64 n.fTree.fRoot.fLevel, .int .i64 n.fTree.fDepth, .int .i64 n.fTree.fMany] rfl rfl) (by kernel_rfl) ?_; clear HS; intro w8 HS; replace HS := Bx.mk HS
     try dsimp only [List.set] at HS
     refine za HF ?_;clear HF a;intro a HF
     refine wl_ne ?_
     refine wp_sr ?_
     refine zr 3 HF rfl ?_;clear HF a;intro a HF
     refine zg HF (ylr (cs := [.slice a0 st.fRows.length c0, .slice a1 st.fSpace.fRefs.length c1, .slice a2 st.fSpace.fLast.length c2, .int .i64 st.fTxg, .slice a4 st.fGone.length c4, .int .i64 st.fKeep, .slice a6 st.fDead.length c6, .bool st.fSame]) rfl (HF.ev rfl) ((HS.out.box 3 rfl).sub 0 8)) ?_;clear HF a;intro a HF
     refine zg HF (yfa 3 rfl (HF.ev rfl)) ?_;clear HF a;intro a HF
     refine zg HF (ylr (cs := [.int .i64 n.fTree.fRoot.fAt, .int .i64 n.fTree.fRoot.fBirth, .int .i64 n.fTree.fRoot.fSize, .int .i64 n.fTree.fRoot.fSum, .int .i64 n.fTree.fRoot.fLevel, .int .i64 n.fTree.fDepth, .int .i64 n.fTree.fMany]) rfl (HF.ev rfl) ((HS.out.box 0 rfl).sub 3 7)) ?_;clear HF a;intro a HF
     refine wl_callBg HF rfl rfl rfl rfl (enter_of Tryz.func76 (by kernel_rfl) rfl) (args := #[sV a0 c0 a1 c1 a2 c2 a4 c4 a6 c6 st, tV n.fTree]) rfl (v := .bool (okS st n.fTree)) (l8Ok_any a0 c0 a1 c1 a2 c2 a4 c4 a6 c6 st n.fTree _ (HR.out.below HS.out.bel) hrow) rfl rfl HS.out ?_; clear HF HS a; intro w9 a HS HF; replace HS := Bx.mk HS
     refine zr 2 HF rfl ?_;clear HF a;intro a HF
     refine wl_ne ?_
     refine HF.cases 42 rfl (fun cc4 _ => ?_) fun cc4 _ => ?_
     ·clear HF;rename_i HF
      refine wc_true HF rfl ?_
      refine wp_sr ?_
      refine za HF ?_;clear HF a;intro a HF
      refine wl_ne ?_
      refine wp_ret ?_
      refine ex_block_ret ?_
      refine ex_then_ret ?_
      refine ex_then_ret ?_
      refine ex_block_ret ?_
      refine ex_then_ret ?_
      refine bp_ret1 HF Tryz.results85 (HF.res rfl) ?_
      have hto : treeOk st n.fTree = false := by have h : okS st n.fTree = false := (by simpa using cc4); rw [okS_eq h0] at h; exact h
      exact ⟨by rw [tabF_some hlf, tab_stop htl (show k < l.length by omega) (tabL_tree (leaf_full cc3) (nodeG_yes hno hnb) hto)]; rfl, HS.out.bel⟩
     ·clear HF;rename_i HF
      refine wc_false HF rfl ?_
      refine wp_skip ?_
      refine ex_block ?_
      refine ex_then ?_
      refine wp_region_lit ?_
      refine zm HF ?_;clear HF a;intro a HF
      refine zy HF (yl_addI rfl (HF.ev rfl) (HF.ev rfl) (i64w (by omega))) ?_;clear HF a;intro a HF
      refine za HF ?_;clear HF a;intro a HF
      refine wl_ne ?_
      have hto : treeOk st n.fTree = true := by have h : okS st n.fTree = true := (by simpa using cc4); rw [okS_eq h0] at h; exact h
      have hstep := tab_step htl (show k < l.length by omega) (tabL_yes (leaf_full cc3) (nodeG_yes hno hnb) hto)
      replace HS:=Bx.mk (((HS.out.pick 3 rfl).pick 3 rfl).pick 3 rfl)
      exact ⟨(k + 1), ⟨qs ++ [some n], ⟨by omega, hstep⟩, HF.less _ ⟨rfl, rfl, rfl, rfl, trivial⟩, (HS.out.erase 3)⟩, (by omega)⟩
    ·skip
     refine ⟨_, rfl, ?_⟩; replace HS := Bx.mk (HS.out.later hb);clear hb HF a;intro a HF
     refine zr 3 HF rfl ?_;clear HF a;intro a HF
     refine wl_alloc rfl HF rfl rfl rfl (Z := [.int .i64 0, .int .i64 0, .int .i64 0, .int .i64 0, .int .i64 0, .int .i64 0, .int .i64 0, .int .i64 0, .int .i64 0, .int .i64 0]) (by kernel_rfl) rfl HS.out ?_; clear HF HS a; intro a w10 b6 HF HS; replace HS := Bx.mk HS
     refine wl_storeBox rfl HF rfl rfl (HF.ev rfl) (HF.ev rfl) HS.out 0 rfl (cells_lit [.int .i64 0, .int .i64 0, .int .i64 0, .int .i64 0, .int .i64 0, .int .i64 0, .int .i64 0, .int .i64 0, .int .i64 0, .int .i64 0] rfl rfl) (by kernel_rfl) ?_; clear HS; intro w11 HS; replace HS := Bx.mk HS
     try dsimp only [List.set] at HS
     refine za HF ?_;clear HF a;intro a HF
     refine wl_ne ?_
     refine wp_sr ?_
     refine zr 9 HF rfl ?_;clear HF a;intro a HF
     refine wl_ne ?_
     refine wc_true HF rfl ?_
     refine wp_sr ?_
     refine za HF ?_;clear HF a;intro a HF
     refine wl_ne ?_
     refine wp_ret ?_
     refine ex_block_ret ?_
     refine ex_then_ret ?_
     refine ex_then_ret ?_
     refine ex_block_ret ?_
     refine ex_then_ret ?_
     refine bp_ret1 HF Tryz.results85 (HF.res rfl) ?_
     exact ⟨by rw [tabF_some hlf, tab_stop htl (show k < l.length by omega) (tabL_bad (leaf_full cc3) (nodeG_no hnn))]; rfl, HS.out.bel⟩
  ·clear HF;rename_i HF
   have dcc2 := of_decide_eq_false cc2
   refine wc_false HF rfl ?_
   refine wp_exit ?_
   refine ex_then_exit ?_
   refine ex_then_exit ?_
   refine ex_block_hit ?_
   refine ex_then ?_
   refine wp_sr ?_
   refine za HF ?_;clear HF a;intro a HF
   refine wl_ne ?_
   refine wp_ret ?_
   refine bp_ret1 HF Tryz.results85 (HF.res rfl) ?_
   exact ⟨by rw [tabF_some hlf, tab_end htl (by omega)]; rfl, HS.out.bel⟩

theorem tabAt_some {st : StoreD} {p : PtrD} {o : Option NodeD} {n : NodeD} (h : tabAt st p o) (hn : n.ok = true) (hb : nodeB n = readT st p) : o = some n := by
  rcases h with ⟨hh, _⟩ | ⟨_, m, rfl, hm, _⟩
  · rw [readT_hole hh] at hb; exact absurd hb (nodeB_pos hn)
  · rw [nodeG_yes hn hb] at hm; exact hm.symm
theorem tabAt_none {st : StoreD} {p : PtrD} {o : Option NodeD} (h : tabAt st p o) (hn : ∀ n : NodeD, n.ok = true → nodeB n = readT st p → False) : o = none := by
  rcases h with ⟨_, rfl⟩ | ⟨_, m, rfl, hm, _⟩
  · rfl
  · have := nodeG_is hm; exact (hn m this.1 this.2).elim

theorem l11All_any (a0 : Option Addr) (c0 : Nat) (a1 : Option Addr) (c1 : Nat) (a2 : Option Addr) (c2 : Nat) (a4 : Option Addr) (c4 : Nat) (a6 : Option Addr) (c6 : Nat) (st : StoreD) (t : TreeD) {ns : List (Option NodeD)} (htb : tabF st t = some ns) (w0 : World) (hR : Rd encS 1 w0 a0 st.fRows.length st.fRows) (hrow : RowsOk st) (h0 : 0 ≤ st.fTxg) : Calls Tryz.prog 50 #[sV a0 c0 a1 c1 a2 c2 a4 c4 a6 c6 st, tV t] w0 fun e w' => ∃ ao cp, e = .returned (.slice ao (allTab st t ns).length cp) ∧ St w0 [rowA PtrD.cells 5 43 (.slice ao (allTab st t ns).length cp) (allTab st t ns)] w' := by
 have HR := Bx.mk hR; clear hR
 have HS := Bx.mk (St.start w0)
 obtain ⟨l, hlf, htL, hlen⟩ := tabF_is htb; obtain ⟨x, X⟩ := treeX h0 hlf; have hll := X.len; have hmm := X.many; have hlm : (l.map (readT st)).length = l.length := List.length_map ..; have h16 := leaves_16 hlf; have hwf := tab_wf htb h0
 refine wc_enter Tryz.func50 rfl Tryz.ntmps50 [(0, sV a0 c0 a1 c1 a2 c2 a4 c4 a6 c6 st), (1, tV t)] ⟨rfl, rfl, trivial⟩ rfl ?_; intro a HF
 refine wp_sr ?_
 refine wl_box rfl HF rfl (HF.ev rfl) (Z := [.slice a0 st.fRows.length c0, .slice a1 st.fSpace.fRefs.length c1, .slice a2 st.fSpace.fLast.length c2, .int .i64 st.fTxg, .slice a4 st.fGone.length c4, .int .i64 st.fKeep, .slice a6 st.fDead.length c6, .bool st.fSame]) rfl rfl rfl rfl HS.out ?_; clear HF HS a; intro a w1 b1 HF HS; replace HS := Bx.mk HS
 refine wl_box rfl HF rfl (HF.ev rfl) (Z := [.int .i64 t.fRoot.fAt, .int .i64 t.fRoot.fBirth, .int .i64 t.fRoot.fSize, .int .i64 t.fRoot.fSum, .int .i64 t.fRoot.fLevel, .int .i64 t.fDepth, .int .i64 t.fMany]) rfl rfl rfl rfl HS.out ?_; clear HF HS a; intro a w2 b2 HF HS; replace HS := Bx.mk HS
 refine za HF ?_;clear HF a;intro a HF
 refine wl_ne ?_
 refine wp_sr ?_
 refine zy HF (ylr (cs := [.slice a0 st.fRows.length c0, .slice a1 st.fSpace.fRefs.length c1, .slice a2 st.fSpace.fLast.length c2, .int .i64 st.fTxg, .slice a4 st.fGone.length c4, .int .i64 st.fKeep, .slice a6 st.fDead.length c6, .bool st.fSame]) rfl (HF.ev rfl) ((HS.out.box 1 rfl).sub 0 8)) ?_;clear HF a;intro a HF
 refine zy HF (ylr (cs := [.int .i64 t.fRoot.fAt, .int .i64 t.fRoot.fBirth, .int .i64 t.fRoot.fSize, .int .i64 t.fRoot.fSum, .int .i64 t.fRoot.fLevel, .int .i64 t.fDepth, .int .i64 t.fMany]) rfl (HF.ev rfl) ((HS.out.box 0 rfl).sub 0 7)) ?_;clear HF a;intro a HF
 refine wl_call rfl HF rfl (enter_of Tryz.func86 (by kernel_rfl) rfl) (args := #[sV a0 c0 a1 c1 a2 c2 a4 c4 a6 c6 st, tV t]) rfl (l8All_any a0 c0 a1 c1 a2 c2 a4 c4 a6 c6 st t _ (HR.out.below HS.out.bel) hrow hwf.2) rfl rfl ?_
 rintro _ w3 ⟨ao3, cp3, rfl, hs⟩
 refine ⟨_, rfl, ?_⟩
 replace HS := Bx.mk (HS.out.add hs);clear hs HF a;intro a HF
 try dsimp only [List.eraseIdx] at HS
 refine za HF ?_;clear HF a;intro a HF
 refine wl_ne ?_
 refine wp_sr ?_
 refine zy HF (ylr (cs := [.slice a0 st.fRows.length c0, .slice a1 st.fSpace.fRefs.length c1, .slice a2 st.fSpace.fLast.length c2, .int .i64 st.fTxg, .slice a4 st.fGone.length c4, .int .i64 st.fKeep, .slice a6 st.fDead.length c6, .bool st.fSame]) rfl (HF.ev rfl) ((HS.out.box 2 rfl).sub 0 8)) ?_;clear HF a;intro a HF
 refine zy HF (ylr (cs := [.int .i64 t.fRoot.fAt, .int .i64 t.fRoot.fBirth, .int .i64 t.fRoot.fSize, .int .i64 t.fRoot.fSum, .int .i64 t.fRoot.fLevel, .int .i64 t.fDepth, .int .i64 t.fMany]) rfl (HF.ev rfl) ((HS.out.box 1 rfl).sub 0 7)) ?_;clear HF a;intro a HF
 refine wl_call rfl HF rfl (enter_of Tryz.func77 (by kernel_rfl) rfl) (args := #[sV a0 c0 a1 c1 a2 c2 a4 c4 a6 c6 st, tV t]) rfl (l8Texts_x a0 c0 a1 c1 a2 c2 a4 c4 a6 c6 st t X _ (HR.out.below HS.out.bel) hrow) rfl rfl ?_
 rintro _ w4 ⟨ao4, cp4, rfl, hs⟩
 refine ⟨_, rfl, ?_⟩
 replace HS := Bx.mk (HS.out.add hs);clear hs HF a;intro a HF
 try dsimp only [List.eraseIdx] at HS
 refine za HF ?_;clear HF a;intro a HF
 refine wl_ne ?_
 refine wp_seq ?_
 refine wp_seq ?_
 replace HS:=Bx.mk (HS.out.pick 1 rfl)
 refine wp_region_lit ?_
 refine za HF ?_;clear HF a;intro a HF
 refine wl_ne ?_
 refine wp_block ?_
 have hx0 : allT st t = allT st t ++ allN st (ns.take 0) := by rw [List.take_zero]; exact (List.append_nil _).symm
 refine wc_loop (ι := Nat) (fun k a w => ∃ (aoX : Option Addr) (cpX : Nat) (xs : List PtrD), (k ≤ ns.length ∧ xs = allT st t ++ allN st (ns.take k)) ∧ Fr 38 a [(2, .pointer (some ⟨b1, 0, none⟩)), (3, .pointer (some ⟨b2, 0, none⟩)), (6, .slice ao4 ((l.map (readT st)).length) cp4), (5, .slice aoX xs.length cpX), (7, .int .i64 (k : Int))] ∧ St w0 ([rowA PtrD.cells 5 43 (.slice aoX xs.length cpX) xs, rowA encS 1 9 (.slice ao4 ((l.map (readT st)).length) cp4) (l.map (readT st)), boxA b2 7 45 (tV t), boxA b1 8 41 (sV a0 c0 a1 c1 a2 c2 a4 c4 a6 c6 st)]) w) (fun k => ns.length - k) 0 ⟨_, _, allT st t, ⟨Nat.zero_le _, hx0⟩, HF.less _ ⟨rfl, rfl, rfl, rfl, rfl, trivial⟩, HS.out⟩ ?_
 clear HF HS; clear a
 rintro k a w5 ⟨aoX, cpX, xs, ⟨hk, hxs⟩, HF, HS⟩
 replace HS := Bx.mk HS
 have hxl : xs.length = (allT st t).length + (allN st (ns.take k)).length := by rw [hxs, List.length_append]
 have hx1 := allT_21 hwf.2; have hx2 := allN_len htb h0 k hk
 refine wp_seq ?_
 refine wp_sr ?_
 refine zr 2 HF rfl ?_;clear HF a;intro a HF
 refine zy HF (yl_lenL (e := 9) (size := 1) rfl (HF.ev rfl) (by kernel_rfl)) ?_;clear HF a;intro a HF
 refine zy HF (yl_lssI rfl (HF.ev rfl) (HF.ev rfl)) ?_;clear HF a;intro a HF
 refine wl_ne ?_
 refine HF.cases 19 rfl (fun cc1 _ => ?_) fun cc1 _ => ?_
 ·clear HF;rename_i HF
  have dcc1 := of_decide_eq_true cc1
  refine wc_true HF rfl ?_
  refine wp_skip ?_
  refine ex_then ?_
  refine wp_seq ?_
  refine wp_block ?_
  refine wp_seq ?_
  have hrt := readT_le hrow (l.getD k PtrD.zero)
  obtain ⟨g5, rfl, _, _, _, _⟩ := HS.out.rowOpen 1 rfl (by omega)
  refine wp_region_lit ?_
  refine zr 2 HF rfl ?_;clear HF a;intro a HF
  refine zy HF (yl_indexAddr (e := 9) (i := k) (size := 1) rfl (HF.ev rfl) (HF.ev rfl) (by kernel_rfl) rfl (by omega)) ?_;clear HF a;intro a HF
  refine zy HF (ylo (v := .string (readT st (l.getD k PtrD.zero))) rfl (HF.ev rfl) (HS.out.elem1 encS_len 1 rfl (map_get (by omega)) rfl)) ?_;clear HF a;intro a HF
  have hat := tabL_at htL k (by omega)
  refine wl_call rfl HF rfl (enter_of Tryz.func87 (by kernel_rfl) rfl) (args := #[.string (readT st (l.getD k PtrD.zero))]) rfl (specNodeGet_any (readT st (l.getD k PtrD.zero)) _ hrt) rfl rfl ?_
  rintro _ w6 (⟨n, hno, hnb, rfl, hb⟩ | ⟨hnn, rfl, hb⟩)
  ·skip
   have hnk : ns.getD k none = some n := tabAt_some hat hno hnb
   refine ⟨_, rfl, ?_⟩; replace HS := Bx.mk (HS.out.later hb);clear hb HF a;intro a HF
   refine zr 3 HF rfl ?_;clear HF a;intro a HF
   refine wl_alloc rfl HF rfl rfl rfl (Z := [.int .i64 0, .int .i64 0, .int .i64 0, .int .i64 0, .int .i64 0, .int .i64 0, .int .i64 0, .int .i64 0, .int .i64 0, .int .i64 0]) (by kernel_rfl) rfl HS.out ?_; clear HF HS a; intro a w7 b6 HF HS; replace HS := Bx.mk HS
   refine wl_storeBox rfl HF rfl rfl (HF.ev rfl) (HF.ev rfl) HS.out 0 rfl (cells_lit [.int .i64 n.fKind, .int .i64 n.fLinks, .int .i64 n.fSize, .int .i64 n.fTree.fRoot.fAt, .int .i64 n.fTree.fRoot.fBirth, .int .i64 n.fTree.fRoot.fSize, .int .i64 n.fTree.fRoot.fSum, .int .i64 n.fTree.fRoot.fLevel, .int .i64 n.fTree.fDepth, .int .i64 n.fTree.fMany] rfl rfl) (by kernel_rfl) ?_; clear HS; intro w8 HS; replace HS := Bx.mk HS
   try dsimp only [List.set] at HS
   refine za HF ?_;clear HF a;intro a HF
   refine wl_ne ?_
   refine wp_sr ?_
   refine zm HF ?_;clear HF a;intro a HF
   refine wl_ne ?_
   refine wc_true HF rfl ?_
   have htn := tab_node htb hnk; have hwfn := treeOk_wf htn.2 h0; have h21 := allT_21 hwfn.2
   refine wp_region_lit ?_
   refine zm HF ?_;clear HF a;intro a HF
   refine zy HF (ylr (cs := [.slice a0 st.fRows.length c0, .slice a1 st.fSpace.fRefs.length c1, .slice a2 st.fSpace.fLast.length c2, .int .i64 st.fTxg, .slice a4 st.fGone.length c4, .int .i64 st.fKeep, .slice a6 st.fDead.length c6, .bool st.fSame]) rfl (HF.ev rfl) ((HS.out.box 4 rfl).sub 0 8)) ?_;clear HF a;intro a HF
   refine zy HF (yfa 3 rfl (HF.ev rfl)) ?_;clear HF a;intro a HF
   refine zy HF (ylr (cs := [.int .i64 n.fTree.fRoot.fAt, .int .i64 n.fTree.fRoot.fBirth, .int .i64 n.fTree.fRoot.fSize, .int .i64 n.fTree.fRoot.fSum, .int .i64 n.fTree.fRoot.fLevel, .int .i64 n.fTree.fDepth, .int .i64 n.fTree.fMany]) rfl (HF.ev rfl) ((HS.out.box 0 rfl).sub 3 7)) ?_;clear HF a;intro a HF
   refine wl_call rfl HF rfl (enter_of Tryz.func86 (by kernel_rfl) rfl) (args := #[sV a0 c0 a1 c1 a2 c2 a4 c4 a6 c6 st, tV n.fTree]) rfl (l8All_any a0 c0 a1 c1 a2 c2 a4 c4 a6 c6 st n.fTree _ (HR.out.below HS.out.bel) hrow hwfn.2) rfl rfl ?_
   rintro _ w9 ⟨ao7, cp7, rfl, hs⟩
   refine ⟨_, rfl, ?_⟩
   replace HS := Bx.mk (HS.out.add hs);clear hs HF a;intro a HF
   try dsimp only [List.eraseIdx] at HS
   refine wl_appL rfl HF rfl rfl rfl (HF.ev rfl) (HF.ev rfl) elemQ PtrD.cells_len HS.out 2 (xs := xs) rfl (ys := allT st n.fTree) (St.rdOf HS.out PtrD.cells_len 0 rfl) (cells_one_Q _) (by unfold maxLen; omega) (by omega) ?_; clear HF HS a; intro ao8 cp9 w10 a HF HS; replace HS := Bx.mk HS
   try dsimp only [List.eraseIdx] at HS
   refine za HF ?_;clear HF a;intro a HF
   refine wpList_nil ?_
   refine ex_block ?_
   refine ex_then ?_
   refine wp_region_lit ?_
   refine zm HF ?_;clear HF a;intro a HF
   refine zy HF (yl_addI rfl (HF.ev rfl) (HF.ev rfl) (i64w (by omega))) ?_;clear HF a;intro a HF
   refine za HF ?_;clear HF a;intro a HF
   refine wl_ne ?_
   have hz0 : xs.length + (allT st n.fTree).length = (xs ++ allT st n.fTree).length := (List.length_append ..).symm
   rw [hz0] at HS HF
   have hz : xs ++ allT st n.fTree = allT st t ++ allN st (ns.take (k + 1)) := by rw [allN_take (by omega), hnk, hxs, List.append_assoc]
   replace HS:=Bx.mk ((((HS.out.pick 5 rfl).pick 5 rfl).pick 5 rfl).pick 5 rfl)
   exact ⟨(k + 1), ⟨_, _, xs ++ allT st n.fTree, ⟨by omega, hz⟩, HF.less _ ⟨rfl, rfl, rfl, rfl, rfl, trivial⟩, ((HS.out.erase 5).erase 4)⟩, (by omega)⟩
  ·skip
   have hnk : ns.getD k none = none := tabAt_none hat hnn
   refine ⟨_, rfl, ?_⟩; replace HS := Bx.mk (HS.out.later hb);clear hb HF a;intro a HF
   refine zr 3 HF rfl ?_;clear HF a;intro a HF
   refine wl_alloc rfl HF rfl rfl rfl (Z := [.int .i64 0, .int .i64 0, .int .i64 0, .int .i64 0, .int .i64 0, .int .i64 0, .int .i64 0, .int .i64 0, .int .i64 0, .int .i64 0]) (by kernel_rfl) rfl HS.out ?_; clear HF HS a; intro a w11 b10 HF HS; replace HS := Bx.mk HS
   refine wl_storeBox rfl HF rfl rfl (HF.ev rfl) (HF.ev rfl) HS.out 0 rfl (cells_lit [.int .i64 0, .int .i64 0, .int .i64 0, .int .i64 0, .int .i64 0, .int .i64 0, .int .i64 0, .int .i64 0, .int .i64 0, .int .i64 0] rfl rfl) (by kernel_rfl) ?_; clear HS; intro w12 HS; replace HS := Bx.mk HS
   try dsimp only [List.set] at HS
   refine za HF ?_;clear HF a;intro a HF
   refine wl_ne ?_
   refine wp_sr ?_
   refine zm HF ?_;clear HF a;intro a HF
   refine wl_ne ?_
   refine wc_false HF rfl ?_
   refine wp_skip ?_
   refine ex_block ?_
   refine ex_then ?_
   refine wp_region_lit ?_
   refine zm HF ?_;clear HF a;intro a HF
   refine zy HF (yl_addI rfl (HF.ev rfl) (HF.ev rfl) (i64w (by omega))) ?_;clear HF a;intro a HF
   refine za HF ?_;clear HF a;intro a HF
   refine wl_ne ?_
   have hz : xs = allT st t ++ allN st (ns.take (k + 1)) := by rw [allN_take (by omega), hnk]; simp only [List.append_nil]; exact hxs
   replace HS:=Bx.mk ((((HS.out.pick 4 rfl).pick 4 rfl).pick 4 rfl).pick 4 rfl)
   exact ⟨(k + 1), ⟨_, _, xs, ⟨by omega, hz⟩, HF.less _ ⟨rfl, rfl, rfl, rfl, rfl, trivial⟩, (HS.out.erase 4)⟩, (by omega)⟩
 ·clear HF;rename_i HF
  have dcc1 := of_decide_eq_false cc1
  refine wc_false HF rfl ?_
  refine wp_exit ?_
  refine ex_then_exit ?_
  refine ex_then_exit ?_
  refine ex_block_hit ?_
  refine ex_then ?_
  refine wp_sr ?_
  refine zr 2 HF rfl ?_;clear HF a;intro a HF
  refine wl_ne ?_
  refine wp_ret ?_
  refine bp_ret1 HF Tryz.results50 (HF.res rfl) ?_
  obtain rfl : k = ns.length := by omega
  rw [List.take_length] at hxs; have hx9 : xs = allTab st t ns := hxs; subst hx9
  exact ⟨_, _, rfl, (((HS.out.erase 3).erase 2).erase 1)⟩

theorem specTableOk_any (a0 : Option Addr) (c0 : Nat) (a1 : Option Addr) (c1 : Nat) (a2 : Option Addr) (c2 : Nat) (a4 : Option Addr) (c4 : Nat) (a6 : Option Addr) (c6 : Nat) (st : StoreD) (t : TreeD) (w0 : World) (hV0 : StoreD.Reads w0 (sV a0 c0 a1 c1 a2 c2 a4 c4 a6 c6 st) st) (hf : st.Fit) (hi : -9223372036854775808 ≤ st.fTxg) : Calls Tryz.prog 49 #[sV a0 c0 a1 c1 a2 c2 a4 c4 a6 c6 st, tV t] w0 fun e w' => e = .returned (.bool (tabT st t).isSome) ∧ Below w0.heap.size w0 w' := by
 have hV := Bx.mk hV0; clear hV0
 have HS := Bx.mk (St.start w0)
 refine wc_enter Tryz.func49 rfl Tryz.ntmps49 [(0, sV a0 c0 a1 c1 a2 c2 a4 c4 a6 c6 st), (1, tV t)] ⟨rfl, rfl, trivial⟩ rfl ?_; intro a HF
 refine wp_sr ?_
 refine wl_box rfl HF rfl (HF.ev rfl) (Z := [.slice a0 st.fRows.length c0, .slice a1 st.fSpace.fRefs.length c1, .slice a2 st.fSpace.fLast.length c2, .int .i64 st.fTxg, .slice a4 st.fGone.length c4, .int .i64 st.fKeep, .slice a6 st.fDead.length c6, .bool st.fSame]) rfl rfl rfl rfl HS.out ?_; clear HF HS a; intro a w1 b1 HF HS; replace HS := Bx.mk HS
 refine wl_box rfl HF rfl (HF.ev rfl) (Z := [.int .i64 t.fRoot.fAt, .int .i64 t.fRoot.fBirth, .int .i64 t.fRoot.fSize, .int .i64 t.fRoot.fSum, .int .i64 t.fRoot.fLevel, .int .i64 t.fDepth, .int .i64 t.fMany]) rfl rfl rfl rfl HS.out ?_; clear HF HS a; intro a w2 b2 HF HS; replace HS := Bx.mk HS
 refine za HF ?_;clear HF a;intro a HF
 refine wl_ne ?_
 refine wp_sr ?_
 refine zy HF (ylr (cs := [.slice a0 st.fRows.length c0, .slice a1 st.fSpace.fRefs.length c1, .slice a2 st.fSpace.fLast.length c2, .int .i64 st.fTxg, .slice a4 st.fGone.length c4, .int .i64 st.fKeep, .slice a6 st.fDead.length c6, .bool st.fSame]) rfl (HF.ev rfl) ((HS.out.box 1 rfl).sub 0 8)) ?_;clear HF a;intro a HF
 refine wl_callB rfl HF rfl (enter_of Tryz.func40 (by kernel_rfl) rfl) (args := #[sV a0 c0 a1 c1 a2 c2 a4 c4 a6 c6 st]) rfl (v := .bool st.ok) (specStoreOk_any _ st _ (hV.out.below HS.out.bel) hf hi) rfl rfl HS.out ?_; clear HF HS a; intro w3 a HS HF; replace HS := Bx.mk HS
 refine zm HF ?_;clear HF a;intro a HF
 refine HF.cases 7 rfl (fun cc1 _ => ?_) fun cc1 _ => ?_
 ·clear HF;rename_i HF
  have hsok : st.ok = true := by simpa using cc1
  have h0 : 0 ≤ st.fTxg := by have := (StoreD.ok_spec hsok).txg; omega
  refine zg HF (ylr (cs := [.slice a0 st.fRows.length c0, .slice a1 st.fSpace.fRefs.length c1, .slice a2 st.fSpace.fLast.length c2, .int .i64 st.fTxg, .slice a4 st.fGone.length c4, .int .i64 st.fKeep, .slice a6 st.fDead.length c6, .bool st.fSame]) rfl (HF.ev rfl) ((HS.out.box 1 rfl).sub 0 8)) ?_;clear HF a;intro a HF
  refine zg HF (ylr (cs := [.int .i64 t.fRoot.fAt, .int .i64 t.fRoot.fBirth, .int .i64 t.fRoot.fSize, .int .i64 t.fRoot.fSum, .int .i64 t.fRoot.fLevel, .int .i64 t.fDepth, .int .i64 t.fMany]) rfl (HF.ev rfl) ((HS.out.box 0 rfl).sub 0 7)) ?_;clear HF a;intro a HF
  refine wl_callBg HF rfl rfl rfl rfl (enter_of Tryz.func85 (by kernel_rfl) rfl) (args := #[sV a0 c0 a1 c1 a2 c2 a4 c4 a6 c6 st, tV t]) rfl (v := .bool ((tabF st t).isSome)) (l11Ok_any a0 c0 a1 c1 a2 c2 a4 c4 a6 c6 st t _ ((reads_rows hV.out).below HS.out.bel) (ok_rows hsok) h0) rfl rfl HS.out ?_; clear HF HS a; intro w4 a HS HF; replace HS := Bx.mk HS
  refine zr 2 HF rfl ?_;clear HF a;intro a HF
  refine wl_ne ?_
  refine wp_ret ?_
  refine bp_ret1 HF Tryz.results49 (HF.res rfl) ?_
  exact ⟨by rw [tabT_ok hsok], HS.out.bel⟩
 ·clear HF;rename_i HF
  have hsok : st.ok = false := by simpa using cc1
  refine zr 5 HF rfl ?_;clear HF a;intro a HF
  refine wl_ne ?_
  refine wp_ret ?_
  refine bp_ret1 HF Tryz.results49 (HF.res rfl) ?_
  exact ⟨by rw [tabT_no hsok]; rfl, HS.out.bel⟩

theorem specTableAll_any (a0 : Option Addr) (c0 : Nat) (a1 : Option Addr) (c1 : Nat) (a2 : Option Addr) (c2 : Nat) (a4 : Option Addr) (c4 : Nat) (a6 : Option Addr) (c6 : Nat) (st : StoreD) (t : TreeD) (w0 : World) (hV0 : StoreD.Reads w0 (sV a0 c0 a1 c1 a2 c2 a4 c4 a6 c6 st) st) (hf : st.Fit) (hi : -9223372036854775808 ≤ st.fTxg) : Calls Tryz.prog 19 #[sV a0 c0 a1 c1 a2 c2 a4 c4 a6 c6 st, tV t] w0 fun e w' => ∃ ao cp, e = .returned (.tuple #[.slice ao (tabAllF st t).length cp, .bool (tabT st t).isSome]) ∧ St w0 [rowA PtrD.cells 5 43 (.slice ao (tabAllF st t).length cp) (tabAllF st t)] w' := by
 have hV := Bx.mk hV0; clear hV0
 have HS := Bx.mk (St.start w0)
 refine wc_enter Tryz.func19 rfl Tryz.ntmps19 [(0, sV a0 c0 a1 c1 a2 c2 a4 c4 a6 c6 st), (1, tV t)] ⟨rfl, rfl, trivial⟩ rfl ?_; intro a HF
 refine wp_sr ?_
 refine wl_box rfl HF rfl (HF.ev rfl) (Z := [.slice a0 st.fRows.length c0, .slice a1 st.fSpace.fRefs.length c1, .slice a2 st.fSpace.fLast.length c2, .int .i64 st.fTxg, .slice a4 st.fGone.length c4, .int .i64 st.fKeep, .slice a6 st.fDead.length c6, .bool st.fSame]) rfl rfl rfl rfl HS.out ?_; clear HF HS a; intro a w1 b1 HF HS; replace HS := Bx.mk HS
 refine wl_box rfl HF rfl (HF.ev rfl) (Z := [.int .i64 t.fRoot.fAt, .int .i64 t.fRoot.fBirth, .int .i64 t.fRoot.fSize, .int .i64 t.fRoot.fSum, .int .i64 t.fRoot.fLevel, .int .i64 t.fDepth, .int .i64 t.fMany]) rfl rfl rfl rfl HS.out ?_; clear HF HS a; intro a w2 b2 HF HS; replace HS := Bx.mk HS
 refine zr 2 HF rfl ?_;clear HF a;intro a HF
 refine wl_ne ?_
 refine wp_seq ?_
 refine wp_sr ?_
 refine zy HF (ylr (cs := [.slice a0 st.fRows.length c0, .slice a1 st.fSpace.fRefs.length c1, .slice a2 st.fSpace.fLast.length c2, .int .i64 st.fTxg, .slice a4 st.fGone.length c4, .int .i64 st.fKeep, .slice a6 st.fDead.length c6, .bool st.fSame]) rfl (HF.ev rfl) ((HS.out.box 1 rfl).sub 0 8)) ?_;clear HF a;intro a HF
 refine zy HF (ylr (cs := [.int .i64 t.fRoot.fAt, .int .i64 t.fRoot.fBirth, .int .i64 t.fRoot.fSize, .int .i64 t.fRoot.fSum, .int .i64 t.fRoot.fLevel, .int .i64 t.fDepth, .int .i64 t.fMany]) rfl (HF.ev rfl) ((HS.out.box 0 rfl).sub 0 7)) ?_;clear HF a;intro a HF
 refine wl_callB rfl HF rfl (enter_of Tryz.func49 (by kernel_rfl) rfl) (args := #[sV a0 c0 a1 c1 a2 c2 a4 c4 a6 c6 st, tV t]) rfl (v := .bool ((tabT st t).isSome)) (specTableOk_any a0 c0 a1 c1 a2 c2 a4 c4 a6 c6 st t _ (hV.out.below HS.out.bel) hf hi) rfl rfl HS.out ?_; clear HF HS a; intro w3 a HS HF; replace HS := Bx.mk HS
 refine zy HF (yl_not rfl (HF.ev rfl)) ?_;clear HF a;intro a HF
 refine wl_ne ?_
 refine HF.cases 9 rfl (fun cc1 _ => ?_) fun cc1 _ => ?_
 ·clear HF;rename_i HF
  have hokt : (tabT st t).isSome = false := by simpa using cc1
  refine wc_true HF rfl ?_
  refine wp_sr ?_
  refine wl_empty (e := 43) (size := 5) rfl HF rfl rfl rfl (by kernel_rfl) HS.out ?_; clear HF HS a; intro a w4 b3 HF HS; replace HS := Bx.mk HS
  refine zr 2 HF rfl ?_;clear HF a;intro a HF
  refine wl_ne ?_
  refine wp_ret ?_
  refine ex_then_ret ?_
  refine bp_ret2 HF Tryz.results19 (HF.res rfl) (HF.res rfl) ?_
  have h : tabT st t = none := Option.isNone_iff_eq_none.1 (by simpa using hokt)
  have h2 := tabAllF_no h; exact ⟨(some ⟨b3, 0, none⟩), 0, by rw [h2, hokt] <;> rfl, by rw [h2]; exact ((((HS.out).nilRow PtrD.cells 5 43 (some ⟨b3, 0, none⟩)).erase 2).erase 1)⟩
 ·clear HF;rename_i HF
  have hokt : (tabT st t).isSome = true := by simpa using cc1
  refine wc_false HF rfl ?_
  refine wp_skip ?_
  refine ex_then ?_
  refine wp_seq ?_
  obtain ⟨ns, htT⟩ := Option.isSome_iff_exists.1 hokt; obtain ⟨hsok, htb⟩ := tabT_is htT; have h0 : 0 ≤ st.fTxg := by have := (StoreD.ok_spec hsok).txg; omega
  refine wp_region_lit ?_
  refine zy HF (ylr (cs := [.slice a0 st.fRows.length c0, .slice a1 st.fSpace.fRefs.length c1, .slice a2 st.fSpace.fLast.length c2, .int .i64 st.fTxg, .slice a4 st.fGone.length c4, .int .i64 st.fKeep, .slice a6 st.fDead.length c6, .bool st.fSame]) rfl (HF.ev rfl) ((HS.out.box 1 rfl).sub 0 8)) ?_;clear HF a;intro a HF
  refine zy HF (ylr (cs := [.int .i64 t.fRoot.fAt, .int .i64 t.fRoot.fBirth, .int .i64 t.fRoot.fSize, .int .i64 t.fRoot.fSum, .int .i64 t.fRoot.fLevel, .int .i64 t.fDepth, .int .i64 t.fMany]) rfl (HF.ev rfl) ((HS.out.box 0 rfl).sub 0 7)) ?_;clear HF a;intro a HF
  refine wl_call rfl HF rfl (enter_of Tryz.func50 (by kernel_rfl) rfl) (args := #[sV a0 c0 a1 c1 a2 c2 a4 c4 a6 c6 st, tV t]) rfl (l11All_any a0 c0 a1 c1 a2 c2 a4 c4 a6 c6 st t htb _ ((reads_rows hV.out).below HS.out.bel) (ok_rows hsok) h0) rfl rfl ?_
  rintro _ w5 ⟨ao4, cp4, rfl, hs⟩
  refine ⟨_, rfl, ?_⟩
  replace HS := Bx.mk (HS.out.add hs);clear hs HF a;intro a HF
  try dsimp only [List.eraseIdx] at HS
  refine zr 2 HF rfl ?_;clear HF a;intro a HF
  refine wl_ne ?_
  refine wp_ret ?_
  refine bp_ret2 HF Tryz.results19 (HF.res rfl) (HF.res rfl) ?_
  have h := tabAllF_yes htT; exact ⟨_, _, by rw [h, hokt] <;> rfl, by rw [h]; exact ((HS.out.erase 2).erase 1)⟩

end Go.Proofs.YtgaodbdadncfhaaGreatDoor

/- Trees handed in; TreeAll over stores handed in. -/
namespace Go.Proofs.YtgaodbdadncfhaaGreatDoor
set_option linter.unusedVariables false
set_option linter.unusedSimpArgs false
set_option maxHeartbeats 1000000
set_option maxRecDepth 100000
open Go.RowKit

theorem toTree2_any (t : TreeD) (w0 : World) : Calls Tryz.prog 20 #[tV t] w0 fun e w' => e = .returned (tV t) ∧ Below w0.heap.size w0 w' := by
 have HS := Bx.mk (St.start w0)
 refine wc_enter Tryz.func20 rfl Tryz.ntmps20 [(0, tV t)] ⟨rfl, trivial⟩ rfl ?_; intro a HF
 refine wp_sr ?_
 refine wl_box rfl HF rfl (HF.ev rfl) (Z := [.int .i64 t.fRoot.fAt, .int .i64 t.fRoot.fBirth, .int .i64 t.fRoot.fSize, .int .i64 t.fRoot.fSum, .int .i64 t.fRoot.fLevel, .int .i64 t.fDepth, .int .i64 t.fMany]) rfl rfl rfl rfl HS.out ?_; clear HF HS a; intro a w1 b1 HF HS; replace HS := Bx.mk HS
 refine wl_alloc rfl HF rfl rfl rfl (Z := [.int .i64 0, .int .i64 0, .int .i64 0, .int .i64 0, .int .i64 0, .int .i64 0, .int .i64 0]) (by kernel_rfl) rfl HS.out ?_; clear HF HS a; intro a w2 b2 HF HS; replace HS := Bx.mk HS
 refine wl_ne ?_
 refine wp_sr ?_
 refine wl_alloc rfl HF rfl rfl rfl (Z := [.int .i64 0, .int .i64 0, .int .i64 0, .int .i64 0, .int .i64 0, .int .i64 0, .int .i64 0]) (by kernel_rfl) rfl HS.out ?_; clear HF HS a; intro a w3 b3 HF HS; replace HS := Bx.mk HS
 refine wl_ne ?_
 refine wp_sr ?_
 refine zy HF (yfa 0 rfl (HF.ev rfl)) ?_;clear HF a;intro a HF
 refine zy HF (ylr (cs := [.int .i64 t.fRoot.fAt, .int .i64 t.fRoot.fBirth, .int .i64 t.fRoot.fSize, .int .i64 t.fRoot.fSum, .int .i64 t.fRoot.fLevel]) rfl (HF.ev rfl) ((HS.out.box 2 rfl).sub 0 5)) ?_;clear HF a;intro a HF
 refine wl_callB rfl HF rfl (enter_of Tryz.func51 (by kernel_rfl) rfl) (args := #[pV t.fRoot]) rfl (v := pV t.fRoot) (toPtr_any t.fRoot _) rfl rfl HS.out ?_; clear HF HS a; intro w4 a HS HF; replace HS := Bx.mk HS
 refine zy HF (yfa 0 rfl (HF.ev rfl)) ?_;clear HF a;intro a HF
 refine wl_storeSub rfl rfl rfl (HF.ev rfl) (HF.ev rfl) HS.out 0 rfl (by kernel_rfl) rfl (by kernel_rfl) (rs := [.int .i64 t.fRoot.fAt, .int .i64 t.fRoot.fBirth, .int .i64 t.fRoot.fSize, .int .i64 t.fRoot.fSum, .int .i64 t.fRoot.fLevel, .int .i64 0, .int .i64 0]) rfl ?_; clear HS; intro w5 HS; replace HS := Bx.mk HS
 try dsimp only [List.set] at HS
 refine wl_ne ?_
 refine wp_sr ?_
 refine zy HF (yfa 5 rfl (HF.ev rfl)) ?_;clear HF a;intro a HF
 refine zy HF (ylo (v := .int .i64 t.fDepth) rfl (HF.ev rfl) (((HS.out.box 2 rfl).cell 5).trans rfl)) ?_;clear HF a;intro a HF
 refine zy HF (yfa 5 rfl (HF.ev rfl)) ?_;clear HF a;intro a HF
 refine wl_storeF rfl rfl rfl (HF.ev rfl) (HF.ev rfl) (by kernel_rfl) HS.out 0 rfl rfl rfl ?_; clear HS; intro w6 HS; replace HS := Bx.mk HS
 try dsimp only [List.set] at HS
 refine wl_ne ?_
 refine wp_sr ?_
 refine zy HF (yfa 6 rfl (HF.ev rfl)) ?_;clear HF a;intro a HF
 refine zy HF (ylo (v := .int .i64 t.fMany) rfl (HF.ev rfl) (((HS.out.box 2 rfl).cell 6).trans rfl)) ?_;clear HF a;intro a HF
 refine zy HF (yfa 6 rfl (HF.ev rfl)) ?_;clear HF a;intro a HF
 refine wl_storeF rfl rfl rfl (HF.ev rfl) (HF.ev rfl) (by kernel_rfl) HS.out 0 rfl rfl rfl ?_; clear HS; intro w7 HS; replace HS := Bx.mk HS
 try dsimp only [List.set] at HS
 refine wl_ne ?_
 refine wp_sr ?_
 refine zy HF (ylr (cs := [.int .i64 t.fRoot.fAt, .int .i64 t.fRoot.fBirth, .int .i64 t.fRoot.fSize, .int .i64 t.fRoot.fSum, .int .i64 t.fRoot.fLevel, .int .i64 t.fDepth, .int .i64 t.fMany]) rfl (HF.ev rfl) ((HS.out.box 0 rfl).sub 0 7)) ?_;clear HF a;intro a HF
 refine wl_storeBox rfl HF rfl rfl (HF.ev rfl) (HF.ev rfl) HS.out 1 rfl (cells_lit [.int .i64 t.fRoot.fAt, .int .i64 t.fRoot.fBirth, .int .i64 t.fRoot.fSize, .int .i64 t.fRoot.fSum, .int .i64 t.fRoot.fLevel, .int .i64 t.fDepth, .int .i64 t.fMany] rfl rfl) (by kernel_rfl) ?_; clear HS; intro w8 HS; replace HS := Bx.mk HS
 try dsimp only [List.set] at HS
 refine wl_ne ?_
 refine wp_ret ?_
 refine bp_ret1 HF Tryz.results20 (HF.resBox rfl (HS.out.box 1 rfl) (by kernel_rfl)) ?_
 exact ⟨rfl, HS.out.bel⟩

end Go.Proofs.YtgaodbdadncfhaaGreatDoor

/- TableAll over stores handed in. -/
namespace Go.Proofs.YtgaodbdadncfhaaGreatDoor
set_option linter.unusedVariables false
set_option linter.unusedSimpArgs false
set_option maxHeartbeats 1000000
set_option maxRecDepth 100000
open Go.RowKit

theorem implTableAll_v (v : Value) (st : StoreD) (t : TreeD) (w0 : World) (hT : TabP w0) (hM : MaxP w0) (hE : ErrP w0) (hr : StoreD.Reads w0 v st) (hf : st.Fit) : Calls Tryz.prog 21 #[v, .agg #[.int .i64 t.fRoot.fAt, .int .i64 t.fRoot.fBirth, .int .i64 t.fRoot.fSize, .int .i64 t.fRoot.fSum, .int .i64 t.fRoot.fLevel, .int .i64 t.fDepth, .int .i64 t.fMany]] w0 fun e w' => ∃ ao cp cz, e = .returned (.tuple #[.slice ao (tabAllF st t).length cz, .bool (tabT st t).isSome]) ∧ St w0 [rowA PtrD.cells 5 43 (.slice ao (tabAllF st t).length cp) (tabAllF st t)] w' := by
  have hr2 := hr
  obtain ⟨a0, c0, a1, c1, a2, c2, a4, c4, a6, c6, rfl, _⟩ := hr
  exact implTableAll_any a0 c0 a1 c1 a2 c2 a4 c4 a6 c6 st t w0 hT hM hE hr2 hf

theorem specTableAll_v (v : Value) (st : StoreD) (t : TreeD) (w0 : World) (hr : StoreD.Reads w0 v st) (hf : st.Fit) (hi : -9223372036854775808 ≤ st.fTxg) : Calls Tryz.prog 19 #[v, .agg #[.int .i64 t.fRoot.fAt, .int .i64 t.fRoot.fBirth, .int .i64 t.fRoot.fSize, .int .i64 t.fRoot.fSum, .int .i64 t.fRoot.fLevel, .int .i64 t.fDepth, .int .i64 t.fMany]] w0 fun e w' => ∃ ao cp, e = .returned (.tuple #[.slice ao (tabAllF st t).length cp, .bool (tabT st t).isSome]) ∧ St w0 [rowA PtrD.cells 5 43 (.slice ao (tabAllF st t).length cp) (tabAllF st t)] w' := by
  have hr2 := hr
  obtain ⟨a0, c0, a1, c1, a2, c2, a4, c4, a6, c6, rfl, _⟩ := hr
  exact specTableAll_any a0 c0 a1 c1 a2 c2 a4 c4 a6 c6 st t w0 hr2 hf hi

theorem tabAllF_400 (st : StoreD) (t : TreeD) : (tabAllF st t).length ≤ 400 := by
  cases h : tabT st t with
  | none => rw [tabAllF_no h]; decide
  | some ns =>
    obtain ⟨hs, hb⟩ := tabT_is h
    have h0 : 0 ≤ st.fTxg := by have := (StoreD.ok_spec hs).txg; omega
    have h1 := allT_21 (tab_wf hb h0).2
    have h2 := allN_len hb h0 ns.length (Nat.le_refl _)
    have h3 := tab_16 hb
    rw [List.take_length] at h2
    rw [tabAllF_yes h]
    unfold allTab
    rw [List.length_append]
    omega

end Go.Proofs.YtgaodbdadncfhaaGreatDoor

/- StoreD: how it is owned, thing by thing. -/
namespace Go.Proofs.YtgaodbdadncfhaaGreatDoor
set_option linter.unusedVariables false
set_option linter.unusedSimpArgs false
set_option maxHeartbeats 1000000
set_option maxRecDepth 100000
open Go.RowKit

theorem StoreD.Own.loc (w w' : World) (B B1 : Nat) (v : Value) (x : StoreD) (hb : ∀ b, B ≤ b → b < B1 → w'.heap[b]? = w.heap[b]?) (h : StoreD.Own w B B1 v x) : StoreD.Own w' B B1 v x := by
  obtain ⟨a0, c0, a1, c1, a2, c2, a4, c4, a6, c6, rfl, r0, r1, r2, r4, r6, p0_1, p0_2, p0_4, p0_6, p1_2, p1_4, p1_6, p2_4, p2_6, p4_6⟩ := h
  exact ⟨a0, c0, a1, c1, a2, c2, a4, c4, a6, c6, rfl, r0.loc hb, r1.loc hb, r2.loc hb, r4.loc hb, r6.loc hb, p0_1, p0_2, p0_4, p0_6, p1_2, p1_4, p1_6, p2_4, p2_6, p4_6⟩
end Go.Proofs.YtgaodbdadncfhaaGreatDoor

/- FnExactTableAll: the law's walk. -/
namespace Go.Proofs.YtgaodbdadncfhaaGreatDoor
set_option linter.unusedVariables false
set_option linter.unusedSimpArgs false
set_option maxHeartbeats 1000000
set_option maxRecDepth 100000
open Go.RowKit

theorem StoreD.past_pos2 (x : StoreD) : 0 < x.past 1 := by unfold StoreD.past; omega
set_option maxHeartbeats 4000000 in
theorem lawTableAll_any (va : Value) (st : StoreD) (t : TreeD) (w0 : World) (hT : TabP w0) (hM : MaxP w0) (hE : ErrP w0) (hr : StoreD.Reads w0 va st) (hsm : st.Small) (hi : -9223372036854775808 ≤ st.fTxg) : Calls Tryz.prog 6 #[va, tV t] w0 fun e w' => e = .returned (.bool true) ∧ Below w0.heap.size w0 w' := by
 have HT := Bx.mk hT; have HM := Bx.mk hM; have HE := Bx.mk hE; clear hT hM hE
 have HR := Bx.mk hr
 obtain ⟨a0, c0, a1, c1, a2, c2, a4, c4, a6, c6, rfl, _⟩ := hr
 have HS := Bx.mk (St.start w0)
 refine wc_enter Tryz.func6 rfl Tryz.ntmps6 [(0, sV a0 c0 a1 c1 a2 c2 a4 c4 a6 c6 st), (1, tV t)] ⟨rfl, rfl, trivial⟩ rfl ?_; intro a HF
 refine wp_sr ?_
 refine wl_box rfl HF rfl (HF.ev rfl) (Z := [.slice a0 st.fRows.length c0, .slice a1 st.fSpace.fRefs.length c1, .slice a2 st.fSpace.fLast.length c2, .int .i64 st.fTxg, .slice a4 st.fGone.length c4, .int .i64 st.fKeep, .slice a6 st.fDead.length c6, .bool st.fSame]) rfl rfl rfl rfl HS.out ?_; clear HF HS a; intro a w1 b1 HF HS; replace HS := Bx.mk HS
 refine wl_box rfl HF rfl (HF.ev rfl) (Z := [.int .i64 t.fRoot.fAt, .int .i64 t.fRoot.fBirth, .int .i64 t.fRoot.fSize, .int .i64 t.fRoot.fSum, .int .i64 t.fRoot.fLevel, .int .i64 t.fDepth, .int .i64 t.fMany]) rfl rfl rfl rfl HS.out ?_; clear HF HS a; intro a w2 b2 HF HS; replace HS := Bx.mk HS
 refine za HF ?_;clear HF a;intro a HF
 refine wl_ne ?_
 refine wp_sr ?_
 refine za HF ?_;clear HF a;intro a HF
 refine wl_ne ?_
 refine wp_sr ?_
 refine zy HF (ylr (cs := [.slice a0 st.fRows.length c0, .slice a1 st.fSpace.fRefs.length c1, .slice a2 st.fSpace.fLast.length c2, .int .i64 st.fTxg, .slice a4 st.fGone.length c4, .int .i64 st.fKeep, .slice a6 st.fDead.length c6, .bool st.fSame]) rfl (HF.ev rfl) ((HS.out.box 1 rfl).sub 0 8)) ?_;clear HF a;intro a HF
 refine zm HF ?_;clear HF a;intro a HF
 refine wl_callB rfl HF rfl (enter_of Tryz.func9 (by kernel_rfl) rfl) (args := #[sV a0 c0 a1 c1 a2 c2 a4 c4 a6 c6 st, .int .i64 1048576]) rfl (v := .int .i64 (leftOf 1048576 st.bulk)) (szStore_any _ st 1048576 _ (by omega) (by omega) (HR.out.below HS.out.bel) hsm) rfl rfl HS.out ?_; clear HF HS a; intro w3 a HS HF; replace HS := Bx.mk HS
 refine za HF ?_;clear HF a;intro a HF
 refine wl_ne ?_
 refine wp_seq ?_
 refine wp_sr ?_
 refine zr 2 HF rfl ?_;clear HF a;intro a HF
 refine wl_ne ?_
 refine HF.cases 20 rfl (fun cc1 _ => ?_) fun cc1 _ => ?_
 ·clear HF;rename_i HF
  refine wc_true HF rfl ?_
  refine wp_sr ?_
  refine za HF ?_;clear HF a;intro a HF
  refine wl_ne ?_
  refine wp_ret ?_
  refine ex_then_ret ?_
  refine bp_ret1 HF Tryz.results6 (HF.res rfl) ?_
  exact ⟨rfl, HS.out.bel⟩
 ·clear HF;rename_i HF
  have hbk : st.bulk ≤ 1048576 := by have := of_decide_eq_false cc1; unfold leftOf at this; split at this <;> omega
  have hf := StoreD.fit hbk; have h400 := tabAllF_400 st t
  refine wc_false HF rfl ?_
  refine wp_skip ?_
  refine ex_then ?_
  refine wp_seq ?_
  refine wr_heldS (s := [boxA b2 7 32 (tV t), boxA b1 8 28 (sV a0 c0 a1 c1 a2 c2 a4 c4 a6 c6 st)]) (by kernel_rfl) (St.drew (HS.out)) ?_
  have HS2 := Bx.mk HS.out.drew; replace HS := Bx.mk (show St w0 ([boxA b2 7 32 (tV t), boxA b1 8 28 (sV a0 c0 a1 c1 a2 c2 a4 c4 a6 c6 st)]) _ from HS.out.drew)
  generalize World.drew _ = w4 at HS HS2 ⊢
  refine zh 0 rfl HF (fun _ HS => (ylr (cs := [.slice a0 st.fRows.length c0, .slice a1 st.fSpace.fRefs.length c1, .slice a2 st.fSpace.fLast.length c2, .int .i64 st.fTxg, .slice a4 st.fGone.length c4, .int .i64 st.fKeep, .slice a6 st.fDead.length c6, .bool st.fSame]) rfl (HF.ev rfl) ((HS.box 1 rfl).sub 0 8))) HS.out ?_;clear HF a;intro a HF
  refine zh 2 rfl HF (fun _ HS => (ylr (cs := [.int .i64 t.fRoot.fAt, .int .i64 t.fRoot.fBirth, .int .i64 t.fRoot.fSize, .int .i64 t.fRoot.fSum, .int .i64 t.fRoot.fLevel, .int .i64 t.fDepth, .int .i64 t.fMany]) rfl (HF.ev rfl) ((HS.box 0 rfl).sub 0 7))) HS.out ?_;clear HF a;intro a HF
  refine wh_one 1 (by kernel_rfl) ?_
  refine wo_call rfl rfl HF rfl (enter_of Tryz.func11 (by kernel_rfl) rfl) (args := #[sV a0 c0 a1 c1 a2 c2 a4 c4 a6 c6 st]) rfl (toStore_any _ st _ hf (HR.out.below HS.out.bel)) rfl rfl ?_
  rintro _ w6 ⟨u3, rfl, ho, hb⟩
  refine ⟨_, rfl, ?_⟩; replace HS := Bx.mk (HS.out.later hb); replace HS2 := Bx.mk (HS2.out.add (St.ivNew (loc := StoreD.Own.loc) ho hb)); clear ho hb HF; clear a; intro a HF; refine ⟨HS.out, ?_⟩
  obtain ⟨B4, C5, hh⟩ : ∃ B B1, St w0 ([ivA StoreD.Own StoreD.Own.loc B B1 u3 st, boxA b2 7 32 (tV t), boxA b1 8 28 (sV a0 c0 a1 c1 a2 c2 a4 c4 a6 c6 st)]) w6 := ⟨_, _, HS2.out⟩; replace HS2 := Bx.mk hh; clear hh
  refine wh_one 3 (by kernel_rfl) ?_
  refine wo_callB rfl rfl HF rfl (enter_of Tryz.func20 (by kernel_rfl) rfl) (args := #[tV t]) rfl (v := tV t) (toTree2_any t _) rfl rfl ?_
  intro w7 hb; replace HS := Bx.mk (HS.out.later hb); replace HS2 := Bx.mk (HS2.out.later hb);clear hb HF a;intro a HF; refine ⟨HS.out, ?_⟩
  refine wh_one 4 (by kernel_rfl) ?_
  refine wo_call rfl rfl HF rfl (enter_of Tryz.func19 (by kernel_rfl) rfl) (args := #[u3, tV t]) rfl (specTableAll_v _ st t _ (StoreD.Own.rd (HS2.out.iv 0 rfl)) hf hi) rfl rfl ?_
  rintro _ w9 ⟨ao7, cp7, rfl, hs⟩
  refine ⟨_, rfl, ?_⟩
  replace HS := Bx.mk (HS.out.later hs.bel); replace HS2 := Bx.mk (HS2.out.add hs);clear hs HF a;intro a HF
  replace HS2 : Bx (St w0 ([rowA PtrD.cells 5 43 (.slice ao7 ((tabAllF st t).length) cp7) (tabAllF st t), ivA StoreD.Own StoreD.Own.loc B4 C5 u3 st, boxA b2 7 32 (tV t), boxA b1 8 28 (sV a0 c0 a1 c1 a2 c2 a4 c4 a6 c6 st)]) _) := ⟨HS2.out⟩
  refine ⟨HS.out, ?_⟩
  refine zh 5 rfl HF (fun _ HS => (yl_move rfl (HF.ev rfl))) HS.out ?_;clear HF a;intro a HF
  refine zh 6 rfl HF (fun _ HS => (yl_extract rfl (HF.ev rfl) rfl)) HS.out ?_;clear HF a;intro a HF
  refine zh 7 rfl HF (fun _ HS => (yl_extract rfl (HF.ev rfl) rfl)) HS.out ?_;clear HF a;intro a HF
  refine zh 8 rfl HF (fun _ HS => (yl_assign rfl (HF.ev rfl))) HS.out ?_;clear HF a;intro a HF
  refine zh 9 rfl HF (fun _ HS => (yl_assign rfl (HF.ev rfl))) HS.out ?_;clear HF a;intro a HF
  refine wh_done (by kernel_rfl) ?_
  replace HS := HS2; clear HS2
  refine ex_then ?_
  refine wp_sr ?_
  refine zy HF (ylr (cs := [.slice a0 st.fRows.length c0, .slice a1 st.fSpace.fRefs.length c1, .slice a2 st.fSpace.fLast.length c2, .int .i64 st.fTxg, .slice a4 st.fGone.length c4, .int .i64 st.fKeep, .slice a6 st.fDead.length c6, .bool st.fSame]) rfl (HF.ev rfl) ((HS.out.box 3 rfl).sub 0 8)) ?_;clear HF a;intro a HF
  refine wl_call rfl HF rfl (enter_of Tryz.func11 (by kernel_rfl) rfl) (args := #[sV a0 c0 a1 c1 a2 c2 a4 c4 a6 c6 st]) rfl (toStore_any _ st _ hf (HR.out.below HS.out.bel)) rfl rfl ?_
  rintro _ w10 ⟨u8, rfl, ho, hb⟩
  refine ⟨_, rfl, ?_⟩; replace HS := Bx.mk (HS.out.add (St.ivNew (loc := StoreD.Own.loc) ho hb)); clear ho hb HF; clear a; intro a HF
  obtain ⟨B9, C10, hh⟩ : ∃ B B1, St w0 ([ivA StoreD.Own StoreD.Own.loc B B1 u8 st, rowA PtrD.cells 5 43 (.slice ao7 ((tabAllF st t).length) cp7) (tabAllF st t), ivA StoreD.Own StoreD.Own.loc B4 C5 u3 st, boxA b2 7 32 (tV t), boxA b1 8 28 (sV a0 c0 a1 c1 a2 c2 a4 c4 a6 c6 st)]) w10 := ⟨_, _, HS.out⟩; replace HS := Bx.mk hh; clear hh
  refine wl_alloc rfl HF rfl rfl rfl (Z := [.slice none 0 0, .slice none 0 0, .slice none 0 0, .int .i64 0, .slice none 0 0, .int .i64 0, .slice none 0 0, .bool false]) (by kernel_rfl) rfl HS.out ?_; clear HF HS a; intro a w11 b11 HF HS; replace HS := Bx.mk HS
  refine wl_storeBox rfl HF rfl rfl (HF.ev rfl) (HF.ev rfl) HS.out 0 rfl (StoreD.Own.cells (HS.out.iv 1 rfl)) (by kernel_rfl) ?_; clear HS; intro w12 HS; replace HS := Bx.mk HS
  try dsimp only [List.set] at HS
  refine wl_ne ?_
  refine wp_seq ?_
  refine wr_heldS (s := [boxA b11 8 41 u8, ivA StoreD.Own StoreD.Own.loc B9 C10 u8 st, rowA PtrD.cells 5 43 (.slice ao7 ((tabAllF st t).length) cp7) (tabAllF st t), ivA StoreD.Own StoreD.Own.loc B4 C5 u3 st, boxA b2 7 32 (tV t), boxA b1 8 28 (sV a0 c0 a1 c1 a2 c2 a4 c4 a6 c6 st)]) (by kernel_rfl) (St.drew (HS.out)) ?_
  have HS2 := Bx.mk HS.out.drew; replace HS := Bx.mk (show St w0 ([boxA b11 8 41 u8, ivA StoreD.Own StoreD.Own.loc B9 C10 u8 st, rowA PtrD.cells 5 43 (.slice ao7 ((tabAllF st t).length) cp7) (tabAllF st t), ivA StoreD.Own StoreD.Own.loc B4 C5 u3 st, boxA b2 7 32 (tV t), boxA b1 8 28 (sV a0 c0 a1 c1 a2 c2 a4 c4 a6 c6 st)]) _ from HS.out.drew)
  generalize World.drew _ = w13 at HS HS2 ⊢
  refine zh 0 rfl HF (fun _ HS => (yl_loadB (v := u8) rfl (HF.ev rfl) (HS.box 0 rfl) (by kernel_rfl))) HS.out ?_;clear HF a;intro a HF
  refine zh 1 rfl HF (fun _ HS => (ylr (cs := [.int .i64 t.fRoot.fAt, .int .i64 t.fRoot.fBirth, .int .i64 t.fRoot.fSize, .int .i64 t.fRoot.fSum, .int .i64 t.fRoot.fLevel, .int .i64 t.fDepth, .int .i64 t.fMany]) rfl (HF.ev rfl) ((HS.box 4 rfl).sub 0 7))) HS.out ?_;clear HF a;intro a HF
  refine wh_one 2 (by kernel_rfl) ?_
  refine wo_callB rfl rfl HF rfl (enter_of Tryz.func20 (by kernel_rfl) rfl) (args := #[tV t]) rfl (v := tV t) (toTree2_any t _) rfl rfl ?_
  intro w14 hb; replace HS := Bx.mk (HS.out.later hb); replace HS2 := Bx.mk (HS2.out.later hb);clear hb HF a;intro a HF; refine ⟨HS.out, ?_⟩
  refine wh_one 3 (by kernel_rfl) ?_
  refine wo_call rfl rfl HF rfl (enter_of Tryz.func21 (by kernel_rfl) rfl) (args := #[u8, tV t]) rfl (implTableAll_v _ st t _ (HT.out.below HS2.out.bel) (HM.out.below HS2.out.bel) (HE.out.below HS2.out.bel) (StoreD.Own.rd (HS2.out.iv 1 rfl)) hf) rfl rfl ?_
  rintro _ w16 ⟨ao13, cp13, cp1013, rfl, hs⟩
  refine ⟨_, rfl, ?_⟩
  replace HS := Bx.mk (HS.out.later hs.bel); replace HS2 := Bx.mk (HS2.out.add hs);clear hs HF a;intro a HF
  replace HS2 : Bx (St w0 ([rowA PtrD.cells 5 43 (.slice ao13 ((tabAllF st t).length) cp13) (tabAllF st t), boxA b11 8 41 u8, ivA StoreD.Own StoreD.Own.loc B9 C10 u8 st, rowA PtrD.cells 5 43 (.slice ao7 ((tabAllF st t).length) cp7) (tabAllF st t), ivA StoreD.Own StoreD.Own.loc B4 C5 u3 st, boxA b2 7 32 (tV t), boxA b1 8 28 (sV a0 c0 a1 c1 a2 c2 a4 c4 a6 c6 st)]) _) := ⟨HS2.out⟩
  refine ⟨HS.out, ?_⟩
  refine zh 4 rfl HF (fun _ HS => (yl_move rfl (HF.ev rfl))) HS.out ?_;clear HF a;intro a HF
  refine zh 5 rfl HF (fun _ HS => (yl_extract rfl (HF.ev rfl) rfl)) HS.out ?_;clear HF a;intro a HF
  refine zh 6 rfl HF (fun _ HS => (yl_extract rfl (HF.ev rfl) rfl)) HS.out ?_;clear HF a;intro a HF
  refine zh 7 rfl HF (fun _ HS => (yl_assign rfl (HF.ev rfl))) HS.out ?_;clear HF a;intro a HF
  refine zh 8 rfl HF (fun _ HS => (yl_assign rfl (HF.ev rfl))) HS.out ?_;clear HF a;intro a HF
  refine wh_done (by kernel_rfl) ?_
  replace HS := HS2; clear HS2
  refine ex_then ?_
  refine wp_seq ?_
  refine wp_sr ?_
  refine zr 2 HF rfl ?_;clear HF a;intro a HF
  refine wl_callB rfl HF rfl (enter_of Tryz.func22 (by kernel_rfl) rfl) (args := #[.slice ao13 ((tabAllF st t).length) cp1013, .slice ao7 ((tabAllF st t).length) cp7]) rfl (v := .bool true) (eqPtrS_yes _ _ _ _ _ (tabAllF st t) _ (by have := tabAllF_400 st t; omega) (St.rdOf HS.out PtrD.cells_len 0 rfl) (St.rdOf HS.out PtrD.cells_len 3 rfl)) rfl rfl HS.out ?_; clear HF HS a; intro w17 a HS HF; replace HS := Bx.mk HS
  refine zr 4 HF rfl ?_;clear HF a;intro a HF
  refine zg HF (yl_neqBs rfl (HF.ev rfl) (HF.ev rfl) (by kernel_rfl)) ?_;clear HF a;intro a HF
  refine zy HF (yl_pick_f rfl (HF.ev rfl) (HF.ev rfl)) ?_;clear HF a;intro a HF
  refine wl_ne ?_
  refine wc_false HF rfl ?_
  refine wp_skip ?_
  refine ex_then ?_
  refine wp_seq ?_
  refine wp_seq ?_
  refine wr_heldS (s := [rowA PtrD.cells 5 43 (.slice ao13 ((tabAllF st t).length) cp13) (tabAllF st t), boxA b11 8 41 u8, ivA StoreD.Own StoreD.Own.loc B9 C10 u8 st, rowA PtrD.cells 5 43 (.slice ao7 ((tabAllF st t).length) cp7) (tabAllF st t), ivA StoreD.Own StoreD.Own.loc B4 C5 u3 st, boxA b2 7 32 (tV t), boxA b1 8 28 (sV a0 c0 a1 c1 a2 c2 a4 c4 a6 c6 st)]) (by kernel_rfl) (St.drew (HS.out)) ?_
  have HS2 := Bx.mk HS.out.drew; replace HS := Bx.mk (show St w0 ([rowA PtrD.cells 5 43 (.slice ao13 ((tabAllF st t).length) cp13) (tabAllF st t), boxA b11 8 41 u8, ivA StoreD.Own StoreD.Own.loc B9 C10 u8 st, rowA PtrD.cells 5 43 (.slice ao7 ((tabAllF st t).length) cp7) (tabAllF st t), ivA StoreD.Own StoreD.Own.loc B4 C5 u3 st, boxA b2 7 32 (tV t), boxA b1 8 28 (sV a0 c0 a1 c1 a2 c2 a4 c4 a6 c6 st)]) _ from HS.out.drew)
  generalize World.drew _ = w18 at HS HS2 ⊢
  refine zh 0 rfl HF (fun _ HS => (yl_loadB (v := u8) rfl (HF.ev rfl) (HS.box 1 rfl) (by kernel_rfl))) HS.out ?_;clear HF a;intro a HF
  refine zh 1 rfl HF (fun _ HS => (ylr (cs := [.slice a0 st.fRows.length c0, .slice a1 st.fSpace.fRefs.length c1, .slice a2 st.fSpace.fLast.length c2, .int .i64 st.fTxg, .slice a4 st.fGone.length c4, .int .i64 st.fKeep, .slice a6 st.fDead.length c6, .bool st.fSame]) rfl (HF.ev rfl) ((HS.box 6 rfl).sub 0 8))) HS.out ?_;clear HF a;intro a HF
  refine wh_one 2 (by kernel_rfl) ?_
  refine wo_call rfl rfl HF rfl (enter_of Tryz.func11 (by kernel_rfl) rfl) (args := #[sV a0 c0 a1 c1 a2 c2 a4 c4 a6 c6 st]) rfl (toStore_any _ st _ hf (HR.out.below HS.out.bel)) rfl rfl ?_
  rintro _ w20 ⟨u14, rfl, ho, hb⟩
  refine ⟨_, rfl, ?_⟩; replace HS := Bx.mk (HS.out.later hb); replace HS2 := Bx.mk (HS2.out.add (St.ivNew (loc := StoreD.Own.loc) ho hb)); clear ho hb HF; clear a; intro a HF; refine ⟨HS.out, ?_⟩
  obtain ⟨B15, C16, hh⟩ : ∃ B B1, St w0 ([ivA StoreD.Own StoreD.Own.loc B B1 u14 st, rowA PtrD.cells 5 43 (.slice ao13 ((tabAllF st t).length) cp13) (tabAllF st t), boxA b11 8 41 u8, ivA StoreD.Own StoreD.Own.loc B9 C10 u8 st, rowA PtrD.cells 5 43 (.slice ao7 ((tabAllF st t).length) cp7) (tabAllF st t), ivA StoreD.Own StoreD.Own.loc B4 C5 u3 st, boxA b2 7 32 (tV t), boxA b1 8 28 (sV a0 c0 a1 c1 a2 c2 a4 c4 a6 c6 st)]) w20 := ⟨_, _, HS2.out⟩; replace HS2 := Bx.mk hh; clear hh
  refine wh_one 3 (by kernel_rfl) ?_
  refine wo_callB rfl rfl HF rfl (enter_of Tryz.func14 (by kernel_rfl) rfl) (args := #[u8, u14]) rfl (v := .bool true) (eqStore_yes _ _ st _ hf (StoreD.Own.rd (HS2.out.iv 3 rfl)) (StoreD.Own.rd (HS2.out.iv 0 rfl))) rfl rfl ?_
  intro w21 hb; replace HS := Bx.mk (HS.out.later hb); replace HS2 := Bx.mk (HS2.out.later hb);clear hb HF a;intro a HF; refine ⟨HS.out, ?_⟩
  refine zh 4 rfl HF (fun _ HS => (yl_not rfl (HF.ev rfl))) HS.out ?_;clear HF a;intro a HF
  refine wh_done (by kernel_rfl) ?_
  replace HS := HS2; clear HS2
  refine ex_then ?_
  refine wc_false HF rfl ?_
  refine wp_skip ?_
  refine ex_then ?_
  refine wp_sr ?_
  refine za HF ?_;clear HF a;intro a HF
  refine wl_ne ?_
  refine wp_sr ?_
  refine zy HF (yl_loadB (v := u8) rfl (HF.ev rfl) (HS.out.box 2 rfl) (by kernel_rfl)) ?_;clear HF a;intro a HF
  refine zm HF ?_;clear HF a;intro a HF
  refine wl_call rfl HF rfl (enter_of Tryz.func23 (by kernel_rfl) rfl) (args := #[u8, .int .i64 1]) rfl (markStore_any _ st _ _ 1 _ (by omega) (by omega) hf (HS.out.iv 3 rfl) (HS.out.ivLe 3 rfl)) rfl rfl ?_
  rintro _ w22 ⟨rfl, ho, hO⟩; refine ⟨_, rfl, ?_⟩; replace HS := Bx.mk (HS.out.ivMark 3 rfl ho hO); clear ho hO HF; clear a; intro a HF
  try dsimp only [List.set] at HS
  have hpast := StoreD.past_pos2 st
  refine za HF ?_;clear HF a;intro a HF
  refine wl_ne ?_
  refine wp_seq ?_
  refine wp_sr ?_
  refine zr 3 HF rfl ?_;clear HF a;intro a HF
  refine HF.cases 57 rfl (fun cc2 _ => ?_) fun cc2 _ => ?_
  ·clear HF;rename_i HF
   exact absurd (of_decide_eq_true cc2) (by omega)
  ·clear HF;rename_i HF
   refine zr 2 HF rfl ?_;clear HF a;intro a HF
   refine wl_callBg HF rfl rfl rfl rfl (enter_of Tryz.func22 (by kernel_rfl) rfl) (args := #[.slice ao13 ((tabAllF st t).length) cp1013, .slice ao7 ((tabAllF st t).length) cp7]) rfl (v := .bool true) (eqPtrS_yes _ _ _ _ _ (tabAllF st t) _ (by have := tabAllF_400 st t; omega) (St.rdOf HS.out PtrD.cells_len 1 rfl) (St.rdOf HS.out PtrD.cells_len 4 rfl)) rfl rfl HS.out ?_; clear HF HS a; intro w23 a HS HF; replace HS := Bx.mk HS
   refine zr 5 HF rfl ?_;clear HF a;intro a HF
   refine zg HF (yl_neqBs rfl (HF.ev rfl) (HF.ev rfl) (by kernel_rfl)) ?_;clear HF a;intro a HF
   refine zy HF (yl_pick_f rfl (HF.ev rfl) (HF.ev rfl)) ?_;clear HF a;intro a HF
   refine wl_ne ?_
   refine wc_false HF rfl ?_
   refine wp_skip ?_
   refine ex_then ?_
   refine wp_sr ?_
   refine za HF ?_;clear HF a;intro a HF
   refine wl_ne ?_
   refine wp_sr ?_
   refine zr 2 HF rfl ?_;clear HF a;intro a HF
   replace HS:=Bx.mk (HS.out.pick 1 rfl)
   refine wl_call rfl HF rfl (enter_of Tryz.func24 (by kernel_rfl) rfl) (args := #[.slice ao13 ((tabAllF st t).length) cp1013, .int .i64 1]) rfl (markPtrS_c _ _ _ (tabAllF st t) 1 (by omega) (by have := tabAllF_400 st t; omega) _ _ _ HS.out) rfl rfl ?_
   rintro _ w24 ⟨rfl, hs1⟩
   refine ⟨_, rfl, ?_⟩; replace HS := Bx.mk hs1;clear hs1 HF a;intro a HF
   try dsimp only [List.eraseIdx] at HS
   refine za HF ?_;clear HF a;intro a HF
   refine wl_ne ?_
   refine wp_sr ?_
   refine za HF ?_;clear HF a;intro a HF
   refine wl_ne ?_
   refine wp_sr ?_
   refine zr 2 HF rfl ?_;clear HF a;intro a HF
   refine wl_callB rfl HF rfl (enter_of Tryz.func25 (by kernel_rfl) rfl) (args := #[.slice ao13 ((tabAllF st t).length) cp1013, .int .i64 1]) rfl (v := .int .i64 (1 + ((tabAllF st t).length : Int) * 5)) (heldPtrS_any _ _ _ 1 _ (by omega) (by omega) (by have := tabAllF_400 st t; omega) (St.rdN HS.out PtrD.cells_len 0 rfl)) rfl rfl HS.out ?_; clear HF HS a; intro w25 a HS HF; replace HS := Bx.mk HS
   refine za HF ?_;clear HF a;intro a HF
   refine wl_ne ?_
   refine wp_seq ?_
   refine wp_sr ?_
   refine zr 2 HF rfl ?_;clear HF a;intro a HF
   refine wl_ne ?_
   refine HF.cases 75 rfl (fun cc3 _ => ?_) fun cc3 _ => ?_
   ·clear HF;rename_i HF
    exact absurd (of_decide_eq_true cc3) (by omega)
   ·clear HF;rename_i HF
    refine wc_false HF rfl ?_
    refine wp_skip ?_
    refine ex_then ?_
    refine wp_seq ?_
    refine wp_sr ?_
    refine zr 3 HF rfl ?_;clear HF a;intro a HF
    refine wl_ne ?_
    refine HF.cases 78 rfl (fun cc4 _ => ?_) fun cc4 _ => ?_
    ·clear HF;rename_i HF
     exact absurd cc4 (by simp)
    ·clear HF;rename_i HF
     refine wc_false HF rfl ?_
     refine wp_skip ?_
     refine ex_then ?_
     refine wp_seq ?_
     refine wr_heldS (s := [rowA PtrD.cells 5 43 (.slice ao13 ((tabAllF st t).length) cp13) (marks mkPtr 5 1 (tabAllF st t).length), ivA StoreD.Own StoreD.Own.loc B15 C16 u14 st, boxA b11 8 41 u8, ivA StoreD.Own StoreD.Own.loc B9 C10 u8 (st.marked 1), rowA PtrD.cells 5 43 (.slice ao7 ((tabAllF st t).length) cp7) (tabAllF st t), ivA StoreD.Own StoreD.Own.loc B4 C5 u3 st, boxA b2 7 32 (tV t), boxA b1 8 28 (sV a0 c0 a1 c1 a2 c2 a4 c4 a6 c6 st)]) (by kernel_rfl) (St.drew (HS.out)) ?_
     have HS2 := Bx.mk HS.out.drew; replace HS := Bx.mk (show St w0 ([rowA PtrD.cells 5 43 (.slice ao13 ((tabAllF st t).length) cp13) (marks mkPtr 5 1 (tabAllF st t).length), ivA StoreD.Own StoreD.Own.loc B15 C16 u14 st, boxA b11 8 41 u8, ivA StoreD.Own StoreD.Own.loc B9 C10 u8 (st.marked 1), rowA PtrD.cells 5 43 (.slice ao7 ((tabAllF st t).length) cp7) (tabAllF st t), ivA StoreD.Own StoreD.Own.loc B4 C5 u3 st, boxA b2 7 32 (tV t), boxA b1 8 28 (sV a0 c0 a1 c1 a2 c2 a4 c4 a6 c6 st)]) _ from HS.out.drew)
     generalize World.drew _ = w26 at HS HS2 ⊢
     refine zh 0 rfl HF (fun _ HS => (ylr (cs := [.slice a0 st.fRows.length c0, .slice a1 st.fSpace.fRefs.length c1, .slice a2 st.fSpace.fLast.length c2, .int .i64 st.fTxg, .slice a4 st.fGone.length c4, .int .i64 st.fKeep, .slice a6 st.fDead.length c6, .bool st.fSame]) rfl (HF.ev rfl) ((HS.box 7 rfl).sub 0 8))) HS.out ?_;clear HF a;intro a HF
     refine zh 2 rfl HF (fun _ HS => (ylr (cs := [.int .i64 t.fRoot.fAt, .int .i64 t.fRoot.fBirth, .int .i64 t.fRoot.fSize, .int .i64 t.fRoot.fSum, .int .i64 t.fRoot.fLevel, .int .i64 t.fDepth, .int .i64 t.fMany]) rfl (HF.ev rfl) ((HS.box 6 rfl).sub 0 7))) HS.out ?_;clear HF a;intro a HF
     refine wh_one 1 (by kernel_rfl) ?_
     refine wo_call rfl rfl HF rfl (enter_of Tryz.func11 (by kernel_rfl) rfl) (args := #[sV a0 c0 a1 c1 a2 c2 a4 c4 a6 c6 st]) rfl (toStore_any _ st _ hf (HR.out.below HS.out.bel)) rfl rfl ?_
     rintro _ w28 ⟨u17, rfl, ho, hb⟩
     refine ⟨_, rfl, ?_⟩; replace HS := Bx.mk (HS.out.later hb); replace HS2 := Bx.mk (HS2.out.add (St.ivNew (loc := StoreD.Own.loc) ho hb)); clear ho hb HF; clear a; intro a HF; refine ⟨HS.out, ?_⟩
     obtain ⟨B18, C19, hh⟩ : ∃ B B1, St w0 ([ivA StoreD.Own StoreD.Own.loc B B1 u17 st, rowA PtrD.cells 5 43 (.slice ao13 ((tabAllF st t).length) cp13) (marks mkPtr 5 1 (tabAllF st t).length), ivA StoreD.Own StoreD.Own.loc B15 C16 u14 st, boxA b11 8 41 u8, ivA StoreD.Own StoreD.Own.loc B9 C10 u8 (st.marked 1), rowA PtrD.cells 5 43 (.slice ao7 ((tabAllF st t).length) cp7) (tabAllF st t), ivA StoreD.Own StoreD.Own.loc B4 C5 u3 st, boxA b2 7 32 (tV t), boxA b1 8 28 (sV a0 c0 a1 c1 a2 c2 a4 c4 a6 c6 st)]) w28 := ⟨_, _, HS2.out⟩; replace HS2 := Bx.mk hh; clear hh
     refine wh_one 3 (by kernel_rfl) ?_
     refine wo_callB rfl rfl HF rfl (enter_of Tryz.func20 (by kernel_rfl) rfl) (args := #[tV t]) rfl (v := tV t) (toTree2_any t _) rfl rfl ?_
     intro w29 hb; replace HS := Bx.mk (HS.out.later hb); replace HS2 := Bx.mk (HS2.out.later hb);clear hb HF a;intro a HF; refine ⟨HS.out, ?_⟩
     refine wh_one 4 (by kernel_rfl) ?_
     refine wo_call rfl rfl HF rfl (enter_of Tryz.func21 (by kernel_rfl) rfl) (args := #[u17, tV t]) rfl (implTableAll_v _ st t _ (HT.out.below HS2.out.bel) (HM.out.below HS2.out.bel) (HE.out.below HS2.out.bel) (StoreD.Own.rd (HS2.out.iv 0 rfl)) hf) rfl rfl ?_
     rintro _ w31 ⟨ao21, cp21, cp1021, rfl, hs⟩
     refine ⟨_, rfl, ?_⟩
     replace HS := Bx.mk (HS.out.later hs.bel); replace HS2 := Bx.mk (HS2.out.add hs);clear hs HF a;intro a HF
     replace HS2 : Bx (St w0 ([rowA PtrD.cells 5 43 (.slice ao21 ((tabAllF st t).length) cp21) (tabAllF st t), ivA StoreD.Own StoreD.Own.loc B18 C19 u17 st, rowA PtrD.cells 5 43 (.slice ao13 ((tabAllF st t).length) cp13) (marks mkPtr 5 1 (tabAllF st t).length), ivA StoreD.Own StoreD.Own.loc B15 C16 u14 st, boxA b11 8 41 u8, ivA StoreD.Own StoreD.Own.loc B9 C10 u8 (st.marked 1), rowA PtrD.cells 5 43 (.slice ao7 ((tabAllF st t).length) cp7) (tabAllF st t), ivA StoreD.Own StoreD.Own.loc B4 C5 u3 st, boxA b2 7 32 (tV t), boxA b1 8 28 (sV a0 c0 a1 c1 a2 c2 a4 c4 a6 c6 st)]) _) := ⟨HS2.out⟩
     refine ⟨HS.out, ?_⟩
     refine zh 5 rfl HF (fun _ HS => (yl_move rfl (HF.ev rfl))) HS.out ?_;clear HF a;intro a HF
     refine zh 6 rfl HF (fun _ HS => (yl_extract rfl (HF.ev rfl) rfl)) HS.out ?_;clear HF a;intro a HF
     refine zh 7 rfl HF (fun _ HS => (yl_extract rfl (HF.ev rfl) rfl)) HS.out ?_;clear HF a;intro a HF
     refine zh 8 rfl HF (fun _ HS => (yl_assign rfl (HF.ev rfl))) HS.out ?_;clear HF a;intro a HF
     refine zh 9 rfl HF (fun _ HS => (yl_assign rfl (HF.ev rfl))) HS.out ?_;clear HF a;intro a HF
     refine wh_done (by kernel_rfl) ?_
     replace HS := HS2; clear HS2
     refine ex_then ?_
     refine wp_seq ?_
     refine wp_sr ?_
     refine zr 2 HF rfl ?_;clear HF a;intro a HF
     refine wl_callB rfl HF rfl (enter_of Tryz.func22 (by kernel_rfl) rfl) (args := #[.slice ao21 ((tabAllF st t).length) cp1021, .slice ao7 ((tabAllF st t).length) cp7]) rfl (v := .bool true) (eqPtrS_yes _ _ _ _ _ (tabAllF st t) _ (by have := tabAllF_400 st t; omega) (St.rdOf HS.out PtrD.cells_len 0 rfl) (St.rdOf HS.out PtrD.cells_len 6 rfl)) rfl rfl HS.out ?_; clear HF HS a; intro w32 a HS HF; replace HS := Bx.mk HS
     refine zr 4 HF rfl ?_;clear HF a;intro a HF
     refine zg HF (yl_neqBs rfl (HF.ev rfl) (HF.ev rfl) (by kernel_rfl)) ?_;clear HF a;intro a HF
     refine zy HF (yl_pick_f rfl (HF.ev rfl) (HF.ev rfl)) ?_;clear HF a;intro a HF
     refine wl_ne ?_
     refine wc_false HF rfl ?_
     refine wp_skip ?_
     refine ex_then ?_
     refine wp_sr ?_
     refine za HF ?_;clear HF a;intro a HF
     refine wl_ne ?_
     refine wp_sr ?_
     refine zr 2 HF rfl ?_;clear HF a;intro a HF
     refine wl_callB rfl HF rfl (enter_of Tryz.func25 (by kernel_rfl) rfl) (args := #[.slice ao13 ((tabAllF st t).length) cp1013, .int .i64 1]) rfl (v := .int .i64 (1 + ((tabAllF st t).length : Int) * 5)) (heldPtrS_any _ _ _ 1 _ (by omega) (by omega) (by have := tabAllF_400 st t; omega) (St.rdN HS.out PtrD.cells_len 2 rfl)) rfl rfl HS.out ?_; clear HF HS a; intro w33 a HS HF; replace HS := Bx.mk HS
     refine za HF ?_;clear HF a;intro a HF
     refine wl_ne ?_
     refine wp_seq ?_
     refine wp_sr ?_
     refine zr 2 HF rfl ?_;clear HF a;intro a HF
     refine wl_ne ?_
     refine HF.cases 100 rfl (fun cc5 _ => ?_) fun cc5 _ => ?_
     ·clear HF;rename_i HF
      exact absurd (of_decide_eq_true cc5) (by omega)
     ·clear HF;rename_i HF
      refine wc_false HF rfl ?_
      refine wp_skip ?_
      refine ex_then ?_
      refine wp_seq ?_
      refine wp_sr ?_
      refine zr 3 HF rfl ?_;clear HF a;intro a HF
      refine wl_ne ?_
      refine HF.cases 103 rfl (fun cc6 _ => ?_) fun cc6 _ => ?_
      ·clear HF;rename_i HF
       exact absurd cc6 (by simp)
      ·clear HF;rename_i HF
       refine wc_false HF rfl ?_
       refine wp_skip ?_
       refine ex_then ?_
       refine wp_sr ?_
       refine za HF ?_;clear HF a;intro a HF
       refine wl_ne ?_
       refine wp_ret ?_
       refine bp_ret1 HF Tryz.results6 (HF.res rfl) ?_
       exact ⟨rfl, HS.out.bel⟩
end Go.Proofs.YtgaodbdadncfhaaGreatDoor
