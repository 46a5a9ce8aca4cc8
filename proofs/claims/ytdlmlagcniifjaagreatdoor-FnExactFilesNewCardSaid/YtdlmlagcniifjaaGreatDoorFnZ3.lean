/- A part of the proof in YtdlmlagcniifjaaGreatDoorFnZ32. -/
import Derived.ArgAppend
import Derived.BigRegion
import Derived.Lib.LazyBuf
import Derived.Test.YtdlmlagcniifjaaGreatDoorFnZ2
namespace Go.Proofs.YtdlmlagcniifjaaGreatDoor
set_option linter.unusedVariables false
set_option linter.unusedSimpArgs false
set_option maxHeartbeats 1000000
set_option maxRecDepth 100000
open Go.RowKit
structure Bx (p : Prop) : Type where
  out : p
theorem addr_add (b off j : Nat) : (⟨b, off, none⟩ : Addr).add j = ⟨b, off + j, none⟩ := by unfold Addr.add; split <;> simp_all
theorem Rd.news {α : Type} {enc : α → List Value} {size : Nat} (he : ∀ x, (enc x).length = size) (hs : 0 < size) {w : World} {a : Addr} {n : Nat} {xs : List α} (h : Rd enc size w (some a) n xs) :
    ∀ j u, (xs.flatMap enc)[j]? = some u → w.cell? (a.add j) = some u := by
  intro j u hu
  have hj := (List.getElem?_eq_some_iff.1 hu).1
  rw [flat_len enc size he] at hj
  have hi : j / size < xs.length := (Nat.div_lt_iff_lt_mul hs).2 hj
  obtain ⟨b, off, x, hx, e, _, hr⟩ := h.at_ (j / size) hi
  obtain rfl := Option.some.inj e
  have hm := Nat.div_add_mod j size
  have hlt := Nat.mod_lt j hs
  rw [addr_add]
  have hd : (xs.flatMap enc)[j / size * size + j % size]? = some u := by rw [Nat.mul_comm, hm]; exact hu
  rw [← List.getElem?_drop, flat_drop enc size he, List.drop_eq_getElem_cons hi, List.flatMap_cons, List.getElem?_append_left (by rw [he]; exact hlt)] at hd
  have hxe : xs[j / size] = x := by rw [List.getElem?_eq_getElem hi] at hx; exact Option.some.inj hx
  rw [hxe] at hd
  have := hr (j % size) u hd
  rw [Nat.add_assoc, Nat.mul_comm (j / size), hm] at this
  exact this
theorem rd_nil {α : Type} {enc : α → List Value} {size : Nat} {w : World} {n : Nat} {xs : List α} (h : Rd enc size w none n xs) : xs = [] := by
  cases xs with
  | nil => rfl
  | cons x r =>
    obtain ⟨_, _, _, _, e, _⟩ := h.at_ 0 (by simp)
    cases e
theorem owns_made (w : World) (e : TypeId) (size : Nat) : (w.alloc (.cells #[] e)).ownsRow w.heap.size e size (.slice (some ⟨w.heap.size, 0, none⟩) 0 0) 0 [] :=
  ⟨by simp, .inr ⟨w.heap.size, 0, #[], rfl, Nat.le_refl _, blk_new w _ _ rfl, Nat.le_refl _, Nat.zero_le _, by simp, by simp⟩⟩
theorem cells_one_I (xs : List Int) : ∀ u ∈ xs.flatMap encI, u.oneCell' = true := by
  intro u hu
  obtain ⟨x, _, hx⟩ := List.mem_flatMap.1 hu
  simp only [encI, List.mem_singleton] at hx
  subst hx; rfl
theorem cells_one_S (xs : List ByteArray) : ∀ u ∈ xs.flatMap encS, u.oneCell' = true := by
  intro u hu
  obtain ⟨x, _, hx⟩ := List.mem_flatMap.1 hu
  simp only [encS, List.mem_singleton] at hx
  subst hx; rfl
theorem cells_one_P (xs : List PtrD) : ∀ u ∈ xs.flatMap PtrD.cells, u.oneCell' = true := by
  intro u hu
  obtain ⟨x, _, hx⟩ := List.mem_flatMap.1 hu
  simp only [PtrD.cells, List.mem_cons, List.not_mem_nil, or_false] at hx
  rcases hx with rfl | rfl | rfl | rfl | rfl <;> rfl
theorem cloneI_any (ao : Option Addr) (cap : Nat) (xs : List Int) (w : World) (hlen : xs.length ≤ 1048576) (hr : Rd encI 1 w ao xs.length xs) :
    Calls Tryz.prog 125 #[.slice ao xs.length cap] w fun e w' => (∃ ao' cap', e = .returned (.slice ao' xs.length cap') ∧ RowO encI 1 3 w' w.heap.size w'.heap.size (.slice ao' xs.length cap') xs) ∧ Below w.heap.size w w' := by
  have hb1 : Below w.heap.size w (w.alloc (.cells #[] 3)) := (Below.refl _ _).alloc (Nat.le_refl _) _
  have H1 := Bx.mk hb1
  have HN := Bx.mk (hr.below hb1)
  clear hb1
  cases ao with
  | none =>
    obtain rfl := rd_nil hr
    clear hr
    have hq := fun (w : World) => run_eql_slice_nil (P := Tryz.prog) w 23 3 none 0 cap Tryz.underlying23
    go_enter Tryz.func125, Tryz.ntmps125
    go_wp2
    go_ret
    exact ⟨⟨_, _, rfl, RowO.empty _ _ _ _ _ _ _⟩, Below.refl _ _⟩
  | some a =>
    obtain ⟨i0, hi, hz0, hz1, hz2⟩ := info_parts Tryz.infoIntS
    clear hr
    have hq := fun (w : World) => run_eql_slice_nil (P := Tryz.prog) w 23 3 (some a) xs.length cap Tryz.underlying23
    go_enter Tryz.func125, Tryz.ntmps125
    go_wp2_with (at_builtin; refine wpList_append_own _ rfl (.tmp 5) (.tmp 6) 23 rfl w.heap.size 3 i0 _ 1 8 Tryz.underlying23 hi hz0 hz1 hz2 rfl (by decide) _ 0 [] rfl (owns_made w 3 1) a xs.length cap (xs.flatMap encI) rfl (flat_len _ _ encI_len xs) (HN.out.news encI_len (by decide)) (cells_one_I xs) ?b1 ?b2 ?b3 ?_)
    case b1 => unfold maxLen; omega
    case b2 => omega
    case b3 => simp
    intro v w2 hown hg _
    obtain ⟨ao', cap', rfl, _⟩ := owns_slice hown
    go_wp2
    go_ret
    exact ⟨⟨_, _, rfl, RowO.mk hown (fun g h => (hown.lt g h).2)⟩, H1.out.grown hg H1.out.size (by simp [Value.ownBlock])⟩
theorem cloneS_any (ao : Option Addr) (cap : Nat) (xs : List ByteArray) (w : World) (hlen : xs.length ≤ 1048576) (hr : Rd encS 1 w ao xs.length xs) :
    Calls Tryz.prog 94 #[.slice ao xs.length cap] w fun e w' => (∃ ao' cap', e = .returned (.slice ao' xs.length cap') ∧ RowO encS 1 9 w' w.heap.size w'.heap.size (.slice ao' xs.length cap') xs) ∧ Below w.heap.size w w' := by
  have hb1 : Below w.heap.size w (w.alloc (.cells #[] 9)) := (Below.refl _ _).alloc (Nat.le_refl _) _
  have H1 := Bx.mk hb1
  have HN := Bx.mk (hr.below hb1)
  clear hb1
  cases ao with
  | none =>
    obtain rfl := rd_nil hr
    clear hr
    have hq := fun (w : World) => run_eql_slice_nil (P := Tryz.prog) w 22 9 none 0 cap Tryz.underlying22
    go_enter Tryz.func94, Tryz.ntmps94
    go_wp2
    go_ret
    exact ⟨⟨_, _, rfl, RowO.empty _ _ _ _ _ _ _⟩, Below.refl _ _⟩
  | some a =>
    obtain ⟨i0, hi, hz0, hz1, hz2⟩ := info_parts Tryz.infoStringS
    clear hr
    have hq := fun (w : World) => run_eql_slice_nil (P := Tryz.prog) w 22 9 (some a) xs.length cap Tryz.underlying22
    go_enter Tryz.func94, Tryz.ntmps94
    go_wp2_with (at_builtin; refine wpList_append_own _ rfl (.tmp 5) (.tmp 6) 22 rfl w.heap.size 9 i0 _ 1 16 Tryz.underlying22 hi hz0 hz1 hz2 rfl (by decide) _ 0 [] rfl (owns_made w 9 1) a xs.length cap (xs.flatMap encS) rfl (flat_len _ _ encS_len xs) (HN.out.news encS_len (by decide)) (cells_one_S xs) ?b1 ?b2 ?b3 ?_)
    case b1 => unfold maxLen; omega
    case b2 => omega
    case b3 => simp
    intro v w2 hown hg _
    obtain ⟨ao', cap', rfl, _⟩ := owns_slice hown
    go_wp2
    go_ret
    exact ⟨⟨_, _, rfl, RowO.mk hown (fun g h => (hown.lt g h).2)⟩, H1.out.grown hg H1.out.size (by simp [Value.ownBlock])⟩
theorem cloneP_any (ao : Option Addr) (cap : Nat) (xs : List PtrD) (w : World) (hlen : xs.length ≤ 1048576) (hr : Rd PtrD.cells 5 w ao xs.length xs) :
    Calls Tryz.prog 93 #[.slice ao xs.length cap] w fun e w' => (∃ ao' cap', e = .returned (.slice ao' xs.length cap') ∧ RowO PtrD.cells 5 35 w' w.heap.size w'.heap.size (.slice ao' xs.length cap') xs) ∧ Below w.heap.size w w' := by
  have hb1 : Below w.heap.size w (w.alloc (.cells #[] 35)) := (Below.refl _ _).alloc (Nat.le_refl _) _
  have H1 := Bx.mk hb1
  have HN := Bx.mk (hr.below hb1)
  clear hb1
  cases ao with
  | none =>
    obtain rfl := rd_nil hr
    clear hr
    have hq := fun (w : World) => run_eql_slice_nil (P := Tryz.prog) w 31 35 none 0 cap Tryz.underlying31
    go_enter Tryz.func93, Tryz.ntmps93
    go_wp2
    go_ret
    exact ⟨⟨_, _, rfl, RowO.empty _ _ _ _ _ _ _⟩, Below.refl _ _⟩
  | some a =>
    obtain ⟨i0, hi, hz0, hz1, hz2⟩ := info_parts Tryz.infoPtrS
    clear hr
    have hq := fun (w : World) => run_eql_slice_nil (P := Tryz.prog) w 31 35 (some a) xs.length cap Tryz.underlying31
    go_enter Tryz.func93, Tryz.ntmps93
    go_wp2_with (at_builtin; refine wpList_append_own _ rfl (.tmp 5) (.tmp 6) 31 rfl w.heap.size 35 i0 _ 5 40 Tryz.underlying31 hi hz0 hz1 hz2 rfl (by decide) _ 0 [] rfl (owns_made w 35 5) a xs.length cap (xs.flatMap PtrD.cells) rfl (flat_len _ _ PtrD.cells_len xs) (HN.out.news PtrD.cells_len (by decide)) (cells_one_P xs) ?b1 ?b2 ?b3 ?_)
    case b1 => unfold maxLen; omega
    case b2 => omega
    case b3 => simp
    intro v w2 hown hg _
    obtain ⟨ao', cap', rfl, _⟩ := owns_slice hown
    go_wp2
    go_ret
    exact ⟨⟨_, _, rfl, RowO.mk hown (fun g h => (hown.lt g h).2)⟩, H1.out.grown hg H1.out.size (by simp [Value.ownBlock])⟩
theorem RowO.copy {α : Type} {enc : α → List Value} {size : Nat} (he : ∀ x, (enc x).length = size) {e : TypeId} {w : World} {B B1 : Nat} {ao : Option Addr} {n cap : Nat} {xs : List α} (h : RowO enc size e w B B1 (.slice ao n cap) xs) :
    Rd enc size w ao xs.length xs ∧ (ao = Option.none → cap = 0) := by
  obtain ⟨ao', cap', hv, hc, _⟩ := h
  simp only [Value.slice.injEq] at hv
  obtain ⟨rfl, rfl, rfl⟩ := hv
  rcases hc with ⟨rfl, rfl⟩ | ho
  · exact ⟨⟨rfl, fun i hi => absurd hi (Nat.not_lt_zero _)⟩, fun _ => rfl⟩
  · refine ⟨(owns_rd he ho).2, fun hn => ?_⟩
    subst hn
    rcases ho.2 with ⟨hv, _⟩ | ⟨g, _, _, hv, _⟩
    · simp only [Value.slice.injEq] at hv
      exact hv.2.2
    · simp at hv
section
variable {P : Program} {w : World} {α : Type}
theorem run_copy0 (t ty e : TypeId) (i : TypeInfo) (z : Value) (size bytes : Nat) (ht : P.underlying t = some (.slice e)) (hi : P.info? e = some i) (hz : i.zero = some z)
    (hsize : i.size = size) (hby : i.bytes = bytes) (hzs : z.cells.size = size) (hsz : 0 < size)
    {enc : α → List Value} (he : ∀ x, (enc x).length = size) (b : Nat) (ao : Option Addr) (cap : Nat) (xs : List α) (hr : Rd enc size w ao xs.length xs) (hn : ao = none → cap = 0) (h1 : ∀ u ∈ xs.flatMap enc, u.oneCell' = true)
    (h63 : xs.length ≤ maxLen) (hbytes : xs.length * bytes ≤ 140737488355328) :
    ∃ ao' cap' w', (Builtin.append_ #[t, t] ty #[.slice (some ⟨b, 0, none⟩) 0 0, .slice ao xs.length cap]).run P w = .ok (.slice ao' xs.length cap') w' ∧ RowO enc size e w' w.heap.size w'.heap.size (.slice ao' xs.length cap') xs ∧ Below w.heap.size w w' := by
  cases ao with
  | none =>
    obtain rfl := rd_nil hr
    obtain rfl := hn rfl
    refine ⟨some ⟨b, 0, none⟩, 0, w, ?_, RowO.empty _ _ _ _ _ _ _, Below.refl _ _⟩
    simp [Builtin.append_, run_underlying ht, sizeOf, typeInfo, hi, Builtin.lenOf, Builtin.firstCells, storeCells]
  | some ad =>
    by_cases h0 : xs = []
    · subst h0
      refine ⟨some ⟨b, 0, none⟩, 0, w, ?_, RowO.empty _ _ _ _ _ _ _, Below.refl _ _⟩
      exact run_append_room_cells (P := P) (w := w) t ty e i ht hi b 0 0 0 ad 0 cap [] (by simp) (by simp) (by simp) (Nat.le_refl _) (by simp) (by simp)
    · have hpos : 0 < xs.length := List.length_pos_iff.2 h0
      obtain ⟨v', w', hrun, ho, hg⟩ := run_append_arg_grows (P := P) (w := w) t ty e i z size bytes ht hi hz hsize hby hzs hsz ⟨b, 0, none⟩ 0 0 [] (by simp) (by simp) ad xs.length cap (xs.flatMap enc) (flat_len _ _ he xs) (hr.news he hsz) (by omega) (by omega) (by rw [Nat.zero_add]; exact hbytes)
      rw [Nat.zero_add, List.nil_append] at ho
      obtain ⟨ao', cap', rfl, _⟩ := owns_slice ho
      exact ⟨ao', cap', w', hrun, RowO.mk ho (fun g h => (ho.lt g h).2), ⟨hg.os, hg.tape, hg.output, hg.size, fun k hk => hg.block k hk (by simp)⟩⟩
theorem wp_copy0 {o : Oper} {a : Act} {K : Act → World → Prop} {Q : Exit → Act → World → Prop} (s x : Operand) (t : TypeId)
    (ho : o.op = .call { callee := .builtin .append, args := #[s, x], argTypes := #[t, t] })
    (e : TypeId) (i : TypeInfo) (z : Value) (size bytes : Nat) (ht : P.underlying t = some (.slice e)) (hi : P.info? e = some i) (hz : i.zero = some z)
    (hsize : i.size = size) (hby : i.bytes = bytes) (hzs : z.cells.size = size) (hsz : 0 < size)
    {enc : α → List Value} (he : ∀ x, (enc x).length = size) (b : Nat) (hs : a.eval s = .slice (some ⟨b, 0, none⟩) 0 0)
    (ao : Option Addr) (cap : Nat) (xs : List α) (hx : a.eval x = .slice ao xs.length cap) (hr : Rd enc size w ao xs.length xs) (hn : ao = none → cap = 0) (h1 : ∀ u ∈ xs.flatMap enc, u.oneCell' = true)
    (h63 : xs.length ≤ maxLen) (hbytes : xs.length * bytes ≤ 140737488355328)
    (h : ∀ ao' cap' w', RowO enc size e w' w.heap.size w'.heap.size (.slice ao' xs.length cap') xs → Below w.heap.size w w' → K (a.put o.dst (.slice ao' xs.length cap')) w') : o.wp P a w K Q := by
  obtain ⟨ao', cap', w', hrun, h2, h3⟩ := run_copy0 (P := P) (w := w) t o.type e i z size bytes ht hi hz hsize hby hzs hsz he b ao cap xs hr hn h1 h63 hbytes
  unfold Oper.wp execOp
  simp only [ho, resolve, invoke, builtin, Sem.run_bind, Sem.run_pure, Result.andThen_ok, List.map_toArray, List.map_cons, List.map_nil, hs, hx, hrun]
  exact h ao' cap' w' h2 h3
theorem wpList_copy0 {ops : Array Oper} {rest : List Oper} {o : Oper} {a : Act} {Q : Exit → Act → World → Prop} (hgd : o.guard = none) (s x : Operand) (t : TypeId)
    (ho : o.op = .call { callee := .builtin .append, args := #[s, x], argTypes := #[t, t] })
    (e : TypeId) (i : TypeInfo) (z : Value) (size bytes : Nat) (ht : P.underlying t = some (.slice e)) (hi : P.info? e = some i) (hz : i.zero = some z)
    (hsize : i.size = size) (hby : i.bytes = bytes) (hzs : z.cells.size = size) (hsz : 0 < size)
    {enc : α → List Value} (he : ∀ x, (enc x).length = size) (b : Nat) (hs : a.eval s = .slice (some ⟨b, 0, none⟩) 0 0)
    (ao : Option Addr) (cap : Nat) (xs : List α) (hx : a.eval x = .slice ao xs.length cap) (hr : Rd enc size w ao xs.length xs) (hn : ao = none → cap = 0) (h1 : ∀ u ∈ xs.flatMap enc, u.oneCell' = true)
    (h63 : xs.length ≤ maxLen) (hbytes : xs.length * bytes ≤ 140737488355328)
    (h : ∀ ao' cap' w', RowO enc size e w' w.heap.size w'.heap.size (.slice ao' xs.length cap') xs → Below w.heap.size w w' → wpList P ops Q rest (a.put o.dst (.slice ao' xs.length cap')) w') : wpList P ops Q (o :: rest) a w :=
  wpList_plain hgd fun _ hK => wp_copy0 s x t ho e i z size bytes ht hi hz hsize hby hzs hsz he b hs ao cap xs hx hr hn h1 h63 hbytes fun ao' cap' w' h2 h3 => hK _ _ (h ao' cap' w' h2 h3)
theorem step_copy0 {ops : Array Oper} {o : Oper} {a : Act} {K : Act → World → Prop} {Q : Exit → Act → World → Prop} {E : Prop} (hgd : o.guard = none) (s x : Operand) (t : TypeId)
    (ho : o.op = .call { callee := .builtin .append, args := #[s, x], argTypes := #[t, t] })
    (e : TypeId) (i : TypeInfo) (z : Value) (size bytes : Nat) (ht : P.underlying t = some (.slice e)) (hi : P.info? e = some i) (hz : i.zero = some z)
    (hsize : i.size = size) (hby : i.bytes = bytes) (hzs : z.cells.size = size) (hsz : 0 < size)
    {enc : α → List Value} (he : ∀ x, (enc x).length = size) (b : Nat) (hs : a.eval s = .slice (some ⟨b, 0, none⟩) 0 0)
    (ao : Option Addr) (cap : Nat) (xs : List α) (hx : a.eval x = .slice ao xs.length cap) (hr : Rd enc size w ao xs.length xs) (hn : ao = none → cap = 0) (h1 : ∀ u ∈ xs.flatMap enc, u.oneCell' = true)
    (h63 : xs.length ≤ maxLen) (hbytes : xs.length * bytes ≤ 140737488355328)
    (h : ∀ ao' cap' w', RowO enc size e w' w.heap.size w'.heap.size (.slice ao' xs.length cap') xs → Below w.heap.size w w' → K (a.put o.dst (.slice ao' xs.length cap')) w') :
    if Region.wanted o (yielded ops a.tmps) = true then Oper.wp P o a w K Q else E := by
  have hw : Region.wanted o (yielded ops a.tmps) = true := by simp [Region.wanted, hgd]
  rw [if_pos hw]
  exact wp_copy0 s x t ho e i z size bytes ht hi hz hsize hby hzs hsz he b hs ao cap xs hx hr hn h1 h63 hbytes h
end
open Go.RowKit
theorem Outside.set {B B1 : Nat} {w w' : World} (h : Outside B B1 w w') {p : Addr} (hp : B ≤ p.block ∧ p.block < B1) (u : Value) : Outside B B1 w (w'.setCell p u) :=
  h.trans ⟨rfl, rfl, rfl, by rw [sz_set]; exact Nat.le_refl _, fun k _ ho => Below.heap_setCell w' p u k (by omega)⟩
structure Box (w : World) (b n : Nat) (t : TypeId) (v : Value) : Prop where
  ex : ∃ cs : List Value, v = .agg cs.toArray ∧ cs.length = n ∧ (∀ u ∈ cs, u.oneCell' = true) ∧ w.heap[b]? = some (.cells cs.toArray t (0, 0))
structure Cells (n : Nat) (v : Value) : Prop where
  ex : ∃ cs : List Value, v = .agg cs.toArray ∧ cs.length = n ∧ (∀ u ∈ cs, u.oneCell' = true)
theorem Box.cells {w : World} {b n : Nat} {t : TypeId} {v : Value} (h : Box w b n t v) : Cells n v := by
  obtain ⟨cs, e, hl, h1, _⟩ := h
  exact ⟨cs, e, hl, h1⟩
theorem Box.lt {w : World} {b n : Nat} {t : TypeId} {v : Value} (h : Box w b n t v) : b < w.heap.size := by
  obtain ⟨cs, _, _, _, hh⟩ := h
  exact blk_lt hh
theorem Box.below {w w' : World} {C b n : Nat} {t : TypeId} {v : Value} (h : Box w b n t v) (hb : Below C w w') (hC : w.heap.size ≤ C) : Box w' b n t v := by
  obtain ⟨cs, e, hl, h1, hh⟩ := h
  exact ⟨cs, e, hl, h1, blk_below hh hb hC⟩
theorem Box.outside {w w' : World} {B B1 b n : Nat} {t : TypeId} {v : Value} (h : Box w b n t v) (hb : Outside B B1 w w') (hr : b < B ∨ B1 ≤ b) : Box w' b n t v := by
  obtain ⟨cs, e, hl, h1, hh⟩ := h
  exact ⟨cs, e, hl, h1, blk_outside hh hb hr⟩
theorem Box.all {w w' : World} {vs : List Value} {b n : Nat} {t : TypeId} {v : Value} (h : Box w b n t v) (hb : GrownAll vs w w') (hv : ∀ v ∈ vs, Value.rowBlock v ≠ some b) : Box w' b n t v := by
  obtain ⟨cs, e, hl, h1, hh⟩ := h
  exact ⟨cs, e, hl, h1, blk_all hh hb hv⟩
theorem Box.alloc {w : World} {b n : Nat} {t : TypeId} {v : Value} (h : Box w b n t v) (o : Obj) : Box (w.alloc o) b n t v := h.below ((Below.refl _ _).alloc (Nat.le_refl _) o) (Nat.le_refl _)
theorem Box.setCell {w : World} {b n : Nat} {t : TypeId} {v : Value} (h : Box w b n t v) {p : Addr} (hp : b ≠ p.block) (u : Value) : Box (w.setCell p u) b n t v := by
  obtain ⟨cs, e, hl, h1, hh⟩ := h
  exact ⟨cs, e, hl, h1, blk_set_other hh hp u⟩
theorem Box.new (w : World) (cs : List Value) (t : TypeId) (h1 : (cs.all fun u => u.oneCell') = true) {b : Nat} (hb : b = w.heap.size) : Box (w.alloc (.cells cs.toArray t)) b cs.length t (.agg cs.toArray) :=
  ⟨cs, rfl, rfl, fun u hu => List.all_eq_true.1 h1 u hu, blk_new w _ b hb⟩
theorem Box.range {w : World} {b n : Nat} {t : TypeId} {v : Value} (h : Box w b n t v) : ∃ cs : List Value, v = .agg cs.toArray ∧ cs.length = n ∧ w.rangeAt b 0 cs := by
  obtain ⟨cs, e, hl, h1, hh⟩ := h
  exact ⟨cs, e, hl, fun j u hu => by rw [blk_cell hh]; simpa using hu⟩
theorem Box.cell {w : World} {b n : Nat} {t : TypeId} {l : Array Value} (h : Box w b n t (.agg l)) (i : Nat) : w.cell? ⟨b, i, none⟩ = l[i]? := by
  obtain ⟨cs, e, hl, h1, hh⟩ := h
  obtain rfl : l = cs.toArray := by simpa using e
  exact blk_cell hh i
theorem Box.frozen {w : World} {b n : Nat} {t : TypeId} {v : Value} (h : Box w b n t v) (i : Nat) : w.frozen? ⟨b, i, none⟩ = false := by
  obtain ⟨cs, e, hl, h1, hh⟩ := h
  exact blk_frozen hh i
theorem Box.block {w : World} {b n : Nat} {t : TypeId} {l : Array Value} (h : Box w b n t (.agg l)) : w.heap[b]? = some (.cells l t (0, 0)) := by
  obtain ⟨cs, e, hl, h1, hh⟩ := h
  obtain rfl : l = cs.toArray := by simpa using e
  exact hh
theorem blk_setCells {b : Nat} {t : TypeId} : ∀ (vs : List Value) (o : Nat) (w : World) (cs : List Value), w.heap[b]? = some (.cells cs.toArray t (0, 0)) → o + vs.length ≤ cs.length →
    (w.setCells b o vs).heap[b]? = some (.cells (splice cs o vs).toArray t (0, 0)) ∧ Outside b (b + 1) w (w.setCells b o vs) ∧ (w.setCells b o vs).heap.size = w.heap.size
  | [], o, w, cs, h, _ => by
    refine ⟨?_, Outside.refl _ _ _, rfl⟩
    have : splice cs o [] = cs := by unfold splice; simp
    rw [this]; exact h
  | v :: vs, o, w, cs, h, hl => by
    simp only [List.length_cons] at hl
    have h0 : (w.setCell ⟨b, o, none⟩ v).heap[b]? = some (.cells (cs.set o v).toArray t (0, 0)) := by
      have := blk_set (i := o) h v
      simpa using this
    obtain ⟨h1, h2, h3⟩ := blk_setCells vs (o + 1) _ (cs.set o v) h0 (by simp; omega)
    rw [splice_cons cs o v vs hl] at h1
    exact ⟨h1, ((Outside.refl b (b + 1) w).set ⟨Nat.le_refl _, Nat.lt_succ_self _⟩ v).trans h2, h3.trans (sz_set _ _ _)⟩
theorem Box.put {w : World} {b n : Nat} {t : TypeId} {u v : Value} (h : Box w b n t u) (hv : Cells n v) : ∃ cells : Array Value, v = .agg cells ∧ cells.size = n ∧ cells.all (·.oneCell') = true ∧ w.there b 0 n ∧
    Box (w.setCells b 0 cells.toList) b n t v ∧ Outside b (b + 1) w (w.setCells b 0 cells.toList) ∧ (w.setCells b 0 cells.toList).heap.size = w.heap.size := by
  obtain ⟨cs, rfl, hl, h1, hh⟩ := h
  obtain ⟨ds, rfl, hd, g1⟩ := hv
  obtain ⟨k1, k2, k3⟩ := blk_setCells ds 0 w cs hh (by omega)
  have hs : splice cs 0 ds = ds := by
    unfold splice
    rw [List.drop_of_length_le (by omega)]
    simp
  rw [hs] at k1
  refine ⟨ds.toArray, rfl, by simpa using hd, all_oneCell_toArray g1, fun j hj => ⟨by rw [blk_cell hh]; simp; omega, blk_frozen hh _⟩, ⟨ds, rfl, hd, g1, k1⟩, k2, k3⟩
theorem Outside.row {b : Nat} {w w' : World} (h : Outside b (b + 1) w w') : w.grownBy w' (some b) := ⟨h.os, h.tape, h.output, h.size, fun k hk hne => h.block k hk (by have : k ≠ b := fun e => hne (by rw [e]); omega)⟩
theorem RowO.box {α : Type} {enc : α → List Value} {size : Nat} {e : TypeId} {w w' : World} {B B1 : Nat} {v : Value} {xs : List α} (h : RowO enc size e w B B1 v xs) {b : Nat} (hO : Outside b (b + 1) w w') (hne : ∀ g, Value.rowBlock v = some g → g < b) : RowO enc size e w' B B1 v xs :=
  h.grown hO.row (by
    cases hr : Value.rowBlock v with
    | none => exact .inl rfl
    | some g => exact .inr (fun e => by have := hne g hr; have := Option.some.inj e; omega))
theorem GrownAll.box {vs : List Value} {w w2 w3 : World} (h : GrownAll vs w w2) {b : Nat} (hO : Outside b (b + 1) w2 w3) (hb : w.heap.size ≤ b) : GrownAll vs w w3 :=
  ⟨hO.os.trans h.os, hO.tape.trans h.tape, hO.output.trans h.output, Nat.le_trans h.size hO.size, fun k hk hne => (hO.block k (Nat.lt_of_lt_of_le hk h.size) (by omega)).trans (h.block k hk hne)⟩
theorem Box.putField {w : World} {b n : Nat} {t : TypeId} {l : Array Value} (h : Box w b n t (.agg l)) (i : Nat) {u : Value} (hu : u.oneCell' = true) : Box (w.setCell ⟨b, i, none⟩ u) b n t (.agg (l.setIfInBounds i u)) := by
  obtain ⟨cs, e, hl, h1, hh⟩ := h
  obtain rfl : l = cs.toArray := by simpa using e
  refine ⟨cs.set i u, by simp, by simp [hl], fun x hx => ?_, by have := blk_set (i := i) hh u; simpa using this⟩
  rcases List.mem_or_eq_of_mem_set hx with h | h
  · exact h1 x h
  · rw [h]; exact hu
section
variable {P : Program}
theorem run_loadVar_box {w : World} {b n : Nat} {t : TypeId} {v : Value} (hb : Box w b n t v) (ty : TypeId) (d : TypeDesc) (hu : P.underlying ty = some d) (hd : d.isRow = true) (hi : (P.info? ty).map (·.size) = some n) : (loadVar ty ⟨b, 0, none⟩).run P w = .ok v w := by
  obtain ⟨cs, rfl, rfl, hr⟩ := hb.range
  exact run_loadVar_mid w b 0 ty cs d hr hu hd hi
theorem run_loadAt_box {w : World} {b n : Nat} {t : TypeId} {v : Value} (hb : Box w b n t v) (ty : TypeId) (d : TypeDesc) (hu : P.underlying ty = some d) (hd : d.isRow = true) (hi : (P.info? ty).map (·.size) = some n) : (Instr.loadAt ty (.pointer (some ⟨b, 0, none⟩))).run P w = .ok v w := by
  obtain ⟨cs, rfl, rfl, hr⟩ := hb.range
  exact run_loadAt_mid w b 0 ty cs d hr hu hd hi
end
end Go.Proofs.YtdlmlagcniifjaaGreatDoor
