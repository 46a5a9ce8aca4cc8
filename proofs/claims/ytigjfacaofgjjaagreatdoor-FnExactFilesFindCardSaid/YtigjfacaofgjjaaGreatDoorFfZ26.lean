/- A part of the proof in YtigjfacaofgjjaaGreatDoorFfZ32. -/
import Derived.Shelf.Slices.Cells
import Derived.Shelf.Slices.Delete
import Derived.Shelf.Slices.Empties
import Derived.Shelf.Slices.Turned
import Derived.Shelf.Spec.SlicesGrow
import Derived.Shelf.Spec.SlicesInsert
import Derived.Shelf.Spec.SlicesInsertGrow
import Derived.Test.YtigjfacaofgjjaaGreatDoorFfZ25
namespace Go.Proofs.YtigjfacaofgjjaaGreatDoor
set_option linter.unusedVariables false
set_option linter.unusedSimpArgs false
set_option maxHeartbeats 1000000
set_option maxRecDepth 100000
open Go.RowKit
theorem flat_encI (xs : List Int) : xs.flatMap encI = xs.map (Value.int .i64) := by
  induction xs with
  | nil => rfl
  | cons x xs ih => rw [List.flatMap_cons, ih]; rfl
open Go.RowKit
def quP (e : TypeId) (v : Value) (xs : List Int) (w : World) (f : List Nat) : Prop :=
  (∃ ao, v = .slice ao 0 0 ∧ xs = [] ∧ f = []) ∨
  ∃ g off c cur, v = .slice (some ⟨g, off, none⟩) xs.length c ∧ f = [g] ∧ w.heap[g]? = some (.cells cur e (0, 0)) ∧ xs.length ≤ c ∧ c ≤ maxLen ∧ off + c ≤ cur.size ∧ ∀ j, j < xs.length → cur[off + j]? = some (.int .i64 (xs.getD j 0))
def quA (e : TypeId) (v : Value) (xs : List Int) : Asr := ⟨quP e v xs, fun w w' f _ hb h => by
  rcases h with h | ⟨g, off, c, cur, h1, h2, h3, h4⟩
  · exact .inl h
  · exact .inr ⟨g, off, c, cur, h1, h2, (hb g (by rw [h2]; simp)).trans h3, h4⟩⟩
theorem cell_block {w : World} {g : Nat} {cur : Array Value} {e : TypeId} {fr : Nat × Nat} (h : w.heap[g]? = some (.cells cur e fr)) (j : Nat) : w.cell? ⟨g, j, none⟩ = cur[j]? := by
  unfold World.cell?
  rw [h]; rfl
theorem put_mid (cur : Array Value) (k : Nat) (v : Value) (hk : k < cur.size) (j : Nat) : (cur.toList.take k ++ [v] ++ cur.toList.drop (k + [v].length)).toArray[j]? = if j = k then some v else cur[j]? := by
  have hl : (cur.toList.take k).length = k := by rw [List.length_take]; simp; omega
  rw [List.getElem?_toArray, List.append_assoc]
  by_cases h1 : j < k
  · rw [List.getElem?_append_left (by omega), List.getElem?_take, if_pos h1, if_neg (by omega)]; simp
  · rw [List.getElem?_append_right (by omega), hl]
    by_cases h2 : j = k
    · subst h2; rw [if_pos rfl, Nat.sub_self]; rfl
    · rw [if_neg h2]
      obtain ⟨m, rfl⟩ : ∃ m, j = k + 1 + m := ⟨j - k - 1, by omega⟩
      rw [show k + 1 + m - k = m + 1 by omega, List.singleton_append, List.getElem?_cons_succ, List.getElem?_drop, List.length_singleton]; simp
theorem put_mid_size (cur : Array Value) (k : Nat) (v : Value) (hk : k < cur.size) : (cur.toList.take k ++ [v] ++ cur.toList.drop (k + [v].length)).toArray.size = cur.size := by
  simp; omega
theorem getD_snocI {xs : List Int} {x : Int} (j : Nat) : (xs ++ [x]).getD j 0 = if j = xs.length then x else xs.getD j 0 := by
  rw [List.getD_eq_getElem?_getD, List.getD_eq_getElem?_getD]
  by_cases h : j < xs.length
  · rw [List.getElem?_append_left h, if_neg (by omega)]
  · by_cases h2 : j = xs.length
    · subst h2; rw [if_pos rfl]; simp
    · rw [if_neg h2, List.getElem?_eq_none (by simp; omega), List.getElem?_eq_none (by omega)]
theorem run_que {P : Program} {w : World} {t e ty : TypeId} (hT : ElemT P t e 1 8) {v : Value} {xs : List Int} {f : List Nat} (hq : quP e v xs w f) (hf : ∀ b ∈ f, b < w.heap.size) {ad : Addr} {c2 : Nat} {x : Int} (ha : w.cell? ad = some (.int .i64 x)) (hlen : xs.length + 1 ≤ 1000000) :
    ∃ v' w' f', (Builtin.append_ #[t, t] ty #[v, .slice (some ad) 1 c2]).run P w = .ok v' w' ∧ quP e v' (xs ++ [x]) w' f' ∧ (∃ b, f' = [b] ∧ (b ∈ f ∨ w.heap.size ≤ b) ∧ b < w'.heap.size) ∧ w'.os = w.os ∧ w'.tape = w.tape ∧ w'.output = w.output ∧ w.heap.size ≤ w'.heap.size ∧ ∀ k, k < w.heap.size → k ∉ f → w'.heap[k]? = w.heap[k]? := by
  obtain ⟨i0, z, hi0, hz0, k1, k2, k3⟩ := hT.info
  have hnews : ∀ (j : Nat) u, [Value.int .i64 x][j]? = some u → w.cell? (ad.add j) = some u := fun j u hu => by
    cases j with
    | zero => simp only [List.getElem?_cons_zero, Option.some.injEq] at hu; rw [← hu, show ad.add 0 = ad from rfl]; exact ha
    | succ j => simp at hu
  -- a fresh block
  have fresh : ∀ (olds : List Value) (cap : Nat) (w1 : World), w1 = w.drew.alloc (.cells (olds.toArray ++ [Value.int .i64 x].toArray ++ Builtin.zeroCells z.cells (cap - (xs.length + 1))) e) → olds.length = xs.length → (∀ j, j < xs.length → olds[j]? = some (.int .i64 (xs.getD j 0))) → xs.length + 1 ≤ cap → cap ≤ maxLen →
      quP e (.slice (some ⟨w.heap.size, 0, none⟩) (xs.length + 1) cap) (xs ++ [x]) w1 [w.heap.size] ∧ w.heap.size < w1.heap.size ∧ w1.os = w.os ∧ w1.tape = w.tape ∧ w1.output = w.output ∧ ∀ k, k < w.heap.size → w1.heap[k]? = w.heap[k]? := by
    intro olds cap w1 hw1 hol hcell hcap hml
    subst hw1
    have hb : (w.drew.alloc (.cells (olds.toArray ++ [Value.int .i64 x].toArray ++ Builtin.zeroCells z.cells (cap - (xs.length + 1))) e)).heap[w.heap.size]? = some (.cells (olds.toArray ++ [Value.int .i64 x].toArray ++ Builtin.zeroCells z.cells (cap - (xs.length + 1))) e (0, 0)) := heap_alloc_new w.drew _
    refine ⟨.inr ⟨_, 0, cap, _, by rw [List.length_append, List.length_singleton], rfl, hb, by rw [List.length_append, List.length_singleton]; exact hcap, hml, ?_, fun j hj => ?_⟩, by rw [sz_alloc]; show w.heap.size < w.drew.heap.size + 1; exact Nat.lt_succ_self _, rfl, rfl, rfl, fun k hk => ?_⟩
    · rw [Array.size_append, Array.size_append, size_zeroCells, k3]
      simp [hol]; omega
    · rw [List.length_append, List.length_singleton] at hj
      rw [Nat.zero_add, getD_snocI, Array.getElem?_append_left (by simp [hol]; omega)]
      by_cases h : j = xs.length
      · subst h
        rw [if_pos rfl, Array.getElem?_append_right (by simp [hol])]
        simp [hol]
      · rw [if_neg h, Array.getElem?_append_left (by simp [hol]; omega)]
        simpa using hcell j (by omega)
    · exact ((Below.refl w.heap.size w).drew.alloc (Nat.le_refl _) _).block k hk
  have hgc : ∀ need old, need ≤ maxLen → grownCap w need old e ≤ maxLen := fun need old h => grownCap_le_maxLen w need old e h
  have h63 : xs.length + 1 ≤ maxLen := by unfold maxLen; omega
  rcases hq with ⟨ao, rfl, rfl, rfl⟩ | ⟨g, off, c, cur, rfl, rfl, hg, hc, hml, hfit, hcell⟩
  · cases ao with
    | none =>
      have hrun := run_append_nil (P := P) (w := w) t ty e i0 z hT.ht hi0 hz0 ad 1 c2 [.int .i64 x] (by rw [k1]; rfl) hnews (by omega) (by omega) (by rw [k2]; omega)
      obtain ⟨q1, q2, q3, q4, q5, q6⟩ := fresh [] (grownCap w 1 0 e) (w.drew.alloc (.cells ([Value.int .i64 x].toArray ++ Builtin.zeroCells z.cells (grownCap w 1 0 e - 1)) e)) (by simp) rfl (fun j hj => absurd hj (Nat.not_lt_zero _)) (grownCap_ge w 1 0 e) (hgc _ _ h63)
      exact ⟨_, _, _, hrun, q1, ⟨_, rfl, .inr (Nat.le_refl _), q2⟩, q3, q4, q5, Nat.le_of_lt q2, fun k hk _ => q6 k hk⟩
    | some a0 =>
      have hrun := run_append_grow (P := P) (w := w) t ty e i0 z hT.ht hi0 hz0 a0 0 0 [] (by simp) (fun j v h => by simp at h) ad 1 c2 [.int .i64 x] (by rw [k1]; rfl) hnews (by omega) (by omega) (by rw [k2]; exact growslice_fits (by omega) (by omega))
      obtain ⟨q1, q2, q3, q4, q5, q6⟩ := fresh [] (grownCap w (0 + 1) 0 e) _ rfl rfl (fun j hj => absurd hj (Nat.not_lt_zero _)) (grownCap_ge w (0 + 1) 0 e) (hgc _ _ h63)
      exact ⟨_, _, _, hrun, q1, ⟨_, rfl, .inr (Nat.le_refl _), q2⟩, q3, q4, q5, Nat.le_of_lt q2, fun k hk _ => q6 k hk⟩
  · by_cases hroom : xs.length + 1 ≤ c
    · have hk : off + xs.length < cur.size := by omega
      have hf1 := run_firstCells_some (P := P) w i0.size 1 ad 1 c2 [.int .i64 x] (by rw [k1]; rfl) hnews
      rw [k1] at hf1
      have hst := run_storeCells_at P g (off + xs.length) e [.int .i64 x] 0 cur w hg (by simp; omega) (by intro u hu; rw [List.mem_singleton.1 hu]; rfl)
      simp only [Nat.add_zero] at hst
      have hrun : (Builtin.append_ #[t, t] ty #[.slice (some ⟨g, off, none⟩) xs.length c, .slice (some ad) 1 c2]).run P w = .ok (.slice (some ⟨g, off, none⟩) (xs.length + 1) c) (w.setRow g (cur.toList.take (off + xs.length) ++ [Value.int .i64 x] ++ cur.toList.drop (off + xs.length + [Value.int .i64 x].length)).toArray) := by
        simp [Builtin.append_, run_underlying hT.ht, sizeOf, typeInfo, hi0, Builtin.lenOf, hroom, hf1, Addr.add_lit, k1, hst]
      refine ⟨_, _, [g], hrun, .inr ⟨g, off, c, _, by rw [List.length_append, List.length_singleton], rfl, setRow_heap w g cur _ e (0, 0) hg, by rw [List.length_append, List.length_singleton]; exact hroom, hml, by rw [put_mid_size _ _ _ hk]; exact hfit, fun j hj => ?_⟩, ⟨g, rfl, .inl (by simp), by rw [size_setRow]; exact hf g (by simp)⟩, rfl, rfl, rfl, by rw [size_setRow]; exact Nat.le_refl _, fun k _ hn => setRow_other w g k _ (by simpa using hn)⟩
      rw [List.length_append, List.length_singleton] at hj
      rw [put_mid _ _ _ hk, getD_snocI]
      by_cases h : j = xs.length
      · rw [if_pos h, if_pos (by omega)]
      · rw [if_neg h, if_neg (by omega)]; exact hcell j (by omega)
    · have holds : ∀ (j : Nat) u, (xs.map fun y => Value.int .i64 y)[j]? = some u → w.cell? ((⟨g, off, none⟩ : Addr).add j) = some u := fun j u hu => by
        have hj : j < xs.length := by
          rcases Nat.lt_or_ge j xs.length with h | h
          · exact h
          · rw [List.getElem?_eq_none (by rw [List.length_map]; exact h)] at hu; cases hu
        rw [Addr.add_lit, cell_block hg, hcell j hj, ← hu, List.getElem?_map, List.getD_eq_getElem?_getD, List.getElem?_eq_getElem hj]; rfl
      have hrun := run_append_grow (P := P) (w := w) t ty e i0 z hT.ht hi0 hz0 ⟨g, off, none⟩ xs.length c (xs.map fun y => Value.int .i64 y) (by rw [k1, List.length_map]; omega) holds ad 1 c2 [.int .i64 x] (by rw [k1]; rfl) hnews (by omega) (by omega) (by rw [k2]; exact growslice_fits (by omega) (by omega))
      obtain ⟨q1, q2, q3, q4, q5, q6⟩ := fresh (xs.map fun y => Value.int .i64 y) (grownCap w (xs.length + 1) c e) _ rfl (List.length_map ..) (fun j hj => by rw [List.getElem?_map, List.getD_eq_getElem?_getD, List.getElem?_eq_getElem hj]; rfl) (grownCap_ge w (xs.length + 1) c e) (hgc _ _ h63)
      exact ⟨_, _, _, hrun, q1, ⟨_, rfl, .inr (Nat.le_refl _), q2⟩, q3, q4, q5, Nat.le_of_lt q2, fun k hk _ => q6 k hk⟩
section
variable {P : Program} {ops : Array Oper} {Q : Exit → Act → World → Prop} {rest : List Oper} {o : Oper} {a : Act} {w W : World} {N : Nat} {l : List (Nat × Value)} {s : List Asr} {t e : TypeId}
theorem wl_que (hg : o.guard = none) (hF : Fr N a l) {x y : Operand} (ho : o.op = .call { callee := .builtin .append, args := #[x, y], argTypes := #[t, t] }) {d : Nat} (hd : o.dst = some d) (hN : Nat.blt d N = true) {v : Value} {ad : Addr} {c2 : Nat} (hx : a.eval x = v) (hy : a.eval y = .slice (some ad) 1 c2) (hT : ElemT P t e 1 8) (hS : St W s w) (i : Nat) {xs : List Int} (hi : s[i]? = some (quA e v xs)) {k : Int} (ha : w.cell? ad = some (.int .i64 k)) (hlen : xs.length + 1 ≤ 1000000)
    (h : ∀ v' a' w', Fr N a' ((d, v') :: l) → St W (s.set i (quA e v' (xs ++ [k]))) w' → wpList P ops Q rest a' w') : wpList P ops Q (o :: rest) a w := by
  obtain ⟨f, hq, _, hb⟩ := hS.get i hi
  obtain ⟨v', w', f', hrun, _, ⟨b0, hb0, _, _⟩, _⟩ := run_que (ty := o.type) hT hq (fun b hm => (hb b hm).2) (c2 := c2) ha hlen
  refine wl_eff hg hF hd hN (run_app ho hx hy hrun) fun a' hF' => h _ _ _ hF' ?_
  have hS2 := hS.pick i hi
  obtain ⟨f9, ⟨f1, f2, rfl, h1, h4⟩, h2, h3⟩ := hS2.sep
  refine hS.mutAt i hi ?_ ?_ ?_ ?_ fun f hq2 hn hb2 => ?_
  all_goals
    obtain ⟨v2, w2, f3, hrun2, q1, ⟨b1, hb1, q2, q3⟩, q4, q5, q6, q7, q8⟩ := run_que (ty := o.type) hT (show quP e v xs w f1 from h1) (fun b hm => (h3 b (List.mem_append_left _ hm)).2) (c2 := c2) ha hlen
    rw [hrun] at hrun2
    obtain ⟨rfl, rfl⟩ : v' = v2 ∧ w' = w2 := by injection hrun2 with e1 e2; exact ⟨e1, e2⟩
  · exact q4
  · exact q5
  · exact q6
  · exact q7
  · obtain ⟨v3, w3, f4, hrun3, r1, ⟨b3, hb3, r2, r3⟩, r4, r5, r6, r7, r8⟩ := run_que (ty := o.type) hT (show quP e v xs w f from hq2) (fun b hm => (hb2 b hm).2) (c2 := c2) ha hlen
    rw [hrun] at hrun3
    obtain ⟨rfl, rfl⟩ : v' = v3 ∧ w' = w3 := by injection hrun3 with e1 e2; exact ⟨e1, e2⟩
    exact ⟨f4, r1, by rw [hb3]; simp, fun b hb' => by rw [hb3] at hb'; rw [List.mem_singleton.1 hb']; exact ⟨r2, r3⟩, r8⟩
theorem St.queNew (hS : St W s w) {g n c : Nat} {xs : List Int} {F : List Asr} (hs : s = rowA encI 1 e (.slice (some ⟨g, 0, none⟩) n c) xs :: F) (hp : 0 < xs.length) : St W (quA e (.slice (some ⟨g, 0, none⟩) xs.length c) xs :: F) w := by
  subst hs
  refine hS.imp fun f ⟨e1, B1, hr⟩ _ _ => ?_
  have hr0 := hr
  obtain ⟨ao, cap, hv, ho, _⟩ := hr
  simp only [Value.slice.injEq] at hv
  obtain ⟨rfl, rfl, rfl⟩ := hv
  obtain ⟨g', e2, _, _, _, hrb, how⟩ := hr0.opn hp
  simp only [Option.some.injEq, Addr.mk.injEq, and_true] at e2
  subst e2
  rw [hrb] at e1
  obtain ⟨_, hc⟩ := how
  rcases hc with ⟨hc, _⟩ | ⟨g2, cap2, cur, hv2, _, hb, hle, hm, hcs, htk⟩
  · cases hc
  · simp only [Value.slice.injEq, Option.some.injEq, Addr.mk.injEq, and_true, true_and] at hv2
    obtain ⟨rfl, rfl⟩ := hv2
    refine .inr ⟨g, 0, c, cur, rfl, by rw [e1]; rfl, hb, hle, hm, by omega, fun j hj => ?_⟩
    rw [Nat.zero_add]
    have h1 : (cur.toList.take (xs.length * 1))[j]? = (xs.flatMap encI)[j]? := by rw [htk]
    rw [Nat.mul_one, List.getElem?_take, if_pos hj, flat_encI, List.getElem?_map] at h1
    rw [List.getD_eq_getElem?_getD, List.getElem?_eq_getElem hj] 
    rw [List.getElem?_eq_getElem hj] at h1
    simpa using h1
theorem St.queTail (hS : St W s w) {g off n c : Nat} {x : Int} {xs : List Int} {F : List Asr} (hs : s = quA e (.slice (some ⟨g, off, none⟩) n c) (x :: xs) :: F) : St W (quA e (.slice (loA g off 1 1 c) (n - 1) (c - 1)) xs :: F) w := by
  subst hs
  refine hS.imp fun f hq _ _ => ?_
  rcases hq with ⟨ao, _, h, _⟩ | ⟨g2, off2, c2, cur, hv, hf, hb, hle, hm, hfit, hcell⟩
  · cases h
  · simp only [Value.slice.injEq, Option.some.injEq, Addr.mk.injEq, and_true] at hv
    obtain ⟨⟨rfl, rfl⟩, rfl, rfl⟩ := hv
    rw [List.length_cons] at hle hcell ⊢
    refine .inr ⟨g, if c = 1 then off else off + 1 * 1, c - 1, cur, by unfold loA; simp, hf, hb, by omega, by omega, by split <;> omega, fun j hj => ?_⟩
    rw [if_neg (by omega)]
    have := hcell (j + 1) (by omega)
    rw [show off + 1 * 1 + j = off + (j + 1) by omega, this]; rfl
theorem St.queOpen (hS : St W s w) (i : Nat) {v : Value} {xs : List Int} (hi : s[i]? = some (quA e v xs)) : ∃ ao c, v = .slice ao xs.length c ∧ xs.length ≤ c ∧ (0 < xs.length → ∃ g off, ao = some ⟨g, off, none⟩ ∧ g < w.heap.size ∧ ∀ j, j < xs.length → w.cell? ⟨g, off + j, none⟩ = some (.int .i64 (xs.getD j 0))) := by
  obtain ⟨f, hq, _, hb⟩ := hS.get i hi
  rcases hq with ⟨ao, rfl, rfl, rfl⟩ | ⟨g, off, c, cur, rfl, rfl, hg, hc, hm, hfit, hcell⟩
  · exact ⟨ao, 0, rfl, Nat.le_refl _, fun h => absurd h (Nat.not_lt_zero _)⟩
  · exact ⟨_, c, rfl, hc, fun _ => ⟨g, off, rfl, (hb g (by simp)).2, fun j hj => by rw [cell_block hg]; exact hcell j hj⟩⟩
end
open Go.RowKit
def NodeD.zero : NodeD := ⟨0, 0, 0, ⟨PtrD.zero, 0, 0⟩⟩
def nodeZ (ns : List (Option NodeD)) (k : Int) : NodeD := if 0 ≤ k then (ns.getD k.toNat none).getD NodeD.zero else NodeD.zero
def nodeB? (ns : List (Option NodeD)) (k : Int) : Bool := decide (0 ≤ k) && (ns.getD k.toNat none).isSome
theorem getO_out {ns : List (Option NodeD)} {k : Nat} (h : ns.length ≤ k) : ns.getD k none = none := by
  rw [List.getD_eq_getElem?_getD, List.getElem?_eq_none h]; rfl
theorem nodeZ_none {ns : List (Option NodeD)} {k : Int} (h : k < 0 ∨ ns.getD k.toNat none = none) : nodeZ ns k = NodeD.zero ∧ nodeB? ns k = false := by
  unfold nodeZ nodeB?
  rcases h with h | h
  · rw [if_neg (by omega), decide_eq_false (by omega)]; exact ⟨rfl, rfl⟩
  · rw [h]
    constructor
    · split <;> rfl
    · simp
theorem nodeZ_some {ns : List (Option NodeD)} {k : Int} {n : NodeD} (h0 : 0 ≤ k) (h : ns.getD k.toNat none = some n) : nodeZ ns k = n ∧ nodeB? ns k = true := by
  unfold nodeZ nodeB?
  rw [if_pos h0, decide_eq_true h0, h]; exact ⟨rfl, rfl⟩
theorem nodeB?_valid {ns : List (Option NodeD)} {k : Nat} : nodeB? ns (k : Int) = validN ns k := by
  unfold nodeB? validN
  rw [decide_eq_true (by omega), Int.toNat_natCast]; rfl
theorem nodeZ_get {ns : List (Option NodeD)} {k : Nat} {n : NodeD} (h : ns.getD k none = some n) : nodeZ ns (k : Int) = n := (nodeZ_some (by omega) (by rw [Int.toNat_natCast]; exact h)).1
noncomputable def folderT (st : StoreD) (n : NodeD) : ByteArray × Bool := match (leavesF st n.fTree).bind (blobL st) with
  | none => (ByteArray.empty, false)
  | some s => (s, (s.size : Int) == n.fSize)
theorem folderT_tree {st : StoreD} {n : NodeD} (h : leavesF st n.fTree = none) : folderT st n = (ByteArray.empty, false) := by unfold folderT; rw [h]; rfl
theorem folderT_blob {st : StoreD} {n : NodeD} {l : List PtrD} (h : leavesF st n.fTree = some l) (hb : blobL st l = none) : folderT st n = (ByteArray.empty, false) := by
  unfold folderT; rw [h]; simp only [Option.bind_some]; rw [hb]
theorem folderT_yes {st : StoreD} {n : NodeD} {l : List PtrD} {s : ByteArray} (h : leavesF st n.fTree = some l) (hb : blobL st l = some s) : folderT st n = (s, (s.size : Int) == n.fSize) := by
  unfold folderT; rw [h]; simp only [Option.bind_some]; rw [hb]
theorem dirF_fold {st : StoreD} {n : NodeD} : dirF st n = bif (folderT st n).2 then entsG (folderT st n).1 else none := by
  cases h : leavesF st n.fTree with
  | none => rw [dirF_tree h, folderT_tree h]; rfl
  | some l =>
    cases hb : blobL st l with
    | none => rw [dirF_blob h hb, folderT_blob h hb]; rfl
    | some s =>
      rw [folderT_yes h hb]
      by_cases hs : (s.size : Int) = n.fSize
      · rw [dirF_yes h hb hs, beq_iff_eq.2 hs]; rfl
      · rw [dirF_size h hb hs, beq_eq_false_iff_ne.2 hs]; rfl
def DirAt (w : World) (f : Int → Option Value) (k : Nat) (es : List EntryD) : Prop := ∃ ao cp, (f (k : Int)).getD (.slice none 0 0) = .slice ao es.length cp ∧ Rd EntryD.cells 2 w ao es.length es
theorem DirAt.below {w w' : World} {f : Int → Option Value} {k : Nat} {es : List EntryD} (h : DirAt w f k es) (hb : Below w.heap.size w w') : DirAt w' f k es := by
  obtain ⟨ao, cp, h1, h2⟩ := h
  exact ⟨ao, cp, h1, h2.below hb⟩
theorem DirAt.none (w : World) (f : Int → Option Value) (k : Nat) (h : f (k : Int) = .none) : DirAt w f k [] := ⟨.none, 0, by rw [h]; rfl, rd_of_nil _ _ _ _⟩
def FilesP (b : Nat) (st : StoreD) (t : TreeD) (ns : List (Option NodeD)) (w : World) : Prop := ∃ (pst : Value) (ao : Option Addr) (bm : Nat) (f : Int → Option Value),
  Box w b 10 113 (.agg #[pst, .int .i64 t.fRoot.fAt, .int .i64 t.fRoot.fBirth, .int .i64 t.fRoot.fSize, .int .i64 t.fRoot.fSum, .int .i64 t.fRoot.fLevel, .int .i64 t.fDepth, .int .i64 t.fMany, .slice ao ns.length ns.length, .map (some bm)]) ∧ NodesP ao ns w ∧ MapH w bm f ∧ ∀ k : Nat, DirAt w f k (entK st ns k)
theorem FilesP.below {b : Nat} {st : StoreD} {t : TreeD} {ns : List (Option NodeD)} {w w' : World} (h : FilesP b st t ns w) (hb : Below w.heap.size w w') : FilesP b st t ns w' := by
  obtain ⟨pst, ao, bm, f, h1, h2, h3, h4⟩ := h
  exact ⟨pst, ao, bm, f, h1.below hb (Nat.le_refl _), h2.below hb, h3.below hb, fun k => (h4 k).below hb⟩
open Go.RowKit
def intsL (l : List Nat) : List Int := l.map fun (k : Nat) => (k : Int)
theorem intsL_app (a b : List Nat) : intsL (a ++ b) = intsL a ++ intsL b := List.map_append ..
theorem intsL_len (l : List Nat) : (intsL l).length = l.length := List.length_map ..
def NmAt (fn : Int → Option Value) (X : List Nat) : Prop := ∀ k : Int, 0 ≤ k → (fn k).getD (.int .i64 0) = .int .i64 ((X.count k.toNat : Nat) : Int)
theorem NmAt.none : NmAt (fun _ => none) [] := fun k _ => rfl
theorem NmAt.upd {fn : Int → Option Value} {X : List Nat} (h : NmAt fn X) {id : Int} (hid : 0 ≤ id) : NmAt (updF fn id (.int .i64 (((X.count id.toNat : Nat) : Int) + 1))) (X ++ [id.toNat]) := fun k hk => by
  by_cases e : k = id
  · subst e
    rw [updF_same, Option.getD_some, List.count_append, List.count_singleton_self]; rfl
  · rw [updF_other e, h k hk, List.count_append, List.count_eq_zero.2 (fun hm : k.toNat ∈ [id.toNat] => e (by have := List.mem_singleton.1 hm; omega)), Nat.add_zero]
section
variable (st : StoreD) (ns : List (Option NodeD))
structure LO (Q : List Nat) (p : Nat) (fn : Int → Option Value) (tl : List Int) : Prop where
  qi : LinkP.QI (kdN st ns) (isFN ns) (validN ns) Q p
  run : runN st ns = LinkP.bfsRun (kdN st ns) (isFN ns) (validN ns) (17 - p) Q p
  tl : tl = intsL (Q.drop p)
  nm : NmAt fn ((Q.take p).flatMap (kdN st ns))
  q16 : Q.length ≤ 16
structure LJ (Q : List Nat) (p j : Nat) (fn : Int → Option Value) (tl : List Int) : Prop where
  qi : LinkP.QI (kdN st ns) (isFN ns) (validN ns) Q p
  run : runN st ns = LinkP.bfsRun (kdN st ns) (isFN ns) (validN ns) (17 - p) Q p
  lt : p < Q.length
  q16 : Q.length ≤ 16
  tl : tl = intsL ((Q ++ ((kdN st ns (Q.getD p 0)).take j).filter (isFN ns)).drop p)
  ok : ∀ x ∈ (kdN st ns (Q.getD p 0)).take j, validN ns x = true
  nd : (Q ++ ((kdN st ns (Q.getD p 0)).take j).filter (isFN ns)).Nodup
  nm : NmAt fn ((Q.take p).flatMap (kdN st ns) ++ (kdN st ns (Q.getD p 0)).take j)
end
section
variable {st : StoreD} {ns : List (Option NodeD)}
theorem q_short (H : NodesOk ns) (h0 : isFN ns 0 = true) {Q : List Nat} {p : Nat} (h : LinkP.QI (kdN st ns) (isFN ns) (validN ns) Q p) : Q.length ≤ 16 :=
  LinkP.nodup_short h.nd fun x hx => (base_of (st := st) H h0).lt x ((base_of (st := st) H h0).fv x (h.allF (base_of H h0) x hx))
theorem LO.start (H : NodesOk ns) (h0 : isFN ns 0 = true) : LO st ns [0] 0 (fun _ => none) [0] := ⟨LinkP.QI.start, rfl, rfl, NmAt.none, by decide⟩
theorem LO.row {Q : List Nat} {p : Nat} {fn : Int → Option Value} {tl : List Int} (h : LO st ns Q p fn tl) (hp : 0 < tl.length) : LJ st ns Q p 0 fn tl := by
  have hlt : p < Q.length := by
    rw [h.tl, intsL_len, List.length_drop] at hp
    omega
  refine ⟨h.qi, h.run, hlt, h.q16, ?_, fun x hx => (by cases hx), ?_, ?_⟩
  · rw [List.take_zero, List.filter_nil, List.append_nil]; exact h.tl
  · rw [List.take_zero, List.filter_nil, List.append_nil]; exact h.qi.nd
  · rw [List.take_zero, List.append_nil]; exact h.nm
theorem LO.head {Q : List Nat} {p : Nat} {fn : Int → Option Value} {x : Int} {tl : List Int} (h : LO st ns Q p fn (x :: tl)) : x = ((Q.getD p 0 : Nat) : Int) := by
  have hlt : p < Q.length := by
    have := congrArg List.length h.tl
    rw [intsL_len, List.length_drop, List.length_cons] at this
    omega
  have e := h.tl
  rw [List.drop_eq_getElem_cons hlt] at e
  have := (List.cons.inj e).1
  rw [this, List.getD_eq_getElem?_getD, List.getElem?_eq_getElem hlt]; rfl
theorem LO.fin {Q : List Nat} {p : Nat} {fn : Int → Option Value} {tl : List Int} (h : LO st ns Q p fn tl) (h0 : tl.length = 0) : runN st ns = some Q ∧ NmAt fn (Q.flatMap (kdN st ns)) := by
  have hp : p = Q.length := by
    rw [h.tl, intsL_len, List.length_drop] at h0
    have := h.qi.le
    omega
  have hn := h.nm
  rw [hp, List.take_length] at hn
  refine ⟨?_, hn⟩
  have h16 := h.q16
  obtain ⟨m, hm⟩ : ∃ m, 17 - p = m + 1 := ⟨16 - p, by omega⟩
  rw [h.run, hm, LinkP.bfs_end (by omega)]
theorem ent_kd {Q : List Nat} {p j : Nat} (hj : j < (entK st ns (Q.getD p 0)).length) : j < (kdN st ns (Q.getD p 0)).length ∧ (kdN st ns (Q.getD p 0)).take (j + 1) = (kdN st ns (Q.getD p 0)).take j ++ [((entK st ns (Q.getD p 0)).getD j EntryD.zero).fId.toNat] ∧ 1 ≤ ((entK st ns (Q.getD p 0)).getD j EntryD.zero).fId := by
  have hl : j < (kdN st ns (Q.getD p 0)).length := by unfold kdN; rw [List.length_map]; exact hj
  refine ⟨hl, ?_, (entsOk_mem (entK_ok _) (getE_mem hj)).2.1⟩
  rw [List.take_succ_eq_append_getElem hl]
  congr 2
  refine (List.getElem?_eq_some_iff.1 (?_ : (kdN st ns (Q.getD p 0))[j]? = some _)).2
  unfold kdN
  generalize entK st ns (Q.getD p 0) = L at hj
  rw [List.getElem?_map, List.getD_eq_getElem?_getD, List.getElem?_eq_getElem hj]; rfl
theorem take_mem_of {l : List Nat} {k : Nat} {x : Nat} (h : x ∈ l.take k) : x ∈ l := List.mem_of_mem_take h
theorem LJ.bad {Q : List Nat} {p j : Nat} {fn : Int → Option Value} {tl : List Int} (h : LJ st ns Q p j fn tl) (hj : j < (entK st ns (Q.getD p 0)).length) (hb : validN ns ((entK st ns (Q.getD p 0)).getD j EntryD.zero).fId.toNat = false) : linkB st ns = false := by
  obtain ⟨h1, h2, _⟩ := ent_kd hj
  refine linkB_none ?_
  have h16 := h.q16
  have hlt := h.lt
  obtain ⟨m, hm⟩ : ∃ m, 17 - p = m + 1 := ⟨16 - p, by omega⟩
  rw [h.run, hm, LinkP.bfs_bad h.lt fun hg => ?_]
  have hx : ((entK st ns (Q.getD p 0)).getD j EntryD.zero).fId.toNat ∈ (kdN st ns (Q.getD p 0)).take (j + 1) := by rw [h2]; simp
  rw [hg.1 _ (take_mem_of hx)] at hb; cases hb
theorem LJ.dup {Q : List Nat} {p j : Nat} {fn : Int → Option Value} {tl : List Int} (h : LJ st ns Q p j fn tl) (hj : j < (entK st ns (Q.getD p 0)).length) (hf : isFN ns ((entK st ns (Q.getD p 0)).getD j EntryD.zero).fId.toNat = true)
    (hc : 1 ≤ ((Q.take p).flatMap (kdN st ns) ++ (kdN st ns (Q.getD p 0)).take j).count ((entK st ns (Q.getD p 0)).getD j EntryD.zero).fId.toNat) : linkB st ns = false := by
  obtain ⟨h1, h2, _⟩ := ent_kd hj
  refine linkB_none ?_
  have h16 := h.q16
  have hlt := h.lt
  obtain ⟨m, hm⟩ : ∃ m, 17 - p = m + 1 := ⟨16 - p, by omega⟩
  rw [h.run, hm, LinkP.bfs_bad h.lt fun hg => ?_]
  generalize ((entK st ns (Q.getD p 0)).getD j EntryD.zero).fId.toNat = x at hf hc h2
  have hnd : (Q ++ ((kdN st ns (Q.getD p 0)).take (j + 1)).filter (isFN ns)).Nodup := by
    refine hg.2.sublist (List.Sublist.append_left ?_ _)
    exact (List.take_sublist _ _).filter _
  rw [h2, List.filter_append, ← List.append_assoc, List.filter_cons_of_pos hf, List.filter_nil] at hnd
  have hm2 : x ∈ Q ++ ((kdN st ns (Q.getD p 0)).take j).filter (isFN ns) := by
    have hx := List.count_pos_iff.1 (Nat.lt_of_lt_of_le Nat.zero_lt_one hc)
    rcases List.mem_append.1 hx with hx | hx
    · refine List.mem_append_left _ ?_
      rw [h.qi.is]
      exact List.mem_cons_of_mem _ (List.mem_filter.2 ⟨hx, hf⟩)
    · exact List.mem_append_right _ (List.mem_filter.2 ⟨hx, hf⟩)
  have := (List.nodup_append.1 hnd).2.2 x hm2 x (by simp)
  exact this rfl
theorem LJ.file {Q : List Nat} {p j : Nat} {fn : Int → Option Value} {tl : List Int} (h : LJ st ns Q p j fn tl) (hj : j < (entK st ns (Q.getD p 0)).length) (hv : validN ns ((entK st ns (Q.getD p 0)).getD j EntryD.zero).fId.toNat = true) (hf : isFN ns ((entK st ns (Q.getD p 0)).getD j EntryD.zero).fId.toNat = false) :
    LJ st ns Q p (j + 1) (updF fn ((entK st ns (Q.getD p 0)).getD j EntryD.zero).fId (.int .i64 (((((Q.take p).flatMap (kdN st ns) ++ (kdN st ns (Q.getD p 0)).take j).count ((entK st ns (Q.getD p 0)).getD j EntryD.zero).fId.toNat : Nat) : Int) + 1))) tl := by
  obtain ⟨h1, h2, h3⟩ := ent_kd hj
  have hfil : ((kdN st ns (Q.getD p 0)).take (j + 1)).filter (isFN ns) = ((kdN st ns (Q.getD p 0)).take j).filter (isFN ns) := by
    rw [h2, List.filter_append, List.filter_cons_of_neg (by rw [hf]; simp), List.filter_nil, List.append_nil]
  refine ⟨h.qi, h.run, h.lt, h.q16, by rw [hfil]; exact h.tl, fun x hx => ?_, by rw [hfil]; exact h.nd, ?_⟩
  · rw [h2] at hx
    rcases List.mem_append.1 hx with hx | hx
    · exact h.ok x hx
    · rw [List.mem_singleton.1 hx]; exact hv
  · rw [h2, ← List.append_assoc]
    exact h.nm.upd (by omega)
theorem LJ.fold {Q : List Nat} {p j : Nat} {fn : Int → Option Value} {tl : List Int} (h : LJ st ns Q p j fn tl) (hj : j < (entK st ns (Q.getD p 0)).length) (hv : validN ns ((entK st ns (Q.getD p 0)).getD j EntryD.zero).fId.toNat = true) (hf : isFN ns ((entK st ns (Q.getD p 0)).getD j EntryD.zero).fId.toNat = true)
    (hc : ((Q.take p).flatMap (kdN st ns) ++ (kdN st ns (Q.getD p 0)).take j).count ((entK st ns (Q.getD p 0)).getD j EntryD.zero).fId.toNat = 0) :
    LJ st ns Q p (j + 1) (updF fn ((entK st ns (Q.getD p 0)).getD j EntryD.zero).fId (.int .i64 (((((Q.take p).flatMap (kdN st ns) ++ (kdN st ns (Q.getD p 0)).take j).count ((entK st ns (Q.getD p 0)).getD j EntryD.zero).fId.toNat : Nat) : Int) + 1))) (tl ++ [((entK st ns (Q.getD p 0)).getD j EntryD.zero).fId]) := by
  obtain ⟨h1, h2, h3⟩ := ent_kd hj
  have hfil : ((kdN st ns (Q.getD p 0)).take (j + 1)).filter (isFN ns) = ((kdN st ns (Q.getD p 0)).take j).filter (isFN ns) ++ [((entK st ns (Q.getD p 0)).getD j EntryD.zero).fId.toNat] := by
    rw [h2, List.filter_append, List.filter_cons_of_pos hf, List.filter_nil]
  have hlt := h.lt
  refine ⟨h.qi, h.run, h.lt, h.q16, ?_, fun x hx => ?_, ?_, ?_⟩
  · rw [hfil, ← List.append_assoc, List.drop_append_of_le_length (by rw [List.length_append]; omega), intsL_app, ← h.tl]
    show _ = tl ++ [((((entK st ns (Q.getD p 0)).getD j EntryD.zero).fId.toNat : Nat) : Int)]
    rw [Int.toNat_of_nonneg (by omega)]
  · rw [h2] at hx
    rcases List.mem_append.1 hx with hx | hx
    · exact h.ok x hx
    · rw [List.mem_singleton.1 hx]; exact hv
  · rw [hfil, ← List.append_assoc]
    refine List.nodup_append.2 ⟨h.nd, by simp, fun a ha b hb e => ?_⟩
    have e := e.trans (List.mem_singleton.1 hb)
    have hn := List.count_eq_zero.1 hc
    rw [← e] at hn
    rcases List.mem_append.1 ha with ha | ha
    · rw [h.qi.is] at ha
      rcases List.mem_cons.1 ha with ha | ha
      · omega
      · exact hn (List.mem_append_left _ (List.mem_filter.1 ha).1)
    · exact hn (List.mem_append_right _ (List.mem_filter.1 ha).1)
  · rw [h2, ← List.append_assoc]
    exact h.nm.upd (by omega)
theorem LJ.fin (H : NodesOk ns) (h0 : isFN ns 0 = true) {Q : List Nat} {p j : Nat} {fn : Int → Option Value} {x : Int} {tl : List Int} (h : LJ st ns Q p j fn (x :: tl)) (hj : ¬ j < (entK st ns (Q.getD p 0)).length) : LO st ns (Q ++ (kdN st ns (Q.getD p 0)).filter (isFN ns)) (p + 1) fn tl := by
  have hl : (kdN st ns (Q.getD p 0)).length ≤ j := by unfold kdN; rw [List.length_map]; omega
  have ht := List.take_of_length_le hl
  have hg : LinkP.rowGood (kdN st ns) (isFN ns) (validN ns) Q (Q.getD p 0) := ⟨by have := h.ok; rw [ht] at this; exact this, by have := h.nd; rw [ht] at this; exact this⟩
  have hq := h.qi.step h.lt hg
  have h16 := h.q16
  have hlt := h.lt
  obtain ⟨m, hm⟩ : ∃ m, 17 - p = m + 1 := ⟨16 - p, by omega⟩
  refine ⟨hq, ?_, ?_, ?_, q_short H h0 hq⟩
  · rw [h.run, hm, LinkP.bfs_next h.lt hg, show 17 - (p + 1) = m by omega]
  · have e := h.tl
    rw [ht, List.drop_eq_getElem_cons (by rw [List.length_append]; omega)] at e
    exact (List.cons.inj e).2
  · have e := h.nm
    rw [ht] at e
    rw [List.take_append_of_le_length (by omega), LinkP.take_snocN h.lt, List.flatMap_append]
    simpa using e
theorem LJ.pos {Q : List Nat} {p j : Nat} {fn : Int → Option Value} {tl : List Int} (h : LJ st ns Q p j fn tl) : 0 < tl.length := by
  have := h.lt
  rw [h.tl, intsL_len, List.length_drop, List.length_append]; omega
theorem LJ.len {Q : List Nat} {p j : Nat} {fn : Int → Option Value} {tl : List Int} (h : LJ st ns Q p j fn tl) : tl.length ≤ 16 + 12 := by
  have h12 := (entsOk_is (entK_ok (st := st) (ns := ns) (Q.getD p 0))).2
  have h1 : (((kdN st ns (Q.getD p 0)).take j).filter (isFN ns)).length ≤ 12 := by
    refine Nat.le_trans (List.length_filter_le _ _) ?_
    rw [List.length_take]; unfold kdN; rw [List.length_map]; omega
  have := h.q16
  rw [h.tl, intsL_len, List.length_drop, List.length_append]; omega
theorem kind_fold (H : NodesOk ns) {k : Nat} {n : NodeD} (h : ns.getD k none = some n) : (n.fKind == 2) = isFN ns k := by
  rw [isFN_some h]
  have := (NodeD.ok_is (H.ok k n h)).small.kind
  rcases this with e | e <;> rw [e] <;> rfl
theorem count_le_28 {X : List Nat} {k : Nat} (h : X.length ≤ 1000) : X.count k ≤ 1000 := Nat.le_trans List.count_le_length h
theorem kd_flat {Q : List Nat} : (Q.flatMap (kdN st ns)).length ≤ 12 * Q.length := by
  induction Q with
  | nil => exact Nat.le_refl _
  | cons q r ih =>
    rw [List.flatMap_cons, List.length_append, List.length_cons]
    have h12 := (entsOk_is (entK_ok (st := st) (ns := ns) q)).2
    have : (kdN st ns q).length ≤ 12 := by unfold kdN; rw [List.length_map]; exact h12
    omega
theorem LJ.cnt {Q : List Nat} {p j : Nat} {fn : Int → Option Value} {tl : List Int} (h : LJ st ns Q p j fn tl) (k : Nat) : ((Q.take p).flatMap (kdN st ns) ++ (kdN st ns (Q.getD p 0)).take j).count k ≤ 1000 := by
  refine count_le_28 ?_
  have h1 := kd_flat (st := st) (ns := ns) (Q := Q.take p)
  have h12 := (entsOk_is (entK_ok (st := st) (ns := ns) (Q.getD p 0))).2
  have h2 : ((kdN st ns (Q.getD p 0)).take j).length ≤ 12 := by rw [List.length_take]; unfold kdN; rw [List.length_map]; omega
  have h3 := h.q16
  rw [List.length_take] at h1
  rw [List.length_append]
  omega
end
section
variable {P : Program} {W w : World} {s : List Asr} {e : TypeId}
theorem St.queCell (hS : St W s w) (i : Nat) {g off n c : Nat} {xs : List Int} (hi : s[i]? = some (quA e (.slice (some ⟨g, off, none⟩) n c) xs)) {j : Nat} (hj : j < xs.length) : w.cell? ⟨g, off + j * 1, none⟩ = some (.int .i64 (xs.getD j 0)) := by
  obtain ⟨ao, c', hv, _, h⟩ := hS.queOpen i hi
  simp only [Value.slice.injEq] at hv
  obtain ⟨g', off', e1, _, hc⟩ := h (by omega)
  rw [e1] at hv
  simp only [Option.some.injEq, Addr.mk.injEq, and_true] at hv
  obtain ⟨⟨rfl, rfl⟩, _⟩ := hv
  rw [Nat.mul_one]; exact hc j hj
end
open Go.RowKit
theorem inB_false {k a b : Int} (h : inB k a b = false) : k < a ∨ b < k := by
  by_cases h1 : a ≤ k
  · by_cases h2 : k ≤ b
    · rw [inB_mk h1 h2] at h; cases h
    · omega
  · omega
theorem node_out {ns : List (Option NodeD)} {k : Int} (h : inB k 0 ((ns.length : Int) - 1) = false) : k < 0 ∨ ns.getD k.toNat none = none := by
  by_cases h0 : k < 0
  · exact .inl h0
  · refine .inr (getO_out ?_)
    have := inB_false h
    omega
theorem nodeAt_any (aoN : Option Addr) (ns : List (Option NodeD)) (k : Int) (w0 : World) (h16 : ns.length ≤ 16) (hN : NodesP aoN ns w0) : Calls Tryz.prog 130 #[.slice aoN ns.length ns.length, .int .i64 k] w0 fun e w' => e = .returned (.tuple #[nV (nodeZ ns k), .bool (nodeB? ns k)]) ∧ Below w0.heap.size w0 w' := by
 obtain ⟨g5, o5, av5, r5, hal, hlk⟩ := hN.look; have RN := Bx.mk r5; clear r5
 have HS := Bx.mk (St.start w0)
 refine wc_enter Tryz.func130 rfl Tryz.ntmps130 [(0, .slice aoN ns.length ns.length), (1, .int .i64 k)] ⟨rfl, rfl, trivial⟩ rfl ?_
 refine xsr ?_
 intro a HF
 refine yal z10 HF HS ?_;clear HF HS a;intro a w1 b1 HF HS
 revert a;refine xr 1 rfl<|xne<|xsq<|xsr<|xr 2 rfl<|xy rfl (vn 108 1 rfl)<|xy rfl (fun a HF=>yl_subI rfl (HF.ev rfl) (HF.ev rfl) (i64w (by omega))) ?_
 intro a HF
 refine ycB ((within_any k 0 ((ns.length : Int) - 1) _).mono fun _ _ h => ⟨h.1, h.2 ▸ Below.refl _ _⟩) HF Tryz.func86 HS ?_; clear HF HS a; intro w2 a HS HF
 revert a;refine xr 2 rfl<|xcs 12 rfl (fun cc1=>?_) fun cc1=>?_
 have hin : inB k 0 ((ns.length : Int) - 1) = false := by simpa using cc1
 refine xr 6 rfl<|xne<|xct rfl<|xsr<|xy rfl (vb z10 rfl) ?_
 intro a HF
 refine yst HF HS 0 ?_;clear HS;intro w3 HS
 try dsimp only [List.set] at HS
 revert a;refine xr 1 rfl<|xne<|xre<|xtr ?_
 intro a HF
 refine bp_ret2 HF Tryz.results130 (HF.resBox rfl (HS.out.box 0 rfl) (by kernel_rfl)) (HF.res rfl) ?_
 have hz := nodeZ_none (ns := ns) (k := k) (node_out hin)
 exact ⟨by rw [hz.1, hz.2] <;> rfl, HS.out.bel⟩
 have hin : inB k 0 ((ns.length : Int) - 1) = true := by simpa using cc1
 have hkk := inB_true hin
 refine xr 2 rfl<|xy rfl (fun a HF=>yl_indexAddrR (e := 108) (i := k.toNat) (size := 1) rfl (HF.ev rfl) (HF.ev rfl) (by kernel_rfl) (by omega) (by omega) (RN.out.ao k.toNat (by omega))) ?_
 rcases hlk k.toNat (by omega) with ⟨hn2, ha2⟩ | ⟨n2, bn2, hn2, ha2, hbn2⟩
 refine xy rfl (fun a HF=>ylo (v := .pointer none) rfl (HF.ev rfl) (RN.out.elem1 HS.out ha2 rfl))<|xy rfl (fun a HF=>show Yl _ _ _ _ (.bool true) from yl_eqlP (e := 69) (p := none) rfl (HF.ev rfl) (HF.ev rfl) (by kernel_rfl))<|xr 1 rfl<|xne<|xct rfl<|xsr<|xy rfl (vb z10 rfl) ?_
 intro a HF
 refine yst HF HS 0 ?_;clear HS;intro w4 HS
 try dsimp only [List.set] at HS
 revert a;refine xr 1 rfl<|xne<|xre<|xtr ?_
 intro a HF
 refine bp_ret2 HF Tryz.results130 (HF.resBox rfl (HS.out.box 0 rfl) (by kernel_rfl)) (HF.res rfl) ?_
 have hz := nodeZ_none (ns := ns) (k := k) (.inr hn2)
 exact ⟨by rw [hz.1, hz.2] <;> rfl, HS.out.bel⟩
 have HBN2 := Bx.mk hbn2; clear hbn2
 refine xy rfl (fun a HF=>ylo (v := .pointer (some ⟨bn2, 0, none⟩)) rfl (HF.ev rfl) (RN.out.elem1 HS.out ha2 rfl))<|xy rfl (fun a HF=>show Yl _ _ _ _ (.bool false) from yl_eqlP (e := 69) (p := (some ⟨bn2, 0, none⟩)) rfl (HF.ev rfl) (HF.ev rfl) (by kernel_rfl))<|xr 1 rfl<|xne<|xcf rfl<|xsk<|xet<|xsr<|xr 2 rfl<|xy rfl (fun a HF=>yl_indexAddrR (e := 108) (i := k.toNat) (size := 1) rfl (HF.ev rfl) (HF.ev rfl) (by kernel_rfl) (by omega) (by omega) (RN.out.ao k.toNat (by omega)))<|xy rfl (fun a HF=>ylo (v := .pointer (some ⟨bn2, 0, none⟩)) rfl (HF.ev rfl) (RN.out.elem1 HS.out ha2 rfl))<|xr 1 rfl<|xy rfl (fun a HF=>ylr (cs := nL n2) rfl (HF.ev rfl) ((HBN2.out.below HS.out.bel (Nat.le_refl _)).sub 0 10)) ?_
 intro a HF
 refine yst HF HS 0 ?_;clear HS;intro w5 HS
 try dsimp only [List.set] at HS
 revert a;refine xr 1 rfl<|xne<|xre ?_
 intro a HF
 refine bp_ret2 HF Tryz.results130 (HF.resBox rfl (HS.out.box 0 rfl) (by kernel_rfl)) (HF.res rfl) ?_
 have hz := nodeZ_some (ns := ns) (k := k) (by omega) hn2
 exact ⟨by rw [hz.1, hz.2] <;> rfl, HS.out.bel⟩
theorem read_128 {st : StoreD} (p : PtrD) : (readT st p).size ≤ 128 := by
  cases hh : p.hole with
  | true => rw [readT_hole hh]; exact Nat.zero_le _
  | false =>
    cases hf : fitsB p (rowAt st p) with
    | false => rw [readT_no hh hf]; exact Nat.zero_le _
    | true =>
      rw [readT_yes hh hf]
      unfold fitsB at hf
      simp only [Bool.and_eq_true, beq_iff_eq] at hf
      have h := hf.1
      unfold PtrD.ok at h
      rw [hh] at h
      simp only [Bool.false_or, Bool.and_eq_true] at h
      have := (inB_true h.1.1.2).2
      omega
theorem nonempty_size {s : ByteArray} (h : (s.toList == (⟨#[]⟩ : ByteArray).toList) = false) (h0 : s.size = 0) : False := by
  have := size_pos h
  omega
theorem folderText_any (a0 : Option Addr) (c0 : Nat) (a1 : Option Addr) (c1 : Nat) (a2 : Option Addr) (c2 : Nat) (a4 : Option Addr) (c4 : Nat) (a6 : Option Addr) (c6 : Nat) (st : StoreD) (n : NodeD) (b : Nat) (w0 : World) (hT : TabP w0) (hM : MaxP w0) (hE : ErrP w0) (hB : Box w0 b 8 40 (sV a0 c0 a1 c1 a2 c2 a4 c4 a6 c6 st)) (hR : Rd encS 1 w0 a0 st.fRows.length st.fRows) (hrow : RowsOk st) : Calls Tryz.prog 160 #[.pointer (some ⟨b, 0, none⟩), nV n] w0 fun e w' => e = .returned (.tuple #[.string (folderT st n).1, .bool (folderT st n).2]) ∧ Below w0.heap.size w0 w' := by
 have HT := Bx.mk hT; have HM := Bx.mk hM; have HE := Bx.mk hE; have HB := Bx.mk hB; have HR := Bx.mk hR; clear hT hM hE hB hR
 have HS := Bx.mk (St.start w0)
 refine wc_enter Tryz.func160 rfl Tryz.ntmps160 [(0, .pointer (some ⟨b, 0, none⟩)), (1, nV n)] ⟨rfl, rfl, trivial⟩ rfl ?_
 refine xsr ?_
 intro a HF
 refine ybx HF HS ?_;clear HF HS a;intro a w1 b1 HF HS
 revert a;refine xr 2 rfl<|xne<|xsr<|xr 1 rfl<|xy rfl (vf 3 rfl)<|xy rfl (vw HS.out 0 7 rfl rfl) ?_
 intro a HF
 refine yc (leaves_any a0 c0 a1 c1 a2 c2 a4 c4 a6 c6 st n.fTree b _ (HT.out.below HS.out.bel) (HM.out.below HS.out.bel) (HE.out.below HS.out.bel) (HB.out.below HS.out.bel (Nat.le_refl _)) (HR.out.below HS.out.bel) hrow) HF Tryz.func121 ?_
 rintro _ w2 (⟨l, hlf, ao, rfl, hs1⟩ | ⟨hlf, rfl, hb⟩)
 refine ⟨_, rfl, ?_⟩; replace HS := Bx.mk (HS.out.add hs1);clear hs1 HF a;intro a HF
 try dsimp only [List.eraseIdx] at HS
 revert a;refine xr 5 rfl<|xne<|xsq<|xsr<|xr 2 rfl<|xne<|xcf rfl<|xsk<|xet<|xsq ?_
 have hl16 := leaves_16 hlf; have hoks := leaves_oks hlf (leaves_root hlf)
 refine xrl<|xr 1 rfl<|xne<|xsq<|xsr<|xr 1 rfl<|xy rfl (vn 42 5 rfl)<|xr 1 rfl<|xne<|xbl ?_
 intro a HF
 refine wc_loop (ι := Nat) (fun i a w => ∃ (tx : ByteArray), (i ≤ l.length ∧ tx.size ≤ 128 * i ∧ blobL st l = (blobL st (l.drop i)).map (tx ++ ·)) ∧ Fr 59 a [(0, .pointer (some ⟨b, 0, none⟩)), (3, .pointer (some ⟨b1, 0, none⟩)), (6, .slice ao l.length l.length), (22, .slice ao l.length l.length), (23, .int .i64 (l.length : Int)), (8, .string tx), (24, .int .i64 (i : Int))] ∧ St w0 ([holdsA (fun w => Rd PtrD.cells 5 w ao l.length l), boxA b1 10 69 (nV n)]) w) (fun i => l.length - i) 0 ⟨⟨#[]⟩, ⟨Nat.zero_le _, Nat.zero_le _, blob_begin⟩, HF.less _ ⟨rfl, rfl, rfl, rfl, rfl, rfl, rfl, trivial⟩, HS.out⟩ ?_
 clear HF HS; clear a
 rintro i a w3 ⟨tx, ⟨hi, htx, hbl⟩, HF, HS⟩
 replace HS := Bx.mk HS
 revert a;refine xsr<|xr 1 rfl<|xne<|xsq<|xcs 25 rfl (fun cc1=>?_) fun cc1=>?_
 have dcc1 := of_decide_eq_true cc1
 refine xct rfl<|xsk<|xet<|xsq<|xbl<|xsq ?_
 obtain ⟨g7, o7, r7⟩ := (HS.out.holds 0 rfl).opn; have RL := Bx.mk r7; clear r7; have hrt := readT_le hrow (l.getD i PtrD.zero); have hrp := read_128 (st := st) (l.getD i PtrD.zero)
 refine xrl<|xr 1 rfl<|xy rfl (vxr 42 i 5 rfl (RL.out.ao i (by omega)))<|xy rfl (fun a HF=>ylr (cs := pL (l.getD i PtrD.zero)) rfl (HF.ev rfl) (RL.out.elem (St.start _) (get_getD (xs := l) (j := i) (d := PtrD.zero) (by omega)))) ?_
 intro a HF
 refine yal z5 HF HS ?_;clear HF HS a;intro a w4 b2 HF HS
 revert a;refine xr 1 rfl ?_
 intro a HF
 refine yst HF HS 0 ?_;clear HS;intro w5 HS
 try dsimp only [List.set] at HS
 revert a;refine xne<|xsr<|xr 1 rfl<|xy rfl (vw HS.out 0 5 rfl rfl) ?_
 intro a HF
 refine ycB (stRead_any a0 c0 a1 c1 a2 c2 a4 c4 a6 c6 st (l.getD i PtrD.zero) b _ (HB.out.below HS.out.bel (Nat.le_refl _)) (HR.out.below HS.out.bel) hrow (hoks _ (getD_mem (by omega)))) HF Tryz.func122 HS ?_; clear HF HS a; intro w6 a HS HF
 revert a;refine xr 5 rfl<|xne<|xsq<|xsr<|xr 2 rfl<|xy rfl (vn 42 5 rfl)<|xy rfl (fun a HF=>yl_subI (r := ((l.length - 1 : Nat) : Int)) rfl (HF.ev rfl) (HF.ev rfl) ((i64w (by omega)).trans (by omega)))<|xr 2 rfl<|xcs 40 rfl (fun cc2=>?_) fun cc2=>?_
 have dcc2 := of_decide_eq_true cc2
 refine xr 1 rfl<|xy rfl (fun a HF=>yl_lenS rfl (HF.ev rfl) (by kernel_rfl))<|xr 3 rfl<|xcs 45 rfl (fun cc3=>?_) fun cc3=>?_
 have dcc3 := bne_iff_ne.1 cc3
 refine xr 3 rfl<|xne<|xct rfl<|xsr<|xr 2 rfl<|xne<|xre<|xtr<|xbr<|xtr<|xtr<|xbr<|xtr<|xb2 Tryz.results160 rfl rfl ?_
 exact ⟨by rw [folderT_blob hlf (blob_stop hbl (show i < l.length by omega) (.inr ⟨by omega, by have h := dcc3; omega⟩))] <;> rfl, HS.out.bel⟩
 have dcc3 := bne_eq_false_iff_eq.1 cc3
 refine xr 1 rfl<|xy rfl (fun a HF=>yl_eqlS rfl (HF.ev rfl) (HF.ev rfl))<|xr 1 rfl<|xne<|xcs 48 rfl (fun cc4=>?_) fun cc4=>?_
 refine xct rfl<|xsr<|xr 2 rfl<|xne<|xre<|xtr<|xbr<|xtr<|xtr<|xbr<|xtr<|xb2 Tryz.results160 rfl rfl ?_
 have h0 : readT st (l.getD i PtrD.zero) = ⟨#[]⟩ := bytes_toList (by simpa using cc4)
 exact ⟨by rw [folderT_blob hlf (blob_stop hbl (show i < l.length by omega) (.inl (by rw [h0]; rfl)))] <;> rfl, HS.out.bel⟩
 refine xcf rfl<|xsk<|xet<|xrl<|xr 2 rfl<|xy rfl (fun a HF=>yl_addS rfl (HF.ev rfl) (HF.ev rfl) (by (try simp only [size1, app_size]); omega))<|xr 1 rfl<|xni<|xeb<|xet<|xrl<|xy rfl (vad rfl)<|xr 1 rfl<|xne ?_
 have h1 : (readT st (l.getD i PtrD.zero)).size ≠ 0 := fun h => nonempty_size (by simpa using cc4) h
 have hbs := blob_step hbl (show i < l.length by omega) h1 (.inr (by have h := dcc3; omega))
 replace HS:=Bx.mk ((HS.out.pick 2 rfl).pick 2 rfl)
 intro a HF
 exact ⟨(i + 1), ⟨(tx ++ readT st (l.getD i PtrD.zero)), ⟨by omega, by rw [app_size]; omega, hbs⟩, HF.less _ ⟨rfl, rfl, rfl, rfl, rfl, rfl, rfl, trivial⟩, (HS.out.erase 2)⟩, (by omega)⟩
 have dcc2 := of_decide_eq_false cc2
 refine xr 6 rfl<|xy rfl (fun a HF=>yl_eqlS rfl (HF.ev rfl) (HF.ev rfl))<|xr 1 rfl<|xne<|xcs 48 rfl (fun cc5=>?_) fun cc5=>?_
 refine xct rfl<|xsr<|xr 2 rfl<|xne<|xre<|xtr<|xbr<|xtr<|xtr<|xbr<|xtr<|xb2 Tryz.results160 rfl rfl ?_
 have h0 : readT st (l.getD i PtrD.zero) = ⟨#[]⟩ := bytes_toList (by simpa using cc5)
 exact ⟨by rw [folderT_blob hlf (blob_stop hbl (show i < l.length by omega) (.inl (by rw [h0]; rfl)))] <;> rfl, HS.out.bel⟩
 refine xcf rfl<|xsk<|xet<|xrl<|xr 2 rfl<|xy rfl (fun a HF=>yl_addS rfl (HF.ev rfl) (HF.ev rfl) (by (try simp only [size1, app_size]); omega))<|xr 1 rfl<|xni<|xeb<|xet<|xrl<|xy rfl (vad rfl)<|xr 1 rfl<|xne ?_
 have h1 : (readT st (l.getD i PtrD.zero)).size ≠ 0 := fun h => nonempty_size (by simpa using cc5) h
 have hbs := blob_step hbl (show i < l.length by omega) h1 (.inl (by omega))
 replace HS:=Bx.mk ((HS.out.pick 2 rfl).pick 2 rfl)
 intro a HF
 exact ⟨(i + 1), ⟨(tx ++ readT st (l.getD i PtrD.zero)), ⟨by omega, by rw [app_size]; omega, hbs⟩, HF.less _ ⟨rfl, rfl, rfl, rfl, rfl, rfl, rfl, trivial⟩, (HS.out.erase 2)⟩, (by omega)⟩
 have dcc1 := of_decide_eq_false cc1
 refine xcf rfl<|xex<|xtx<|xtx<|xbh<|xet<|xsq ?_
 intro a HF
 refine wr_quiet (by kernel_rfl) (by kernel_rfl) HS.out ?_
 revert a;refine xqr 2 rfl<|xq rfl (fun HS a HF=>yl_lenS rfl (HF.ev rfl) (by kernel_rfl))<|xq rfl (fun HS=>vf 2 rfl)<|xq rfl (fun HS=>vc HS 1 rfl rfl)<|xqr 3 rfl ?_
 intro a HF
 refine wpQuiet_nil ?_; intro w7 HS; replace HS := Bx.mk HS
 revert a;refine xet<|xre<|xb2 Tryz.results160 rfl rfl ?_
 have hbx := blob_end hbl (by omega)
 exact ⟨by rw [folderT_yes hlf hbx] <;> rfl, HS.out.bel⟩
 refine ⟨_, rfl, ?_⟩; replace HS := Bx.mk (HS.out.later hb);clear hb HF a
 refine xr 5 rfl<|xne<|xsq<|xsr<|xr 2 rfl<|xne<|xct rfl<|xsr<|xr 2 rfl<|xne<|xre<|xtr<|xb2 Tryz.results160 rfl rfl ?_
 exact ⟨by rw [folderT_tree hlf] <;> rfl, HS.out.bel⟩
open Go.RowKit
set_option maxHeartbeats 2000000 in
theorem linked_any (fb : Nat) (st : StoreD) (t : TreeD) (ns : List (Option NodeD)) (w0 : World) (H : NodesOk ns) (h0 : isFN ns 0 = true) (hF : FilesP fb st t ns w0) : Calls Tryz.prog 162 #[.pointer (some ⟨fb, 0, none⟩)] w0 fun e w' => e = .returned (.bool (linkB st ns)) ∧ Below w0.heap.size w0 w' := by
 obtain ⟨pst, aoN, bm, fD, hfb, hN, hMH, hD⟩ := hF; have HFB := Bx.mk hfb; have HMH := Bx.mk hMH; have HD := Bx.mk hD; have HN := Bx.mk hN; clear hfb hMH hD
 obtain ⟨g5, o5, av5, r5, hal, hlk⟩ := hN.look; have RN := Bx.mk r5; clear r5 hN
 have h16 := H.len
 have HS := Bx.mk (St.start w0)
 refine wc_enter Tryz.func162 rfl Tryz.ntmps162 [(0, .pointer (some ⟨fb, 0, none⟩))] ⟨rfl, trivial⟩ rfl ?_
 refine xsr<|xr 1 rfl<|xne<|xsr ?_
 intro a HF
 refine wl_makeMap rfl HF rfl rfl rfl HS.out ?_; clear HF HS a; intro a w1 b1 HF HS; replace HS := Bx.mk HS
 revert a;refine xr 1 rfl<|xne<|xsq<|xsr ?_
 intro a HF
 refine ybs encI 3 1 [0] HF HS ?_;clear HF HS a;intro b2 a w2 HF HS
 revert a;refine xr 1 rfl<|xne<|xbl ?_
 replace HS:=Bx.mk (HS.out.pick 0 rfl)
 replace HS := Bx.mk (HS.out.queNew rfl (by decide))
 intro a HF
 refine wc_loop (ι := Nat) (fun p a w => ∃ (Q : List Nat) (tl : List Int) (vq : Value) (fn : Int → Option Value), (LO st ns Q p fn tl) ∧ Fr 89 a [(0, .pointer (some ⟨fb, 0, none⟩)), (3, .map (some b1)), (4, vq)] ∧ St w0 ([quA 3 vq tl, mapF b1 fn]) w) (fun p => 17 - p) 0 ⟨[0], [0], .slice (some ⟨b2, 0, none⟩) 1 1, (fun _ => none), LO.start H h0, HF.less _ ⟨rfl, rfl, rfl, trivial⟩, HS.out⟩ ?_
 clear HF HS; clear a
 rintro p a w3 ⟨Q, tl, vq, fn, hlo, HF, HS⟩
 replace HS := Bx.mk HS
 obtain ⟨aoQ, cQ, rfl, hqc, hqo⟩ := HS.out.queOpen 0 rfl; have hp16 := hlo.q16; have hple := hlo.qi.le
 revert a;refine xsq<|xsr<|xr 1 rfl<|xy rfl (vn 3 1 rfl)<|xr 1 rfl<|xne<|xcs 15 rfl (fun cc1=>?_) fun cc1=>?_
 have dcc1 := of_decide_eq_true cc1
 refine xct rfl<|xsk<|xet<|xsq<|xbl<|xsq ?_
 have hlj := hlo.row (by omega)
 obtain ⟨x0, tl0, rfl⟩ : ∃ x0 tl0, tl = x0 :: tl0 := by cases tl with | nil => exact absurd (show (0 : Int) < (([] : List Int).length : Int) by assumption) (by simp) | cons x0 tl0 => exact ⟨x0, tl0, rfl⟩
 have hx0 := hlo.head; subst hx0
 obtain ⟨gQ, oQ, rfl, hgl, _⟩ := hqo (by simp); obtain ⟨aoE, cpE, hE1, hE2⟩ := HD.out (Q.getD p 0); obtain ⟨gE, oE, rE⟩ := hE2.opn; have RE := Bx.mk rE; clear rE hE2
 have htl1 : 0 < ((((Q.getD p 0 : Nat) : Int)) :: tl0).length := by simp
 try dsimp only [List.eraseIdx] at HS
 intro a HF
 refine wr_quiet (by kernel_rfl) (by kernel_rfl) HS.out ?_
 revert a;refine xqr 2 rfl<|xq rfl (fun HS=>vf 9 rfl)<|xq rfl (fun HS a HF=>ylo (v := .map (some bm)) rfl (HF.ev rfl) (((HFB.out.below HS.bel (Nat.le_refl _)).cell 9).trans rfl))<|xqr 1 rfl<|xq rfl (fun HS a HF=>yl_indexAddr (e := 3) (i := 0) (size := 1) rfl (HF.ev rfl) (HF.ev rfl) (by kernel_rfl) rfl htl1)<|xq rfl (fun HS a HF=>ylo (v := .int .i64 ((Q.getD p 0 : Nat) : Int)) rfl (HF.ev rfl) (HS.queCell 0 rfl (j := 0) htl1))<|xq rfl (fun HS a HF=>yl_lookM rfl (HF.ev rfl) (HF.ev rfl) Tryz.underlying111 Tryz.underlying3 (Tryz.zeroValue56 _) (HMH.out.below HS.bel) hE1)<|xq rfl (fun HS=>vn 118 2 rfl)<|xqr 1 rfl ?_
 intro a HF
 refine wpQuiet_nil ?_; intro w4 HS; replace HS := Bx.mk HS
 refine ex_then<|wp_block ?_
 refine wc_loop (ι := Nat) (fun j a w => ∃ (tl : List Int) (vq : Value) (fn : Int → Option Value), (j ≤ (entK st ns (Q.getD p 0)).length ∧ LJ st ns Q p j fn tl) ∧ Fr 89 a [(0, .pointer (some ⟨fb, 0, none⟩)), (3, .map (some b1)), (25, .slice aoE ((entK st ns (Q.getD p 0)).length) cpE), (26, .int .i64 ((entK st ns (Q.getD p 0)).length : Int)), (4, vq), (27, .int .i64 (j : Int))] ∧ St w0 ([quA 3 vq tl, mapF b1 fn]) w) (fun j => (entK st ns (Q.getD p 0)).length - j) 0 ⟨(((Q.getD p 0 : Nat) : Int) :: tl0), _, fn, ⟨Nat.zero_le _, hlj⟩, HF.less _ ⟨rfl, rfl, rfl, rfl, rfl, rfl, trivial⟩, HS.out⟩ ?_
 clear HF HS; clear a
 rintro j a w5 ⟨tl, vq, fn, ⟨hj, hlj⟩, HF, HS⟩
 replace HS := Bx.mk HS
 obtain ⟨aoQ, cQ, rfl, hqc, hqo⟩ := HS.out.queOpen 0 rfl; have hjl := hlj.len; have hjp := hlj.pos
 revert a;refine xsr<|xr 1 rfl<|xne<|xsq<|xcs 28 rfl (fun cc2=>?_) fun cc2=>?_
 have dcc2 := of_decide_eq_true cc2
 refine xct rfl<|xsk<|xet<|xsq<|xbl<|xsq ?_
 obtain ⟨_, _, hid⟩ := ent_kd (st := st) (ns := ns) (Q := Q) (p := p) (j := j) (by omega); have hc1 := hlj.cnt ((entK st ns (Q.getD p 0)).getD j EntryD.zero).fId.toNat; have h12 := (entsOk_is (entK_ok (st := st) (ns := ns) (Q.getD p 0))).2
 refine xrl<|xy rfl (vxr 118 j 2 rfl (RE.out.ao j (by omega)))<|xy rfl (fun a HF=>ylr (cs := [.string (((entK st ns (Q.getD p 0)).getD j EntryD.zero).fName), .int .i64 (((entK st ns (Q.getD p 0)).getD j EntryD.zero).fId)]) rfl (HF.ev rfl) (RE.out.elem HS.out (get_getD (xs := (entK st ns (Q.getD p 0))) (j := j) (d := EntryD.zero) (by omega)))) ?_
 intro a HF
 refine yal [.string ByteArray.empty, .int .i64 0] HF HS ?_;clear HF HS a;intro a w6 b3 HF HS
 refine yst HF HS 0 ?_;clear HS;intro w7 HS
 try dsimp only [List.set] at HS
 refine wl_ne<|wp_seq ?_
 refine wp_join (R := fun a w => ∃ (b4 : Nat), Fr 89 a [(0, .pointer (some ⟨fb, 0, none⟩)), (3, .map (some b1)), (25, .slice aoE ((entK st ns (Q.getD p 0)).length) cpE), (26, .int .i64 ((entK st ns (Q.getD p 0)).length : Int)), (4, .slice aoQ tl.length cQ), (27, .int .i64 (j : Int)), (28, .bool true), (29, .pointer (some ⟨gE, oE + j * 2, none⟩)), (30, .agg #[.string (((entK st ns (Q.getD p 0)).getD j EntryD.zero).fName), .int .i64 (((entK st ns (Q.getD p 0)).getD j EntryD.zero).fId)]), (6, .pointer (some ⟨b3, 0, none⟩)), (7, .pointer (some ⟨b4, 0, none⟩)), (8, .bool (nodeB? ns (((entK st ns (Q.getD p 0)).getD j EntryD.zero).fId)))] ∧ St w0 ([boxA b4 10 69 (nV (nodeZ ns (((entK st ns (Q.getD p 0)).getD j EntryD.zero).fId))), boxA b3 2 118 (.agg #[.string (((entK st ns (Q.getD p 0)).getD j EntryD.zero).fName), .int .i64 (((entK st ns (Q.getD p 0)).getD j EntryD.zero).fId)]), quA 3 (.slice (aoQ) tl.length cQ) tl, mapF b1 fn]) w) ?_ ?_
 refine wr_heldS (s := [boxA b3 2 118 (.agg #[.string (((entK st ns (Q.getD p 0)).getD j EntryD.zero).fName), .int .i64 (((entK st ns (Q.getD p 0)).getD j EntryD.zero).fId)]), quA 3 (.slice (aoQ) tl.length cQ) tl, mapF b1 fn]) (by kernel_rfl) (St.drew (HS.out)) ?_
 have HS2 := Bx.mk HS.out.drew; replace HS := Bx.mk (show St w0 ([boxA b3 2 118 (.agg #[.string (((entK st ns (Q.getD p 0)).getD j EntryD.zero).fName), .int .i64 (((entK st ns (Q.getD p 0)).getD j EntryD.zero).fId)]), quA 3 (.slice (aoQ) tl.length cQ) tl, mapF b1 fn]) _ from HS.out.drew)
 generalize World.drew _ = w8 at HS HS2 ⊢
 revert a;refine xh 0 HS.out rfl rfl rfl<|xh 1 HS.out rfl rfl rfl<|xhy 2 HS.out rfl rfl (fun HS=>vf 8 rfl)<|xhy 3 HS.out rfl rfl (fun HS a HF=>ylo (v := .slice aoN ns.length ns.length) rfl (HF.ev rfl) (((HFB.out.below HS.bel (Nat.le_refl _)).cell 8).trans rfl))<|xhy 4 HS.out rfl rfl (fun HS=>vf 1 rfl)<|xhy 5 HS.out rfl rfl (fun HS=>vc HS 0 rfl rfl) ?_
 intro a HF
 refine wh_two 6 10 (by kernel_rfl) ?_ ?_
 refine yoB (nodeAt_any aoN ns (((entK st ns (Q.getD p 0)).getD j EntryD.zero).fId) _ h16 (HN.out.below HS2.out.bel)) HF Tryz.func130 ?_
 intro w9 hb; replace HS := Bx.mk (HS.out.later hb); replace HS2 := Bx.mk (HS2.out.later hb);clear hb HF a;intro a HF; refine ⟨HS.out, ?_⟩
 revert a;refine xh 7 HS.out rfl rfl rfl<|xh 8 HS.out rfl rfl rfl<|xh 9 HS.out rfl rfl rfl ?_
 intro a HF
 refine wh_one 10 (by kernel_rfl) ?_
 refine wo_alloc rfl rfl HF rfl rfl rfl (Z := z10) (by kernel_rfl) rfl HS2.out HS.out ?_; clear HF HS HS2 a; intro a w10 b4 HF HS2 HS; replace HS := Bx.mk HS; replace HS2 := Bx.mk HS2; refine ⟨HS.out, ?_⟩
 refine wh_one 11 (by kernel_rfl) ?_
 refine wo_storeBox rfl rfl rfl rfl (HF.ev rfl) (HF.ev rfl) HS2.out 0 rfl (cells_lit (nL (nodeZ ns (((entK st ns (Q.getD p 0)).getD j EntryD.zero).fId))) rfl rfl) (by kernel_rfl) ?_
 clear HS HS2; intro w11 HS2; replace HS2:=Bx.mk HS2;try dsimp only [List.set] at HS2
 have HS:=Bx.mk ((HS2.out.erase 0));refine ⟨HS.out,?_⟩
 revert a;refine xh 12 HS.out rfl rfl rfl ?_
 intro a HF
 refine wh_done (by kernel_rfl) ?_
 replace HS := HS2; clear HS2
 exact on_mk ⟨_, HF.less _ ⟨rfl, rfl, rfl, rfl, rfl, rfl, rfl, rfl, rfl, rfl, rfl, rfl, trivial⟩, HS.out⟩
 refine wo_alloc rfl rfl HF rfl rfl rfl (Z := z10) (by kernel_rfl) rfl HS2.out HS.out ?_; clear HF HS HS2 a; intro a w12 b5 HF HS2 HS; replace HS := Bx.mk HS; replace HS2 := Bx.mk HS2; refine ⟨HS.out, ?_⟩
 refine wh_one 6 (by kernel_rfl) ?_
 refine yoB (nodeAt_any aoN ns (((entK st ns (Q.getD p 0)).getD j EntryD.zero).fId) _ h16 (HN.out.below HS2.out.bel)) HF Tryz.func130 ?_
 intro w13 hb; replace HS := Bx.mk (HS.out.later hb); replace HS2 := Bx.mk (HS2.out.later hb);clear hb HF a;intro a HF; refine ⟨HS.out, ?_⟩
 revert a;refine xh 7 HS.out rfl rfl rfl<|xh 8 HS.out rfl rfl rfl<|xh 9 HS.out rfl rfl rfl ?_
 intro a HF
 refine wh_one 11 (by kernel_rfl) ?_
 refine wo_storeBox rfl rfl rfl rfl (HF.ev rfl) (HF.ev rfl) HS2.out 0 rfl (cells_lit (nL (nodeZ ns (((entK st ns (Q.getD p 0)).getD j EntryD.zero).fId))) rfl rfl) (by kernel_rfl) ?_
 clear HS HS2; intro w14 HS2; replace HS2:=Bx.mk HS2;try dsimp only [List.set] at HS2
 have HS:=Bx.mk ((HS2.out.erase 0));refine ⟨HS.out,?_⟩
 revert a;refine xh 12 HS.out rfl rfl rfl ?_
 intro a HF
 refine wh_done (by kernel_rfl) ?_
 replace HS := HS2; clear HS2
 exact on_mk ⟨_, HF.less _ ⟨rfl, rfl, rfl, rfl, rfl, rfl, rfl, rfl, rfl, rfl, rfl, rfl, trivial⟩, HS.out⟩
 clear HF HS a; rintro a w15 ⟨b4, HF, HS⟩; replace HS := Bx.mk HS
 revert a;refine xet<|xsq<|xsr<|xr 2 rfl<|xne<|xcs 42 rfl (fun cc3=>?_) fun cc3=>?_
 have hvb : nodeB? ns ((entK st ns (Q.getD p 0)).getD j EntryD.zero).fId = false := by simpa using cc3
 have hvv : validN ns ((entK st ns (Q.getD p 0)).getD j EntryD.zero).fId.toNat = false := by rw [← nodeB?_valid, Int.toNat_of_nonneg (by omega)]; exact hvb
 refine xct rfl<|xsr<|xr 1 rfl<|xne<|xre<|xtr<|xbr<|xtr<|xtr<|xbr<|xbr<|xtr<|xtr<|xbr<|xtr<|xb1 Tryz.results162 rfl ?_
 exact ⟨by rw [hlj.bad (by omega) hvv], HS.out.bel⟩
 have hvb : nodeB? ns ((entK st ns (Q.getD p 0)).getD j EntryD.zero).fId = true := by simpa using cc3
 have hvv : validN ns ((entK st ns (Q.getD p 0)).getD j EntryD.zero).fId.toNat = true := by rw [← nodeB?_valid, Int.toNat_of_nonneg (by omega)]; exact hvb
 refine xcf rfl<|xsk<|xet<|xsr<|xr 1 rfl<|xy rfl (vf 1 rfl)<|xy rfl (vc HS.out 1 rfl rfl)<|xy rfl (fun a HF=>yl_lookM (f := fn) rfl (HF.ev rfl) (HF.ev rfl) Tryz.underlying136 Tryz.underlying3 (Tryz.zeroValue3 _) (HS.out.mapH 3 rfl) (hlj.nm _ (by omega)))<|xy rfl (vad rfl) ?_
 intro a HF
 refine wl_mapUpd rfl HF rfl rfl (HF.ev rfl) (HF.ev rfl) (HF.ev rfl) Tryz.underlying136 Tryz.underlying3 HS.out 3 rfl ?_; clear HS; intro w16 HS; replace HS := Bx.mk HS
 try dsimp only [List.set] at HS
 revert a;refine xne<|xsr<|xy rfl (vf 0 rfl)<|xy rfl (vc HS.out 0 rfl rfl)<|xr 1 rfl<|xne<|xcs 50 rfl (fun cc4=>?_) fun cc4=>?_
 have dcc4 := eq_of_beq cc4
 have hff : isFN ns ((entK st ns (Q.getD p 0)).getD j EntryD.zero).fId.toNat = true := by obtain ⟨n9, hn9⟩ := validN_is hvv; have h9 := nodeZ_get hn9; rw [Int.toNat_of_nonneg (by omega)] at h9; rw [h9, kind_fold H hn9] at cc4; exact cc4
 refine xct rfl<|xsq<|xsr<|xr 1 rfl<|xy rfl (vf 1 rfl)<|xy rfl (vc HS.out 1 rfl rfl)<|xy rfl (fun a HF=>yl_lookM (f := (updF fn (((entK st ns (Q.getD p 0)).getD j EntryD.zero).fId) (.int .i64 ((((((Q.take p).flatMap (kdN st ns) ++ (kdN st ns (Q.getD p 0)).take j).count ((entK st ns (Q.getD p 0)).getD j EntryD.zero).fId.toNat) : Nat) : Int) + 1)))) rfl (HF.ev rfl) (HF.ev rfl) Tryz.underlying136 Tryz.underlying3 (Tryz.zeroValue3 _) (HS.out.mapH 3 rfl) ((congrArg (fun o : Option Value => o.getD (.int .i64 0)) (updF_same _ _ _))))<|xr 1 rfl<|xne<|xcs 55 rfl (fun cc5=>?_) fun cc5=>?_
 have dcc5 := of_decide_eq_true cc5
 refine xct rfl<|xsr<|xr 1 rfl<|xne<|xre<|xtr<|xbr<|xtr<|xtr<|xbr<|xbr<|xtr<|xtr<|xbr<|xtr<|xb1 Tryz.results162 rfl ?_
 exact ⟨by rw [hlj.dup (by omega) hff (by omega)], HS.out.bel⟩
 have dcc5 := of_decide_eq_false cc5
 refine xcf rfl<|xsk<|xet<|xrl<|xr 1 rfl<|xy rfl (vf 1 rfl)<|xy rfl (vc HS.out 1 rfl rfl) ?_
 intro a HF
 refine ybs encI 3 1 [((entK st ns (Q.getD p 0)).getD j EntryD.zero).fId] HF HS ?_;clear HF HS a;intro b6 a w17 HF HS
 have hone := HS.out.elem1 encI_len 0 rfl (show ([((entK st ns (Q.getD p 0)).getD j EntryD.zero).fId] : List Int)[0]? = some _ from rfl) rfl
 refine wl_que rfl HF rfl rfl rfl (HF.ev rfl) (HF.ev rfl) elemI HS.out 3 rfl (k := ((entK st ns (Q.getD p 0)).getD j EntryD.zero).fId) (by simpa using hone) (by omega) ?_; clear HF HS a; intro vq7 a w18 HF HS; replace HS := Bx.mk HS
 try dsimp only [List.set] at HS
 revert a;refine xr 1 rfl<|xni<|xeb<|xet<|xrl<|xy rfl (vad rfl)<|xr 1 rfl<|xne ?_
 have hlj2 := hlj.fold (by omega) hvv hff (by omega)
 replace HS:=Bx.mk ((HS.out.pick 4 rfl).pick 4 rfl)
 intro a HF
 exact ⟨(j + 1), ⟨_, _, _, ⟨by omega, hlj2⟩, HF.less _ ⟨rfl, rfl, rfl, rfl, rfl, rfl, trivial⟩, (((HS.out.erase 4).erase 3).erase 2)⟩, (by omega)⟩
 have dcc4 := ne_of_beq_false cc4
 have hff : isFN ns ((entK st ns (Q.getD p 0)).getD j EntryD.zero).fId.toNat = false := by obtain ⟨n9, hn9⟩ := validN_is hvv; have h9 := nodeZ_get hn9; rw [Int.toNat_of_nonneg (by omega)] at h9; rw [h9, kind_fold H hn9] at cc4; exact cc4
 refine xcf rfl<|xsk<|xeb<|xet<|xrl<|xy rfl (vad rfl)<|xr 1 rfl<|xne ?_
 have hlj2 := hlj.file (by omega) hvv hff
 replace HS:=Bx.mk ((HS.out.pick 3 rfl).pick 3 rfl)
 intro a HF
 exact ⟨(j + 1), ⟨_, _, _, ⟨by omega, hlj2⟩, HF.less _ ⟨rfl, rfl, rfl, rfl, rfl, rfl, trivial⟩, ((HS.out.erase 3).erase 2)⟩, (by omega)⟩
 have dcc2 := of_decide_eq_false cc2
 refine xcf rfl<|xex<|xtx<|xtx<|xbh<|xeb<|xet ?_
 obtain ⟨gQ, oQ, rfl, _, _⟩ := hqo hjp; obtain ⟨x9, tl9, rfl⟩ : ∃ x9 tl9, tl = x9 :: tl9 := by cases tl with | nil => exact absurd hjp (by simp) | cons x9 tl9 => exact ⟨x9, tl9, rfl⟩
 have hlo2 := hlj.fin H h0 (by omega)
 replace HS:=Bx.mk (HS.out.pick 0 rfl)
 refine xrl<|xr 1 rfl<|xy rfl (fun a HF=>yl_sliceLoA (e := 3) (size := 1) (k := 1) rfl (HF.ev rfl) (HF.ev rfl) (by kernel_rfl) rfl hjp hqc) ?_
 replace HS := Bx.mk (HS.out.queTail rfl)
 try dsimp only [List.eraseIdx] at HS
 refine xr 1 rfl<|xne ?_
 intro a HF
 exact ⟨(p + 1), ⟨_, tl9, _, _, hlo2, HF.less _ ⟨rfl, rfl, rfl, trivial⟩, HS.out⟩, (by omega)⟩
 have dcc1 := of_decide_eq_false cc1
 refine xcf rfl<|xex<|xtx<|xtx<|xbh<|xet<|xsq<|xsq ?_
 obtain ⟨hrun, hnm⟩ := hlo.fin (by omega)
 refine xrl<|xr 2 rfl<|xy rfl (vf 8 rfl)<|xy rfl (fun a HF=>ylo (v := .slice aoN ns.length ns.length) rfl (HF.ev rfl) (((HFB.out.below HS.out.bel (Nat.le_refl _)).cell 8).trans rfl))<|xy rfl (vn 108 1 rfl)<|xr 1 rfl<|xne<|xbl ?_
 intro a HF
 refine wc_loop (ι := Nat) (fun k a w => (k ≤ ns.length ∧ ∀ i, i < k → validN ns i = true → i ≠ 0 → (Q.flatMap (kdN st ns)).count i = lkN ns i) ∧ Fr 89 a [(3, .map (some b1)), (65, .slice aoN ns.length ns.length), (66, .int .i64 (ns.length : Int)), (67, .int .i64 (k : Int))] ∧ St w0 ([quA 3 (.slice (aoQ) tl.length cQ) tl, mapF b1 fn]) w) (fun k => ns.length - k) 0 ⟨⟨Nat.zero_le _, fun i hi => absurd hi (Nat.not_lt_zero _)⟩, HF.less _ ⟨rfl, rfl, rfl, rfl, trivial⟩, HS.out⟩ ?_
 clear HF HS; clear a
 rintro k a w19 ⟨⟨hk, hall⟩, HF, HS⟩
 replace HS := Bx.mk HS
 revert a;refine xsr<|xr 1 rfl<|xne<|xsq<|xcs 68 rfl (fun cc6=>?_) fun cc6=>?_
 have dcc6 := of_decide_eq_true cc6
 refine xct rfl<|xsk<|xet<|xsq<|xbl<|xsr<|xr 1 rfl<|xy rfl (vxr 108 k 1 rfl (RN.out.ao k (by omega))) ?_
 rcases hlk k (by omega) with ⟨hn8, ha8⟩ | ⟨n8, bn8, hn8, ha8, hbn8⟩
 refine xy rfl (fun a HF=>ylo (v := .pointer none) rfl (HF.ev rfl) (RN.out.elem1 HS.out ha8 rfl))<|xr 2 rfl<|xne<|xsq ?_
 intro a HF
 refine wr_quiet (by kernel_rfl) (by kernel_rfl) HS.out ?_
 revert a;refine xqr 1 rfl<|xq rfl (fun HS a HF=>show Yl _ _ _ _ (.bool false) from yl_neqP (e := 69) (p := none) rfl (HF.ev rfl) (HF.ev rfl) (by kernel_rfl))<|xqr 14 rfl ?_
 intro a HF
 refine wpQuiet_nil ?_; intro w20 HS; replace HS := Bx.mk HS
 revert a;refine xet<|xcf rfl<|xsk<|xeb<|xet<|xrl<|xy rfl (vad rfl)<|xr 1 rfl<|xne ?_
 have hk2 : validN ns k = true → k ≠ 0 → (Q.flatMap (kdN st ns)).count k = lkN ns k := fun hv _ => by rw [validN_none hn8] at hv; cases hv
 have hall2 : ∀ i, i < k + 1 → validN ns i = true → i ≠ 0 → (Q.flatMap (kdN st ns)).count i = lkN ns i := fun i hi hv hz => (Nat.lt_or_ge i k).elim (fun h => hall i h hv hz) (fun h => by obtain rfl : i = k := (by omega); exact hk2 hv hz)
 intro a HF
 exact ⟨(k + 1), ⟨⟨by omega, hall2⟩, HF.less _ ⟨rfl, rfl, rfl, rfl, trivial⟩, HS.out⟩, (by omega)⟩
 have HBN8 := Bx.mk hbn8; clear hbn8
 refine xy rfl (fun a HF=>ylo (v := .pointer (some ⟨bn8, 0, none⟩)) rfl (HF.ev rfl) (RN.out.elem1 HS.out ha8 rfl))<|xr 2 rfl<|xne<|xsq ?_
 intro a HF
 refine wr_quiet (by kernel_rfl) (by kernel_rfl) HS.out ?_
 revert a;refine xqr 1 rfl<|xq rfl (fun HS a HF=>show Yl _ _ _ _ (.bool true) from yl_neqP (e := 69) (p := (some ⟨bn8, 0, none⟩)) rfl (HF.ev rfl) (HF.ev rfl) (by kernel_rfl))<|xqr 5 rfl<|xcs 78 rfl (fun cc7=>?_) fun cc7=>?_
 have dcc7 := of_decide_eq_true cc7
 refine xqr 2 rfl<|xq rfl (fun HS a HF=>yl_lookM (f := fn) rfl (HF.ev rfl) (HF.ev rfl) Tryz.underlying136 Tryz.underlying3 (Tryz.zeroValue3 _) (HS.mapH 1 rfl) (show _ = Value.int .i64 (((Q.flatMap (kdN st ns)).count k : Nat) : Int) from by have h := hnm (k : Int) (by omega); rw [Int.toNat_natCast] at h; exact h))<|xqr 2 rfl<|xq rfl (fun HS=>vf 1 rfl)<|xq rfl (fun HS a HF=>ylo (v := .int .i64 n8.fLinks) rfl (HF.ev rfl) (((HBN8.out.below HS.bel (Nat.le_refl _)).cell 1).trans rfl))<|xqr 2 rfl ?_
 intro a HF
 refine wpQuiet_nil ?_; intro w21 HS; replace HS := Bx.mk HS
 revert a;refine xet<|xcs 87 rfl (fun cc8=>?_) fun cc8=>?_
 have dcc8 := bne_iff_ne.1 cc8
 refine xct rfl<|xsr<|xr 1 rfl<|xne<|xre<|xbr<|xtr<|xtr<|xbr<|xtr<|xb1 Tryz.results162 rfl ?_
 exact ⟨by rw [linkB_no hrun (k := k) (by omega) (validN_some hn8) (by omega) (by rw [lkN_some hn8]; have h := dcc8; have h1 := (NodeD.ok_is (H.ok k n8 hn8)).small.links; omega)], HS.out.bel⟩
 have dcc8 := bne_eq_false_iff_eq.1 cc8
 refine xcf rfl<|xsk<|xeb<|xet<|xrl<|xy rfl (vad rfl)<|xr 1 rfl<|xne ?_
 have hk2 : validN ns k = true → k ≠ 0 → (Q.flatMap (kdN st ns)).count k = lkN ns k := fun _ _ => by rw [lkN_some hn8]; have h := dcc8; have h1 := (NodeD.ok_is (H.ok k n8 hn8)).small.links; omega
 have hall2 : ∀ i, i < k + 1 → validN ns i = true → i ≠ 0 → (Q.flatMap (kdN st ns)).count i = lkN ns i := fun i hi hv hz => (Nat.lt_or_ge i k).elim (fun h => hall i h hv hz) (fun h => by obtain rfl : i = k := (by omega); exact hk2 hv hz)
 intro a HF
 exact ⟨(k + 1), ⟨⟨by omega, hall2⟩, HF.less _ ⟨rfl, rfl, rfl, rfl, trivial⟩, HS.out⟩, (by omega)⟩
 have dcc7 := of_decide_eq_false cc7
 refine xqr 9 rfl ?_
 intro a HF
 refine wpQuiet_nil ?_; intro w22 HS; replace HS := Bx.mk HS
 revert a;refine xet<|xcf rfl<|xsk<|xeb<|xet<|xrl<|xy rfl (vad rfl)<|xr 1 rfl<|xne ?_
 have hk2 : validN ns k = true → k ≠ 0 → (Q.flatMap (kdN st ns)).count k = lkN ns k := fun _ h => absurd (show k = 0 by omega) h
 have hall2 : ∀ i, i < k + 1 → validN ns i = true → i ≠ 0 → (Q.flatMap (kdN st ns)).count i = lkN ns i := fun i hi hv hz => (Nat.lt_or_ge i k).elim (fun h => hall i h hv hz) (fun h => by obtain rfl : i = k := (by omega); exact hk2 hv hz)
 intro a HF
 exact ⟨(k + 1), ⟨⟨by omega, hall2⟩, HF.less _ ⟨rfl, rfl, rfl, rfl, trivial⟩, HS.out⟩, (by omega)⟩
 have dcc6 := of_decide_eq_false cc6
 refine xcf rfl<|xex<|xtx<|xtx<|xbh<|xet<|xsr<|xr 1 rfl<|xne<|xre<|xb1 Tryz.results162 rfl ?_
 exact ⟨by rw [linkB_yes hrun (fun i hi => hall i (by omega))], HS.out.bel⟩
open Go.RowKit
def DirsTo (st : StoreD) (ns : List (Option NodeD)) (fn : Int → Option Value) (k : Nat) (w : World) : Prop := ∀ i : Nat, i < k → DirAt w fn i (entK st ns i)
theorem DirAt.upd {w : World} {fn : Int → Option Value} {i : Nat} {es : List EntryD} (h : DirAt w fn i es) {k : Nat} (hk : i ≠ k) (v : Value) : DirAt w (updF fn (k : Int) v) i es := by
  obtain ⟨ao, cp, h1, h2⟩ := h
  exact ⟨ao, cp, by rw [updF_other (by omega)]; exact h1, h2⟩
theorem St.dirsUp {W w : World} {st : StoreD} {ns : List (Option NodeD)} {fn : Int → Option Value} {k : Nat} {F : List Asr} (h : St W (holdsA (DirsTo st ns fn k) :: F) w) (hf : fn (k : Int) = none) (he : entK st ns k = []) : St W (holdsA (DirsTo st ns fn (k + 1)) :: F) w :=
  h.hold fun w f hh i hi => by
    by_cases e : i = k
    · rw [e, he]; exact DirAt.none _ _ _ hf
    · exact hh w (Nat.le_refl _) (fun _ _ => rfl) i (by omega)
theorem St.dirsPut {W w : World} {st : StoreD} {ns : List (Option NodeD)} {fn : Int → Option Value} {k : Nat} {F : List Asr} {T : TypeId} {ao : Option Addr} {cp : Nat} {es : List EntryD} (h : St W (rowA EntryD.cells 2 T (.slice ao es.length cp) es :: holdsA (DirsTo st ns fn k) :: F) w) (he : entK st ns k = es) : St W (holdsA (DirsTo st ns (updF fn (k : Int) (.slice ao es.length cp)) (k + 1)) :: F) w := by
  refine ((St.join (r := [_, _])).1 h).hold fun w f hh i hi => ?_
  obtain ⟨f1, _, _, k1, f3, _, _, k2, _⟩ := hh
  by_cases e : i = k
  · rw [e, he]
    exact ⟨ao, cp, by rw [updF_same]; rfl, row_reads EntryD.cells_len k1⟩
  · exact (k2 w (Nat.le_refl _) (fun _ _ => rfl) i (by omega)).upd e _
theorem dirs_start {W w : World} {st : StoreD} {ns : List (Option NodeD)} {F : List Asr} (h : St W F w) : St W (holdsA (DirsTo st ns (fun _ => none) 0) :: F) w :=
  (St.pure (p := True)).2 ⟨trivial, h⟩ |>.hold fun w f _ i hi => absurd hi (Nat.not_lt_zero _)
theorem dirs_all {w : World} {st : StoreD} {ns : List (Option NodeD)} {fn : Int → Option Value} (h : DirsTo st ns fn ns.length w) (hf : ∀ i : Nat, ns.length ≤ i → fn (i : Int) = none) (k : Nat) : DirAt w fn k (entK st ns k) := by
  by_cases hk : k < ns.length
  · exact h k hk
  · rw [entK_none (getO_out (by omega))]
    exact DirAt.none _ _ _ (hf k (by omega))
theorem St.filesHold {W w : World} {fb : Nat} {st : StoreD} {t : TreeD} {ns : List (Option NodeD)} {pst : Value} {ao : Option Addr} {bm : Nat} {fn : Int → Option Value} {F : List Asr}
    (h : St W (boxA fb 10 113 (.agg #[pst, .int .i64 t.fRoot.fAt, .int .i64 t.fRoot.fBirth, .int .i64 t.fRoot.fSize, .int .i64 t.fRoot.fSum, .int .i64 t.fRoot.fLevel, .int .i64 t.fDepth, .int .i64 t.fMany, .slice ao ns.length ns.length, .map (some bm)]) :: holdsA (NodesP ao ns) :: mapF bm fn :: holdsA (DirsTo st ns fn ns.length) :: F) w) (hf : ∀ i : Nat, ns.length ≤ i → fn (i : Int) = none) : St W (holdsA (FilesP fb st t ns) :: F) w := by
  refine ((St.join (r := [_, _, _, _])).1 h).hold fun w f hh => ?_
  obtain ⟨f1, _, _, k1, f3, _, _, k2, f5, _, _, k3, f7, _, _, k4, _⟩ := hh
  exact ⟨pst, ao, bm, fn, k1.2, k2 w (Nat.le_refl _) (fun _ _ => rfl), k3.2, dirs_all (k4 w (Nat.le_refl _) (fun _ _ => rfl)) hf⟩
theorem goodN_folder {st : StoreD} {n : NodeD} (hk : (n.fKind == 1) = false) {l : List EntryD} (h2 : (folderT st n).2 = true) (hg : entsG (folderT st n).1 = some l) : goodN st n = true ∧ dirF st n = some l := by
  have hd : dirF st n = some l := by rw [dirF_fold, h2, hg]; rfl
  exact ⟨by rw [goodN_dir hk, hd]; rfl, hd⟩
theorem goodN_nofold {st : StoreD} {n : NodeD} (hk : (n.fKind == 1) = false) (h : (folderT st n).2 = false ∨ entsG (folderT st n).1 = none) : goodN st n = false := by
  rw [goodN_dir hk, dirF_fold]
  rcases h with h | h
  · rw [h]; rfl
  · rw [h]; cases (folderT st n).2 <;> rfl
theorem filesB_first {st : StoreD} {ns : List (Option NodeD)} (h : isFN ns 0 = false) : filesB st ns = false := by unfold filesB; rw [h]; rfl
theorem filesB_good {st : StoreD} {ns : List (Option NodeD)} {k : Nat} {n : NodeD} (h : ns.getD k none = some n) (hb : goodN st n = false) : filesB st ns = false := by unfold filesB; rw [goodL_no h hb]; simp
theorem filesB_link {st : StoreD} {ns : List (Option NodeD)} (h0 : isFN ns 0 = true) (hg : goodL st ns = true) : filesB st ns = linkB st ns := by unfold filesB; rw [h0, hg]; rfl
theorem folderT_size (st : StoreD) (n : NodeD) : (folderT st n).1.size ≤ 2048 := by
  cases h : leavesF st n.fTree with
  | none => rw [folderT_tree h]; exact Nat.zero_le _
  | some l =>
    cases hb : blobL st l with
    | none => rw [folderT_blob h hb]; exact Nat.zero_le _
    | some s =>
      rw [folderT_yes h hb]
      have h1 := blobL_size (st := st) (fun p => read_128 p) hb
      have h2 := leaves_16 h
      show s.size ≤ 2048
      omega
set_option maxHeartbeats 2000000 in
theorem readFiles_parts (a0 : Option Addr) (c0 : Nat) (a1 : Option Addr) (c1 : Nat) (a2 : Option Addr) (c2 : Nat) (a4 : Option Addr) (c4 : Nat) (a6 : Option Addr) (c6 : Nat) (st : StoreD) (t : TreeD) (b : Nat) (w0 : World) (hT : TabP w0) (hM : MaxP w0) (hE : ErrP w0) (hB : Box w0 b 8 40 (sV a0 c0 a1 c1 a2 c2 a4 c4 a6 c6 st)) (hR : Rd encS 1 w0 a0 st.fRows.length st.fRows) (hrow : RowsOk st) : Calls Tryz.prog 105 #[.pointer (some ⟨b, 0, none⟩), tV t] w0 fun e w' => (∃ ns, tabF st t = some ns ∧ filesB st ns = true ∧ ∃ fb pst ao bm fn, (∀ i : Nat, ns.length ≤ i → fn (i : Int) = none) ∧ e = .returned (.tuple #[.pointer (some ⟨fb, 0, none⟩), .bool true]) ∧ St w0 [boxA fb 10 113 (.agg #[pst, .int .i64 t.fRoot.fAt, .int .i64 t.fRoot.fBirth, .int .i64 t.fRoot.fSize, .int .i64 t.fRoot.fSum, .int .i64 t.fRoot.fLevel, .int .i64 t.fDepth, .int .i64 t.fMany, .slice ao ns.length ns.length, .map (some bm)]), holdsA (NodesP ao ns), mapF bm fn, holdsA (DirsTo st ns fn ns.length)] w') ∨ ((∀ ns, tabF st t = some ns → filesB st ns = false) ∧ ∃ v, e = .returned (.tuple #[v, .bool false]) ∧ Below w0.heap.size w0 w') := by
 have HT := Bx.mk hT; have HM := Bx.mk hM; have HE := Bx.mk hE; have HB := Bx.mk hB; have HR := Bx.mk hR; clear hT hM hE hB hR
 have HS := Bx.mk (St.start w0)
 refine wc_enter Tryz.func105 rfl Tryz.ntmps105 [(0, .pointer (some ⟨b, 0, none⟩)), (1, tV t)] ⟨rfl, rfl, trivial⟩ rfl ?_
 refine xsr ?_
 intro a HF
 refine ybx HF HS ?_;clear HF HS a;intro a w1 b1 HF HS
 revert a;refine xr 2 rfl<|xne<|xsr<|xr 1 rfl<|xy rfl (vw HS.out 0 7 rfl rfl) ?_
 intro a HF
 refine yc (nodes_any a0 c0 a1 c1 a2 c2 a4 c4 a6 c6 st t b _ (HT.out.below HS.out.bel) (HM.out.below HS.out.bel) (HE.out.below HS.out.bel) (HB.out.below HS.out.bel (Nat.le_refl _)) (HR.out.below HS.out.bel) hrow) HF Tryz.func155 ?_
 rintro _ w2 (⟨ns, htb, ao, rfl, hs1⟩ | ⟨htb, rfl, hb⟩)
 refine ⟨_, rfl, ?_⟩; replace HS := Bx.mk (HS.out.add hs1);clear hs1 HF a;intro a HF
 try dsimp only [List.eraseIdx] at HS
 have H := tabF_nodes htb; have h16 := H.len
 revert a;refine xr 5 rfl<|xne<|xsq<|xsr<|xr 2 rfl<|xne<|xcf rfl<|xsk<|xet<|xsr<|xr 1 rfl<|xy rfl (vw HS.out 1 7 rfl rfl)<|xr 1 rfl ?_
 intro a HF
 refine wl_makeMap rfl HF rfl rfl rfl HS.out ?_; clear HF HS a; intro a w3 b2 HF HS; replace HS := Bx.mk HS
 revert a;refine xy rfl (vb [.pointer (some ⟨b, 0, none⟩), .int .i64 t.fRoot.fAt, .int .i64 t.fRoot.fBirth, .int .i64 t.fRoot.fSize, .int .i64 t.fRoot.fSum, .int .i64 t.fRoot.fLevel, .int .i64 t.fDepth, .int .i64 t.fMany, .slice ao ns.length ns.length, .map (some b2)] rfl) ?_
 intro a HF
 refine ybx HF HS ?_;clear HF HS a;intro a w4 b3 HF HS
 revert a;refine xr 1 rfl<|xne<|xsr<|xr 1 rfl ?_
 intro a HF
 refine ycB (nodeAt_any ao ns 0 _ h16 (HS.out.holds 2 rfl)) HF Tryz.func130 HS ?_; clear HF HS a; intro w5 a HS HF
 revert a;refine xr 3 rfl ?_
 intro a HF
 refine yal z10 HF HS ?_;clear HF HS a;intro a w6 b4 HF HS
 refine yst HF HS 0 ?_;clear HS;intro w7 HS
 try dsimp only [List.set] at HS
 revert a;refine xr 1 rfl<|xne<|xsq<|xsr<|xr 3 rfl<|xcs 40 rfl (fun cc1=>?_) fun cc1=>?_
 have hb0 : nodeB? ns 0 = false := by simpa using cc1
 refine xr 4 rfl<|xne<|xct rfl<|xsr<|xr 2 rfl<|xne<|xre<|xtr<|xb2 Tryz.results105 rfl rfl ?_
 exact .inr ⟨fun ns2 h2 => by rw [htb] at h2; obtain rfl := Option.some.inj h2; exact filesB_first (by have h := validN_none (ns := ns) (k := 0) (by cases h9 : ns.getD 0 none with | none => rfl | some n => have h8 := nodeB?_valid (ns := ns) (k := 0); rw [validN_some h9] at h8; exact absurd (hb0.symm.trans h8) (by decide)); cases h7 : isFN ns 0 with | false => rfl | true => obtain ⟨n, h6, _⟩ := isFN_is h7; rw [validN_some h6] at h; cases h), _, rfl, HS.out.bel⟩
 have hb0 : nodeB? ns 0 = true := by simpa using cc1
 refine xy rfl (vf 0 rfl)<|xy rfl (vc HS.out 0 rfl rfl)<|xr 2 rfl<|xne<|xcs 44 rfl (fun cc2=>?_) fun cc2=>?_
 have dcc2 := bne_iff_ne.1 cc2
 have hf0 : isFN ns 0 = false := by obtain ⟨n9, hn9⟩ := validN_is (ns := ns) (k := 0) (by rw [← nodeB?_valid]; exact hb0); have h9 := nodeZ_get hn9; have hk9 := kind_fold H hn9; rw [← hk9, ← h9]; simpa using cc2
 refine xct rfl<|xsr<|xr 2 rfl<|xne<|xre<|xtr<|xb2 Tryz.results105 rfl rfl ?_
 exact .inr ⟨fun ns2 h2 => by rw [htb] at h2; obtain rfl := Option.some.inj h2; exact filesB_first hf0, _, rfl, HS.out.bel⟩
 have dcc2 := bne_eq_false_iff_eq.1 cc2
 have hf0 : isFN ns 0 = true := by obtain ⟨n9, hn9⟩ := validN_is (ns := ns) (k := 0) (by rw [← nodeB?_valid]; exact hb0); have h9 := nodeZ_get hn9; have hk9 := kind_fold H hn9; rw [← hk9, ← h9]; simpa using cc2
 refine xcf rfl<|xsk<|xet<|xsq<|xsr<|xr 1 rfl<|xy rfl (vn 108 1 rfl)<|xr 1 rfl<|xne<|xbl ?_
 replace HS:=Bx.mk (HS.out.pick 2 rfl)
 replace HS := Bx.mk (dirs_start (st := st) (ns := ns) HS.out)
 intro a HF
 refine wc_loop (ι := Nat) (fun k a w => ∃ (fn : Int → Option Value), (k ≤ ns.length ∧ (∀ i, i < k → ∀ n, ns.getD i none = some n → goodN st n = true) ∧ ∀ i : Nat, k ≤ i → fn (i : Int) = none) ∧ Fr 98 a [(0, .pointer (some ⟨b, 0, none⟩)), (8, .pointer (some ⟨b3, 0, none⟩)), (45, .slice ao ns.length ns.length), (46, .int .i64 (ns.length : Int)), (47, .int .i64 (k : Int))] ∧ St w0 ([holdsA (DirsTo st ns fn k), mapF b2 fn, boxA b4 10 69 (nV (nodeZ ns 0)), boxA b3 10 113 (.agg #[.pointer (some ⟨b, 0, none⟩), .int .i64 t.fRoot.fAt, .int .i64 t.fRoot.fBirth, .int .i64 t.fRoot.fSize, .int .i64 t.fRoot.fSum, .int .i64 t.fRoot.fLevel, .int .i64 t.fDepth, .int .i64 t.fMany, .slice ao ns.length ns.length, .map (some b2)]), holdsA (NodesP ao ns), boxA b1 7 44 (tV t)]) w) (fun k => ns.length - k) 0 ⟨(fun _ => none), ⟨Nat.zero_le _, fun i hi => absurd hi (Nat.not_lt_zero _), fun i _ => rfl⟩, HF.less _ ⟨rfl, rfl, rfl, rfl, rfl, trivial⟩, HS.out⟩ ?_
 clear HF HS; clear a
 rintro k a w8 ⟨fn, ⟨hk, hgd, hfn⟩, HF, HS⟩
 replace HS := Bx.mk HS
 revert a;refine xsr<|xr 1 rfl<|xne<|xsq<|xcs 48 rfl (fun cc3=>?_) fun cc3=>?_
 have dcc3 := of_decide_eq_true cc3
 refine xct rfl<|xsk<|xet<|xsq<|xbl<|xsq ?_
 obtain ⟨g5, o5, av5, r5, hal, hlk⟩ := (HS.out.holds 4 rfl).look; have RN := Bx.mk r5; clear r5
 refine xrl<|xr 1 rfl<|xy rfl (vxr 108 k 1 rfl (RN.out.ao k (by omega))) ?_
 rcases hlk k (by omega) with ⟨hn5, ha5⟩ | ⟨n5, bn5, hn5, ha5, hbn5⟩
 refine xy rfl (fun a HF=>ylo (v := .pointer none) rfl (HF.ev rfl) (RN.out.elem1 (St.start _) ha5 rfl))<|xr 2 rfl<|xne<|xsq<|xsr<|xr 1 rfl<|xy rfl (fun a HF=>show Yl _ _ _ _ (.bool true) from yl_eqlP (e := 69) (p := none) rfl (HF.ev rfl) (HF.ev rfl) (by kernel_rfl))<|xne<|xct rfl<|xex<|xtx<|xbh<|xet<|xrl<|xy rfl (vad rfl)<|xr 1 rfl<|xne ?_
 replace HS:=Bx.mk (HS.out.pick 0 rfl)
 replace HS := Bx.mk (HS.out.dirsUp (hfn k (Nat.le_refl _)) (entK_none hn5))
 have hgd2 : ∀ i, i < k + 1 → ∀ n, ns.getD i none = some n → goodN st n = true := fun i hi n hn => (Nat.lt_or_ge i k).elim (fun h => hgd i h n hn) (fun h => by obtain rfl : i = k := (by omega); rw [hn5] at hn; cases hn)
 have hfn2 : ∀ i : Nat, k + 1 ≤ i → fn (i : Int) = none := fun i hi => by exact hfn i (by omega)
 try dsimp only [List.eraseIdx] at HS
 intro a HF
 exact ⟨(k + 1), ⟨fn, ⟨by omega, hgd2, hfn2⟩, HF.less _ ⟨rfl, rfl, rfl, rfl, rfl, trivial⟩, HS.out⟩, (by omega)⟩
 have HBN5 := Bx.mk hbn5; clear hbn5
 refine xy rfl (fun a HF=>ylo (v := .pointer (some ⟨bn5, 0, none⟩)) rfl (HF.ev rfl) (RN.out.elem1 (St.start _) ha5 rfl))<|xr 2 rfl<|xne<|xsq<|xsr<|xr 1 rfl<|xy rfl (fun a HF=>show Yl _ _ _ _ (.bool false) from yl_eqlP (e := 69) (p := (some ⟨bn5, 0, none⟩)) rfl (HF.ev rfl) (HF.ev rfl) (by kernel_rfl))<|xne<|xcf rfl<|xsk<|xet<|xsq<|xsr<|xr 2 rfl<|xy rfl (vf 0 rfl)<|xy rfl (fun a HF=>ylo (v := .int .i64 n5.fKind) rfl (HF.ev rfl) (((HBN5.out.below (St.start _).bel (Nat.le_refl _)).cell 0).trans rfl))<|xr 1 rfl<|xne<|xcs 58 rfl (fun cc4=>?_) fun cc4=>?_
 have dcc4 := eq_of_beq cc4
 refine xct rfl<|xsq<|xsr<|xr 3 rfl<|xy rfl (fun a HF=>ylr (cs := nL n5) rfl (HF.ev rfl) ((HBN5.out.below (St.start _).bel (Nat.le_refl _)).sub 0 10)) ?_
 intro a HF
 refine yc (stText_any a0 c0 a1 c1 a2 c2 a4 c4 a6 c6 st n5 b _ (HT.out.below HS.out.bel) (HM.out.below HS.out.bel) (HE.out.below HS.out.bel) (HB.out.below HS.out.bel (Nat.le_refl _)) (HR.out.below HS.out.bel) hrow) HF Tryz.func70 ?_
 rintro _ w9 (⟨tx, hft, rfl, hb⟩ | ⟨hft, rfl, hb⟩)
 refine ⟨_, rfl, ?_⟩; replace HS := Bx.mk (HS.out.later hb);clear hb HF a
 refine xr 5 rfl<|xne<|xsr<|xr 2 rfl<|xne<|xcf rfl<|xsk<|xet<|xex<|xtx<|xbh<|xet<|xrl<|xy rfl (vad rfl)<|xr 1 rfl<|xne ?_
 replace HS:=Bx.mk (HS.out.pick 0 rfl)
 replace HS := Bx.mk (HS.out.dirsUp (hfn k (Nat.le_refl _)) (entK_file hn5 cc4))
 have hg9 : goodN st n5 = true := by rw [goodN_file cc4, hft]; rfl
 have hgd2 : ∀ i, i < k + 1 → ∀ n, ns.getD i none = some n → goodN st n = true := fun i hi n hn => (Nat.lt_or_ge i k).elim (fun h => hgd i h n hn) (fun h => by obtain rfl : i = k := (by omega); rw [hn5] at hn; obtain rfl := Option.some.inj hn; exact hg9)
 have hfn2 : ∀ i : Nat, k + 1 ≤ i → fn (i : Int) = none := fun i hi => by exact hfn i (by omega)
 try dsimp only [List.eraseIdx] at HS
 intro a HF
 exact ⟨(k + 1), ⟨fn, ⟨by omega, hgd2, hfn2⟩, HF.less _ ⟨rfl, rfl, rfl, rfl, rfl, trivial⟩, HS.out⟩, (by omega)⟩
 refine ⟨_, rfl, ?_⟩; replace HS := Bx.mk (HS.out.later hb);clear hb HF a
 refine xr 5 rfl<|xne<|xsr<|xr 2 rfl<|xne<|xct rfl<|xsr<|xr 2 rfl<|xne<|xre<|xtr<|xtr<|xbr<|xtr<|xtr<|xbr<|xtr<|xb2 Tryz.results105 rfl rfl ?_
 exact .inr ⟨fun ns2 h2 => by rw [htb] at h2; obtain rfl := Option.some.inj h2; exact filesB_good hn5 (by rw [goodN_file cc4, hft]; rfl), _, rfl, HS.out.bel⟩
 have dcc4 := ne_of_beq_false cc4
 refine xcf rfl<|xsk<|xet<|xsr<|xr 3 rfl<|xy rfl (fun a HF=>ylr (cs := nL n5) rfl (HF.ev rfl) ((HBN5.out.below (St.start _).bel (Nat.le_refl _)).sub 0 10)) ?_
 intro a HF
 refine ycB (folderText_any a0 c0 a1 c1 a2 c2 a4 c4 a6 c6 st n5 b _ (HT.out.below HS.out.bel) (HM.out.below HS.out.bel) (HE.out.below HS.out.bel) (HB.out.below HS.out.bel (Nat.le_refl _)) (HR.out.below HS.out.bel) hrow) HF Tryz.func160 HS ?_; clear HF HS a; intro w10 a HS HF
 revert a;refine xr 5 rfl<|xne<|xsr<|xr 1 rfl ?_
 intro a HF
 refine yc (implEntriesGet_any (folderT st n5).1 _ (HT.out.below HS.out.bel) (HM.out.below HS.out.bel) (HE.out.below HS.out.bel) (folderT_size st n5)) HF Tryz.func161 ?_
 rintro _ w11 (⟨el, heg, aoL, cpL, rfl, hs1⟩ | ⟨heg, rfl, hb⟩)
 refine ⟨_, rfl, ?_⟩; replace HS := Bx.mk (HS.out.add hs1);clear hs1 HF a;intro a HF
 try dsimp only [List.eraseIdx] at HS
 revert a;refine xr 5 rfl<|xne<|xsq<|xsr<|xr 3 rfl<|xcs 84 rfl (fun cc5=>?_) fun cc5=>?_
 have hfo : (folderT st n5).2 = false := by simpa using cc5
 refine xr 3 rfl<|xne<|xct rfl<|xsr<|xr 2 rfl<|xne<|xre<|xtr<|xbr<|xtr<|xtr<|xbr<|xtr<|xb2 Tryz.results105 rfl rfl ?_
 exact .inr ⟨fun ns2 h2 => by rw [htb] at h2; obtain rfl := Option.some.inj h2; exact filesB_good hn5 (goodN_nofold cc4 (.inl hfo)), _, rfl, HS.out.bel⟩
 have hfo : (folderT st n5).2 = true := by simpa using cc5
 refine xr 3 rfl<|xne<|xcf rfl<|xsk<|xet<|xrl<|xr 2 rfl<|xy rfl (vf 9 rfl)<|xy rfl (vc HS.out 4 rfl rfl)<|xr 2 rfl ?_
 intro a HF
 refine wl_mapUpd rfl HF rfl rfl (HF.ev rfl) (HF.ev rfl) (HF.ev rfl) Tryz.underlying111 Tryz.underlying3 HS.out 2 rfl ?_; clear HS; intro w12 HS; replace HS := Bx.mk HS
 try dsimp only [List.set] at HS
 revert a;refine xni<|xeb<|xet<|xrl<|xy rfl (vad rfl)<|xr 1 rfl<|xne ?_
 have hg9 := goodN_folder cc4 hfo heg
 replace HS:=Bx.mk ((HS.out.pick 1 rfl).pick 1 rfl)
 replace HS := Bx.mk (HS.out.dirsPut (entK_dir hn5 cc4 hg9.2)); replace hg9 := hg9.1
 have hgd2 : ∀ i, i < k + 1 → ∀ n, ns.getD i none = some n → goodN st n = true := fun i hi n hn => (Nat.lt_or_ge i k).elim (fun h => hgd i h n hn) (fun h => by obtain rfl : i = k := (by omega); rw [hn5] at hn; obtain rfl := Option.some.inj hn; exact hg9)
 have hfn2 : ∀ i : Nat, k + 1 ≤ i → (updF fn (k : Int) (.slice aoL el.length cpL)) (i : Int) = none := fun i hi => by rw [updF_other (by omega)]; exact hfn i (by omega)
 try dsimp only [List.eraseIdx] at HS
 intro a HF
 exact ⟨(k + 1), ⟨(updF fn (k : Int) (.slice aoL el.length cpL)), ⟨by omega, hgd2, hfn2⟩, HF.less _ ⟨rfl, rfl, rfl, rfl, rfl, trivial⟩, HS.out⟩, (by omega)⟩
 refine ⟨_, rfl, ?_⟩; replace HS := Bx.mk (HS.out.later hb);clear hb HF a
 refine xr 5 rfl<|xne<|xsq<|xsr<|xr 3 rfl<|xcs 84 rfl (fun cc6=>?_) fun cc6=>?_
 have hfo : (folderT st n5).2 = false := by simpa using cc6
 refine xr 3 rfl<|xne<|xct rfl<|xsr<|xr 2 rfl<|xne<|xre<|xtr<|xbr<|xtr<|xtr<|xbr<|xtr<|xb2 Tryz.results105 rfl rfl ?_
 exact .inr ⟨fun ns2 h2 => by rw [htb] at h2; obtain rfl := Option.some.inj h2; exact filesB_good hn5 (goodN_nofold cc4 (.inr heg)), _, rfl, HS.out.bel⟩
 have hfo : (folderT st n5).2 = true := by simpa using cc6
 refine xr 3 rfl<|xne<|xct rfl<|xsr<|xr 2 rfl<|xne<|xre<|xtr<|xbr<|xtr<|xtr<|xbr<|xtr<|xb2 Tryz.results105 rfl rfl ?_
 exact .inr ⟨fun ns2 h2 => by rw [htb] at h2; obtain rfl := Option.some.inj h2; exact filesB_good hn5 (goodN_nofold cc4 (.inr heg)), _, rfl, HS.out.bel⟩
 have dcc3 := of_decide_eq_false cc3
 refine xcf rfl<|xex<|xtx<|xtx<|xbh<|xet<|xsq ?_
 obtain rfl : k = ns.length := by omega
 have hgl : goodL st ns = true := goodL_mk fun i n hn => hgd i (validN_lt (validN_some hn)) n hn
 replace HS:=Bx.mk ((((HS.out.pick 0 rfl).pick 1 rfl).pick 4 rfl).pick 4 rfl)
 have HFX := Bx.mk (HS.out.filesHold (hfn))
 have hFP := HFX.out.holds 0 rfl
 refine xrl<|xr 2 rfl ?_
 intro a HF
 refine ycB (linked_any b3 st t ns _ H hf0 (HFX.out.holds 0 rfl)) HF Tryz.func162 HS ?_; clear HF HS a; intro w13 a HS HF
 revert a;refine xr 2 rfl<|xne<|xre<|xb2 Tryz.results105 rfl rfl ?_
 cases hlk9 : linkB st ns with
 | true => exact .inl ⟨ns, htb, (filesB_link hf0 hgl).trans hlk9, _, _, _, _, _, hfn, rfl, ((HS.out.erase 5).erase 4)⟩
 | false => exact .inr ⟨fun ns2 h2 => by rw [htb] at h2; obtain rfl := Option.some.inj h2; exact (filesB_link hf0 hgl).trans hlk9, _, rfl, HS.out.bel⟩
 refine ⟨_, rfl, ?_⟩; replace HS := Bx.mk (HS.out.later hb);clear hb HF a
 refine xr 5 rfl<|xne<|xsq<|xsr<|xr 2 rfl<|xne<|xct rfl<|xsr<|xr 2 rfl<|xne<|xre<|xtr<|xb2 Tryz.results105 rfl rfl ?_
 exact .inr ⟨fun ns2 h2 => (by rw [htb] at h2; cases h2), _, rfl, HS.out.bel⟩
theorem filesF_st {st : StoreD} {t : TreeD} (h : st.ok = false) : filesF st t = none := filesF_none (tabT_no h)
theorem filesF_not {st : StoreD} {t : TreeD} (h : st.ok = true) (hn : ∀ ns, tabF st t = some ns → filesB st ns = false) : filesF st t = none := by
  cases ht : tabF st t with
  | none => exact filesF_none ((tabT_ok h).trans ht)
  | some ns => exact filesF_no ((tabT_ok h).trans ht) (hn ns ht)
theorem filesIn_parts (a0 : Option Addr) (c0 : Nat) (a1 : Option Addr) (c1 : Nat) (a2 : Option Addr) (c2 : Nat) (a4 : Option Addr) (c4 : Nat) (a6 : Option Addr) (c6 : Nat) (st : StoreD) (t : TreeD) (w0 : World) (hT : TabP w0) (hM : MaxP w0) (hE : ErrP w0) (hV0 : StoreD.Reads w0 (sV a0 c0 a1 c1 a2 c2 a4 c4 a6 c6 st) st) (hf : st.Fit) : Calls Tryz.prog 53 #[sV a0 c0 a1 c1 a2 c2 a4 c4 a6 c6 st, tV t] w0 fun e w' => (∃ ns, filesF st t = some ns ∧ ∃ fb pst ao bm fn, (∀ i : Nat, ns.length ≤ i → fn (i : Int) = none) ∧ e = .returned (.tuple #[.pointer (some ⟨fb, 0, none⟩), .bool true]) ∧ St w0 [boxA fb 10 113 (.agg #[pst, .int .i64 t.fRoot.fAt, .int .i64 t.fRoot.fBirth, .int .i64 t.fRoot.fSize, .int .i64 t.fRoot.fSum, .int .i64 t.fRoot.fLevel, .int .i64 t.fDepth, .int .i64 t.fMany, .slice ao ns.length ns.length, .map (some bm)]), holdsA (NodesP ao ns), mapF bm fn, holdsA (DirsTo st ns fn ns.length)] w') ∨ (filesF st t = none ∧ ∃ v, e = .returned (.tuple #[v, .bool false]) ∧ Below w0.heap.size w0 w') := by
 have HT := Bx.mk hT; have HM := Bx.mk hM; have HE := Bx.mk hE; have hV := Bx.mk hV0; clear hT hM hE hV0
 have HS := Bx.mk (St.start w0)
 refine wc_enter Tryz.func53 rfl Tryz.ntmps53 [(0, sV a0 c0 a1 c1 a2 c2 a4 c4 a6 c6 st), (1, tV t)] ⟨rfl, rfl, trivial⟩ rfl ?_
 refine xsr ?_
 intro a HF
 refine ybx HF HS ?_;clear HF HS a;intro a w1 b1 HF HS
 refine ybx HF HS ?_;clear HF HS a;intro a w2 b2 HF HS
 revert a;refine xr 2 rfl<|xne<|xsq<|xsr<|xy rfl (vw HS.out 1 8 rfl rfl) ?_
 intro a HF
 refine ycB (implStoreOk_any _ st _ (hV.out.below HS.out.bel) hf) HF Tryz.func92 HS ?_; clear HF HS a; intro w3 a HS HF
 revert a;refine xr 1 rfl<|xne<|xcs 8 rfl (fun cc1=>?_) fun cc1=>?_
 have hsok : st.ok = false := by simpa using cc1
 refine xct rfl<|xsr<|xr 2 rfl<|xne<|xre<|xtr<|xb2 Tryz.results53 rfl rfl ?_
 exact .inr ⟨filesF_st hsok, _, rfl, HS.out.bel⟩
 have hsok : st.ok = true := by simpa using cc1
 refine xcf rfl<|xsk<|xet<|xsr<|xy rfl (vw HS.out 0 7 rfl rfl) ?_
 intro a HF
 refine yc (readFiles_parts a0 c0 a1 c1 a2 c2 a4 c4 a6 c6 st t b1 _ (HT.out.below HS.out.bel) (HM.out.below HS.out.bel) (HE.out.below HS.out.bel) (HS.out.box 1 rfl) ((reads_rows hV.out).below HS.out.bel) (ok_rows hsok)) HF Tryz.func105 ?_
 rintro _ w4 (⟨ns, htb, hfb9, fb, pst, ao, bm, fn, hfn, rfl, hs1⟩ | ⟨hno, vf, rfl, hb⟩)
 refine ⟨_, rfl, ?_⟩; replace HS := Bx.mk (HS.out.add hs1);clear hs1 HF a;intro a HF
 try dsimp only [List.eraseIdx] at HS
 revert a;refine xr 4 rfl<|xne<|xre<|xb2 Tryz.results53 rfl rfl ?_
 replace HS:=Bx.mk ((((HS.out.pick 3 rfl).pick 3 rfl).pick 3 rfl).pick 3 rfl)
 exact .inl ⟨ns, filesF_yes ((tabT_ok hsok).trans htb) hfb9, _, _, _, _, _, hfn, rfl, ((HS.out.erase 5).erase 4)⟩
 refine ⟨_, rfl, ?_⟩; replace HS := Bx.mk (HS.out.later hb);clear hb HF a
 refine xr 4 rfl<|xne<|xre<|xb2 Tryz.results53 rfl rfl ?_
 exact .inr ⟨filesF_not hsok hno, _, rfl, HS.out.bel⟩
theorem filesIn_any (a0 : Option Addr) (c0 : Nat) (a1 : Option Addr) (c1 : Nat) (a2 : Option Addr) (c2 : Nat) (a4 : Option Addr) (c4 : Nat) (a6 : Option Addr) (c6 : Nat) (st : StoreD) (t : TreeD) (w0 : World) (hT : TabP w0) (hM : MaxP w0) (hE : ErrP w0) (hV0 : StoreD.Reads w0 (.agg #[.slice a0 st.fRows.length c0, .slice a1 st.fSpace.fRefs.length c1, .slice a2 st.fSpace.fLast.length c2, .int .i64 st.fTxg, .slice a4 st.fGone.length c4, .int .i64 st.fKeep, .slice a6 st.fDead.length c6, .bool st.fSame]) st) (hf : st.Fit) : Calls Tryz.prog 53 #[.agg #[.slice a0 st.fRows.length c0, .slice a1 st.fSpace.fRefs.length c1, .slice a2 st.fSpace.fLast.length c2, .int .i64 st.fTxg, .slice a4 st.fGone.length c4, .int .i64 st.fKeep, .slice a6 st.fDead.length c6, .bool st.fSame], .agg #[.int .i64 t.fRoot.fAt, .int .i64 t.fRoot.fBirth, .int .i64 t.fRoot.fSize, .int .i64 t.fRoot.fSum, .int .i64 t.fRoot.fLevel, .int .i64 t.fDepth, .int .i64 t.fMany]] w0 fun e w' => (∃ ns, filesF st t = some ns ∧ ∃ fb, e = .returned (.tuple #[.pointer (some ⟨fb, 0, none⟩), .bool true]) ∧ St w0 [holdsA (FilesP fb st t ns)] w') ∨ (filesF st t = none ∧ ∃ v, e = .returned (.tuple #[v, .bool false]) ∧ Below w0.heap.size w0 w') := (filesIn_parts a0 c0 a1 c1 a2 c2 a4 c4 a6 c6 st t w0 hT hM hE hV0 hf).mono fun e w' h => by
  rcases h with ⟨ns, h1, fb, pst, ao, bm, fn, h3, h4, h5⟩ | h
  · exact .inl ⟨ns, h1, fb, h4, h5.filesHold h3⟩
  · exact .inr h
open Go.RowKit
def NodeD.cs (n : NodeD) : List Value := [.int .i64 n.fKind, .int .i64 n.fLinks, .int .i64 n.fSize, .int .i64 n.fTree.fRoot.fAt, .int .i64 n.fTree.fRoot.fBirth, .int .i64 n.fTree.fRoot.fSize, .int .i64 n.fTree.fRoot.fSum, .int .i64 n.fTree.fRoot.fLevel, .int .i64 n.fTree.fDepth, .int .i64 n.fTree.fMany]
theorem NodeD.cs_len (n : NodeD) : n.cs.length = 10 := rfl
theorem elemN : ElemT Tryz.prog 129 69 10 80 := by
  obtain ⟨i0, hi, hz0, hz1, hz2⟩ := info_parts (P := Tryz.prog) (e := 69) (z := .agg #[.int .i64 0, .int .i64 0, .int .i64 0, .int .i64 0, .int .i64 0, .int .i64 0, .int .i64 0, .int .i64 0, .int .i64 0, .int .i64 0]) (size := 10) (bytes := 80) (by kernel_rfl)
  exact ⟨Tryz.underlying129, ⟨i0, _, hi, hz0, hz1, hz2, rfl⟩, by decide⟩
theorem cells_one_N (xs : List NodeD) : ∀ u ∈ xs.flatMap NodeD.cs, u.oneCell' = true := by
  intro u hu
  obtain ⟨x, _, hx⟩ := List.mem_flatMap.1 hu
  simp only [NodeD.cs, List.mem_cons, List.not_mem_nil, or_false] at hx
  rcases hx with rfl | rfl | rfl | rfl | rfl | rfl | rfl | rfl | rfl | rfl <;> rfl
theorem elemFd : ElemT Tryz.prog 34 90 2 24 := by
  obtain ⟨i0, hi, hz0, hz1, hz2⟩ := info_parts (P := Tryz.prog) (e := 90) (z := .agg #[.string ByteArray.empty, .int .i64 0]) (size := 2) (bytes := 24) (by kernel_rfl)
  exact ⟨Tryz.underlying34, ⟨i0, _, hi, hz0, hz1, hz2, rfl⟩, by decide⟩
theorem cells_one_Fd (xs : List FoundD) : ∀ u ∈ xs.flatMap FoundD.cells, u.oneCell' = true := by
  intro u hu
  obtain ⟨x, _, hx⟩ := List.mem_flatMap.1 hu
  simp only [FoundD.cells, List.mem_cons, List.not_mem_nil, or_false] at hx
  rcases hx with rfl | rfl <;> rfl
def nodesZ (ns : List (Option NodeD)) : List NodeD := ns.map fun o => o.getD NodeD.zero
theorem nodesZ_len (ns : List (Option NodeD)) : (nodesZ ns).length = ns.length := List.length_map ..
theorem nodesZ_at (ns : List (Option NodeD)) (k : Nat) : (nodesZ ns).getD k NodeD.zero = (ns.getD k none).getD NodeD.zero := by
  unfold nodesZ
  rw [List.getD_eq_getElem?_getD, List.getD_eq_getElem?_getD, List.getElem?_map]
  cases ns[k]? <;> rfl
theorem nodesZ_some {ns : List (Option NodeD)} {k : Nat} {n : NodeD} (h : ns.getD k none = some n) : (nodesZ ns).getD k NodeD.zero = n := by rw [nodesZ_at, h]; rfl
theorem nodesZ_none {ns : List (Option NodeD)} {k : Nat} (h : ns.getD k none = none) : (nodesZ ns).getD k NodeD.zero = NodeD.zero := by rw [nodesZ_at, h]; rfl
theorem nodesZ_kind {ns : List (Option NodeD)} (H : NodesOk ns) {k : Nat} (h : ((nodesZ ns).getD k NodeD.zero).fKind ≠ 0) : ∃ n, ns.getD k none = some n ∧ (nodesZ ns).getD k NodeD.zero = n := by
  cases hn : ns.getD k none with
  | none => rw [nodesZ_none hn] at h; exact absurd rfl h
  | some n => exact ⟨n, rfl, nodesZ_some hn⟩
theorem nodesZ_zero {ns : List (Option NodeD)} (H : NodesOk ns) {k : Nat} (h : ((nodesZ ns).getD k NodeD.zero).fKind = 0) : ns.getD k none = none := by
  cases hn : ns.getD k none with
  | none => rfl
  | some n =>
    rw [nodesZ_some hn] at h
    have := (NodeD.ok_is (H.ok k n hn)).small.kind
    omega
noncomputable def entF (st : StoreD) (n : NodeD) : Option (List EntryD) := bif n.ok && (n.fKind == 2) then dirF st n else none
theorem entF_no {st : StoreD} {n : NodeD} (h : n.ok = false ∨ (n.fKind == 2) = false) : entF st n = none := by
  unfold entF
  rcases h with h | h
  · rw [h]; rfl
  · rw [h, Bool.and_false]; rfl
theorem entF_yes {st : StoreD} {n : NodeD} (h : n.ok = true) (h2 : (n.fKind == 2) = true) : entF st n = dirF st n := by unfold entF; rw [h, h2]; rfl
theorem read_size1 {st : StoreD} {p : PtrD} (he : ((readT st p).toList == (⟨#[]⟩ : ByteArray).toList) = false) : (readT st p).size ≠ 0 := fun h => nonempty_size he h
theorem l9Get_any (a0 : Option Addr) (c0 : Nat) (a1 : Option Addr) (c1 : Nat) (a2 : Option Addr) (c2 : Nat) (a4 : Option Addr) (c4 : Nat) (a6 : Option Addr) (c6 : Nat) (st : StoreD) (t : TreeD) {x l : List PtrD} (X : TreeX st t x l) (w0 : World) (hR : Rd encS 1 w0 a0 st.fRows.length st.fRows) (hrow : RowsOk st) : Calls Tryz.prog 128 #[sV a0 c0 a1 c1 a2 c2 a4 c4 a6 c6 st, tV t] w0 fun e w' => e = .returned (.tuple #[.string ((blobL st l).getD ByteArray.empty), .bool (blobL st l).isSome]) ∧ Below w0.heap.size w0 w' := by
 have HR := Bx.mk hR; clear hR
 have HS := Bx.mk (St.start w0)
 have hll := X.len; have hmm := X.many; have hlm : (l.map (readT st)).length = l.length := List.length_map ..; have h16 := leaves_16 X.lv
 refine wc_enter Tryz.func128 rfl Tryz.ntmps128 [(0, sV a0 c0 a1 c1 a2 c2 a4 c4 a6 c6 st), (1, tV t)] ⟨rfl, rfl, trivial⟩ rfl ?_
 refine xsr ?_
 intro a HF
 refine ybx HF HS ?_;clear HF HS a;intro a w1 b1 HF HS
 refine ybx HF HS ?_;clear HF HS a;intro a w2 b2 HF HS
 revert a;refine xr 2 rfl<|xne<|xsr<|xr 1 rfl<|xne<|xsr<|xy rfl (vw HS.out 1 8 rfl rfl)<|xy rfl (vw HS.out 0 7 rfl rfl) ?_
 intro a HF
 refine yc (l8Texts_x a0 c0 a1 c1 a2 c2 a4 c4 a6 c6 st t X _ (HR.out.below HS.out.bel) hrow) HF Tryz.func118 ?_
 rintro _ w3 ⟨ao3, cp3, rfl, hs⟩
 refine ⟨_, rfl, ?_⟩
 replace HS := Bx.mk (HS.out.add hs);clear hs HF a;intro a HF
 try dsimp only [List.eraseIdx] at HS
 revert a;refine xr 1 rfl<|xne<|xsq<|xsr<|xr 1 rfl<|xne<|xbl ?_
 intro a HF
 refine wc_loop (ι := Nat) (fun k a w => ∃ (tx : ByteArray), (k ≤ l.length ∧ tx.size ≤ 128 * k ∧ blobL st l = (blobL st (l.drop k)).map (tx ++ ·)) ∧ Fr 41 a [(2, .pointer (some ⟨b1, 0, none⟩)), (3, .pointer (some ⟨b2, 0, none⟩)), (7, .slice ao3 ((l.map (readT st)).length) cp3), (6, .string tx), (8, .int .i64 (k : Int))] ∧ St w0 ([rowA encS 1 9 (.slice ao3 ((l.map (readT st)).length) cp3) (l.map (readT st)), boxA b2 7 44 (tV t), boxA b1 8 40 (sV a0 c0 a1 c1 a2 c2 a4 c4 a6 c6 st)]) w) (fun k => l.length - k) 0 ⟨⟨#[]⟩, ⟨Nat.zero_le _, Nat.zero_le _, blob_begin⟩, HF.less _ ⟨rfl, rfl, rfl, rfl, rfl, trivial⟩, HS.out⟩ ?_
 clear HF HS; clear a
 rintro k a w4 ⟨tx, ⟨hk, htx, hbl⟩, HF, HS⟩
 replace HS := Bx.mk HS
 revert a;refine xsq<|xsr<|xr 1 rfl<|xy rfl (vf 6 rfl)<|xy rfl (vc HS.out 1 rfl rfl)<|xr 1 rfl<|xne<|xcs 16 rfl (fun cc1=>?_) fun cc1=>?_
 have dcc1 := of_decide_eq_true cc1
 refine xct rfl<|xsk<|xet<|xsq<|xbl<|xsq ?_
 have hrp := read_128 (st := st) (l.getD k PtrD.zero)
 obtain ⟨g4, rfl, _, _, _, _⟩ := HS.out.rowOpen 0 rfl (by omega)
 refine xrl<|xr 2 rfl<|xy rfl (vx 9 k 1 rfl)<|xy rfl (fun a HF=>ylo (v := .string (readT st (l.getD k PtrD.zero))) rfl (HF.ev rfl) (HS.out.elem1 encS_len 0 rfl (map_get (by omega)) rfl))<|xr 1 rfl<|xne<|xsq<|xsr<|xr 1 rfl<|xy rfl (fun a HF=>yl_eqlS rfl (HF.ev rfl) (HF.ev rfl))<|xr 1 rfl<|xcs 25 rfl (fun cc2=>?_) fun cc2=>?_
 refine xr 11 rfl<|xne<|xct rfl<|xsr<|xr 2 rfl<|xne<|xre<|xtr<|xbr<|xtr<|xtr<|xbr<|xtr<|xb2 Tryz.results128 rfl rfl ?_
 have h0 : readT st (l.getD k PtrD.zero) = ⟨#[]⟩ := bytes_toList (by simpa using cc2)
 exact ⟨by rw [blob_stop hbl (show k < l.length by omega) (.inl (by rw [h0]; rfl))] <;> rfl, HS.out.bel⟩
 refine xr 1 rfl<|xy rfl (vad rfl)<|xy rfl (vf 6 rfl)<|xy rfl (vc HS.out 1 rfl rfl)<|xr 2 rfl<|xcs 31 rfl (fun cc3=>?_) fun cc3=>?_
 have dcc3 := of_decide_eq_true cc3
 refine xr 1 rfl<|xy rfl (fun a HF=>yl_lenS rfl (HF.ev rfl) (by kernel_rfl))<|xr 3 rfl<|xne<|xcs 36 rfl (fun cc4=>?_) fun cc4=>?_
 have dcc4 := bne_iff_ne.1 cc4
 refine xct rfl<|xsr<|xr 2 rfl<|xne<|xre<|xtr<|xbr<|xtr<|xtr<|xbr<|xtr<|xb2 Tryz.results128 rfl rfl ?_
 exact ⟨by rw [blob_stop hbl (show k < l.length by omega) (.inr ⟨by omega, by have h := dcc4; omega⟩)] <;> rfl, HS.out.bel⟩
 have dcc4 := bne_eq_false_iff_eq.1 cc4
 refine xcf rfl<|xsk<|xet<|xrl<|xr 2 rfl<|xy rfl (fun a HF=>yl_addS rfl (HF.ev rfl) (HF.ev rfl) (by (try simp only [size1, app_size]); omega))<|xr 1 rfl<|xni<|xeb<|xet<|xrl<|xr 1 rfl<|xy rfl (vad rfl)<|xr 1 rfl<|xne ?_
 have h1 : (readT st (l.getD k PtrD.zero)).size ≠ 0 := read_size1 (by simpa using cc2)
 have hbs := blob_step hbl (show k < l.length by omega) h1 (.inr (by have h := dcc4; omega))
 intro a HF
 exact ⟨(k + 1), ⟨(tx ++ readT st (l.getD k PtrD.zero)), ⟨by omega, by rw [app_size]; omega, hbs⟩, HF.less _ ⟨rfl, rfl, rfl, rfl, rfl, trivial⟩, HS.out⟩, (by omega)⟩
 have dcc3 := of_decide_eq_false cc3
 refine xr 5 rfl<|xne<|xcf rfl<|xsk<|xet<|xrl<|xr 2 rfl<|xy rfl (fun a HF=>yl_addS rfl (HF.ev rfl) (HF.ev rfl) (by (try simp only [size1, app_size]); omega))<|xr 1 rfl<|xni<|xeb<|xet<|xrl<|xr 1 rfl<|xy rfl (vad rfl)<|xr 1 rfl<|xne ?_
 have h1 : (readT st (l.getD k PtrD.zero)).size ≠ 0 := read_size1 (by simpa using cc2)
 have hbs := blob_step hbl (show k < l.length by omega) h1 (.inl (by omega))
 intro a HF
 exact ⟨(k + 1), ⟨(tx ++ readT st (l.getD k PtrD.zero)), ⟨by omega, by rw [app_size]; omega, hbs⟩, HF.less _ ⟨rfl, rfl, rfl, rfl, rfl, trivial⟩, HS.out⟩, (by omega)⟩
 have dcc1 := of_decide_eq_false cc1
 refine xcf rfl<|xex<|xtx<|xtx<|xbh<|xet<|xsr<|xr 3 rfl<|xne<|xre<|xb2 Tryz.results128 rfl rfl ?_
 have hbx := blob_end hbl (by omega)
 exact ⟨by rw [hbx] <;> rfl, HS.out.bel⟩
theorem l15Entries_any (a0 : Option Addr) (c0 : Nat) (a1 : Option Addr) (c1 : Nat) (a2 : Option Addr) (c2 : Nat) (a4 : Option Addr) (c4 : Nat) (a6 : Option Addr) (c6 : Nat) (st : StoreD) (n : NodeD) (w0 : World) (hR : Rd encS 1 w0 a0 st.fRows.length st.fRows) (hrow : RowsOk st) (h0 : 0 ≤ st.fTxg) : Calls Tryz.prog 71 #[sV a0 c0 a1 c1 a2 c2 a4 c4 a6 c6 st, nV n] w0 fun e w' => (∃ es, entF st n = some es ∧ ∃ ao cp, e = .returned (.tuple #[.slice ao es.length cp, .bool true]) ∧ St w0 [rowA EntryD.cells 2 118 (.slice ao es.length cp) es] w') ∨ (entF st n = none ∧ ∃ ae, e = .returned (.tuple #[.slice ae 0 0, .bool false]) ∧ Below w0.heap.size w0 w') := by
 have HR := Bx.mk hR; clear hR
 have HS := Bx.mk (St.start w0)
 refine wc_enter Tryz.func71 rfl Tryz.ntmps71 [(0, sV a0 c0 a1 c1 a2 c2 a4 c4 a6 c6 st), (1, nV n)] ⟨rfl, rfl, trivial⟩ rfl ?_
 refine xsr ?_
 intro a HF
 refine ybx HF HS ?_;clear HF HS a;intro a w1 b1 HF HS
 refine ybx HF HS ?_;clear HF HS a;intro a w2 b2 HF HS
 revert a;refine xr 2 rfl<|xne<|xsq<|xsr<|xy rfl (vw HS.out 0 10 rfl rfl) ?_
 intro a HF
 refine ycB (specNodeOk_any n _) HF Tryz.func83 HS ?_; clear HF HS a; intro w3 a HS HF
 revert a;refine xr 2 rfl<|xcs 11 rfl (fun cc1=>?_) fun cc1=>?_
 refine xr 11 rfl<|xne<|xct rfl<|xsr ?_
 intro a HF
 refine yem 118 2 HF HS ?_;clear HF HS a;intro a w4 b3 HF HS
 revert a;refine xr 2 rfl<|xne<|xre<|xtr<|xb2 Tryz.results71 rfl rfl ?_
 exact .inr ⟨entF_no (.inl (by simpa using cc1)), _, rfl, HS.out.bel⟩
 refine xy rfl (vf 0 rfl)<|xy rfl (vc HS.out 0 rfl rfl)<|xr 3 rfl<|xcs 16 rfl (fun cc2=>?_) fun cc2=>?_
 have dcc2 := bne_iff_ne.1 cc2
 refine xr 6 rfl<|xne<|xct rfl<|xsr ?_
 intro a HF
 refine yem 118 2 HF HS ?_;clear HF HS a;intro a w5 b4 HF HS
 revert a;refine xr 2 rfl<|xne<|xre<|xtr<|xb2 Tryz.results71 rfl rfl ?_
 exact .inr ⟨entF_no (.inr (by simpa using cc2)), _, rfl, HS.out.bel⟩
 have dcc2 := bne_eq_false_iff_eq.1 cc2
 refine xy rfl (vw HS.out 1 8 rfl rfl)<|xy rfl (vf 3 rfl)<|xy rfl (vw HS.out 0 7 rfl rfl) ?_
 intro a HF
 refine ycBg (l8Ok_any a0 c0 a1 c1 a2 c2 a4 c4 a6 c6 st n.fTree _ (HR.out.below HS.out.bel) hrow) HF Tryz.func84 HS ?_; clear HF HS a; intro w6 a HS HF
 revert a;refine xr 2 rfl<|xne<|xcs 22 rfl (fun cc3=>?_) fun cc3=>?_
 refine xct rfl<|xsr ?_
 intro a HF
 refine yem 118 2 HF HS ?_;clear HF HS a;intro a w7 b5 HF HS
 revert a;refine xr 2 rfl<|xne<|xre<|xtr<|xb2 Tryz.results71 rfl rfl ?_
 exact .inr ⟨by unfold entF; rw [dirF_tree (okS_none h0 (by simpa using cc3))]; cases (n.ok && (n.fKind == 2)) <;> rfl, _, rfl, HS.out.bel⟩
 refine xcf rfl<|xsk<|xet<|xsq ?_
 have hok : n.ok = true := by simpa using cc1
 have hk2 : (n.fKind == 2) = true := by simpa using cc2
 have htk : okS st n.fTree = true := by simpa using cc3
 obtain ⟨l, hlf⟩ := okS_some h0 htk; obtain ⟨x, X⟩ := treeX h0 hlf
 refine xrl<|xy rfl (vw HS.out 1 8 rfl rfl)<|xy rfl (vf 3 rfl)<|xy rfl (vw HS.out 0 7 rfl rfl) ?_
 intro a HF
 refine ycB (l9Get_any a0 c0 a1 c1 a2 c2 a4 c4 a6 c6 st n.fTree X _ (HR.out.below HS.out.bel) hrow) HF Tryz.func128 HS ?_; clear HF HS a; intro w8 a HS HF
 revert a;refine xr 5 rfl<|xne<|xsq<|xsr<|xr 3 rfl<|xcs 33 rfl (fun cc4=>?_) fun cc4=>?_
 refine xr 6 rfl<|xne<|xct rfl<|xsr ?_
 intro a HF
 refine yem 118 2 HF HS ?_;clear HF HS a;intro a w9 b6 HF HS
 revert a;refine xr 2 rfl<|xne<|xre<|xtr<|xb2 Tryz.results71 rfl rfl ?_
 exact .inr ⟨by unfold entF; rw [dirF_blob hlf (by cases hb9 : blobL st l with | none => rfl | some s => rw [hb9] at cc4; simp at cc4)]; cases (n.ok && (n.fKind == 2)) <;> rfl, _, rfl, HS.out.bel⟩
 refine xr 1 rfl<|xy rfl (fun a HF=>yl_lenS rfl (HF.ev rfl) (by kernel_rfl))<|xy rfl (vf 2 rfl)<|xy rfl (vc HS.out 0 rfl rfl)<|xr 2 rfl<|xne<|xcs 39 rfl (fun cc5=>?_) fun cc5=>?_
 have dcc5 := bne_iff_ne.1 cc5
 refine xct rfl<|xsr ?_
 intro a HF
 refine yem 118 2 HF HS ?_;clear HF HS a;intro a w10 b7 HF HS
 revert a;refine xr 2 rfl<|xne<|xre<|xtr<|xb2 Tryz.results71 rfl rfl ?_
 obtain ⟨s, hbl⟩ : ∃ s, blobL st l = some s := Option.isSome_iff_exists.1 (by simpa using cc4)
 exact .inr ⟨by unfold entF; rw [dirF_size hlf hbl (by have h := dcc5; rw [hbl] at h; exact h)]; cases (n.ok && (n.fKind == 2)) <;> rfl, _, rfl, HS.out.bel⟩
 have dcc5 := bne_eq_false_iff_eq.1 cc5
 refine xcf rfl<|xsk<|xet<|xsq ?_
 obtain ⟨s, hbl⟩ : ∃ s, blobL st l = some s := Option.isSome_iff_exists.1 (by simpa using cc4); have hsz := blobL_size (st := st) (fun p => read_128 p) hbl; have h16 := leaves_16 hlf; have hsz9 : ((blobL st l).getD ByteArray.empty).size ≤ 2048 := by rw [hbl]; show s.size ≤ 2048; omega
 refine xrl<|xr 1 rfl ?_
 intro a HF
 refine yc (specEntriesGet_any ((blobL st l).getD ByteArray.empty) _ hsz9) HF Tryz.func129 ?_
 rintro _ w11 (⟨el, heg, aoL, cpL, rfl, hs1⟩ | ⟨heg, ae, rfl, hb⟩)
 refine ⟨_, rfl, ?_⟩; replace HS := Bx.mk (HS.out.add hs1);clear hs1 HF a;intro a HF
 try dsimp only [List.eraseIdx] at HS
 revert a;refine xr 4 rfl<|xne<|xre<|xb2 Tryz.results71 rfl rfl ?_
 have hd : entF st n = entsG s := by rw [entF_yes hok hk2]; exact dirF_yes hlf hbl (by have h := dcc5; rw [hbl] at h; exact h)
 rw [hbl] at heg
 exact .inl ⟨el, hd.trans heg, _, _, rfl, ((HS.out.erase 2).erase 1)⟩
 refine ⟨_, rfl, ?_⟩; replace HS := Bx.mk (HS.out.later hb);clear hb HF a
 refine xr 4 rfl<|xne<|xre<|xb2 Tryz.results71 rfl rfl ?_
 have hd : entF st n = entsG s := by rw [entF_yes hok hk2]; exact dirF_yes hlf hbl (by have h := dcc5; rw [hbl] at h; exact h)
 rw [hbl] at heg
 exact .inr ⟨hd.trans heg, _, rfl, HS.out.bel⟩
theorem nodesZ_take {ns : List (Option NodeD)} {k : Nat} (h : k < ns.length) {n : NodeD} (hn : (nodesZ ns).getD k NodeD.zero = n) : (nodesZ ns).take k ++ [n] = (nodesZ ns).take (k + 1) := by
  have hl : k < (nodesZ ns).length := by rw [nodesZ_len]; exact h
  rw [List.take_succ_eq_append_getElem hl, ← hn, List.getD_eq_getElem?_getD, List.getElem?_eq_getElem hl]; rfl
theorem l15Nodes_any (a0 : Option Addr) (c0 : Nat) (a1 : Option Addr) (c1 : Nat) (a2 : Option Addr) (c2 : Nat) (a4 : Option Addr) (c4 : Nat) (a6 : Option Addr) (c6 : Nat) (st : StoreD) (t : TreeD) {ns : List (Option NodeD)} (htb : tabF st t = some ns) (w0 : World) (hR : Rd encS 1 w0 a0 st.fRows.length st.fRows) (hrow : RowsOk st) (h0 : 0 ≤ st.fTxg) : Calls Tryz.prog 101 #[sV a0 c0 a1 c1 a2 c2 a4 c4 a6 c6 st, tV t] w0 fun e w' => ∃ ao cp, e = .returned (.slice ao (nodesZ ns).length cp) ∧ St w0 [rowA NodeD.cs 10 69 (.slice ao (nodesZ ns).length cp) (nodesZ ns)] w' := by
 have HR := Bx.mk hR; clear hR
 have HS := Bx.mk (St.start w0)
 obtain ⟨l, hlf, htL, hlen⟩ := tabF_is htb; obtain ⟨x, X⟩ := treeX h0 hlf; have hll := X.len; have hmm := X.many; have hlm : (l.map (readT st)).length = l.length := List.length_map ..; have h16 := leaves_16 hlf
 refine wc_enter Tryz.func101 rfl Tryz.ntmps101 [(0, sV a0 c0 a1 c1 a2 c2 a4 c4 a6 c6 st), (1, tV t)] ⟨rfl, rfl, trivial⟩ rfl ?_
 refine xsr ?_
 intro a HF
 refine ybx HF HS ?_;clear HF HS a;intro a w1 b1 HF HS
 refine ybx HF HS ?_;clear HF HS a;intro a w2 b2 HF HS
 revert a;refine xr 1 rfl<|xne<|xsr ?_
 intro a HF
 refine yem 69 10 HF HS ?_;clear HF HS a;intro a w3 b3 HF HS
 revert a;refine xr 1 rfl<|xne<|xsr<|xy rfl (vw HS.out 1 8 rfl rfl)<|xy rfl (vw HS.out 0 7 rfl rfl) ?_
 intro a HF
 refine yc (l8Texts_x a0 c0 a1 c1 a2 c2 a4 c4 a6 c6 st t X _ (HR.out.below HS.out.bel) hrow) HF Tryz.func118 ?_
 rintro _ w4 ⟨ao4, cp4, rfl, hs⟩
 refine ⟨_, rfl, ?_⟩
 replace HS := Bx.mk (HS.out.add hs);clear hs HF a;intro a HF
 try dsimp only [List.eraseIdx] at HS
 revert a;refine xr 1 rfl<|xne<|xsq<|xsr<|xr 1 rfl<|xne<|xbl ?_
 replace HS := Bx.mk (HS.out.nilRow NodeD.cs 10 69 (some ⟨b3, 0, none⟩))
 intro a HF
 refine wc_loop (ι := Nat) (fun k a w => ∃ (ao : Option Addr) (cp : Nat) (xs : List NodeD), (k ≤ ns.length ∧ xs = (nodesZ ns).take k) ∧ Fr 33 a [(2, .pointer (some ⟨b1, 0, none⟩)), (3, .pointer (some ⟨b2, 0, none⟩)), (6, .slice ao4 ((l.map (readT st)).length) cp4), (5, .slice ao xs.length cp), (7, .int .i64 (k : Int))] ∧ St w0 ([rowA NodeD.cs 10 69 (.slice ao xs.length cp) xs, rowA encS 1 9 (.slice ao4 ((l.map (readT st)).length) cp4) (l.map (readT st)), boxA b2 7 44 (tV t), boxA b1 8 40 (sV a0 c0 a1 c1 a2 c2 a4 c4 a6 c6 st)]) w) (fun k => ns.length - k) 0 ⟨_, _, [], ⟨Nat.zero_le _, rfl⟩, HF.less _ ⟨rfl, rfl, rfl, rfl, rfl, trivial⟩, HS.out⟩ ?_
 clear HF HS; clear a
 rintro k a w5 ⟨ao, cp, xs, ⟨hk, hq⟩, HF, HS⟩
 replace HS := Bx.mk HS
 have hxl : xs.length = k := by rw [hq, List.length_take, nodesZ_len]; omega
 revert a;refine xsq<|xsr<|xr 2 rfl<|xy rfl (vn 9 1 rfl)<|xr 1 rfl<|xne<|xcs 17 rfl (fun cc1=>?_) fun cc1=>?_
 have dcc1 := of_decide_eq_true cc1
 refine xct rfl<|xsk<|xet<|xsq<|xbl<|xsq ?_
 have hrt := readT_le hrow (l.getD k PtrD.zero)
 obtain ⟨g5, rfl, _, _, _, _⟩ := HS.out.rowOpen 1 rfl (by omega)
 refine xrl<|xr 2 rfl<|xy rfl (vx 9 k 1 rfl)<|xy rfl (fun a HF=>ylo (v := .string (readT st (l.getD k PtrD.zero))) rfl (HF.ev rfl) (HS.out.elem1 encS_len 1 rfl (map_get (by omega)) rfl)) ?_
 have hat := tabL_at htL k (by omega)
 intro a HF
 refine yc (specNodeGet_any (readT st (l.getD k PtrD.zero)) _ hrt) HF Tryz.func116 ?_
 rintro _ w6 (⟨n, hno, hnb, rfl, hb⟩ | ⟨hnn, rfl, hb⟩)
 have hnk : ns.getD k none = some n := tabAt_some hat hno hnb
 refine ⟨_, rfl, ?_⟩; replace HS := Bx.mk (HS.out.later hb);clear hb HF a
 refine xr 3 rfl ?_
 intro a HF
 refine yal z10 HF HS ?_;clear HF HS a;intro a w7 b6 HF HS
 refine yst HF HS 0 ?_;clear HS;intro w8 HS
 try dsimp only [List.set] at HS
 revert a;refine xr 1 rfl<|xne<|xrl<|xr 1 rfl<|xy rfl (vw HS.out 0 10 rfl rfl) ?_
 intro a HF
 refine ybs NodeD.cs 69 10 [n] HF HS ?_;clear HF HS a;intro b7 a w9 HF HS
 refine yap elemN NodeD.cs_len HS 2 HF (St.rdN HS.out NodeD.cs_len 0 rfl) (cells_one_N _) ?_;clear HF HS a;intro ao8 cp9 w10 a HF HS
 try dsimp only [List.eraseIdx] at HS
 revert a;refine xr 1 rfl<|xni<|xeb<|xet<|xrl<|xr 1 rfl<|xy rfl (vad rfl)<|xr 1 rfl<|xne ?_
 have hz : xs.length + ([n]).length = (xs ++ ([n])).length := (List.length_append ..).symm
 intro a HF
 rw [hz] at HS HF
 have hnext : xs ++ ([n]) = (nodesZ ns).take (k + 1) := by rw [hq]; exact nodesZ_take (by omega) (nodesZ_some hnk)
 replace HS:=Bx.mk ((((HS.out.pick 5 rfl).pick 5 rfl).pick 5 rfl).pick 5 rfl)
 exact ⟨k + 1, ⟨_, _, xs ++ ([n]), ⟨by omega, hnext⟩, HF.less _ ⟨rfl, rfl, rfl, rfl, rfl, trivial⟩, ((HS.out.erase 5).erase 4)⟩, (by omega)⟩
 have hnk : ns.getD k none = none := tabAt_none hat hnn
 refine ⟨_, rfl, ?_⟩; replace HS := Bx.mk (HS.out.later hb);clear hb HF a
 refine xr 3 rfl ?_
 intro a HF
 refine yal z10 HF HS ?_;clear HF HS a;intro a w11 b10 HF HS
 refine yst HF HS 0 ?_;clear HS;intro w12 HS
 try dsimp only [List.set] at HS
 revert a;refine xr 1 rfl<|xne<|xrl<|xr 1 rfl<|xy rfl (vw HS.out 0 10 rfl rfl) ?_
 intro a HF
 refine ybs NodeD.cs 69 10 [NodeD.zero] HF HS ?_;clear HF HS a;intro b11 a w13 HF HS
 refine yap elemN NodeD.cs_len HS 2 HF (St.rdN HS.out NodeD.cs_len 0 rfl) (cells_one_N _) ?_;clear HF HS a;intro ao12 cp13 w14 a HF HS
 try dsimp only [List.eraseIdx] at HS
 revert a;refine xr 1 rfl<|xni<|xeb<|xet<|xrl<|xr 1 rfl<|xy rfl (vad rfl)<|xr 1 rfl<|xne ?_
 have hz : xs.length + ([NodeD.zero]).length = (xs ++ ([NodeD.zero])).length := (List.length_append ..).symm
 intro a HF
 rw [hz] at HS HF
 have hnext : xs ++ ([NodeD.zero]) = (nodesZ ns).take (k + 1) := by rw [hq]; exact nodesZ_take (by omega) (nodesZ_none hnk)
 replace HS:=Bx.mk ((((HS.out.pick 5 rfl).pick 5 rfl).pick 5 rfl).pick 5 rfl)
 exact ⟨k + 1, ⟨_, _, xs ++ ([NodeD.zero]), ⟨by omega, hnext⟩, HF.less _ ⟨rfl, rfl, rfl, rfl, rfl, trivial⟩, ((HS.out.erase 5).erase 4)⟩, (by omega)⟩
 have dcc1 := of_decide_eq_false cc1
 refine xcf rfl<|xex<|xtx<|xtx<|xbh<|xet<|xsr<|xr 2 rfl<|xne<|xre<|xb1 Tryz.results101 rfl ?_
 obtain rfl : k = ns.length := by omega
 have hq9 : xs = nodesZ ns := by rw [hq, ← nodesZ_len, List.take_length]
 subst hq9
 exact ⟨_, _, rfl, (((HS.out.erase 3).erase 2).erase 1)⟩
theorem refL_ge {g : FoundD → List FoundD → List FoundD × Bool} (hg : ∀ c out, out.length ≤ (g c out).1.length) : ∀ (l : List FoundD) (out : List FoundD), out.length ≤ (refL g l out).1.length
  | [], out => Nat.le_refl _
  | c :: r, out => by
    show _ ≤ (bif (g c out).2 then refL g r (g c out).1 else ((g c out).1, false)).1.length
    cases (g c out).2 with
    | true => exact Nat.le_trans (hg c out) (refL_ge hg r _)
    | false => exact hg c out
theorem refW_ge {st : StoreD} {ns : List (Option NodeD)} : ∀ (m : Nat) (fo : FoundD) (out : List FoundD), out.length ≤ (refW st ns m fo out).1.length
  | 0, fo, out => by unfold refW; exact Nat.le_refl _
  | m + 1, fo, out => by
    have h1 : out.length ≤ (out ++ [fo]).length := by rw [List.length_append]; omega
    by_cases hb : (144 < (out ++ [fo]).length) ∨ validN ns fo.fId.toNat = false ∨ fo.fId < 0
    · rw [refW_bad hb]; exact h1
    · have hv : validN ns fo.fId.toNat = true := by
        cases hv : validN ns fo.fId.toNat with
        | true => rfl
        | false => exact absurd (.inr (.inl hv)) hb
      obtain ⟨n, hn⟩ := validN_is hv
      cases hf : (n.fKind == 1) with
      | true => rw [refW_file (by omega) hn (by omega) hf]; exact h1
      | false =>
        cases hd : dirF st n with
        | none => rw [refW_nodir (by omega) hn (by omega) hf hd]; exact h1
        | some es =>
          rw [refW_dir (by omega) hn (by omega) hf hd]
          exact Nat.le_trans h1 (refL_ge (fun c out => refW_ge m c out) _ _)
theorem refW_144 {st : StoreD} {ns : List (Option NodeD)} {m : Nat} {fo : FoundD} {out : List FoundD} (h : (refW st ns m fo out).2 = true) : (refW st ns m fo out).1.length ≤ 144 := by
  obtain ⟨L, _, _, h3, _⟩ := refW_some (m := m) (a := fo) (out := out) (o := (refW st ns m fo out).1) (by rw [← h])
  exact h3
def refR (g : FoundD → List FoundD → List FoundD × Bool) (l : List FoundD) (o : List FoundD) (b : Bool) : List FoundD × Bool := bif b then refL g l o else (o, false)
theorem refR_step {g : FoundD → List FoundD → List FoundD × Bool} {l : List FoundD} {i : Nat} {o : List FoundD} (h : i < l.length) {c : FoundD} (hc : l[i]? = some c) : refR g (l.drop i) o true = refR g (l.drop (i + 1)) (g c o).1 (g c o).2 := by
  have hc' : l[i] = c := by rw [List.getElem?_eq_getElem h] at hc; exact Option.some.inj hc
  rw [List.drop_eq_getElem_cons h, hc']; rfl
theorem refR_end {g : FoundD → List FoundD → List FoundD × Bool} {l : List FoundD} {i : Nat} {o : List FoundD} {b : Bool} (h : ¬ i < l.length) : refR g (l.drop i) o b = (o, b) := by
  rw [List.drop_of_length_le (by omega)]
  cases b <;> rfl
theorem chF_at {st : StoreD} {ns : List (Option NodeD)} {fo : FoundD} {i : Nat} (h : i < (entK st ns fo.fId.toNat).length) : (chF st ns fo)[i]? = some ⟨childP fo.fPath ((entK st ns fo.fId.toNat).getD i EntryD.zero).fName, ((entK st ns fo.fId.toNat).getD i EntryD.zero).fId⟩ := by
  unfold chF
  rw [List.getElem?_map, List.getD_eq_getElem?_getD, List.getElem?_eq_getElem h]; rfl
theorem childP_top {p s : ByteArray} (h : (p.toList == (⟨#[47]⟩ : ByteArray).toList) = true) : childP p s = (⟨#[47]⟩ : ByteArray) ++ s := by
  unfold childP
  show (bif (p.toList == (⟨#[47]⟩ : ByteArray).toList) then _ else _) = _
  rw [h]; rfl
theorem childP_sub {p s : ByteArray} (h : (p.toList == (⟨#[47]⟩ : ByteArray).toList) = false) : childP p s = (p ++ (⟨#[47]⟩ : ByteArray)) ++ s := by
  unfold childP
  show (bif (p.toList == (⟨#[47]⟩ : ByteArray).toList) then _ else _) = _
  rw [h]; rfl
theorem walk_out {ns : List (Option NodeD)} {k : Int} {x : Nat} (h : inB k 0 (((nodesZ ns).length : Int) - 1) = false) : (144 < x) ∨ validN ns k.toNat = false ∨ k < 0 := by
  rw [nodesZ_len] at h
  rcases node_out h with h | h
  · exact .inr (.inr h)
  · exact .inr (.inl (validN_none h))
set_option maxHeartbeats 2000000 in
theorem l15Walk1_any (a0 : Option Addr) (c0 : Nat) (a1 : Option Addr) (c1 : Nat) (a2 : Option Addr) (c2 : Nat) (a4 : Option Addr) (c4 : Nat) (a6 : Option Addr) (c6 : Nat) (st : StoreD) (ns : List (Option NodeD)) (H : NodesOk ns) (aoN : Option Addr) (cpN : Nat) (w0 : World) (hR : Rd encS 1 w0 a0 st.fRows.length st.fRows) (hrow : RowsOk st) (h0 : 0 ≤ st.fTxg) (hNZ : Rd NodeD.cs 10 w0 aoN (nodesZ ns).length (nodesZ ns)) (m : Nat) (ih : ∀ (fo : FoundD) (out : List FoundD) (ao : Option Addr) (cp : Nat) (F : List Asr) (w : World), 145 ≤ m + out.length → out.length ≤ 144 → fo.fPath.size ≤ 1 + 5 * out.length → St w0 (rowA FoundD.cells 2 90 (.slice ao out.length cp) out :: F) w → Calls Tryz.prog 102 #[sV a0 c0 a1 c1 a2 c2 a4 c4 a6 c6 st, .slice aoN (nodesZ ns).length cpN, .agg #[.string fo.fPath, .int .i64 fo.fId], .slice ao out.length cp] w fun e w' => ∃ o b, refW st ns m fo out = (o, b) ∧ ∃ ao cp, e = .returned (.tuple #[.slice ao o.length cp, .bool b]) ∧ St w0 (rowA FoundD.cells 2 90 (.slice ao o.length cp) o :: F) w') : ∀ (fo : FoundD) (out : List FoundD) (ao : Option Addr) (cp : Nat) (F : List Asr) (w : World), 145 ≤ (m + 1) + out.length → out.length ≤ 144 → fo.fPath.size ≤ 1 + 5 * out.length → St w0 (rowA FoundD.cells 2 90 (.slice ao out.length cp) out :: F) w → Calls Tryz.prog 102 #[sV a0 c0 a1 c1 a2 c2 a4 c4 a6 c6 st, .slice aoN (nodesZ ns).length cpN, .agg #[.string fo.fPath, .int .i64 fo.fId], .slice ao out.length cp] w fun e w' => ∃ o b, refW st ns (m + 1) fo out = (o, b) ∧ ∃ ao cp, e = .returned (.tuple #[.slice ao o.length cp, .bool b]) ∧ St w0 (rowA FoundD.cells 2 90 (.slice ao o.length cp) o :: F) w' := by
 intro fo out ao cp F w hm hol0 hpz hS
 have hnz := nodesZ_len ns
 have HR := Bx.mk hR; clear hR
 obtain ⟨gN, oN, rNZ⟩ := hNZ.opn; have RNZ := Bx.mk rNZ; clear rNZ
 have h16 := H.len
 have HS := Bx.mk hS; clear hS
 refine wc_enter Tryz.func102 rfl Tryz.ntmps102 [(0, sV a0 c0 a1 c1 a2 c2 a4 c4 a6 c6 st), (1, .slice aoN ((nodesZ ns).length) cpN), (2, .agg #[.string fo.fPath, .int .i64 fo.fId]), (3, .slice ao out.length cp)] ⟨rfl, rfl, rfl, rfl, trivial⟩ rfl ?_
 refine xsr ?_
 intro a HF
 refine ybx HF HS ?_;clear HF HS a;intro a w1 b1 HF HS
 refine ybx HF HS ?_;clear HF HS a;intro a w2 b2 HF HS
 revert a;refine xr 2 rfl<|xne<|xsr<|xr 1 rfl<|xy rfl (vw HS.out 0 2 rfl rfl) ?_
 intro a HF
 refine ybs FoundD.cells 90 2 [fo] HF HS ?_;clear HF HS a;intro b3 a w3 HF HS
 refine yap elemFd FoundD.cells_len HS 3 HF (St.rdN HS.out FoundD.cells_len 0 rfl) (cells_one_Fd _) ?_;clear HF HS a;intro ao4 cp5 w4 a HF HS
 try dsimp only [List.eraseIdx] at HS
 have hz : out.length + [fo].length = (out ++ [fo]).length := (List.length_append ..).symm
 rw [hz] at HS HF
 have hol : (out ++ [fo]).length = out.length + 1 := by rw [List.length_append]; rfl
 revert a;refine xr 1 rfl<|xne<|xsq<|xsr<|xr 1 rfl<|xy rfl (vn 90 2 rfl)<|xr 2 rfl<|xcs 21 rfl (fun cc1=>?_) fun cc1=>?_
 have dcc1 := of_decide_eq_true cc1
 refine xr 17 rfl<|xne<|xct rfl<|xsr<|xr 3 rfl<|xne<|xre<|xtr<|xb2 Tryz.results102 rfl rfl ?_
 replace HS:=Bx.mk (HS.out.pick 3 rfl)
 exact ⟨_, _, refW_bad (.inl (by omega)), _, _, rfl, (((HS.out.erase 3).erase 2).erase 1)⟩
 have dcc1 := of_decide_eq_false cc1
 refine xy rfl (vf 1 rfl)<|xy rfl (vc HS.out 1 rfl rfl)<|xr 1 rfl<|xy rfl (vn 69 10 rfl)<|xy rfl (fun a HF=>yl_subI rfl (HF.ev rfl) (HF.ev rfl) (i64w (by omega))) ?_
 intro a HF
 refine ycBg ((l6In_any fo.fId 0 (((nodesZ ns).length : Int) - 1) _).mono fun _ _ h => ⟨h.1, h.2 ▸ Below.refl _ _⟩) HF Tryz.func82 HS ?_; clear HF HS a; intro w5 a HS HF
 revert a;refine xr 3 rfl<|xcs 30 rfl (fun cc2=>?_) fun cc2=>?_
 have hin : inB fo.fId 0 (((nodesZ ns).length : Int) - 1) = false := by simpa using cc2
 refine xr 8 rfl<|xne<|xct rfl<|xsr<|xr 3 rfl<|xne<|xre<|xtr<|xb2 Tryz.results102 rfl rfl ?_
 replace HS:=Bx.mk (HS.out.pick 3 rfl)
 exact ⟨_, _, refW_bad (walk_out hin), _, _, rfl, (((HS.out.erase 3).erase 2).erase 1)⟩
 have hin : inB fo.fId 0 (((nodesZ ns).length : Int) - 1) = true := by simpa using cc2
 have hkk := inB_true hin; have hnz := nodesZ_len ns
 refine xr 1 rfl<|xy rfl (vf 1 rfl)<|xy rfl (vc HS.out 1 rfl rfl)<|xy rfl (fun a HF=>yl_indexAddrR (e := 69) (i := fo.fId.toNat) (size := 10) rfl (HF.ev rfl) (HF.ev rfl) (by kernel_rfl) (by omega) (by omega) (RNZ.out.ao fo.fId.toNat (by omega)))<|xy rfl (vf 0 rfl)<|xy rfl (fun a HF=>ylo (v := .int .i64 (((nodesZ ns).getD fo.fId.toNat NodeD.zero).fKind)) rfl (HF.ev rfl) (RNZ.out.elem HS.out (get_getD (xs := nodesZ ns) (j := fo.fId.toNat) (d := NodeD.zero) (by omega)) 0 _ rfl))<|xr 2 rfl<|xne<|xcs 38 rfl (fun cc3=>?_) fun cc3=>?_
 have dcc3 := eq_of_beq cc3
 refine xct rfl<|xsr<|xr 3 rfl<|xne<|xre<|xtr<|xb2 Tryz.results102 rfl rfl ?_
 replace HS:=Bx.mk (HS.out.pick 3 rfl)
 exact ⟨_, _, refW_bad (.inr (.inl (validN_none (nodesZ_zero H (by have h := dcc3; exact h))))), _, _, rfl, (((HS.out.erase 3).erase 2).erase 1)⟩
 have dcc3 := ne_of_beq_false cc3
 refine xcf rfl<|xsk<|xet<|xsq<|xsq ?_
 have hk0 : ((nodesZ ns).getD fo.fId.toNat NodeD.zero).fKind ≠ 0 := dcc3; obtain ⟨n, hn, hzn⟩ := nodesZ_kind H hk0; have hle9 : (out ++ [fo]).length ≤ 144 := by omega
 refine xrl<|xr 1 rfl<|xy rfl (vf 1 rfl)<|xy rfl (vc HS.out 1 rfl rfl)<|xy rfl (fun a HF=>yl_indexAddrR (e := 69) (i := fo.fId.toNat) (size := 10) rfl (HF.ev rfl) (HF.ev rfl) (by kernel_rfl) (by omega) (by omega) (RNZ.out.ao fo.fId.toNat (by omega)))<|xy rfl (vf 0 rfl)<|xy rfl (fun a HF=>ylo (v := .int .i64 (((nodesZ ns).getD fo.fId.toNat NodeD.zero).fKind)) rfl (HF.ev rfl) (RNZ.out.elem HS.out (get_getD (xs := nodesZ ns) (j := fo.fId.toNat) (d := NodeD.zero) (by omega)) 0 _ rfl))<|xr 1 rfl<|xne<|xcs 46 rfl (fun cc4=>?_) fun cc4=>?_
 have dcc4 := eq_of_beq cc4
 refine xct rfl<|xsr<|xr 3 rfl<|xne<|xre<|xtr<|xb2 Tryz.results102 rfl rfl ?_
 replace HS:=Bx.mk (HS.out.pick 3 rfl)
 exact ⟨_, _, refW_file hle9 hn (by omega) (by rw [← hzn]; exact cc4), _, _, rfl, (((HS.out.erase 3).erase 2).erase 1)⟩
 have dcc4 := ne_of_beq_false cc4
 refine xcf rfl<|xsk<|xet<|xsq ?_
 intro a HF
 refine wr_heldS (s := rowA FoundD.cells 2 90 (.slice (some ⟨b3, 0, none⟩) 1 1) ([fo]) :: boxA b2 2 90 (.agg #[.string fo.fPath, .int .i64 fo.fId]) :: boxA b1 8 40 (sV a0 c0 a1 c1 a2 c2 a4 c4 a6 c6 st) :: rowA FoundD.cells 2 90 (.slice ao4 ((out ++ [fo]).length) cp5) (out ++ ([fo])) :: F) (by kernel_rfl) (St.drew (HS.out)) ?_
 have HS2 := Bx.mk HS.out.drew; replace HS := Bx.mk (show St w0 (rowA FoundD.cells 2 90 (.slice (some ⟨b3, 0, none⟩) 1 1) ([fo]) :: boxA b2 2 90 (.agg #[.string fo.fPath, .int .i64 fo.fId]) :: boxA b1 8 40 (sV a0 c0 a1 c1 a2 c2 a4 c4 a6 c6 st) :: rowA FoundD.cells 2 90 (.slice ao4 ((out ++ [fo]).length) cp5) (out ++ ([fo])) :: F) _ from HS.out.drew)
 generalize World.drew _ = w6 at HS HS2 ⊢
 revert a;refine xhy 0 HS.out rfl rfl (fun HS=>vw HS 2 8 rfl rfl)<|xh 1 HS.out rfl rfl rfl<|xhy 2 HS.out rfl rfl (fun HS=>vf 1 rfl)<|xhy 3 HS.out rfl rfl (fun HS=>vc HS 1 rfl rfl)<|xhy 4 HS.out rfl rfl (fun HS a HF=>yl_indexAddrR (e := 69) (i := fo.fId.toNat) (size := 10) rfl (HF.ev rfl) (HF.ev rfl) (by kernel_rfl) (by omega) (by omega) (RNZ.out.ao fo.fId.toNat (by omega)))<|xhy 5 HS.out rfl rfl (fun HS a HF=>ylr (cs := nL ((nodesZ ns).getD fo.fId.toNat NodeD.zero)) rfl (HF.ev rfl) (RNZ.out.elem HS (get_getD (xs := nodesZ ns) (j := fo.fId.toNat) (d := NodeD.zero) (by omega)))) ?_
 intro a HF
 refine wh_one 6 (by kernel_rfl) ?_
 refine yo (l15Entries_any a0 c0 a1 c1 a2 c2 a4 c4 a6 c6 st ((nodesZ ns).getD fo.fId.toNat NodeD.zero) _ (HR.out.below HS2.out.bel) hrow h0) HF Tryz.func71 ?_
 rintro _ w8 (⟨es, hes, aoE, cpE, rfl, hs1⟩ | ⟨hes, ae, rfl, hb⟩)
 refine ⟨_, rfl, ?_⟩; replace HS := Bx.mk (HS.out.later hs1.bel); replace HS2 := Bx.mk (HS2.out.add hs1);clear hs1 HF a;intro a HF
 replace HS2 : Bx (St w0 (rowA EntryD.cells 2 118 (.slice aoE es.length cpE) es :: rowA FoundD.cells 2 90 (.slice (some ⟨b3, 0, none⟩) 1 1) ([fo]) :: boxA b2 2 90 (.agg #[.string fo.fPath, .int .i64 fo.fId]) :: boxA b1 8 40 (sV a0 c0 a1 c1 a2 c2 a4 c4 a6 c6 st) :: rowA FoundD.cells 2 90 (.slice ao4 ((out ++ [fo]).length) cp5) (out ++ ([fo])) :: F) _) := ⟨HS2.out⟩
 refine ⟨HS.out, ?_⟩
 revert a;refine xh 7 HS.out rfl rfl rfl<|xh 8 HS.out rfl rfl rfl<|xh 9 HS.out rfl rfl rfl<|xh 10 HS.out rfl rfl rfl<|xh 11 HS.out rfl rfl rfl ?_
 intro a HF
 refine wh_done (by kernel_rfl) ?_
 replace HS := HS2; clear HS2
 refine ex_then<|wp_seq<|wp_seq ?_
 have hk1 : (n.fKind == 1) = false := by rw [← hzn]; exact cc4
 have hk2 : (n.fKind == 2) = true := by have h := (NodeD.ok_is (H.ok _ n hn)).small.kind; rcases h with h | h; (· rw [h] at hk1; cases hk1); (· rw [h]; rfl)
 rw [hzn, entF_yes (H.ok _ n hn) hk2] at hes
 have hek : entK st ns fo.fId.toNat = es := entK_dir hn hk1 hes; have hrd := refW_dir (m := m) hle9 hn (by omega) hk1 hes; have h12 := (entsOk_is (dirF_ok hes)).2
 have hcl : (chF st ns fo).length = es.length := by unfold chF; rw [List.length_map, hek]
 revert a;refine xrl<|xr 1 rfl<|xne<|xbl ?_
 replace HS:=Bx.mk (HS.out.pick 4 rfl)
 intro a HF
 refine wc_loop (ι := Nat) (fun i a w => ∃ (aoX : Option Addr) (cpX : Nat) (o : List FoundD) (b : Bool), (i ≤ es.length ∧ refR (refW st ns m) ((chF st ns fo).drop i) o b = refL (refW st ns m) (chF st ns fo) (out ++ [fo]) ∧ out.length + 1 ≤ o.length ∧ (b = true → o.length ≤ 144)) ∧ Fr 101 a [(1, .slice aoN ((nodesZ ns).length) cpN), (4, .pointer (some ⟨b1, 0, none⟩)), (6, .pointer (some ⟨b2, 0, none⟩)), (10, .slice aoE es.length cpE), (3, .slice aoX o.length cpX), (11, .bool b), (12, .int .i64 (i : Int))] ∧ St w0 (rowA FoundD.cells 2 90 (.slice aoX o.length cpX) o :: rowA EntryD.cells 2 118 (.slice aoE es.length cpE) es :: rowA FoundD.cells 2 90 (.slice (some ⟨b3, 0, none⟩) 1 1) ([fo]) :: boxA b2 2 90 (.agg #[.string fo.fPath, .int .i64 fo.fId]) :: boxA b1 8 40 (sV a0 c0 a1 c1 a2 c2 a4 c4 a6 c6 st) :: F) w) (fun i => es.length - i) 0 ⟨_, _, out ++ [fo], true, ⟨Nat.zero_le _, by rw [List.drop_zero]; rfl, by omega, fun _ => by omega⟩, HF.less _ ⟨rfl, rfl, rfl, rfl, rfl, rfl, rfl, trivial⟩, HS.out⟩ ?_
 clear HF HS; clear a
 rintro i a w9 ⟨aoX, cpX, o, b, ⟨hi, hrr, hge0, hb144⟩, HF, HS⟩
 replace HS := Bx.mk HS
 revert a;refine xsq<|xsr<|xr 2 rfl<|xy rfl (vn 118 2 rfl)<|xr 2 rfl<|xcs 62 rfl (fun cc5=>?_) fun cc5=>?_
 have dcc5 := of_decide_eq_true cc5
 refine xr 2 rfl<|xne<|xcs 64 rfl (fun cc6=>?_) fun cc6=>?_
 refine xct rfl<|xsk<|xet<|xsq<|xbl<|xsq ?_
 have hbt : b = true := cc6; subst hbt; have ho144 := hb144 rfl
 have hnm := name_size (entsOk_mem (dirF_ok hes) (getE_mem (show i < es.length by omega))).1
 obtain ⟨g6, rfl, _, _, _, _⟩ := HS.out.rowOpen 1 rfl (by omega)
 intro a HF
 refine wr_quiet (by kernel_rfl) (by kernel_rfl) HS.out ?_
 revert a;refine xq rfl (fun HS=>vf 0 rfl)<|xq rfl (fun HS=>vc HS 3 rfl rfl)<|xq rfl (fun HS a HF=>yl_addS rfl (HF.ev rfl) (HF.ev rfl) (by (try simp only [size1, app_size]); omega))<|xqr 2 rfl<|xq rfl (fun HS=>vx 118 i 2 rfl)<|xq rfl (fun HS=>vf 0 rfl)<|xq rfl (fun HS a HF=>ylo (v := .string ((es.getD i EntryD.zero).fName)) rfl (HF.ev rfl) (HS.elem EntryD.cells_len 1 rfl (get_getD (xs := es) (j := i) (d := EntryD.zero) (by omega)) 0 _ rfl))<|xq rfl (fun HS a HF=>yl_addS rfl (HF.ev rfl) (HF.ev rfl) (by (try simp only [size1, app_size]); omega))<|xqr 1 rfl ?_
 intro a HF
 refine wpQuiet_nil ?_; intro w10 HS; replace HS := Bx.mk HS
 revert a;refine xet<|xsq<|xsr<|xy rfl (vf 0 rfl)<|xy rfl (vc HS.out 3 rfl rfl)<|xy rfl (fun a HF=>yl_eqlS rfl (HF.ev rfl) (HF.ev rfl))<|xne<|xcs 78 rfl (fun cc7=>?_) fun cc7=>?_
 refine xct rfl<|xrl<|xr 2 rfl<|xy rfl (vx 118 i 2 rfl)<|xy rfl (vf 0 rfl)<|xy rfl (fun a HF=>ylo (v := .string ((es.getD i EntryD.zero).fName)) rfl (HF.ev rfl) (HS.out.elem EntryD.cells_len 1 rfl (get_getD (xs := es) (j := i) (d := EntryD.zero) (by omega)) 0 _ rfl))<|xy rfl (fun a HF=>yl_addS rfl (HF.ev rfl) (HF.ev rfl) (by (try simp only [size1, app_size]); omega))<|xr 1 rfl<|xne ?_
 have hpz2 : ((⟨#[47]⟩ : ByteArray) ++ ((es.getD i EntryD.zero).fName)).size ≤ 1 + 5 * o.length := by simp only [app_size]; have : (⟨#[47]⟩ : ByteArray).size = 1 := rfl; omega
 intro a HF
 refine wr_heldS (s := rowA EntryD.cells 2 118 (.slice (some ⟨g6, 0, none⟩) es.length cpE) es :: rowA FoundD.cells 2 90 (.slice (some ⟨b3, 0, none⟩) 1 1) ([fo]) :: boxA b2 2 90 (.agg #[.string fo.fPath, .int .i64 fo.fId]) :: boxA b1 8 40 (sV a0 c0 a1 c1 a2 c2 a4 c4 a6 c6 st) :: F) (by kernel_rfl) (St.drew ((HS.out.erase 0))) ?_
 have HS2 := Bx.mk HS.out.drew; replace HS := Bx.mk (show St w0 (rowA EntryD.cells 2 118 (.slice (some ⟨g6, 0, none⟩) es.length cpE) es :: rowA FoundD.cells 2 90 (.slice (some ⟨b3, 0, none⟩) 1 1) ([fo]) :: boxA b2 2 90 (.agg #[.string fo.fPath, .int .i64 fo.fId]) :: boxA b1 8 40 (sV a0 c0 a1 c1 a2 c2 a4 c4 a6 c6 st) :: F) _ from (HS.out.drew.erase 0))
 generalize World.drew _ = w11 at HS HS2 ⊢
 revert a;refine xhy 0 HS.out rfl rfl (fun HS=>vw HS 3 8 rfl rfl)<|xh 1 HS.out rfl rfl rfl<|xh 2 HS.out rfl rfl rfl<|xh 3 HS.out rfl rfl rfl<|xh 4 HS.out rfl rfl rfl<|xhy 5 HS.out rfl rfl (fun HS=>vx 118 i 2 rfl)<|xhy 6 HS.out rfl rfl (fun HS=>vf 1 rfl)<|xhy 7 HS.out rfl rfl (fun HS a HF=>ylo (v := .int .i64 ((es.getD i EntryD.zero).fId)) rfl (HF.ev rfl) (HS.elem EntryD.cells_len 0 rfl (get_getD (xs := es) (j := i) (d := EntryD.zero) (by omega)) 1 _ rfl))<|xhy 8 HS.out rfl rfl (fun HS=>vb [.string ((⟨#[47]⟩ : ByteArray) ++ ((es.getD i EntryD.zero).fName)), .int .i64 ((es.getD i EntryD.zero).fId)] rfl)<|xh 9 HS.out rfl rfl rfl ?_
 intro a HF
 refine wh_one 10 (by kernel_rfl) ?_
 replace HS2:=Bx.mk (HS2.out.pick 0 rfl)
 refine yo (ih (⟨(⟨#[47]⟩ : ByteArray) ++ ((es.getD i EntryD.zero).fName), (es.getD i EntryD.zero).fId⟩ : FoundD) _ _ _ _ _ (by omega) (by omega) hpz2 HS2.out) HF Tryz.func102 ?_
 rintro _ w13 ⟨o2, bo2, hob, aoO, cpO, rfl, hs1⟩
 refine ⟨_, rfl, ?_⟩; replace HS2 := Bx.mk hs1;clear hs1 HF a;intro a HF
 replace HS2 : Bx (St w0 (rowA FoundD.cells 2 90 (.slice aoO o2.length cpO) o2 :: rowA EntryD.cells 2 118 (.slice (some ⟨g6, 0, none⟩) es.length cpE) es :: rowA FoundD.cells 2 90 (.slice (some ⟨b3, 0, none⟩) 1 1) ([fo]) :: boxA b2 2 90 (.agg #[.string fo.fPath, .int .i64 fo.fId]) :: boxA b1 8 40 (sV a0 c0 a1 c1 a2 c2 a4 c4 a6 c6 st) :: F) _) := ⟨HS2.out⟩
 clear HS; have HS:=Bx.mk ((HS2.out.erase 0));refine ⟨HS.out,?_⟩
 revert a;refine xh 11 HS.out rfl rfl rfl<|xh 12 HS.out rfl rfl rfl<|xh 13 HS.out rfl rfl rfl<|xh 14 HS.out rfl rfl rfl<|xh 15 HS.out rfl rfl rfl ?_
 intro a HF
 refine wh_done (by kernel_rfl) ?_
 replace HS := HS2; clear HS2
 revert a;refine xeb<|xet<|xrl<|xr 1 rfl<|xy rfl (vad rfl)<|xr 1 rfl<|xne ?_
 have hch := chF_at (st := st) (ns := ns) (fo := fo) (i := i) (by rw [hek]; omega); rw [hek, childP_top cc7] at hch
 have hrs := refR_step (g := refW st ns m) (o := o) (by omega) hch; rw [hob] at hrs; have hge := refW_ge (st := st) (ns := ns) m (⟨(⟨#[47]⟩ : ByteArray) ++ ((es.getD i EntryD.zero).fName), (es.getD i EntryD.zero).fId⟩ : FoundD) o; rw [hob] at hge
 have h144 : bo2 = true → o2.length ≤ 144 := fun h => by have h9 := refW_144 (st := st) (ns := ns) (m := m) (fo := (⟨(⟨#[47]⟩ : ByteArray) ++ ((es.getD i EntryD.zero).fName), (es.getD i EntryD.zero).fId⟩ : FoundD)) (out := o) (by rw [hob]; exact h); rw [hob] at h9; exact h9
 intro a HF
 exact ⟨(i + 1), ⟨_, _, o2, bo2, ⟨by omega, hrs.symm.trans hrr, by show out.length + 1 ≤ o2.length; have h : o.length ≤ o2.length := hge; omega, h144⟩, HF.less _ ⟨rfl, rfl, rfl, rfl, rfl, rfl, rfl, trivial⟩, HS.out⟩, (by omega)⟩
 refine xcf rfl<|xsk<|xet ?_
 have hpz2 : ((fo.fPath ++ (⟨#[47]⟩ : ByteArray)) ++ ((es.getD i EntryD.zero).fName)).size ≤ 1 + 5 * o.length := by simp only [app_size]; have : (⟨#[47]⟩ : ByteArray).size = 1 := rfl; omega
 intro a HF
 refine wr_heldS (s := rowA EntryD.cells 2 118 (.slice (some ⟨g6, 0, none⟩) es.length cpE) es :: rowA FoundD.cells 2 90 (.slice (some ⟨b3, 0, none⟩) 1 1) ([fo]) :: boxA b2 2 90 (.agg #[.string fo.fPath, .int .i64 fo.fId]) :: boxA b1 8 40 (sV a0 c0 a1 c1 a2 c2 a4 c4 a6 c6 st) :: F) (by kernel_rfl) (St.drew ((HS.out.erase 0))) ?_
 have HS2 := Bx.mk HS.out.drew; replace HS := Bx.mk (show St w0 (rowA EntryD.cells 2 118 (.slice (some ⟨g6, 0, none⟩) es.length cpE) es :: rowA FoundD.cells 2 90 (.slice (some ⟨b3, 0, none⟩) 1 1) ([fo]) :: boxA b2 2 90 (.agg #[.string fo.fPath, .int .i64 fo.fId]) :: boxA b1 8 40 (sV a0 c0 a1 c1 a2 c2 a4 c4 a6 c6 st) :: F) _ from (HS.out.drew.erase 0))
 generalize World.drew _ = w14 at HS HS2 ⊢
 revert a;refine xhy 0 HS.out rfl rfl (fun HS=>vw HS 3 8 rfl rfl)<|xh 1 HS.out rfl rfl rfl<|xh 2 HS.out rfl rfl rfl<|xh 3 HS.out rfl rfl rfl<|xh 4 HS.out rfl rfl rfl<|xhy 5 HS.out rfl rfl (fun HS=>vx 118 i 2 rfl)<|xhy 6 HS.out rfl rfl (fun HS=>vf 1 rfl)<|xhy 7 HS.out rfl rfl (fun HS a HF=>ylo (v := .int .i64 ((es.getD i EntryD.zero).fId)) rfl (HF.ev rfl) (HS.elem EntryD.cells_len 0 rfl (get_getD (xs := es) (j := i) (d := EntryD.zero) (by omega)) 1 _ rfl))<|xhy 8 HS.out rfl rfl (fun HS=>vb [.string ((fo.fPath ++ (⟨#[47]⟩ : ByteArray)) ++ ((es.getD i EntryD.zero).fName)), .int .i64 ((es.getD i EntryD.zero).fId)] rfl)<|xh 9 HS.out rfl rfl rfl ?_
 intro a HF
 refine wh_one 10 (by kernel_rfl) ?_
 replace HS2:=Bx.mk (HS2.out.pick 0 rfl)
 refine yo (ih (⟨(fo.fPath ++ (⟨#[47]⟩ : ByteArray)) ++ ((es.getD i EntryD.zero).fName), (es.getD i EntryD.zero).fId⟩ : FoundD) _ _ _ _ _ (by omega) (by omega) hpz2 HS2.out) HF Tryz.func102 ?_
 rintro _ w16 ⟨o2, bo2, hob, aoO, cpO, rfl, hs1⟩
 refine ⟨_, rfl, ?_⟩; replace HS2 := Bx.mk hs1;clear hs1 HF a;intro a HF
 replace HS2 : Bx (St w0 (rowA FoundD.cells 2 90 (.slice aoO o2.length cpO) o2 :: rowA EntryD.cells 2 118 (.slice (some ⟨g6, 0, none⟩) es.length cpE) es :: rowA FoundD.cells 2 90 (.slice (some ⟨b3, 0, none⟩) 1 1) ([fo]) :: boxA b2 2 90 (.agg #[.string fo.fPath, .int .i64 fo.fId]) :: boxA b1 8 40 (sV a0 c0 a1 c1 a2 c2 a4 c4 a6 c6 st) :: F) _) := ⟨HS2.out⟩
 clear HS; have HS:=Bx.mk ((HS2.out.erase 0));refine ⟨HS.out,?_⟩
 revert a;refine xh 11 HS.out rfl rfl rfl<|xh 12 HS.out rfl rfl rfl<|xh 13 HS.out rfl rfl rfl<|xh 14 HS.out rfl rfl rfl<|xh 15 HS.out rfl rfl rfl ?_
 intro a HF
 refine wh_done (by kernel_rfl) ?_
 replace HS := HS2; clear HS2
 revert a;refine xeb<|xet<|xrl<|xr 1 rfl<|xy rfl (vad rfl)<|xr 1 rfl<|xne ?_
 have hch := chF_at (st := st) (ns := ns) (fo := fo) (i := i) (by rw [hek]; omega); rw [hek, childP_sub cc7] at hch
 have hrs := refR_step (g := refW st ns m) (o := o) (by omega) hch; rw [hob] at hrs; have hge := refW_ge (st := st) (ns := ns) m (⟨(fo.fPath ++ (⟨#[47]⟩ : ByteArray)) ++ ((es.getD i EntryD.zero).fName), (es.getD i EntryD.zero).fId⟩ : FoundD) o; rw [hob] at hge
 have h144 : bo2 = true → o2.length ≤ 144 := fun h => by have h9 := refW_144 (st := st) (ns := ns) (m := m) (fo := (⟨(fo.fPath ++ (⟨#[47]⟩ : ByteArray)) ++ ((es.getD i EntryD.zero).fName), (es.getD i EntryD.zero).fId⟩ : FoundD)) (out := o) (by rw [hob]; exact h); rw [hob] at h9; exact h9
 intro a HF
 exact ⟨(i + 1), ⟨_, _, o2, bo2, ⟨by omega, hrs.symm.trans hrr, by show out.length + 1 ≤ o2.length; have h : o.length ≤ o2.length := hge; omega, h144⟩, HF.less _ ⟨rfl, rfl, rfl, rfl, rfl, rfl, rfl, trivial⟩, HS.out⟩, (by omega)⟩
 refine xcf rfl<|xex<|xtx<|xtx<|xbh<|xet<|xsr<|xr 4 rfl<|xne<|xre<|xb2 Tryz.results102 rfl rfl ?_
 replace HS:=Bx.mk (HS.out.pick 0 rfl)
 have hfin := hrr.symm.trans (by rw [cc6]); exact ⟨_, _, hrd.trans hfin, _, _, by rw [cc6], ((((HS.out.erase 4).erase 3).erase 2).erase 1)⟩
 have dcc5 := of_decide_eq_false cc5
 refine xr 2 rfl<|xne<|xcf rfl<|xex<|xtx<|xtx<|xbh<|xet<|xsr<|xr 4 rfl<|xne<|xre<|xb2 Tryz.results102 rfl rfl ?_
 replace HS:=Bx.mk (HS.out.pick 0 rfl)
 have hfin := hrr.symm.trans (refR_end (by omega)); exact ⟨_, _, hrd.trans hfin, _, _, rfl, ((((HS.out.erase 4).erase 3).erase 2).erase 1)⟩
 refine ⟨_, rfl, ?_⟩; replace HS := Bx.mk (HS.out.later hb); replace HS2 := Bx.mk (HS2.out.later hb);clear hb HF a;intro a HF; refine ⟨HS.out, ?_⟩
 revert a;refine xh 7 HS.out rfl rfl rfl<|xh 8 HS.out rfl rfl rfl<|xh 9 HS.out rfl rfl rfl<|xh 10 HS.out rfl rfl rfl<|xh 11 HS.out rfl rfl rfl ?_
 intro a HF
 refine wh_done (by kernel_rfl) ?_
 replace HS := HS2; clear HS2
 refine ex_then<|wp_seq<|wp_seq ?_
 have hk1 : (n.fKind == 1) = false := by rw [← hzn]; exact cc4
 have hk2 : (n.fKind == 2) = true := by have h := (NodeD.ok_is (H.ok _ n hn)).small.kind; rcases h with h | h; (· rw [h] at hk1; cases hk1); (· rw [h]; rfl)
 rw [hzn, entF_yes (H.ok _ n hn) hk2] at hes
 have hrd := refW_nodir (m := m) hle9 hn (by omega) hk1 hes
 revert a;refine xrl<|xr 1 rfl<|xne<|xbl ?_
 replace HS:=Bx.mk (HS.out.pick 3 rfl)
 intro a HF
 refine wc_loop (ι := Nat) (fun i a w => ∃ (aoX : Option Addr) (cpX : Nat) (o : List FoundD) (b : Bool), (o = out ++ [fo] ∧ b = false) ∧ Fr 101 a [(1, .slice aoN ((nodesZ ns).length) cpN), (4, .pointer (some ⟨b1, 0, none⟩)), (6, .pointer (some ⟨b2, 0, none⟩)), (10, .slice ae 0 0), (3, .slice aoX o.length cpX), (11, .bool b), (12, .int .i64 (i : Int))] ∧ St w0 (rowA FoundD.cells 2 90 (.slice aoX o.length cpX) o :: rowA FoundD.cells 2 90 (.slice (some ⟨b3, 0, none⟩) 1 1) ([fo]) :: boxA b2 2 90 (.agg #[.string fo.fPath, .int .i64 fo.fId]) :: boxA b1 8 40 (sV a0 c0 a1 c1 a2 c2 a4 c4 a6 c6 st) :: F) w) (fun i => 0) 0 ⟨_, _, out ++ [fo], false, ⟨rfl, rfl⟩, HF.less _ ⟨rfl, rfl, rfl, rfl, rfl, rfl, rfl, trivial⟩, HS.out⟩ ?_
 clear HF HS; clear a
 rintro i a w17 ⟨aoX, cpX, o, b, ⟨ho9, hb9⟩, HF, HS⟩
 replace HS := Bx.mk HS
 revert a;refine xsq<|xsr<|xr 2 rfl<|xy rfl (vn 118 2 rfl)<|xr 2 rfl<|xcs 62 rfl (fun cc8=>?_) fun cc8=>?_
 have dcc8 := of_decide_eq_true cc8
 exact absurd dcc8 (by omega)
 have dcc8 := of_decide_eq_false cc8
 refine xr 2 rfl<|xne<|xcf rfl<|xex<|xtx<|xtx<|xbh<|xet<|xsr<|xr 4 rfl<|xne<|xre<|xb2 Tryz.results102 rfl rfl ?_
 replace HS:=Bx.mk (HS.out.pick 0 rfl)
 subst ho9; subst hb9; exact ⟨_, _, hrd, _, _, rfl, (((HS.out.erase 3).erase 2).erase 1)⟩
theorem l15Walk_any (a0 : Option Addr) (c0 : Nat) (a1 : Option Addr) (c1 : Nat) (a2 : Option Addr) (c2 : Nat) (a4 : Option Addr) (c4 : Nat) (a6 : Option Addr) (c6 : Nat) (st : StoreD) (ns : List (Option NodeD)) (H : NodesOk ns) (aoN : Option Addr) (cpN : Nat) (w0 : World) (hR : Rd encS 1 w0 a0 st.fRows.length st.fRows) (hrow : RowsOk st) (h0 : 0 ≤ st.fTxg) (hNZ : Rd NodeD.cs 10 w0 aoN (nodesZ ns).length (nodesZ ns)) : ∀ m : Nat, ∀ (fo : FoundD) (out : List FoundD) (ao : Option Addr) (cp : Nat) (F : List Asr) (w : World), 145 ≤ m + out.length → out.length ≤ 144 → fo.fPath.size ≤ 1 + 5 * out.length → St w0 (rowA FoundD.cells 2 90 (.slice ao out.length cp) out :: F) w → Calls Tryz.prog 102 #[.agg #[.slice a0 st.fRows.length c0, .slice a1 st.fSpace.fRefs.length c1, .slice a2 st.fSpace.fLast.length c2, .int .i64 st.fTxg, .slice a4 st.fGone.length c4, .int .i64 st.fKeep, .slice a6 st.fDead.length c6, .bool st.fSame], .slice aoN (nodesZ ns).length cpN, .agg #[.string fo.fPath, .int .i64 fo.fId], .slice ao out.length cp] w fun e w' => ∃ o b, refW st ns m fo out = (o, b) ∧ ∃ ao cp, e = .returned (.tuple #[.slice ao o.length cp, .bool b]) ∧ St w0 (rowA FoundD.cells 2 90 (.slice ao o.length cp) o :: F) w'
  | 0 => fun fo out ao cp F w hm hl _ _ => by omega
  | m + 1 => l15Walk1_any a0 c0 a1 c1 a2 c2 a4 c4 a6 c6 st ns H aoN cpN w0 hR hrow h0 hNZ m (l15Walk_any a0 c0 a1 c1 a2 c2 a4 c4 a6 c6 st ns H aoN cpN w0 hR hrow h0 hNZ m)
open Go.RowKit
theorem seen_all {st : StoreD} {ns : List (Option NodeD)} {o : List FoundD} (h : refW st ns 145 rootX [] = (o, true)) : o.length ≤ 144 ∧ ∀ i, i < o.length → 0 ≤ (o.getD i rootX).fId ∧ (o.getD i rootX).fId.toNat < ns.length := by
  obtain ⟨L, h1, h2, h3, h4⟩ := refW_some h
  rw [List.nil_append] at h2
  subst h2
  refine ⟨h3, fun i hi => ?_⟩
  have hm : o.getD i rootX ∈ o := by rw [List.getD_eq_getElem?_getD, List.getElem?_eq_getElem hi]; exact List.getElem_mem _
  obtain ⟨n, hn, _⟩ := h4 _ hm
  exact ⟨dfs_pos h1 _ hm, validN_lt (validN_some hn)⟩
def CntTo (ms : List Int) (o : List FoundD) (k : Nat) (n : Nat) : Prop := ms.length = n ∧ ∀ j, j < n → ms.getD j 0 = ((((o.take k).map fun x => x.fId.toNat).count j : Nat) : Int)
theorem CntTo.start (o : List FoundD) (n : Nat) : CntTo (List.replicate n 0) o 0 n := ⟨List.length_replicate .., fun j hj => by
  rw [List.getD_eq_getElem?_getD, List.getElem?_replicate, if_pos hj, List.take_zero]; rfl⟩
theorem CntTo.step {ms : List Int} {o : List FoundD} {k n : Nat} (h : CntTo ms o k n) (hk : k < o.length) : CntTo (ms.set (o.getD k rootX).fId.toNat (ms.getD (o.getD k rootX).fId.toNat 0 + 1)) o (k + 1) n := by
  refine ⟨by rw [List.length_set]; exact h.1, fun j hj => ?_⟩
  have e : (o.take (k + 1)).map (fun x => x.fId.toNat) = (o.take k).map (fun x => x.fId.toNat) ++ [(o.getD k rootX).fId.toNat] := by
    rw [List.take_succ_eq_append_getElem hk, List.map_append, List.getD_eq_getElem?_getD, List.getElem?_eq_getElem hk]; rfl
  rw [e, List.count_append, List.getD_eq_getElem?_getD, List.getElem?_set]
  by_cases hj2 : (o.getD k rootX).fId.toNat = j
  · rw [if_pos hj2, if_pos (by rw [h.1]; omega), Option.getD_some, hj2, h.2 j hj, List.count_singleton_self]; rfl
  · rw [if_neg hj2, List.count_eq_zero.2 (fun hm : j ∈ [(o.getD k rootX).fId.toNat] => hj2 (List.mem_singleton.1 hm).symm), Nat.add_zero, ← List.getD_eq_getElem?_getD, h.2 j hj]
theorem CntTo.fin {ms : List Int} {o : List FoundD} {k n : Nat} (h : CntTo ms o k n) (hk : ¬ k < o.length) : ∀ j, j < n → ms.getD j 0 = (((o.map fun x => x.fId.toNat).count j : Nat) : Int) := fun j hj => by
  have := h.2 j hj
  rwa [List.take_of_length_le (by omega)] at this
theorem cnt_small (o : List FoundD) (h : o.length ≤ 144) (j k : Nat) : ((o.take k).map fun x => x.fId.toNat).count j ≤ 144 := by
  refine Nat.le_trans List.count_le_length ?_
  rw [List.length_map, List.length_take]; omega
theorem l15Walk_top (a0 : Option Addr) (c0 : Nat) (a1 : Option Addr) (c1 : Nat) (a2 : Option Addr) (c2 : Nat) (a4 : Option Addr) (c4 : Nat) (a6 : Option Addr) (c6 : Nat) (st : StoreD) (ns : List (Option NodeD)) (H : NodesOk ns) (aoN : Option Addr) (cpN : Nat) (w0 : World) (hR : Rd encS 1 w0 a0 st.fRows.length st.fRows) (hrow : RowsOk st) (h0 : 0 ≤ st.fTxg) (hNZ : Rd NodeD.cs 10 w0 aoN (nodesZ ns).length (nodesZ ns)) (ae : Option Addr) : Calls Tryz.prog 102 #[.agg #[.slice a0 st.fRows.length c0, .slice a1 st.fSpace.fRefs.length c1, .slice a2 st.fSpace.fLast.length c2, .int .i64 st.fTxg, .slice a4 st.fGone.length c4, .int .i64 st.fKeep, .slice a6 st.fDead.length c6, .bool st.fSame], .slice aoN (nodesZ ns).length cpN, .agg #[.string (⟨#[47]⟩ : ByteArray), .int .i64 0], .slice ae 0 0] w0 fun e w' => ∃ o b, refW st ns 145 rootX [] = (o, b) ∧ ∃ ao cp, e = .returned (.tuple #[.slice ao o.length cp, .bool b]) ∧ St w0 [rowA FoundD.cells 2 90 (.slice ao o.length cp) o] w' :=
  l15Walk_any a0 c0 a1 c1 a2 c2 a4 c4 a6 c6 st ns H aoN cpN w0 hR hrow h0 hNZ 145 rootX [] ae 0 [] w0 (by decide) (by decide) (by decide) ((St.start w0).nilRow FoundD.cells 2 90 ae)
set_option maxHeartbeats 2000000 in
theorem l15All_any (a0 : Option Addr) (c0 : Nat) (a1 : Option Addr) (c1 : Nat) (a2 : Option Addr) (c2 : Nat) (a4 : Option Addr) (c4 : Nat) (a6 : Option Addr) (c6 : Nat) (st : StoreD) (t : TreeD) (w0 : World) (hR : Rd encS 1 w0 a0 st.fRows.length st.fRows) (hrow : RowsOk st) (h0 : 0 ≤ st.fTxg) : Calls Tryz.prog 48 #[sV a0 c0 a1 c1 a2 c2 a4 c4 a6 c6 st, tV t] w0 fun e w' => (∃ ns o, tabF st t = some ns ∧ refAll st ns = some o ∧ ∃ ao cp, e = .returned (.tuple #[.slice ao o.length cp, .bool true]) ∧ St w0 [rowA FoundD.cells 2 90 (.slice ao o.length cp) o] w') ∨ ((∀ ns, tabF st t = some ns → refAll st ns = none) ∧ ∃ ae, e = .returned (.tuple #[.slice ae 0 0, .bool false]) ∧ Below w0.heap.size w0 w') := by
 have HR := Bx.mk hR; clear hR
 have HS := Bx.mk (St.start w0)
 refine wc_enter Tryz.func48 rfl Tryz.ntmps48 [(0, sV a0 c0 a1 c1 a2 c2 a4 c4 a6 c6 st), (1, tV t)] ⟨rfl, rfl, trivial⟩ rfl ?_
 refine xsr ?_
 intro a HF
 refine ybx HF HS ?_;clear HF HS a;intro a w1 b1 HF HS
 refine ybx HF HS ?_;clear HF HS a;intro a w2 b2 HF HS
 revert a;refine xr 2 rfl<|xne<|xsq<|xsr<|xy rfl (vw HS.out 1 8 rfl rfl)<|xy rfl (vw HS.out 0 7 rfl rfl) ?_
 intro a HF
 refine ycB (l11Ok_any a0 c0 a1 c1 a2 c2 a4 c4 a6 c6 st t _ (HR.out.below HS.out.bel) hrow h0) HF Tryz.func100 HS ?_; clear HF HS a; intro w3 a HS HF
 revert a;refine xr 1 rfl<|xne<|xcs 15 rfl (fun cc1=>?_) fun cc1=>?_
 refine xct rfl<|xsr ?_
 intro a HF
 refine yem 90 2 HF HS ?_;clear HF HS a;intro a w4 b3 HF HS
 revert a;refine xr 2 rfl<|xne<|xre<|xtr<|xb2 Tryz.results48 rfl rfl ?_
 exact .inr ⟨fun ns2 h2 => (by rw [h2] at cc1; simp at cc1), _, rfl, HS.out.bel⟩
 obtain ⟨ns, htb⟩ : ∃ ns, tabF st t = some ns := Option.isSome_iff_exists.1 (by simpa using cc1); have H := tabF_nodes htb; have h16 := H.len; have hnz := nodesZ_len ns
 refine xcf rfl<|xsk<|xet<|xsr<|xy rfl (vw HS.out 1 8 rfl rfl)<|xy rfl (vw HS.out 0 7 rfl rfl) ?_
 intro a HF
 refine yc (l15Nodes_any a0 c0 a1 c1 a2 c2 a4 c4 a6 c6 st t htb _ (HR.out.below HS.out.bel) hrow h0) HF Tryz.func101 ?_
 rintro _ w5 ⟨ao4, cp4, rfl, hs⟩
 refine ⟨_, rfl, ?_⟩
 replace HS := Bx.mk (HS.out.add hs);clear hs HF a;intro a HF
 try dsimp only [List.eraseIdx] at HS
 revert a;refine xr 1 rfl<|xne<|xsq<|xsr<|xr 1 rfl<|xy rfl (vn 69 10 rfl)<|xr 2 rfl<|xcs 23 rfl (fun cc2=>?_) fun cc2=>?_
 have dcc2 := eq_of_beq cc2
 refine xr 6 rfl<|xne<|xct rfl<|xsr ?_
 intro a HF
 refine yem 90 2 HF HS ?_;clear HF HS a;intro a w6 b5 HF HS
 revert a;refine xr 2 rfl<|xne<|xre<|xtr<|xb2 Tryz.results48 rfl rfl ?_
 exact .inr ⟨fun ns2 h2 => (by rw [htb] at h2; obtain rfl := Option.some.inj h2; exact refAll_root (by unfold isFN; rw [getO_out (by have h := dcc2; omega)])), _, rfl, HS.out.bel⟩
 have dcc2 := ne_of_beq_false cc2
 obtain ⟨g6, rfl, _, _, _, _⟩ := HS.out.rowOpen 0 rfl (by omega)
 refine xr 1 rfl<|xy rfl (vx 69 0 10 rfl)<|xy rfl (vf 0 rfl)<|xy rfl (fun a HF=>ylo (v := .int .i64 (((nodesZ ns).getD 0 NodeD.zero).fKind)) rfl (HF.ev rfl) (HS.out.elem NodeD.cs_len 0 rfl (get_getD (xs := nodesZ ns) (j := 0) (d := NodeD.zero) (by omega)) 0 _ rfl))<|xr 2 rfl<|xne<|xcs 29 rfl (fun cc3=>?_) fun cc3=>?_
 have dcc3 := bne_iff_ne.1 cc3
 refine xct rfl<|xsr ?_
 intro a HF
 refine yem 90 2 HF HS ?_;clear HF HS a;intro a w7 b7 HF HS
 revert a;refine xr 2 rfl<|xne<|xre<|xtr<|xb2 Tryz.results48 rfl rfl ?_
 exact .inr ⟨fun ns2 h2 => (by rw [htb] at h2; obtain rfl := Option.some.inj h2; exact refAll_root (by cases h9 : isFN ns 0 with | false => rfl | true => obtain ⟨n, hn, _⟩ := isFN_is h9; rw [← kind_fold H hn] at h9; have hz := nodesZ_some hn; have h8 := cc3; rw [hz] at h8; rw [eq_of_beq h9] at h8; cases h8)), _, rfl, HS.out.bel⟩
 have dcc3 := bne_eq_false_iff_eq.1 cc3
 refine xcf rfl<|xsk<|xet<|xsq ?_
 have hk0 : (((nodesZ ns).getD 0 NodeD.zero).fKind == 2) = true := by simpa using cc3
 have hf0 : isFN ns 0 = true := by obtain ⟨n9, hn9, hz9⟩ := nodesZ_kind H (k := 0) (by have := eq_of_beq hk0; omega); rw [← kind_fold H hn9, ← hz9]; exact hk0
 refine xrl<|xy rfl (vw HS.out 2 8 rfl rfl)<|xr 1 rfl<|xy rfl (vb [.string (⟨#[47]⟩ : ByteArray), .int .i64 0] rfl) ?_
 intro a HF
 refine yem 90 2 HF HS ?_;clear HF HS a;intro a w8 b8 HF HS
 refine yc (l15Walk_top a0 c0 a1 c1 a2 c2 a4 c4 a6 c6 st ns H _ _ _ (HR.out.below HS.out.bel) hrow h0 (St.rdOf HS.out NodeD.cs_len 0 rfl) _) HF Tryz.func102 ?_
 rintro _ w9 ⟨o, b, hob, aoO, cpO, rfl, hs1⟩
 refine ⟨_, rfl, ?_⟩; replace HS := Bx.mk (HS.out.add hs1);clear hs1 HF a;intro a HF
 try dsimp only [List.eraseIdx] at HS
 revert a;refine xr 5 rfl<|xne<|xsq<|xsr<|xr 2 rfl<|xne<|xcs 40 rfl (fun cc4=>?_) fun cc4=>?_
 refine xct rfl<|xsr ?_
 intro a HF
 refine yem 90 2 HF HS ?_;clear HF HS a;intro a w10 b9 HF HS
 revert a;refine xr 2 rfl<|xne<|xre<|xtr<|xb2 Tryz.results48 rfl rfl ?_
 exact .inr ⟨fun ns2 h2 => (by rw [htb] at h2; obtain rfl := Option.some.inj h2; exact refAll_walk (by rw [hob]; simpa using cc4)), _, rfl, HS.out.bel⟩
 refine xcf rfl<|xsk<|xet<|xsq ?_
 have hbt : b = true := by simpa using cc4
 subst hbt; have hobt := hob
 refine xrl<|xr 1 rfl<|xy rfl (vn 69 10 rfl) ?_
 intro a HF
 refine wl_makeN (enc := encI) (n := (nodesZ ns).length) rfl HF rfl rfl rfl elemI (HF.ev rfl) (HF.ev rfl) (by omega) (by omega) (by omega) (by unfold maxLen; omega) (0 : Int) (u := .int .i64 0) (by kernel_rfl) rfl rfl HS.out ?_; clear HF HS a; intro b10 a w11 HF HS; replace HS := Bx.mk HS
 revert a;refine xr 1 rfl<|xne<|xsq<|xsr<|xr 1 rfl<|xne<|xbl ?_
 replace HS:=Bx.mk (HS.out.pick 0 rfl)
 intro a HF
 refine wc_loop (ι := Nat) (fun k a w => ∃ (ms : List Int), (k ≤ o.length ∧ CntTo ms o k (nodesZ ns).length) ∧ Fr 110 a [(2, .pointer (some ⟨b1, 0, none⟩)), (3, .pointer (some ⟨b2, 0, none⟩)), (6, .slice (some ⟨g6, 0, none⟩) ((nodesZ ns).length) cp4), (7, .slice aoO o.length cpO), (9, .slice (some ⟨b10, 0, none⟩) ((nodesZ ns).length) ((nodesZ ns).length)), (10, .int .i64 (k : Int))] ∧ St w0 ([rowA encI 1 3 (.slice (some ⟨b10, 0, none⟩) ((nodesZ ns).length) ((nodesZ ns).length)) ms, rowA FoundD.cells 2 90 (.slice aoO o.length cpO) o, rowA NodeD.cs 10 69 (.slice (some ⟨g6, 0, none⟩) ((nodesZ ns).length) cp4) (nodesZ ns), boxA b2 7 44 (tV t), boxA b1 8 40 (sV a0 c0 a1 c1 a2 c2 a4 c4 a6 c6 st)]) w) (fun k => o.length - k) 0 ⟨List.replicate (nodesZ ns).length 0, ⟨Nat.zero_le _, CntTo.start _ _⟩, HF.less _ ⟨rfl, rfl, rfl, rfl, rfl, rfl, trivial⟩, HS.out⟩ ?_
 clear HF HS; clear a
 rintro k a w12 ⟨ms, ⟨hk, hct⟩, HF, HS⟩
 replace HS := Bx.mk HS
 have hml := hct.1; have hsn := seen_all hobt
 revert a;refine xsq<|xsr<|xr 2 rfl<|xy rfl (vn 90 2 rfl)<|xr 1 rfl<|xne<|xcs 48 rfl (fun cc5=>?_) fun cc5=>?_
 have dcc5 := of_decide_eq_true cc5
 refine xct rfl<|xsk<|xet<|xsq<|xbl ?_
 have hsk := hsn.2 k (by omega); have hck := hct.2 (o.getD k rootX).fId.toNat (by omega); have hsm := cnt_small o hsn.1 (o.getD k rootX).fId.toNat k
 obtain ⟨g11, rfl, _, _, _, _⟩ := HS.out.rowOpen 1 rfl (by omega)
 intro a HF
 refine wr_tail 16 (by kernel_rfl) (by kernel_rfl) HS.out ?_
 simp only [List.take_succ_cons, List.take_zero, List.drop_succ_cons, List.drop_zero]
 intro w13 HS
 replace HS := Bx.mk HS
 refine ws_y rfl HF rfl rfl (yl_move rfl (HF.ev rfl)) ?_;clear HF a;intro a HF
 refine ws_y rfl HF rfl rfl (yl_move rfl (HF.ev rfl)) ?_;clear HF a;intro a HF
 refine ws_y rfl HF rfl rfl (yl_move rfl (HF.ev rfl)) ?_;clear HF a;intro a HF
 refine ws_y rfl HF rfl rfl (yl_indexAddr (e := 90) (i := k) (size := 2) rfl (HF.ev rfl) (HF.ev rfl) (by kernel_rfl) rfl (by omega)) ?_;clear HF a;intro a HF
 refine ws_y rfl HF rfl rfl (yfa 1 rfl (HF.ev rfl)) ?_;clear HF a;intro a HF
 refine ws_y rfl HF rfl rfl (ylo (v := .int .i64 ((o.getD k rootX).fId)) rfl (HF.ev rfl) (HS.out.elem FoundD.cells_len 1 rfl (get_getD (xs := o) (j := k) (d := rootX) (by omega)) 1 _ rfl)) ?_;clear HF a;intro a HF
 refine ws_y rfl HF rfl rfl (yl_move rfl (HF.ev rfl)) ?_;clear HF a;intro a HF
 refine ws_y rfl HF rfl rfl (yl_move rfl (HF.ev rfl)) ?_;clear HF a;intro a HF
 refine ws_y rfl HF rfl rfl (yl_move rfl (HF.ev rfl)) ?_;clear HF a;intro a HF
 refine ws_y rfl HF rfl rfl (yl_indexAddr (e := 90) (i := k) (size := 2) rfl (HF.ev rfl) (HF.ev rfl) (by kernel_rfl) rfl (by omega)) ?_;clear HF a;intro a HF
 refine ws_y rfl HF rfl rfl (yfa 1 rfl (HF.ev rfl)) ?_;clear HF a;intro a HF
 refine ws_y rfl HF rfl rfl (ylo (v := .int .i64 ((o.getD k rootX).fId)) rfl (HF.ev rfl) (HS.out.elem FoundD.cells_len 1 rfl (get_getD (xs := o) (j := k) (d := rootX) (by omega)) 1 _ rfl)) ?_;clear HF a;intro a HF
 refine ws_y rfl HF rfl rfl (yl_indexAddr (e := 3) (i := ((o.getD k rootX).fId).toNat) (size := 1) rfl (HF.ev rfl) (HF.ev rfl) (by kernel_rfl) (by omega) (by omega)) ?_;clear HF a;intro a HF
 refine ws_y rfl HF rfl rfl (ylo (v := .int .i64 (ms.getD (((o.getD k rootX).fId).toNat) (0 : Int))) rfl (HF.ev rfl) (HS.out.elem1 encI_len 0 rfl (get_getD (xs := ms) (j := ((o.getD k rootX).fId).toNat) (d := (0 : Int)) (by omega)) rfl)) ?_;clear HF a;intro a HF
 refine ws_y rfl HF rfl rfl (yl_addI rfl (HF.ev rfl) (HF.ev rfl) (i64w (by omega))) ?_;clear HF a;intro a HF
 refine ws_y rfl HF rfl rfl (yl_indexAddr (e := 3) (i := ((o.getD k rootX).fId).toNat) (size := 1) rfl (HF.ev rfl) (HF.ev rfl) (by kernel_rfl) (by omega) (by omega)) ?_;clear HF a;intro a HF
 refine wpStill_nil ?_
 refine wl_storeE encI_len rfl rfl rfl (HF.ev rfl) (HF.ev rfl) (by kernel_rfl) HS.out 0 rfl (by omega) (z := ((ms.getD (((o.getD k rootX).fId).toNat) (0 : Int)) + 1)) rfl rfl ?_; clear HS; intro w14 HS; replace HS := Bx.mk HS
 revert a;refine xni<|xeb<|xet<|xrl<|xr 1 rfl<|xy rfl (vad rfl)<|xr 1 rfl<|xne ?_
 intro a HF
 exact ⟨(k + 1), ⟨_, ⟨by omega, hct.step (by omega)⟩, HF.less _ ⟨rfl, rfl, rfl, rfl, rfl, rfl, trivial⟩, HS.out⟩, (by omega)⟩
 have dcc5 := of_decide_eq_false cc5
 refine xcf rfl<|xex<|xtx<|xtx<|xbh<|xet<|xsq<|xsq ?_
 have hcn := hct.fin (by omega)
 refine xrl<|xr 1 rfl<|xne<|xbl ?_
 intro a HF
 refine wc_loop (ι := Nat) (fun k a w => (k ≤ ns.length ∧ ∀ i, i < k → ∀ n, ns.getD i none = some n → (((o.map fun x => x.fId.toNat).count i : Nat) : Int) = n.fLinks ∧ ((n.fKind == 1) = true → (fileF st n).isSome = true)) ∧ Fr 110 a [(2, .pointer (some ⟨b1, 0, none⟩)), (3, .pointer (some ⟨b2, 0, none⟩)), (6, .slice (some ⟨g6, 0, none⟩) ((nodesZ ns).length) cp4), (7, .slice aoO o.length cpO), (9, .slice (some ⟨b10, 0, none⟩) ((nodesZ ns).length) ((nodesZ ns).length)), (11, .int .i64 (k : Int))] ∧ St w0 ([rowA encI 1 3 (.slice (some ⟨b10, 0, none⟩) ((nodesZ ns).length) ((nodesZ ns).length)) ms, rowA FoundD.cells 2 90 (.slice aoO o.length cpO) o, rowA NodeD.cs 10 69 (.slice (some ⟨g6, 0, none⟩) ((nodesZ ns).length) cp4) (nodesZ ns), boxA b2 7 44 (tV t), boxA b1 8 40 (sV a0 c0 a1 c1 a2 c2 a4 c4 a6 c6 st)]) w) (fun k => ns.length - k) 0 ⟨⟨Nat.zero_le _, fun i hi => absurd hi (Nat.not_lt_zero _)⟩, HF.less _ ⟨rfl, rfl, rfl, rfl, rfl, rfl, trivial⟩, HS.out⟩ ?_
 clear HF HS; clear a
 rintro k a w15 ⟨⟨hk, hall⟩, HF, HS⟩
 replace HS := Bx.mk HS
 revert a;refine xsq<|xsr<|xr 2 rfl<|xy rfl (vn 69 10 rfl)<|xr 1 rfl<|xne<|xcs 70 rfl (fun cc6=>?_) fun cc6=>?_
 have dcc6 := of_decide_eq_true cc6
 refine xct rfl<|xsk<|xet<|xsq<|xbl<|xsq ?_
 intro a HF
 refine wr_quiet (by kernel_rfl) (by kernel_rfl) HS.out ?_
 revert a;refine xqr 2 rfl<|xq rfl (fun HS=>vx 69 k 10 rfl)<|xq rfl (fun HS=>vf 0 rfl)<|xq rfl (fun HS a HF=>ylo (v := .int .i64 (((nodesZ ns).getD k NodeD.zero).fKind)) rfl (HF.ev rfl) (HS.elem NodeD.cs_len 2 rfl (get_getD (xs := nodesZ ns) (j := k) (d := NodeD.zero) (by omega)) 0 _ rfl))<|xqr 2 rfl<|xcs 79 rfl (fun cc7=>?_) fun cc7=>?_
 have dcc7 := bne_iff_ne.1 cc7
 refine xqr 2 rfl<|xq rfl (fun HS=>vx 3 k 1 rfl)<|xq rfl (fun HS a HF=>ylo (v := .int .i64 (ms.getD k (0 : Int))) rfl (HF.ev rfl) (HS.elem1 encI_len 0 rfl (get_getD (xs := ms) (j := k) (d := (0 : Int)) (by omega)) rfl))<|xqr 2 rfl<|xq rfl (fun HS=>vx 69 k 10 rfl)<|xq rfl (fun HS=>vf 1 rfl)<|xq rfl (fun HS a HF=>ylo (v := .int .i64 (((nodesZ ns).getD k NodeD.zero).fLinks)) rfl (HF.ev rfl) (HS.elem NodeD.cs_len 2 rfl (get_getD (xs := nodesZ ns) (j := k) (d := NodeD.zero) (by omega)) 1 _ rfl))<|xqr 3 rfl<|xcs 91 rfl (fun cc8=>?_) fun cc8=>?_
 have dcc8 := bne_iff_ne.1 cc8
 refine xqr 16 rfl ?_
 intro a HF
 refine wpQuiet_nil ?_; intro w16 HS; replace HS := Bx.mk HS
 refine ex_then<|wc_true HF rfl<|wp_sr ?_
 refine yem 90 2 HF HS ?_;clear HF HS a;intro a w17 b12 HF HS
 revert a;refine xr 2 rfl<|xne<|xre<|xbr<|xtr<|xtr<|xbr<|xtr<|xb2 Tryz.results48 rfl rfl ?_
 exact .inr ⟨fun ns2 h2 => (by rw [htb] at h2; obtain rfl := Option.some.inj h2; obtain ⟨n, hn, hz⟩ := nodesZ_kind H (k := k) (dcc7); refine refAll_node hn fun h9 => ?_; rw [hobt] at h9; have h2 := hcn k (by omega); have h3 := dcc8; rw [hz] at h3; exact h3 (h2.trans h9.1)), _, rfl, HS.out.bel⟩
 have dcc8 := bne_eq_false_iff_eq.1 cc8
 refine xqr 2 rfl<|xq rfl (fun HS=>vx 69 k 10 rfl)<|xq rfl (fun HS=>vf 0 rfl)<|xq rfl (fun HS a HF=>ylo (v := .int .i64 (((nodesZ ns).getD k NodeD.zero).fKind)) rfl (HF.ev rfl) (HS.elem NodeD.cs_len 2 rfl (get_getD (xs := nodesZ ns) (j := k) (d := NodeD.zero) (by omega)) 0 _ rfl))<|xqr 2 rfl<|xcs 98 rfl (fun cc9=>?_) fun cc9=>?_
 have dcc9 := eq_of_beq cc9
 refine xq rfl (fun HS=>vw HS 4 8 rfl rfl)<|xqr 2 rfl<|xq rfl (fun HS=>vx 69 k 10 rfl)<|xq rfl (fun HS a HF=>ylr (cs := nL ((nodesZ ns).getD k NodeD.zero)) rfl (HF.ev rfl) (HS.elem NodeD.cs_len 2 rfl (get_getD (xs := nodesZ ns) (j := k) (d := NodeD.zero) (by omega)))) ?_
 intro a HF
 refine yqg (fun _ HS => l13Ok_any a0 c0 a1 c1 a2 c2 a4 c4 a6 c6 st ((nodesZ ns).getD k NodeD.zero) _ (HR.out.below HS.bel) hrow h0) HF Tryz.func103 ?_; clear HF a
 refine xqr 3 rfl ?_
 intro a HF
 refine wpQuiet_nil ?_; intro w18 HS; replace HS := Bx.mk HS
 revert a;refine xet<|xcs 107 rfl (fun cc10=>?_) fun cc10=>?_
 refine xct rfl<|xsr ?_
 intro a HF
 refine yem 90 2 HF HS ?_;clear HF HS a;intro a w19 b13 HF HS
 revert a;refine xr 2 rfl<|xne<|xre<|xbr<|xtr<|xtr<|xbr<|xtr<|xb2 Tryz.results48 rfl rfl ?_
 exact .inr ⟨fun ns2 h2 => (by rw [htb] at h2; obtain rfl := Option.some.inj h2; obtain ⟨n, hn, hz⟩ := nodesZ_kind H (k := k) (dcc7); refine refAll_node hn fun h9 => ?_; rw [hobt] at h9; have h2 := hcn k (by omega); have h3 := cc10; rw [hz] at h3; have h4 := cc9; rw [hz] at h4; have h5 := h9.2 h4; rw [h5] at h3; cases h3), _, rfl, HS.out.bel⟩
 refine xcf rfl<|xsk<|xeb<|xet<|xrl<|xr 1 rfl<|xy rfl (vad rfl)<|xr 1 rfl<|xne ?_
 have hgd2 : ∀ n, ns.getD k none = some n → (((o.map fun x => x.fId.toNat).count k : Nat) : Int) = n.fLinks ∧ ((n.fKind == 1) = true → (fileF st n).isSome = true) := fun n hn => by
   have hz := nodesZ_some hn; have h1 := dcc8; rw [hz] at h1; have h2 := hcn k (by omega)
   have h3 := cc10; rw [hz] at h3; exact ⟨by omega, fun _ => by simpa using h3⟩
 have hall2 : ∀ i, i < k + 1 → ∀ n, ns.getD i none = some n → (((o.map fun x => x.fId.toNat).count i : Nat) : Int) = n.fLinks ∧ ((n.fKind == 1) = true → (fileF st n).isSome = true) := fun i hi n hn => (Nat.lt_or_ge i k).elim (fun h => hall i h n hn) (fun h => by obtain rfl : i = k := (by omega); exact hgd2 n hn)
 intro a HF
 exact ⟨(k + 1), ⟨⟨by omega, hall2⟩, HF.less _ ⟨rfl, rfl, rfl, rfl, rfl, rfl, trivial⟩, HS.out⟩, (by omega)⟩
 have dcc9 := ne_of_beq_false cc9
 refine xqr 9 rfl ?_
 intro a HF
 refine wpQuiet_nil ?_; intro w20 HS; replace HS := Bx.mk HS
 revert a;refine xet<|xcf rfl<|xsk<|xeb<|xet<|xrl<|xr 1 rfl<|xy rfl (vad rfl)<|xr 1 rfl<|xne ?_
 have hgd2 : ∀ n, ns.getD k none = some n → (((o.map fun x => x.fId.toNat).count k : Nat) : Int) = n.fLinks ∧ ((n.fKind == 1) = true → (fileF st n).isSome = true) := fun n hn => by
   have hz := nodesZ_some hn; have h1 := dcc8; rw [hz] at h1; have h2 := hcn k (by omega)
   have h3 := cc9; rw [hz] at h3; exact ⟨by omega, fun h => by rw [h] at h3; cases h3⟩
 have hall2 : ∀ i, i < k + 1 → ∀ n, ns.getD i none = some n → (((o.map fun x => x.fId.toNat).count i : Nat) : Int) = n.fLinks ∧ ((n.fKind == 1) = true → (fileF st n).isSome = true) := fun i hi n hn => (Nat.lt_or_ge i k).elim (fun h => hall i h n hn) (fun h => by obtain rfl : i = k := (by omega); exact hgd2 n hn)
 intro a HF
 exact ⟨(k + 1), ⟨⟨by omega, hall2⟩, HF.less _ ⟨rfl, rfl, rfl, rfl, rfl, rfl, trivial⟩, HS.out⟩, (by omega)⟩
 have dcc7 := bne_eq_false_iff_eq.1 cc7
 refine xqr 14 rfl<|xq rfl (fun HS=>vx 69 k 10 rfl)<|xq rfl (fun HS=>vf 0 rfl)<|xq rfl (fun HS a HF=>ylo (v := .int .i64 (((nodesZ ns).getD k NodeD.zero).fKind)) rfl (HF.ev rfl) (HS.elem NodeD.cs_len 2 rfl (get_getD (xs := nodesZ ns) (j := k) (d := NodeD.zero) (by omega)) 0 _ rfl))<|xqr 2 rfl<|xcs 98 rfl (fun cc11=>?_) fun cc11=>?_
 have dcc11 := eq_of_beq cc11
 exact absurd (eq_of_beq cc11) (by rw [dcc7]; decide)
 have dcc11 := ne_of_beq_false cc11
 refine xqr 9 rfl ?_
 intro a HF
 refine wpQuiet_nil ?_; intro w21 HS; replace HS := Bx.mk HS
 revert a;refine xet<|xcf rfl<|xsk<|xeb<|xet<|xrl<|xr 1 rfl<|xy rfl (vad rfl)<|xr 1 rfl<|xne ?_
 have hgd2 : ∀ n, ns.getD k none = some n → (((o.map fun x => x.fId.toNat).count k : Nat) : Int) = n.fLinks ∧ ((n.fKind == 1) = true → (fileF st n).isSome = true) := fun n hn => by
   have h := nodesZ_zero H (k := k) (by have h := dcc7; omega); rw [hn] at h; cases h
 have hall2 : ∀ i, i < k + 1 → ∀ n, ns.getD i none = some n → (((o.map fun x => x.fId.toNat).count i : Nat) : Int) = n.fLinks ∧ ((n.fKind == 1) = true → (fileF st n).isSome = true) := fun i hi n hn => (Nat.lt_or_ge i k).elim (fun h => hall i h n hn) (fun h => by obtain rfl : i = k := (by omega); exact hgd2 n hn)
 intro a HF
 exact ⟨(k + 1), ⟨⟨by omega, hall2⟩, HF.less _ ⟨rfl, rfl, rfl, rfl, rfl, rfl, trivial⟩, HS.out⟩, (by omega)⟩
 have dcc6 := of_decide_eq_false cc6
 refine xcf rfl<|xex<|xtx<|xtx<|xbh<|xet<|xsr<|xr 3 rfl<|xne<|xre<|xb2 Tryz.results48 rfl rfl ?_
 have hrf : refAll st ns = some o := by have h := refAll_yes (st := st) (ns := ns) hf0 (by rw [hobt]) (fun k n hn => by rw [hobt]; exact hall k (by have := validN_lt (validN_some hn); omega) n hn); rw [hobt] at h; exact h
 exact .inl ⟨ns, o, htb, hrf, _, _, rfl, ((((HS.out.erase 4).erase 3).erase 2).erase 0)⟩
noncomputable def okL (st : StoreD) (t : TreeD) : Bool := match tabF st t with | none => false | some ns => filesB st ns
theorem okL_yes {st : StoreD} {t : TreeD} {ns : List (Option NodeD)} {o : List FoundD} (h : tabF st t = some ns) (hr : refAll st ns = some o) : filesB st ns = true ∧ o = walkF st ns ∧ okL st t = true := by
  have H := tabF_nodes h
  rw [files_eq H] at hr
  cases hb : filesB st ns with
  | false => rw [hb] at hr; cases hr
  | true => rw [hb] at hr; exact ⟨rfl, (Option.some.inj hr).symm, by unfold okL; rw [h]; exact hb⟩
theorem okL_no {st : StoreD} {t : TreeD} (h : ∀ ns, tabF st t = some ns → refAll st ns = none) : okL st t = false := by
  unfold okL
  cases ht : tabF st t with
  | none => rfl
  | some ns =>
    have hr := h ns ht
    rw [files_eq (tabF_nodes ht)] at hr
    cases hb : filesB st ns with
    | false => exact hb
    | true => rw [hb] at hr; cases hr
theorem okL_files {st : StoreD} {t : TreeD} (h : st.ok = true) : (filesF st t).isSome = okL st t := by
  unfold okL
  cases ht : tabF st t with
  | none => rw [filesF_none ((tabT_ok h).trans ht)]; rfl
  | some ns =>
    cases hb : filesB st ns with
    | false => rw [filesF_no ((tabT_ok h).trans ht) hb]; exact hb.symm
    | true => rw [filesF_yes ((tabT_ok h).trans ht) hb]; exact hb.symm
theorem l15Ok_any (a0 : Option Addr) (c0 : Nat) (a1 : Option Addr) (c1 : Nat) (a2 : Option Addr) (c2 : Nat) (a4 : Option Addr) (c4 : Nat) (a6 : Option Addr) (c6 : Nat) (st : StoreD) (t : TreeD) (w0 : World) (hR : Rd encS 1 w0 a0 st.fRows.length st.fRows) (hrow : RowsOk st) (h0 : 0 ≤ st.fTxg) : Calls Tryz.prog 112 #[sV a0 c0 a1 c1 a2 c2 a4 c4 a6 c6 st, tV t] w0 fun e w' => e = .returned (.bool (okL st t)) ∧ Below w0.heap.size w0 w' := by
 have HR := Bx.mk hR; clear hR
 have HS := Bx.mk (St.start w0)
 refine wc_enter Tryz.func112 rfl Tryz.ntmps112 [(0, sV a0 c0 a1 c1 a2 c2 a4 c4 a6 c6 st), (1, tV t)] ⟨rfl, rfl, trivial⟩ rfl ?_
 refine xsr ?_
 intro a HF
 refine ybx HF HS ?_;clear HF HS a;intro a w1 b1 HF HS
 refine ybx HF HS ?_;clear HF HS a;intro a w2 b2 HF HS
 revert a;refine xr 1 rfl<|xne<|xsr<|xy rfl (vw HS.out 1 8 rfl rfl)<|xy rfl (vw HS.out 0 7 rfl rfl) ?_
 intro a HF
 refine yc (l15All_any a0 c0 a1 c1 a2 c2 a4 c4 a6 c6 st t _ (HR.out.below HS.out.bel) hrow h0) HF Tryz.func48 ?_
 rintro _ w3 (⟨ns, o, htb, hrf, aoO, cpO, rfl, hs1⟩ | ⟨hno, ae, rfl, hb⟩)
 refine ⟨_, rfl, ?_⟩; replace HS := Bx.mk (HS.out.add hs1);clear hs1 HF a;intro a HF
 try dsimp only [List.eraseIdx] at HS
 revert a;refine xr 5 rfl<|xne<|xsr<|xr 2 rfl<|xne<|xre<|xb1 Tryz.results112 rfl ?_
 exact ⟨by rw [(okL_yes htb hrf).2.2] <;> rfl, HS.out.bel⟩
 refine ⟨_, rfl, ?_⟩; replace HS := Bx.mk (HS.out.later hb);clear hb HF a
 refine xr 5 rfl<|xne<|xsr<|xr 2 rfl<|xne<|xre<|xb1 Tryz.results112 rfl ?_
 exact ⟨by rw [okL_no hno] <;> rfl, HS.out.bel⟩
theorem specFilesOk_any (a0 : Option Addr) (c0 : Nat) (a1 : Option Addr) (c1 : Nat) (a2 : Option Addr) (c2 : Nat) (a4 : Option Addr) (c4 : Nat) (a6 : Option Addr) (c6 : Nat) (st : StoreD) (t : TreeD) (w0 : World) (hV0 : StoreD.Reads w0 (sV a0 c0 a1 c1 a2 c2 a4 c4 a6 c6 st) st) (hf : st.Fit) (hi : -9223372036854775808 ≤ st.fTxg) : Calls Tryz.prog 65 #[sV a0 c0 a1 c1 a2 c2 a4 c4 a6 c6 st, tV t] w0 fun e w' => e = .returned (.bool (filesF st t).isSome) ∧ Below w0.heap.size w0 w' := by
 have hV := Bx.mk hV0; clear hV0
 have HS := Bx.mk (St.start w0)
 refine wc_enter Tryz.func65 rfl Tryz.ntmps65 [(0, sV a0 c0 a1 c1 a2 c2 a4 c4 a6 c6 st), (1, tV t)] ⟨rfl, rfl, trivial⟩ rfl ?_
 refine xsr ?_
 intro a HF
 refine ybx HF HS ?_;clear HF HS a;intro a w1 b1 HF HS
 refine ybx HF HS ?_;clear HF HS a;intro a w2 b2 HF HS
 revert a;refine xr 1 rfl<|xne<|xsr<|xy rfl (vw HS.out 1 8 rfl rfl) ?_
 intro a HF
 refine ycB (specStoreOk_any _ st _ (hV.out.below HS.out.bel) hf hi) HF Tryz.func47 HS ?_; clear HF HS a; intro w3 a HS HF
 revert a;refine xr 1 rfl<|xcs 7 rfl (fun cc1=>?_) fun cc1=>?_
 have hsok : st.ok = true := by simpa using cc1
 have h0 : 0 ≤ st.fTxg := by have := (StoreD.ok_spec hsok).txg; omega
 refine xy rfl (vw HS.out 1 8 rfl rfl)<|xy rfl (vw HS.out 0 7 rfl rfl) ?_
 intro a HF
 refine ycBg (l15Ok_any a0 c0 a1 c1 a2 c2 a4 c4 a6 c6 st t _ ((reads_rows hV.out).below HS.out.bel) (ok_rows hsok) h0) HF Tryz.func112 HS ?_; clear HF HS a; intro w4 a HS HF
 revert a;refine xr 2 rfl<|xne<|xre<|xb1 Tryz.results65 rfl ?_
 exact ⟨by rw [okL_files hsok], HS.out.bel⟩
 have hsok : st.ok = false := by simpa using cc1
 refine xr 5 rfl<|xne<|xre<|xb1 Tryz.results65 rfl ?_
 exact ⟨by rw [filesF_st hsok]; rfl, HS.out.bel⟩
end Go.Proofs.YtigjfacaofgjjaaGreatDoor
