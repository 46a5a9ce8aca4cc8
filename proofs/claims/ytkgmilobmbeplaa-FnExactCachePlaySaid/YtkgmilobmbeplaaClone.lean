/- Copies of slices: slices.Clone, and append onto an empty literal. -/
import Derived.Test.YtkgmilobmbeplaaStoreP
import Derived.BigRegion
import Derived.Lib.LazyBuf
import Derived.ArgAppend
namespace Go.Proofs.Ytkgmilobmbeplaa
open Go.RowKit

/-- A fact kept as data: no walk looks at it. -/
structure Bx (p : Prop) : Type where
  out : p

theorem addr_add (b off j : Nat) : (⟨b, off, none⟩ : Addr).add j = ⟨b, off + j, none⟩ := by unfold Addr.add; split <;> simp_all
/-- The cells of a slice, to be appended. -/
theorem Rd.news {α : Type} {enc : α → List Value} {size : Nat} (he : ∀ x, (enc x).length = size) (hs : 0 < size) {w : World} {a : Addr} {n : Nat} {xs : List α} (h : Rd enc size w (some a) n xs) :
    ∀ j u, (xs.flatMap enc)[j]? = some u → w.cell? (a.add j) = some u := by
  intro j u hu
  have hj := (List.getElem?_eq_some_iff.1 hu).1
  rw [flat_len enc size he] at hj
  have hi : j / size < xs.length := (Nat.div_lt_iff_lt_mul hs).2 hj
  obtain ⟨b, off, x, hx, e, _, hr⟩ := h.at_ (j / size) hi
  obtain rfl := Option.some.inj e
  have hm := Nat.div_add_mod j size
  have hlt := Nat.mod_lt j hs
  rw [addr_add]
  have hd : (xs.flatMap enc)[j / size * size + j % size]? = some u := by rw [Nat.mul_comm, hm]; exact hu
  rw [← List.getElem?_drop, flat_drop enc size he, List.drop_eq_getElem_cons hi, List.flatMap_cons, List.getElem?_append_left (by rw [he]; exact hlt)] at hd
  have hxe : xs[j / size] = x := by rw [List.getElem?_eq_getElem hi] at hx; exact Option.some.inj hx
  rw [hxe] at hd
  have := hr (j % size) u hd
  rw [Nat.add_assoc, Nat.mul_comm (j / size), hm] at this
  exact this
theorem rd_nil {α : Type} {enc : α → List Value} {size : Nat} {w : World} {n : Nat} {xs : List α} (h : Rd enc size w none n xs) : xs = [] := by
  cases xs with
  | nil => rfl
  | cons x r =>
    obtain ⟨_, _, _, _, e, _⟩ := h.at_ 0 (by simp)
    cases e
theorem owns_made (w : World) (e : TypeId) (size : Nat) : (w.alloc (.cells #[] e)).ownsRow w.heap.size e size (.slice (some ⟨w.heap.size, 0, none⟩) 0 0) 0 [] :=
  ⟨by simp, .inr ⟨w.heap.size, 0, #[], rfl, Nat.le_refl _, blk_new w _ _ rfl, Nat.le_refl _, Nat.zero_le _, by simp, by simp⟩⟩
theorem cells_one_I (xs : List Int) : ∀ u ∈ xs.flatMap encI, u.oneCell' = true := by
  intro u hu
  obtain ⟨x, _, hx⟩ := List.mem_flatMap.1 hu
  simp only [encI, List.mem_singleton] at hx
  subst hx; rfl
theorem cells_one_S (xs : List ByteArray) : ∀ u ∈ xs.flatMap encS, u.oneCell' = true := by
  intro u hu
  obtain ⟨x, _, hx⟩ := List.mem_flatMap.1 hu
  simp only [encS, List.mem_singleton] at hx
  subst hx; rfl
theorem cells_one_P (xs : List PtrD) : ∀ u ∈ xs.flatMap PtrD.cells, u.oneCell' = true := by
  intro u hu
  obtain ⟨x, _, hx⟩ := List.mem_flatMap.1 hu
  simp only [PtrD.cells, List.mem_cons, List.not_mem_nil, or_false] at hx
  rcases hx with rfl | rfl | rfl | rfl | rfl <;> rfl

set_option maxHeartbeats 400000 in
set_option maxRecDepth 100000 in
theorem cloneI_any (ao : Option Addr) (cap : Nat) (xs : List Int) (w : World) (hlen : xs.length ≤ 1048576) (hr : Rd encI 1 w ao xs.length xs) :
    Calls Try.prog 109 #[.slice ao xs.length cap] w fun e w' => (∃ ao' cap', e = .returned (.slice ao' xs.length cap') ∧ RowO encI 1 3 w' w.heap.size w'.heap.size (.slice ao' xs.length cap') xs) ∧ Below w.heap.size w w' := by
  have hb1 : Below w.heap.size w (w.alloc (.cells #[] 3)) := (Below.refl _ _).alloc (Nat.le_refl _) _
  have H1 := Bx.mk hb1
  have HN := Bx.mk (hr.below hb1)
  clear hb1
  cases ao with
  | none =>
    obtain rfl := rd_nil hr
    clear hr
    have hq := fun (w : World) => run_eql_slice_nil (P := Try.prog) w 44 3 none 0 cap Try.underlying44
    go_enter Try.func109, Try.ntmps109
    go_wp2
    go_ret
    exact ⟨⟨_, _, rfl, RowO.empty _ _ _ _ _ _ _⟩, Below.refl _ _⟩
  | some a =>
    obtain ⟨i0, hi, hz0, hz1, hz2⟩ := info_parts Try.infoIntS
    clear hr
    have hq := fun (w : World) => run_eql_slice_nil (P := Try.prog) w 44 3 (some a) xs.length cap Try.underlying44
    go_enter Try.func109, Try.ntmps109
    go_wp2_with (at_builtin; refine wpList_append_own _ rfl (.tmp 5) (.tmp 6) 44 rfl w.heap.size 3 i0 _ 1 8 Try.underlying44 hi hz0 hz1 hz2 rfl (by decide) _ 0 [] rfl (owns_made w 3 1) a xs.length cap (xs.flatMap encI) rfl (flat_len _ _ encI_len xs) (HN.out.news encI_len (by decide)) (cells_one_I xs) ?b1 ?b2 ?b3 ?_)
    case b1 => unfold maxLen; omega
    case b2 => omega
    case b3 => simp
    intro v w2 hown hg _
    obtain ⟨ao', cap', rfl, _⟩ := owns_slice hown
    go_wp2
    go_ret
    exact ⟨⟨_, _, rfl, RowO.mk hown (fun g h => (hown.lt g h).2)⟩, H1.out.grown hg H1.out.size (by simp [Value.ownBlock])⟩

set_option maxHeartbeats 400000 in
set_option maxRecDepth 100000 in
theorem cloneS_any (ao : Option Addr) (cap : Nat) (xs : List ByteArray) (w : World) (hlen : xs.length ≤ 1048576) (hr : Rd encS 1 w ao xs.length xs) :
    Calls Try.prog 119 #[.slice ao xs.length cap] w fun e w' => (∃ ao' cap', e = .returned (.slice ao' xs.length cap') ∧ RowO encS 1 9 w' w.heap.size w'.heap.size (.slice ao' xs.length cap') xs) ∧ Below w.heap.size w w' := by
  have hb1 : Below w.heap.size w (w.alloc (.cells #[] 9)) := (Below.refl _ _).alloc (Nat.le_refl _) _
  have H1 := Bx.mk hb1
  have HN := Bx.mk (hr.below hb1)
  clear hb1
  cases ao with
  | none =>
    obtain rfl := rd_nil hr
    clear hr
    have hq := fun (w : World) => run_eql_slice_nil (P := Try.prog) w 58 9 none 0 cap Try.underlying58
    go_enter Try.func119, Try.ntmps119
    go_wp2
    go_ret
    exact ⟨⟨_, _, rfl, RowO.empty _ _ _ _ _ _ _⟩, Below.refl _ _⟩
  | some a =>
    obtain ⟨i0, hi, hz0, hz1, hz2⟩ := info_parts Try.infoStringS
    clear hr
    have hq := fun (w : World) => run_eql_slice_nil (P := Try.prog) w 58 9 (some a) xs.length cap Try.underlying58
    go_enter Try.func119, Try.ntmps119
    go_wp2_with (at_builtin; refine wpList_append_own _ rfl (.tmp 5) (.tmp 6) 58 rfl w.heap.size 9 i0 _ 1 16 Try.underlying58 hi hz0 hz1 hz2 rfl (by decide) _ 0 [] rfl (owns_made w 9 1) a xs.length cap (xs.flatMap encS) rfl (flat_len _ _ encS_len xs) (HN.out.news encS_len (by decide)) (cells_one_S xs) ?b1 ?b2 ?b3 ?_)
    case b1 => unfold maxLen; omega
    case b2 => omega
    case b3 => simp
    intro v w2 hown hg _
    obtain ⟨ao', cap', rfl, _⟩ := owns_slice hown
    go_wp2
    go_ret
    exact ⟨⟨_, _, rfl, RowO.mk hown (fun g h => (hown.lt g h).2)⟩, H1.out.grown hg H1.out.size (by simp [Value.ownBlock])⟩

set_option maxHeartbeats 400000 in
set_option maxRecDepth 100000 in
theorem cloneP_any (ao : Option Addr) (cap : Nat) (xs : List PtrD) (w : World) (hlen : xs.length ≤ 1048576) (hr : Rd PtrD.cells 5 w ao xs.length xs) :
    Calls Try.prog 121 #[.slice ao xs.length cap] w fun e w' => (∃ ao' cap', e = .returned (.slice ao' xs.length cap') ∧ RowO PtrD.cells 5 78 w' w.heap.size w'.heap.size (.slice ao' xs.length cap') xs) ∧ Below w.heap.size w w' := by
  have hb1 : Below w.heap.size w (w.alloc (.cells #[] 78)) := (Below.refl _ _).alloc (Nat.le_refl _) _
  have H1 := Bx.mk hb1
  have HN := Bx.mk (hr.below hb1)
  clear hb1
  cases ao with
  | none =>
    obtain rfl := rd_nil hr
    clear hr
    have hq := fun (w : World) => run_eql_slice_nil (P := Try.prog) w 66 78 none 0 cap Try.underlying66
    go_enter Try.func121, Try.ntmps121
    go_wp2
    go_ret
    exact ⟨⟨_, _, rfl, RowO.empty _ _ _ _ _ _ _⟩, Below.refl _ _⟩
  | some a =>
    obtain ⟨i0, hi, hz0, hz1, hz2⟩ := info_parts Try.infoPtrS
    clear hr
    have hq := fun (w : World) => run_eql_slice_nil (P := Try.prog) w 66 78 (some a) xs.length cap Try.underlying66
    go_enter Try.func121, Try.ntmps121
    go_wp2_with (at_builtin; refine wpList_append_own _ rfl (.tmp 5) (.tmp 6) 66 rfl w.heap.size 78 i0 _ 5 40 Try.underlying66 hi hz0 hz1 hz2 rfl (by decide) _ 0 [] rfl (owns_made w 78 5) a xs.length cap (xs.flatMap PtrD.cells) rfl (flat_len _ _ PtrD.cells_len xs) (HN.out.news PtrD.cells_len (by decide)) (cells_one_P xs) ?b1 ?b2 ?b3 ?_)
    case b1 => unfold maxLen; omega
    case b2 => omega
    case b3 => simp
    intro v w2 hown hg _
    obtain ⟨ao', cap', rfl, _⟩ := owns_slice hown
    go_wp2
    go_ret
    exact ⟨⟨_, _, rfl, RowO.mk hown (fun g h => (hown.lt g h).2)⟩, H1.out.grown hg H1.out.size (by simp [Value.ownBlock])⟩

/-- What a row of the call's own gives to one who copies it. -/
theorem RowO.copy {α : Type} {enc : α → List Value} {size : Nat} (he : ∀ x, (enc x).length = size) {e : TypeId} {w : World} {B B1 : Nat} {ao : Option Addr} {n cap : Nat} {xs : List α} (h : RowO enc size e w B B1 (.slice ao n cap) xs) :
    Rd enc size w ao xs.length xs ∧ (ao = Option.none → cap = 0) := by
  obtain ⟨ao', cap', hv, hc, _⟩ := h
  simp only [Value.slice.injEq] at hv
  obtain ⟨rfl, rfl, rfl⟩ := hv
  rcases hc with ⟨rfl, rfl⟩ | ho
  · exact ⟨⟨rfl, fun i hi => absurd hi (Nat.not_lt_zero _)⟩, fun _ => rfl⟩
  · refine ⟨(owns_rd he ho).2, fun hn => ?_⟩
    subst hn
    rcases ho.2 with ⟨hv, _⟩ | ⟨g, _, _, hv, _⟩
    · simp only [Value.slice.injEq] at hv
      exact hv.2.2
    · simp at hv
section
variable {P : Program} {w : World} {α : Type}
/-- The same, whatever is known of the empty literal's block. -/
theorem run_copy0 (t ty e : TypeId) (i : TypeInfo) (z : Value) (size bytes : Nat) (ht : P.underlying t = some (.slice e)) (hi : P.info? e = some i) (hz : i.zero = some z)
    (hsize : i.size = size) (hby : i.bytes = bytes) (hzs : z.cells.size = size) (hsz : 0 < size)
    {enc : α → List Value} (he : ∀ x, (enc x).length = size) (b : Nat) (ao : Option Addr) (cap : Nat) (xs : List α) (hr : Rd enc size w ao xs.length xs) (hn : ao = none → cap = 0) (h1 : ∀ u ∈ xs.flatMap enc, u.oneCell' = true)
    (h63 : xs.length ≤ maxLen) (hbytes : xs.length * bytes ≤ 140737488355328) :
    ∃ ao' cap' w', (Builtin.append_ #[t, t] ty #[.slice (some ⟨b, 0, none⟩) 0 0, .slice ao xs.length cap]).run P w = .ok (.slice ao' xs.length cap') w' ∧ RowO enc size e w' w.heap.size w'.heap.size (.slice ao' xs.length cap') xs ∧ Below w.heap.size w w' := by
  cases ao with
  | none =>
    obtain rfl := rd_nil hr
    obtain rfl := hn rfl
    refine ⟨some ⟨b, 0, none⟩, 0, w, ?_, RowO.empty _ _ _ _ _ _ _, Below.refl _ _⟩
    simp [Builtin.append_, run_underlying ht, sizeOf, typeInfo, hi, Builtin.lenOf, Builtin.firstCells, storeCells]
  | some ad =>
    by_cases h0 : xs = []
    · subst h0
      refine ⟨some ⟨b, 0, none⟩, 0, w, ?_, RowO.empty _ _ _ _ _ _ _, Below.refl _ _⟩
      exact run_append_room_cells (P := P) (w := w) t ty e i ht hi b 0 0 0 ad 0 cap [] (by simp) (by simp) (by simp) (Nat.le_refl _) (by simp) (by simp)
    · have hpos : 0 < xs.length := List.length_pos_iff.2 h0
      obtain ⟨v', w', hrun, ho, hg⟩ := run_append_arg_grows (P := P) (w := w) t ty e i z size bytes ht hi hz hsize hby hzs hsz ⟨b, 0, none⟩ 0 0 [] (by simp) (by simp) ad xs.length cap (xs.flatMap enc) (flat_len _ _ he xs) (hr.news he hsz) (by omega) (by omega) (by rw [Nat.zero_add]; exact hbytes)
      rw [Nat.zero_add, List.nil_append] at ho
      obtain ⟨ao', cap', rfl, _⟩ := owns_slice ho
      exact ⟨ao', cap', w', hrun, RowO.mk ho (fun g h => (ho.lt g h).2), ⟨hg.os, hg.tape, hg.output, hg.size, fun k hk => hg.block k hk (by simp)⟩⟩
theorem wp_copy0 {o : Oper} {a : Act} {K : Act → World → Prop} {Q : Exit → Act → World → Prop} (s x : Operand) (t : TypeId)
    (ho : o.op = .call { callee := .builtin .append, args := #[s, x], argTypes := #[t, t] })
    (e : TypeId) (i : TypeInfo) (z : Value) (size bytes : Nat) (ht : P.underlying t = some (.slice e)) (hi : P.info? e = some i) (hz : i.zero = some z)
    (hsize : i.size = size) (hby : i.bytes = bytes) (hzs : z.cells.size = size) (hsz : 0 < size)
    {enc : α → List Value} (he : ∀ x, (enc x).length = size) (b : Nat) (hs : a.eval s = .slice (some ⟨b, 0, none⟩) 0 0)
    (ao : Option Addr) (cap : Nat) (xs : List α) (hx : a.eval x = .slice ao xs.length cap) (hr : Rd enc size w ao xs.length xs) (hn : ao = none → cap = 0) (h1 : ∀ u ∈ xs.flatMap enc, u.oneCell' = true)
    (h63 : xs.length ≤ maxLen) (hbytes : xs.length * bytes ≤ 140737488355328)
    (h : ∀ ao' cap' w', RowO enc size e w' w.heap.size w'.heap.size (.slice ao' xs.length cap') xs → Below w.heap.size w w' → K (a.put o.dst (.slice ao' xs.length cap')) w') : o.wp P a w K Q := by
  obtain ⟨ao', cap', w', hrun, h2, h3⟩ := run_copy0 (P := P) (w := w) t o.type e i z size bytes ht hi hz hsize hby hzs hsz he b ao cap xs hr hn h1 h63 hbytes
  unfold Oper.wp execOp
  simp only [ho, resolve, invoke, builtin, Sem.run_bind, Sem.run_pure, Result.andThen_ok, List.map_toArray, List.map_cons, List.map_nil, hs, hx, hrun]
  exact h ao' cap' w' h2 h3
theorem wpList_copy0 {ops : Array Oper} {rest : List Oper} {o : Oper} {a : Act} {Q : Exit → Act → World → Prop} (hgd : o.guard = none) (s x : Operand) (t : TypeId)
    (ho : o.op = .call { callee := .builtin .append, args := #[s, x], argTypes := #[t, t] })
    (e : TypeId) (i : TypeInfo) (z : Value) (size bytes : Nat) (ht : P.underlying t = some (.slice e)) (hi : P.info? e = some i) (hz : i.zero = some z)
    (hsize : i.size = size) (hby : i.bytes = bytes) (hzs : z.cells.size = size) (hsz : 0 < size)
    {enc : α → List Value} (he : ∀ x, (enc x).length = size) (b : Nat) (hs : a.eval s = .slice (some ⟨b, 0, none⟩) 0 0)
    (ao : Option Addr) (cap : Nat) (xs : List α) (hx : a.eval x = .slice ao xs.length cap) (hr : Rd enc size w ao xs.length xs) (hn : ao = none → cap = 0) (h1 : ∀ u ∈ xs.flatMap enc, u.oneCell' = true)
    (h63 : xs.length ≤ maxLen) (hbytes : xs.length * bytes ≤ 140737488355328)
    (h : ∀ ao' cap' w', RowO enc size e w' w.heap.size w'.heap.size (.slice ao' xs.length cap') xs → Below w.heap.size w w' → wpList P ops Q rest (a.put o.dst (.slice ao' xs.length cap')) w') : wpList P ops Q (o :: rest) a w :=
  wpList_plain hgd fun _ hK => wp_copy0 s x t ho e i z size bytes ht hi hz hsize hby hzs hsz he b hs ao cap xs hx hr hn h1 h63 hbytes fun ao' cap' w' h2 h3 => hK _ _ (h ao' cap' w' h2 h3)
theorem step_copy0 {ops : Array Oper} {o : Oper} {a : Act} {K : Act → World → Prop} {Q : Exit → Act → World → Prop} {E : Prop} (hgd : o.guard = none) (s x : Operand) (t : TypeId)
    (ho : o.op = .call { callee := .builtin .append, args := #[s, x], argTypes := #[t, t] })
    (e : TypeId) (i : TypeInfo) (z : Value) (size bytes : Nat) (ht : P.underlying t = some (.slice e)) (hi : P.info? e = some i) (hz : i.zero = some z)
    (hsize : i.size = size) (hby : i.bytes = bytes) (hzs : z.cells.size = size) (hsz : 0 < size)
    {enc : α → List Value} (he : ∀ x, (enc x).length = size) (b : Nat) (hs : a.eval s = .slice (some ⟨b, 0, none⟩) 0 0)
    (ao : Option Addr) (cap : Nat) (xs : List α) (hx : a.eval x = .slice ao xs.length cap) (hr : Rd enc size w ao xs.length xs) (hn : ao = none → cap = 0) (h1 : ∀ u ∈ xs.flatMap enc, u.oneCell' = true)
    (h63 : xs.length ≤ maxLen) (hbytes : xs.length * bytes ≤ 140737488355328)
    (h : ∀ ao' cap' w', RowO enc size e w' w.heap.size w'.heap.size (.slice ao' xs.length cap') xs → Below w.heap.size w w' → K (a.put o.dst (.slice ao' xs.length cap')) w') :
    if Region.wanted o (yielded ops a.tmps) = true then Oper.wp P o a w K Q else E := by
  have hw : Region.wanted o (yielded ops a.tmps) = true := by simp [Region.wanted, hgd]
  rw [if_pos hw]
  exact wp_copy0 s x t ho e i z size bytes ht hi hz hsize hby hzs hsz he b hs ao cap xs hx hr hn h1 h63 hbytes h
end
end Go.Proofs.Ytkgmilobmbeplaa
