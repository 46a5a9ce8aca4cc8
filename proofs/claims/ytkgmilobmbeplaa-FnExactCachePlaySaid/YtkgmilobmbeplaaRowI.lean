/- The library at rows of numbers: Insert at the head, Delete of one, Index, Contains. -/
import Derived.Test.YtkgmilobmbeplaaRowW
import Derived.Test.YtkgmilobmbeplaaLayI
import Derived.Test.YtkgmilobmbeplaaCaP
namespace Go.Proofs.Ytkgmilobmbeplaa
open Go.RowKit

theorem elemI : ElemT Try.prog 44 3 1 8 := by
  obtain ⟨i0, hi, hz0, hz1, hz2⟩ := info_parts Try.infoIntS
  exact ⟨Try.underlying44, ⟨i0, _, hi, hz0, hz1, hz2, rfl⟩, by decide⟩
theorem flat_encI (xs : List Int) : xs.flatMap encI = xs.map (Value.int .i64) := by
  induction xs with
  | nil => rfl
  | cons x xs ih => rw [List.flatMap_cons, ih]; rfl
/-- Two rows beside each other lie in different blocks. -/
theorem St.rowNe {α β : Type} {enc : α → List Value} {size : Nat} {e : TypeId} {enc' : β → List Value} {size' : Nat} {e' : TypeId} {W w : World} {v v' : Value} {xs : List α} {ys : List β} {F : List Asr} (h : St W (rowA enc size e v xs :: rowA enc' size' e' v' ys :: F) w) {g g' : Nat} (hg : Value.rowBlock v = some g) (hg' : Value.rowBlock v' = some g') : g ≠ g' := by
  obtain ⟨f, ⟨f1, f2, rfl, ⟨e1, _⟩, f3, f4, rfl, ⟨e2, _⟩, _⟩, hn, _⟩ := h.sep
  rw [e1, e2, hg, hg'] at hn
  intro e
  subst e
  simp at hn
theorem rowBlk_of {g n cap : Nat} (h0 : cap ≠ 0) : Value.rowBlock (.slice (some ⟨g, 0, none⟩) n cap) = some g := by simp [Value.rowBlock, h0]
theorem cell_of_take {w : World} {g n : Nat} {cur : Array Value} {t : TypeId} {ys : List Value} (hg : w.heap[g]? = some (.cells cur t (0, 0))) (ht : cur.toList.take n = ys) {j : Nat} {v : Value} (hj : ys[j]? = some v) : w.cell? ⟨g, j, none⟩ = some v := by
  rw [blk_cell hg]
  rw [← ht, List.getElem?_take] at hj
  split at hj
  · simpa using hj
  · cases hj
theorem splice_head (cs : List Value) (v : Value) (ys : List Value) (h : ys.length + 1 ≤ cs.length) : (splice (splice cs 1 ys) 0 [v]).take (ys.length + 1) = v :: ys := by
  cases cs with
  | nil => simp at h
  | cons c cs => simp [splice]
theorem splice_head2 (cs : List Value) (v : Value) (ys : List Value) (h : ys.length + 1 ≤ cs.length) : (splice (splice cs 0 [v]) 1 ys).take (ys.length + 1) = v :: ys := by
  cases cs with
  | nil => simp at h
  | cons c cs => simp [splice]
theorem splice_len (cs : List Value) (o : Nat) (ys : List Value) (h : o + ys.length ≤ cs.length) : (splice cs o ys).length = cs.length := by
  simp [splice]; omega
set_option maxHeartbeats 1000000 in
theorem insert0_any (w0 w : World) (ao : Option Addr) (cap : Nat) (xs : List Int) (vb : Nat) (r : Int) (F : List Asr) (hl : xs.length ≤ 1048576) (hS : St w0 (rowA encI 1 3 (.slice ao xs.length cap) xs :: rowA encI 1 3 (.slice (some ⟨vb, 0, none⟩) 1 1) [r] :: F) w) :
    Calls Try.prog 133 #[.slice ao xs.length cap, .int .i64 0, .slice (some ⟨vb, 0, none⟩) 1 1] w fun e w' => ∃ ao' cap', e = .returned (.slice ao' (xs.length + 1) cap') ∧ St w0 (rowA encI 1 3 (.slice ao' (xs.length + 1) cap') (r :: xs) :: F) w' := by
  obtain ⟨_, hv | ⟨_, gv, curv, ev, hgv, _, _, hzv, htv, _⟩⟩ := hS.rowBlk 1 rfl
  · exact absurd hv.1 (by decide)
  simp only [Option.some.injEq, Addr.mk.injEq, and_true] at ev
  subst ev
  have hvs : ∀ j v, [Value.int .i64 r][j]? = some v → w.cell? ⟨vb, 0 + j, none⟩ = some v := fun j v hj => by rw [Nat.zero_add]; exact cell_of_take hgv htv hj
  have h1v : ∀ v ∈ [Value.int .i64 r], v.oneCell' = true := fun v hv => by obtain rfl := List.mem_singleton.1 hv; rfl
  have hfl := flat_encI xs
  have hml : (xs.map (Value.int .i64)).length = xs.length := List.length_map ..
  have h1c : ∀ v ∈ xs.map (Value.int .i64), v.oneCell' = true := fun v hv => by obtain ⟨_, _, rfl⟩ := List.mem_map.1 hv; rfl
  have hmx : (1048577 : Nat) ≤ maxLen := by unfold maxLen; omega
  obtain ⟨_, ⟨rfl, rfl⟩ | ⟨h0, g, cur, rfl, hg, h1, h2, h3, h4, hB⟩⟩ := hS.rowBlk 0 rfl
  · -- no room at all
    refine (Any2.slices_Insert_int_end_grow layInsertI ao 0 0 vb 0 1 1 [] [.int .i64 r] w (by omega) (by omega) (by omega) (by omega) rfl rfl (fun _ => rfl) (fun _ _ _ _ hj => by cases hj) hvs h1v).mono ?_
    rintro e w' ⟨rfl, rfl⟩
    have hge := grownCap_ge w (0 + 1) 0 3
    have hle := grownCap_le_maxLen w (0 + 1) 0 3 (by unfold maxLen; omega)
    refine ⟨_, _, rfl, ?_⟩
    have := (hS.erase 0).erase 0
    refine St.rowNew (ys := [r]) (w := w) this ((Below.refl _ _).drew.alloc (Nat.le_refl _) _) (blk_new _ _ _ rfl) (Nat.le_refl _) ?_ hge hle ?_
    · show (_ ++ _ : Array Value).size = _
      simp only [Array.size_append, List.size_toArray, size_zeroCells]
      show 1 + (grownCap w (0 + 1) 0 3 - (0 + 1)) * 1 = grownCap w (0 + 1) 0 3 * 1
      omega
    · simp [encI]
  · have hcs : ∀ j v, (xs.map (Value.int .i64))[j]? = some v → w.cell? ⟨g, 0 + j, none⟩ = some v := fun j v hj => by rw [Nat.zero_add]; exact cell_of_take hg (h4.trans hfl) hj
    have hne := hS.rowNe (rowBlk_of h0) (rowBlk_of (by decide))
    have hsp : ∀ j, j < cap → (w.cell? ⟨g, 0 + j, none⟩).isSome = true := fun j hj => by rw [blk_cell hg, Nat.zero_add, Array.getElem?_eq_getElem (by omega)]; rfl
    have hfz : ∀ j, w.frozen? ⟨g, 0 + j, none⟩ = false := fun j => blk_frozen hg _
    by_cases hx : xs = []
    · subst hx
      refine (Any2.slices_Insert_int_end_room layInsertI g 0 0 cap vb 0 1 1 [.int .i64 r] w (by omega) (by omega) (by unfold maxLen at h2; omega) rfl (fun j hj => hsp _ (by omega)) (fun j hj => hfz _) hvs h1v).mono ?_
      rintro e w' ⟨rfl, rfl⟩
      refine ⟨_, _, rfl, ?_⟩
      obtain ⟨k1, k2, k3⟩ := blk_setCells [.int .i64 r] 0 w cur.toList (by simpa using hg) (by simp; omega)
      have := (hS.erase 1).rowTo (ys := [r]) 0 rfl h0 k1 (by simp [splice]; omega) (by simp; omega) (by simp [splice, encI]) k2
      simpa using this
    · have hpos : 0 < xs.length := List.length_pos_iff.2 hx
      by_cases hroom : xs.length + 1 ≤ cap
      · have hshb : w.shape? g = some (3, cur.size) := by simp [World.shape?, hg]
        have hsha : w.shape? vb = some (3, curv.size) := by simp [World.shape?, hgv]
        refine (Any2.slices_Insert_int_shift layInsertI g 0 xs.length cap 0 vb 0 1 1 (xs.map (Value.int .i64)) [.int .i64 r] w hpos (by omega) hroom (by unfold maxLen at h2; omega) (Ne.symm hne) hml rfl hcs (fun j hj => hsp j (by omega)) (fun j hj => hfz j) hvs h1c h1v _ _ _ _ hsha hshb (by omega) (blk_frozen hgv _) (blk_frozen hgv _)).mono ?_
        rintro e w' ⟨rfl, rfl⟩
        refine ⟨_, _, rfl, ?_⟩
        have hg2 : w.drew.heap[g]? = some (.cells cur.toList.toArray 3 (0, 0)) := by have h := hg; rw [← Array.toArray_toList (xs := cur)] at h; exact h
        obtain ⟨k1, k2, k3⟩ := blk_setCells (t := 3) (xs.map (Value.int .i64)) 1 w.drew cur.toList hg2 (by simp; omega)
        have hsl := splice_len cur.toList 1 (xs.map (Value.int .i64)) (by simp; omega)
        obtain ⟨m1, m2, m3⟩ := blk_setCells [.int .i64 r] 0 _ _ k1 (by rw [hsl]; simp; omega)
        have hS' := (hS.erase 1).drew
        have := hS'.rowTo (ys := r :: xs) 0 rfl h0 m1 (by rw [List.size_toArray, splice_len _ _ _ (by rw [hsl]; simp; omega), hsl]; simpa using h3) (by simpa using hroom) (by
          rw [List.flatMap_cons, hfl]
          have := splice_head cur.toList (.int .i64 r) (xs.map (Value.int .i64)) (by simp; omega)
          rw [hml] at this
          simp only [List.length_cons, Nat.mul_one]
          exact this) (k2.trans m2)
        simpa using this
      · refine (Any2.slices_Insert_int_grow layInsertI g 0 xs.length cap 0 vb 0 1 1 (xs.map (Value.int .i64)) [.int .i64 r] w hpos (by omega) h1 (by omega) (by omega) hml rfl hcs hvs h1c h1v).mono ?_
        rintro e w' ⟨rfl, rfl⟩
        have hge := grownCap_ge w (xs.length + 1) cap 3
        have hle := grownCap_le_maxLen w (xs.length + 1) cap 3 (by unfold maxLen; omega)
        refine ⟨_, _, rfl, ?_⟩
        have hS' := (hS.erase 0).erase 0
        have e3 : layInsertI_ren.t 3 = 3 := rfl
        rw [e3]
        generalize hG : grownCap w (xs.length + 1) cap 3 = G at hge hle ⊢
        generalize hZ : (((xs.map (Value.int .i64)).take 0).toArray ++ Builtin.zeroCells (Value.int .i64 0).cells (xs.length + 1 - 0) ++ Builtin.zeroCells (Value.int .i64 0).cells (G - (xs.length + 1)) : Array Value) = Z
        have hZs : Z.size = G := by
          rw [← hZ]
          simp only [Array.size_append, List.size_toArray, size_zeroCells, List.take_zero, List.length_nil]
          show 0 + (xs.length + 1 - 0) * 1 + (G - (xs.length + 1)) * 1 = G
          omega
        have hgz : (w.alloc (.cells Z 3)).drew.heap[w.heap.size]? = some (.cells Z.toList.toArray 3 (0, 0)) := by
          have h := blk_new w (.cells Z 3) _ rfl
          rw [← Array.toArray_toList (xs := Z)] at h; exact h
        obtain ⟨k1, k2, k3⟩ := blk_setCells (t := 3) [Value.int .i64 r] 0 (w.alloc (.cells Z 3)).drew Z.toList hgz (by simp; omega)
        have hsl := splice_len Z.toList 0 [Value.int .i64 r] (by simp; omega)
        obtain ⟨m1, m2, m3⟩ := blk_setCells (t := 3) (xs.map (Value.int .i64)) 1 ((w.alloc (.cells Z 3)).drew.setCells w.heap.size 0 [Value.int .i64 r]).drew _ k1 (by rw [hsl]; simp; omega)
        have hO : Outside w.heap.size (w.heap.size + 1) (w.alloc (.cells Z 3)) (((w.alloc (.cells Z 3)).drew.setCells w.heap.size 0 [Value.int .i64 r]).drew.setCells w.heap.size 1 (xs.map (Value.int .i64))) := Outside.trans (b := (w.alloc (.cells Z 3)).drew.setCells w.heap.size 0 [Value.int .i64 r]) ⟨k2.os, k2.tape, k2.output, k2.size, k2.block⟩ ⟨m2.os, m2.tape, m2.output, m2.size, m2.block⟩
        have := St.rowNew (ys := r :: xs) (cap := G) (size := 1) hS' (below_put hO) m1 (Nat.le_refl _) (by rw [List.size_toArray, splice_len _ _ _ (by rw [hsl]; simp; omega), hsl]; simpa using hZs) (by simpa using hge) hle (by
          rw [List.flatMap_cons, hfl]
          have := splice_head2 Z.toList (.int .i64 r) (xs.map (Value.int .i64)) (by simp; omega)
          rw [hml] at this
          simp only [List.length_cons, Nat.mul_one]
          exact this)
        simpa using this
/-- Which element is the one: the first that is it. -/
theorem idx_spec (xs : List Int) (r : Int) : (inI xs r = false ∧ Lib.idxOf xs r = -1) ∨ (inI xs r = true ∧ ∃ i : Nat, i < xs.length ∧ Lib.idxOf xs r = (i : Int) ∧ xs.erase r = xs.take i ++ xs.drop (i + 1)) := by
  have key : ∀ (xs : List Int) (k : Nat), (inI xs r = false ∧ Lib.idxFrom xs r k = -1) ∨ (inI xs r = true ∧ ∃ i : Nat, i < xs.length ∧ Lib.idxFrom xs r k = ((k + i : Nat) : Int) ∧ xs.erase r = xs.take i ++ xs.drop (i + 1)) := by
    intro xs
    induction xs with
    | nil => intro k; exact .inl ⟨rfl, rfl⟩
    | cons x xs ih =>
      intro k
      unfold Lib.idxFrom
      by_cases hx : x = r
      · subst hx
        refine .inr ⟨by simp [inI], 0, by simp, by simp, by simp⟩
      · have hb : (x == r) = false := by simp [hx]
        rw [if_neg hx]
        have hin : inI (x :: xs) r = inI xs r := by unfold inI; rw [List.any_cons, hb]; rfl
        rcases ih (k + 1) with ⟨h1, h2⟩ | ⟨h1, i, h2, h3, h4⟩
        · exact .inl ⟨by rw [hin]; exact h1, h2⟩
        · refine .inr ⟨by rw [hin]; exact h1, i + 1, by simpa using h2, by rw [h3]; congr 1; omega, ?_⟩
          rw [List.erase_cons, hb]
          simp only [Bool.false_eq_true, if_false, h4, List.take_succ_cons, List.drop_succ_cons, List.cons_append]
  have := key xs 0
  simpa [Lib.idxOf] using this
/-- Index over a row. -/
theorem indexI_any (w0 w : World) (s : List Asr) (k : Nat) (ao : Option Addr) (cap : Nat) (xs : List Int) (r : Int) (hl : xs.length ≤ 1048576) (hS : St w0 s w) (hk : s[k]? = some (rowA encI 1 3 (.slice ao xs.length cap) xs)) :
    Calls Try.prog 131 #[.slice ao xs.length cap, .int .i64 r] w fun e w' => e = .returned (.int .i64 (Lib.idxOf xs r)) ∧ Below w.heap.size w w' := by
  obtain ⟨_, ⟨rfl, rfl⟩ | ⟨h0, g, cur, rfl, hg, h1, h2, h3, h4, hB⟩⟩ := hS.rowBlk k hk
  · exact (Any.slices_Index_int_empty layIndexI ao 0 r w).mono fun _ _ h => ⟨h.1, h.2 ▸ Below.refl _ _⟩
  · have := Any.slices_Index_int layIndexI g 0 xs.length cap xs r w (Nat.le_refl _) (by omega) (fun j hj => by
      rw [Nat.zero_add]
      refine cell_of_take hg (h4.trans (flat_encI xs)) ?_
      rw [List.getElem?_map, List.getElem?_eq_getElem hj]
      simp [List.getD, List.getElem?_eq_getElem hj])
    rw [List.take_length] at this
    exact this.mono fun _ _ h => ⟨h.1, h.2 ▸ Below.refl _ _⟩
theorem containsI_any (w : World) (ao : Option Addr) (n cap : Nat) (xs : List Int) (r : Int) (hl : xs.length ≤ 9223372036854775806) (hr : Rd encI 1 w ao n xs) :
    Calls Try.prog 108 #[.slice ao n cap, .int .i64 r] w fun e w' => e = .returned (.bool (inI xs r)) ∧ Below w.heap.size w w' := by
  obtain rfl : n = xs.length := hr.1.symm
  by_cases hx : xs = []
  · subst hx
    exact (Any.slices_Contains_int_empty layContainsI ao cap r w).mono fun _ _ h => ⟨h.1, h.2 ▸ Below.refl _ _⟩
  · obtain ⟨g0, o0, r0⟩ := hr.opn
    have hpos : 0 < xs.length := List.length_pos_iff.2 hx
    obtain rfl := r0.ao 0 (by omega)
    have := Any.slices_Contains_int layContainsI g0 o0 xs.length cap xs r w (Nat.le_refl _) (by omega) (fun j hj => by
      have := r0.elem1 (St.start w) (j := j) (List.getElem?_eq_getElem hj) rfl
      rw [Nat.mul_one] at this
      rw [this]
      simp [List.getD, List.getElem?_eq_getElem hj])
    rw [List.take_length] at this
    refine this.mono fun _ _ h => ⟨?_, h.2 ▸ Below.refl _ _⟩
    rw [h.1]
    have he : xs.contains r = inI xs r := by
      rw [Bool.eq_iff_iff, inI_count, List.count_pos_iff, List.contains_iff_mem]
    rw [he]
set_option maxHeartbeats 1000000 in
/-- Room made, out of nothing. -/
theorem growI_any (w0 w : World) (s : List Asr) (n : Nat) (hn : n ≤ 4194304) (hS : St w0 s w) :
    Calls Try.prog 130 #[.slice none 0 0, .int .i64 n] w fun e w' => ∃ ao cap, e = .returned (.slice ao 0 cap) ∧ St w0 (rowA encI 1 3 (.slice ao 0 cap) [] :: s) w' := by
  by_cases h0 : n = 0
  · subst h0
    refine (Any8.slices_Grow_room layGrowI none 0 0 0 w (Nat.le_refl _) (by omega) (by omega) (by omega)).mono ?_
    rintro e w' ⟨rfl, rfl⟩
    exact ⟨_, _, rfl, hS.nilRow encI 1 3 none⟩
  · obtain ⟨i0, hi0, hz0, hz1, hz2⟩ := info_parts Try.infoIntS
    refine (Any8.slices_Grow_grow layGrowI i0 _ hi0 hz0 (by rw [hz1]; decide) none 0 0 n [] w (Nat.le_refl _) (by omega) (by rw [hz2]; omega) (by omega) (by simp) (fun _ => rfl) (fun _ h => by cases h)).mono ?_
    rintro e w' ⟨rfl, rfl⟩
    have e3 : layGrowI_ren.t 25 = 3 := rfl
    rw [e3]
    have hge := grownCap_ge w (0 + n) 0 3
    have hle := grownCap_le_maxLen w (0 + n) 0 3 (by unfold maxLen; omega)
    refine ⟨_, _, rfl, ?_⟩
    refine St.rowNew (ys := []) (w := w) hS ((Below.refl _ _).drew.alloc (Nat.le_refl _) _) (blk_new _ _ _ rfl) (Nat.le_refl _) ?_ (Nat.zero_le _) hle (by simp)
    simp only [Array.size_append, List.size_toArray, size_zeroCells, List.length_nil]
    show 0 + (0 + n - 0) * 1 + (grownCap w (0 + n) 0 3 - (0 + n)) * 1 = grownCap w (0 + n) 0 3 * 1
    omega
/-- Delete of one over a row. -/
theorem deleteI_any (w0 w : World) (ao : Option Addr) (cap : Nat) (xs : List Int) (i : Nat) (F : List Asr) (hl : xs.length ≤ 1048576) (hi : i < xs.length) (hS : St w0 (rowA encI 1 3 (.slice ao xs.length cap) xs :: F) w) :
    Calls Try.prog 132 #[.slice ao xs.length cap, .int .i64 i, .int .i64 (i + 1)] w fun e w' => e = .returned (.slice ao (xs.length - 1) cap) ∧ St w0 (rowA encI 1 3 (.slice ao (xs.length - 1) cap) (xs.take i ++ xs.drop (i + 1)) :: F) w' := by
  obtain ⟨_, hv | ⟨h0, g, cur, rfl, hg, h1, h2, h3, h4, hB⟩⟩ := hS.rowBlk 0 rfl
  · rw [hv.2] at hi; exact absurd hi (Nat.not_lt_zero _)
  have hd := Any.slices_Delete_int_cells layDeleteI g 0 xs.length cap i (i + 1) xs w (Nat.le_refl _) h1 (by unfold maxLen at h2; omega) (by omega) (by omega) (fun j hj => by
      rw [Nat.zero_add]
      refine cell_of_take hg (h4.trans (flat_encI xs)) ?_
      rw [List.getElem?_map, List.getElem?_eq_getElem hj]
      simp [List.getD, List.getElem?_eq_getElem hj]) (fun j hj => blk_frozen hg _)
  rw [show xs.length - (i + 1 - i) = xs.length - 1 by omega, List.take_length, show i + 1 - i = 1 by omega] at hd
  refine hd.mono ?_
  rintro e w' ⟨rfl, q, rfl⟩
  refine ⟨rfl, ?_⟩
  have hy : (xs.take i ++ xs.drop (i + 1)).length = xs.length - 1 := by simp; omega
  have hg2 : (w.drewN q).heap[g]? = some (.cells cur.toList.toArray 3 (0, 0)) := by have h := hg; rw [← Array.toArray_toList (xs := cur)] at h; exact h
  have hvl : ((xs.take i ++ xs.drop (i + 1) ++ List.replicate 1 0).map (Value.int .i64)).length = xs.length := by simp; omega
  obtain ⟨k1, k2, k3⟩ := blk_setCells (t := 3) ((xs.take i ++ xs.drop (i + 1) ++ List.replicate 1 0).map (Value.int .i64)) 0 (w.drewN q) cur.toList hg2 (by rw [hvl]; simp; omega)
  have := (hS.drewN q).rowTo (ys := xs.take i ++ xs.drop (i + 1)) 0 rfl h0 k1 (by rw [List.size_toArray, splice_len _ _ _ (by rw [hvl]; simp; omega)]; simpa using h3) (by omega) (by
    rw [flat_encI, Nat.mul_one]
    unfold splice
    rw [List.take_zero, List.nil_append, List.map_append, List.append_assoc, List.take_append_of_le_length (by simp), List.take_of_length_le (by simp)]) k2
  rw [hy] at this
  exact this
end Go.Proofs.Ytkgmilobmbeplaa
