/- FnExactSendBytes: walks. -/
import Derived.Test.YtkgmilobmbeplaaPart
namespace Go.Proofs.Ytkgmilobmbeplaa
open Go.RowKit

set_option maxHeartbeats 400000 in
set_option maxRecDepth 100000 in
theorem szSend_any (ba go : Int) (ao : Option Addr) (len cap : Nat) (xs : List PartD) (l : Int) (w : World) (hl0 : 0 ≤ l) (hl1 : l ≤ 1048576) (hlen : len ≤ 9223372036854775807) (hr : Rd PartD.cells 6 w ao len xs) (hs : ∀ x ∈ xs, x.text.size ≤ 9223372036854775807) :
    Calls Try.prog 9 #[.agg #[.int .i64 ba, .int .i64 go, .slice ao len cap], .int .i64 l] w fun e w' => e = .returned (.int .i64 (leftOf l (len + tot PartD.bulk xs))) ∧ Below w.heap.size w w' := by
  have hb1 : Below w.heap.size w (w.alloc (.cells #[.int .i64 ba, .int .i64 go, .slice ao len cap] 24)) := (Below.refl _ _).alloc (Nat.le_refl _) _
  have hcall := szPartS_any ao len cap xs l (w.alloc (.cells #[.int .i64 ba, .int .i64 go, .slice ao len cap] 24)) hl0 hl1 hlen (hr.below hb1) hs
  have HC := Lib.hid hcall
  clear hcall
  by_cases h : l < (len + tot PartD.bulk xs : Nat)
  · have H := Lib.hid (leftOf_no h)
    go_enter Try.func9, Try.ntmps9
    go_wp2_with fail
    refine HC.out.mono ?_
    rintro e w' ⟨rfl, hb'⟩
    rw [H.out]
    go_wp2
    go_ret
    exact ⟨ret_int H.out.symm, hb1.trans (hb'.mono hb1.size)⟩
  · have H := Lib.hid (leftOf_yes (Int.not_lt.1 h))
    go_enter Try.func9, Try.ntmps9
    go_wp2_with fail
    refine HC.out.mono ?_
    rintro e w' ⟨rfl, hb'⟩
    rw [H.out]
    go_wp2
    go_ret
    exact ⟨ret_int H.out.symm, hb1.trans (hb'.mono hb1.size)⟩

set_option maxHeartbeats 400000 in
set_option maxRecDepth 100000 in
theorem toSend_any (ba go : Int) (ao : Option Addr) (len cap : Nat) (xs : List PartD) (w : World) (hlen : len ≤ 1048576) (hr : Rd PartD.cells 6 w ao len xs) :
    Calls Try.prog 11 #[.agg #[.int .i64 ba, .int .i64 go, .slice ao len cap]] w fun e w' => ∃ g, e = .returned (.agg #[.int .i64 ba, .int .i64 go, .slice (some ⟨g, 0, none⟩) len len]) ∧ w.heap.size ≤ g ∧ w'.ownsRow w.heap.size 83 6 (.slice (some ⟨g, 0, none⟩) len len) xs.length (xs.flatMap PartD.cells) ∧ Below w.heap.size w w' := by
  go_enter Try.func11, Try.ntmps11
  go_wp2_with fail
  refine (toPartS_any ao len cap xs _ hlen ?_).mono ?_
  · exact hr.below ((((Below.refl _ _).alloc (Nat.le_refl _) _).alloc (by simp) _).alloc (by simp; omega) _)
  rintro e w2 ⟨rfl, hown, hb2⟩
  obtain ⟨hc, hf⟩ := bcell hb2
  have hz : w.heap.size + 1 + 1 < w2.heap.size := by have := hb2.size; simp at this; omega
  go_wp2
  refine bodyPost_ret (v := .agg #[.int .i64 ba, .int .i64 go, .slice (some ⟨w.heap.size + 1 + 1 + 1, 0, none⟩) len len]) (by simp [results, Try.results11, go_sem, hc]) rfl ?_
  refine ⟨_, rfl, by omega, ?_, ?_⟩
  · refine owns_mono (B := w.heap.size + 1 + 1 + 1) ?_ (by omega)
    refine owns_setCell (owns_setCell (owns_setCell (owns_setCell ?_ ?_ _) ?_ _) ?_ _) ?_ _
    · simpa using hown
    all_goals (simp; try omega)
  · refine (((Below.setCell ?_ ?_ _).setCell ?_ _).setCell ?_ _).setCell ?_ _
    · exact ((((Below.refl _ _).alloc (Nat.le_refl _) _).alloc (by simp) _).alloc (by simp; omega) _).trans (hb2.mono (by simp; omega))
    all_goals (simp; try omega)

set_option maxHeartbeats 400000 in
set_option maxRecDepth 100000 in
theorem sendBytes_spec (ba go : Int) (ao : Option Addr) (len cap : Nat) (xs : List PartD) (w : World) (hlen : len ≤ 1048576) (hr : Rd PartD.cells 6 w ao len xs) (hs : tot PartD.bulk xs ≤ 1048576) :
    Calls Try.prog 10 #[.agg #[.int .i64 ba, .int .i64 go, .slice ao len cap]] w fun e w' => e = .returned (.int .i64 (tot PartD.bulk xs : Nat)) ∧ Below w.heap.size w w' := by
  have hb1 : Below w.heap.size w (w.alloc (.cells #[.int .i64 ba, .int .i64 go, .slice ao len cap] 29)) := (Below.refl _ _).alloc (Nat.le_refl _) _
  go_enter Try.func10, Try.ntmps10
  go_wp2
  go_loop [3, 4] (fun n i => ∃ k : Nat, k ≤ len ∧ i = .int .i64 k ∧ n = .int .i64 (tot PartD.bulk (xs.take k) : Nat)) (fun _ i => len - (intOf i).toNat)
  case atStart => exact ⟨0, Nat.zero_le _, rfl, rfl⟩
  case round =>
    obtain ⟨k, hk, rfl, rfl⟩ := hrel
    by_cases hlt : k < len
    · have hkx : k < xs.length := by rw [hr.len]; exact hlt
      obtain ⟨b, off, x, hx0, rfl, hbl, hrg⟩ := hr.at_ k hkx
      have c5 := (PartD.at_ hrg).2.2.2.2.2
      have H1 := Lib.hid (tot_take PartD.bulk xs k hx0)
      have h2 := tot_take_le PartD.bulk xs (k + 1)
      have h3 : tot PartD.bulk (xs.take k) + x.text.size ≤ 1048576 := by have := H1.out; simp only [PartD.bulk] at this h2 hs ⊢; omega
      clear hx0 h2
      go_wp2
      go_round
      case rel => exact ⟨k + 1, by omega, by go_num, by rw [H1.out]; simp only [PartD.bulk]; go_num⟩
      case measure => simp [intOf]; omega
    · have hk' : k = len := by omega
      subst hk'
      have ht := Lib.hid (List.take_of_length_le (l := xs) (i := k) (by rw [hr.len]; exact Nat.le_refl _))
      go_wp2
      go_ret
      exact ⟨ret_int (by rw [ht.out]), hb1⟩

theorem ifmax (a b : Int) : (if a < b then b else a) = max a b := by rw [Int.max_def]; split <;> split <;> omega

set_option maxHeartbeats 400000 in
set_option maxRecDepth 100000 in
theorem max2_any (g : Nat) (a b : Int) (w : World) (h0 : w.cell? ⟨g, 0, none⟩ = some (.int .i64 a)) (h1 : w.cell? ⟨g, 1, none⟩ = some (.int .i64 b)) :
    Calls Try.prog 43 #[.slice (some ⟨g, 0, none⟩) 2 2] w fun e w' => e = .returned (.int .i64 (max a b)) ∧ w = w' := by
  go_enter Try.func43, Try.ntmps43
  go_wp2
  go_loop [3, 4] (fun m i => (i = .int .i64 1 ∧ m = .int .i64 a) ∨ (i = .int .i64 2 ∧ m = .int .i64 (max a b))) (fun _ i => 2 - (intOf i).toNat)
  case atStart => exact Or.inl ⟨rfl, rfl⟩
  case round =>
    rcases hrel with ⟨rfl, rfl⟩ | ⟨rfl, rfl⟩
    · go_wp2
      go_round
      case rel => exact Or.inr ⟨rfl, by rw [ifmax]⟩
      case measure => simp [intOf]
    · go_wp2
      go_ret
      exact ⟨rfl, rfl⟩

set_option maxHeartbeats 400000 in
set_option maxRecDepth 100000 in
theorem sendBytes_impl (ba go : Int) (ao : Option Addr) (len cap : Nat) (xs : List PartD) (w : World) (hlen : len ≤ 1048576) (hr : Rd PartD.cells 6 w ao len xs) (hs : tot PartD.bulk xs ≤ 1048576) :
    Calls Try.prog 12 #[.agg #[.int .i64 ba, .int .i64 go, .slice ao len cap]] w fun e w' => e = .returned (.int .i64 (tot PartD.bulk xs : Nat)) ∧ Below w.heap.size w w' := by
  have hb1 : Below w.heap.size w (w.alloc (.cells #[.int .i64 ba, .int .i64 go, .slice ao len cap] 29)) := (Below.refl _ _).alloc (Nat.le_refl _) _
  go_enter Try.func12, Try.ntmps12
  go_wp2
  go_loopw [3, 9, 5] (fun n i _ wr => ∃ k : Nat, k ≤ len ∧ i = .int .i64 k ∧ n = .int .i64 (tot PartD.bulk (xs.take k) : Nat) ∧ Below w.heap.size w wr) (fun _ i _ _ => len - (intOf i).toNat)
  case atStart => exact ⟨0, Nat.zero_le _, rfl, rfl, hb1⟩
  case round =>
    obtain ⟨k, hk, rfl, rfl, hb⟩ := hrel
    by_cases hlt : k < len
    · have hkx : k < xs.length := by rw [hr.len]; exact hlt
      obtain ⟨b, off, x, hx0, rfl, hbl, hrg⟩ := hr.at_ k hkx
      obtain ⟨c0, c1, c2, c3, c4, c5⟩ := PartD.at_ (rangeAt_below hrg hb hbl)
      have H1 := Lib.hid (tot_take PartD.bulk xs k hx0)
      have h2 := tot_take_le PartD.bulk xs (k + 1)
      have h3 : tot PartD.bulk (xs.take k) + x.text.size ≤ 1048576 := by have := H1.out; simp only [PartD.bulk] at this h2 hs ⊢; omega
      clear hx0 h2
      go_wp2
      go_roundw
      case rel => exact ⟨k + 1, by omega, by go_num, by rw [H1.out]; simp only [PartD.bulk]; go_num, hb.alloc hb.size _⟩
      case measure => simp [intOf]; omega
    · have hk' : k = len := by omega
      subst hk'
      have ht := Lib.hid (List.take_of_length_le (l := xs) (i := k) (by rw [hr.len]; exact Nat.le_refl _))
      go_wp2_with fail
      refine (max2_any _ (tot PartD.bulk (xs.take k) : Nat) 0 _ ?_ ?_).mono ?_
      · simp
      · simp
      rintro e w2 ⟨rfl, rfl⟩
      go_wp2
      go_ret
      refine ⟨ret_int (by rw [ht.out]), hb.alloc hb.size _⟩
end Go.Proofs.Ytkgmilobmbeplaa
