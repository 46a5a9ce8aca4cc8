/- markText: a text for each number. -/
import Derived.Test.YtkgmilobmbeplaaRows
import Derived.Test.YtkgmilobmbeplaaMem
namespace Go.Proofs.Ytkgmilobmbeplaa
open Go.RowKit

/-- The decimal digits of a number, ahead of some bytes. -/
def decs (n : Nat) (acc : List UInt8) : List UInt8 := if n = 0 then acc else decs (n / 10) ((48 + UInt8.ofNat (n % 10)) :: acc)
termination_by n
decreasing_by omega
def markT (k : Int) : ByteArray := ⟨(109 :: decs k.toNat []).toArray⟩
theorem decs_pos {n : Nat} (h : 0 < n) (acc : List UInt8) : decs n acc = decs (n / 10) ((48 + UInt8.ofNat (n % 10)) :: acc) := by
  rw [decs]; exact if_neg (by omega)
theorem decs_zero (acc : List UInt8) : decs 0 acc = acc := by
  rw [decs]; exact if_pos rfl
theorem pow_small {L n : Nat} (h : n * 10 ^ L ≤ 9223372036854775807) (hn : 0 < n) : L ≤ 18 := by
  by_cases hl : L ≤ 18
  · exact hl
  · have h1 : 10 ^ 19 ≤ 10 ^ L := Nat.pow_le_pow_right (by omega) (by omega)
    have h2 : 1 * 10 ^ L ≤ n * 10 ^ L := Nat.mul_le_mul_right _ hn
    omega
theorem pow_step {L n : Nat} (h : n * 10 ^ L ≤ 9223372036854775807) : n / 10 * 10 ^ (L + 1) ≤ 9223372036854775807 := by
  have h1 : n / 10 * 10 ≤ n := Nat.div_mul_le_self n 10
  have h2 := Nat.mul_le_mul_right (10 ^ L) h1
  rw [Nat.pow_succ, Nat.mul_comm (10 ^ L) 10, ← Nat.mul_assoc]
  omega

/-- A byte that lies in a new block of one cell, as a text. -/
theorem conv1 {P : Program} (w : World) (src dst e : TypeId) (n : Int) (h0 : 0 ≤ n) (h1 : n < 256) (hs : P.underlying src = some (.slice e)) (he : P.underlying e = some (.int .u8)) (hd : P.underlying dst = some .string) :
    (convert src dst (.slice (some ⟨w.heap.size, 0, none⟩) 1 1)).run P (w.alloc (.cells #[.int .u8 n] e)) = .ok (.string ⟨[UInt8.ofNat n.toNat].toArray⟩) (w.alloc (.cells #[.int .u8 n] e)) := by
  refine run_convert_bytes_back (P := P) _ src dst e ⟨w.heap.size, 0, none⟩ 1 [UInt8.ofNat n.toNat] hs he hd ?_
  intro j hj
  simp at hj
  subst hj
  have e1 : ((UInt8.ofNat n.toNat).toNat : Int) = n := by
    rw [UInt8.toNat_ofNat']
    omega
  simp only [List.getElem_cons_zero, e1]
  exact blk_cell (blk_new w _ _ rfl) 0

set_option maxHeartbeats 400000 in
set_option maxRecDepth 100000 in
theorem markText_any (k : Int) (w : World) (h0 : 0 < k) (h1 : k ≤ 9223372036854775807) :
    Calls Try.prog 124 #[.int .i64 k] w fun e w' => e = .returned (.string (markT k)) ∧ Below w.heap.size w w' := by
  go_enter Try.func124, Try.ntmps124
  go_wp2
  go_loopw [0, 3] (fun k' s wr => ∃ (n : Nat) (acc : List UInt8), n * 10 ^ acc.length ≤ 9223372036854775807 ∧ acc.length ≤ 19 ∧ k' = .int .i64 n ∧ s = .string ⟨acc.toArray⟩ ∧ decs n acc = decs k.toNat [] ∧ Below w.heap.size w wr) (fun k' _ _ => (intOf k').toNat)
  case atStart => exact ⟨k.toNat, [], by simp; omega, by simp, by rw [Int.toNat_of_nonneg (by omega)], rfl, rfl, Below.refl _ _⟩
  case round =>
    obtain ⟨n, acc, hn, hl, rfl, rfl, hd, hb⟩ := hrel
    have HD := Lib.hid hd
    have HN := Lib.hid hn
    have hn1 : n ≤ 9223372036854775807 := Nat.le_trans (Nat.le_mul_of_pos_right n (Nat.pow_pos (by omega))) hn
    clear hd hn
    by_cases hlt : 0 < n
    · have hcv := conv1 (P := Try.prog) wr 170 9 5 (48 + (n : Int) % 10) (by omega) (by omega) Try.underlying170 Try.underlying5 Try.underlying9
      have hl2 := pow_small HN.out hlt
      go_wp2
      go_roundw
      case rel => exact ⟨n / 10, (48 + UInt8.ofNat (n % 10)) :: acc, pow_step HN.out, by simp; omega, by go_num, rfl, by rw [← HD.out, decs_pos hlt], hb.alloc hb.size _⟩
      case measure => simp [intOf]; omega
    · have hn0 : n = 0 := by omega
      subst hn0
      have hfin := Lib.hid (HD.out.symm.trans (decs_zero acc))
      go_wp2
      go_ret
      refine ⟨?_, hb⟩
      unfold markT
      rw [hfin.out]
      rfl
end Go.Proofs.Ytkgmilobmbeplaa
