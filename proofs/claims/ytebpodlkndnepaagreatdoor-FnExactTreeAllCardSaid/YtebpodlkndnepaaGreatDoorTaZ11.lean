/- A part of the proof in YtebpodlkndnepaaGreatDoorTaZ28. -/
import Derived.Lib.AppendIntMem
import Derived.Test.YtebpodlkndnepaaGreatDoorTaZ10
/- Texts made in the library: Itoa, the builder, Join, over the things of a call. -/
namespace Go.Proofs.YtebpodlkndnepaaGreatDoor
set_option linter.unusedVariables false
set_option linter.unusedSimpArgs false
set_option maxHeartbeats 1000000
set_option maxRecDepth 100000
open Go.RowKit

/-! ### The table of powers of ten lies as it was laid -/
def TabP (w : World) : Prop := Go.Lib.TabIs Tryz.prog w "internal/strconv.uint64pow10" .u64 Go.Lib.pow10Tab
theorem var_below {P : Program} {w w' : World} {n : String} {cs : Array Value} (h : w.var? P n = some cs) (hb : Below w.heap.size w w') : w'.var? P n = some cs := by
  unfold World.var? at h ⊢
  cases hg : P.globalNamed n with
  | none => rw [hg] at h; exact h
  | some g =>
    rw [hg] at h
    simp only [Option.bind_some] at h ⊢
    have hlt : g < w.heap.size := by
      rcases Nat.lt_or_ge g w.heap.size with h' | h'
      · exact h'
      · simp [Array.getElem?_eq_none h'] at h
    rw [hb.block g hlt]; exact h
theorem TabP.below {w w' : World} (h : TabP w) (hb : Below w.heap.size w w') : TabP w' := var_below h hb

theorem itoa_any (n : Nat) (hn : n ≤ 9223372036854775807) (w : World) (hT : TabP w) : Calls Tryz.prog 147 #[.int .i64 (n : Int)] w fun e w' => e = .returned (.string (decB n)) ∧ Below w.heap.size w w' := by
  refine (Any.strconv_Itoa layItoa (n : Int) (by omega) (by omega) w hT).mono ?_
  rintro e w' ⟨rfl, k, os, rfl⟩
  refine ⟨?_, Go.Lib.below_grow _ _ (Nat.le_refl _) _ _⟩
  rw [Go.Lib.itoa, if_neg (by omega), Int.toNat_natCast]; rfl

theorem joinTail_len (sep : List UInt8) (r : List (List UInt8)) (B : Nat) (h : ∀ x ∈ r, x.length ≤ B) : (Go.Lib.joinTail sep r).length ≤ r.length * (sep.length + B) := by
  induction r with
  | nil => simp [Go.Lib.joinTail]
  | cons x r ih =>
    have h1 := ih fun y hy => h y (List.mem_cons_of_mem _ hy)
    have h2 := h x (List.mem_cons_self ..)
    have e : Go.Lib.joinTail sep (x :: r) = (sep ++ x) ++ Go.Lib.joinTail sep r := by simp [Go.Lib.joinTail]
    rw [e, List.length_append, List.length_append, List.length_cons, Nat.succ_mul]; omega
/-- Texts joined. -/
def joinT (xs : List ByteArray) (sep : ByteArray) : ByteArray := ⟨(Go.Lib.join (xs.map (·.data.toList)) sep.data.toList).toArray⟩
theorem joinT_size (xs : List ByteArray) (sep : ByteArray) (h : szs xs) : (joinT xs sep).size ≤ xs.length * (sep.size + 1099511627776) := by
  rw [size_list]
  show (Go.Lib.join (xs.map (·.data.toList)) sep.data.toList).length ≤ _
  cases xs with
  | nil => simp [Go.Lib.join_nil]
  | cons x r =>
    rw [List.map_cons, Go.Lib.join_cons, List.length_append]
    have h0 := h 0
    simp only [List.getD_cons_zero] at h0
    have h1 := joinTail_len sep.data.toList (r.map (·.data.toList)) 1099511627776 fun y hy => by
      obtain ⟨z, hz, rfl⟩ := List.mem_map.1 hy
      obtain ⟨i, hi, rfl⟩ := List.getElem_of_mem hz
      have := h (i + 1)
      rw [← size_list]
      simpa [List.getD, hi] using this
    rw [List.length_map] at h1
    rw [List.length_cons, Nat.succ_mul, size_list sep, ← size_list x]; omega
theorem join_any (a0 : Option Addr) (n c : Nat) (xs : List ByteArray) (sep : ByteArray) (w : World) (hR : Rd encS 1 w a0 n xs) (hc : xs.length ≤ c) (hN : xs.length ≤ 100) (hx : szs xs) (hs : sep.size ≤ 100) :
    Calls Tryz.prog 126 #[.slice a0 n c, .string sep] w fun e w' => e = .returned (.string (joinT xs sep)) ∧ Below w.heap.size w w' := by
  obtain rfl := hR.len
  have hz := joinT_size xs sep hx
  rw [size_list] at hz
  have hlen : (Go.Lib.join (xs.map (·.data.toList)) sep.data.toList).length ≤ 140737488355328 := by
    refine Nat.le_trans hz ?_
    refine Nat.le_trans (Nat.mul_le_mul hN (Nat.add_le_add_right hs _)) (by decide)
  by_cases h0 : xs = []
  · subst h0
    refine (Any.strings_Join_none layJoin layBX a0 c sep w).mono ?_
    rintro e w' ⟨rfl, rfl⟩
    exact ⟨rfl, Below.refl _ _⟩
  · have hpos : 0 < xs.length := List.length_pos_iff.2 h0
    obtain ⟨g, o, r⟩ := hR.opn
    have ha := r.ao 0 hpos
    subst ha
    have hbk : g < w.heap.size := (r.at_ 0 (xs[0]'hpos) (List.getElem?_eq_getElem hpos)).1
    exact Any.strings_Join layJoin layBX g o c xs sep w (fun j x hx => by have := r.elem1 (St.start w) hx rfl; simpa using this) hbk (by omega) hc hlen
end Go.Proofs.YtebpodlkndnepaaGreatDoor
