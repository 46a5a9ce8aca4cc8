/- Sameness of lists, and of the rows of a flat meaning. -/
import Derived.Test.YtkgmilobmbeplaaFlatT
import Derived.Test.YtkgmilobmbeplaaBox
import Derived.Laws.StructEq
namespace Go.Proofs.Ytkgmilobmbeplaa
open Go.RowKit

/-- Two lists are the same, element by element. -/
def sameL {α : Type} (eq : α → α → Bool) (xs ys : List α) : Bool := decide (xs.length = ys.length) && (xs.zip ys).all fun p => eq p.1 p.2
theorem sameL_len {α : Type} {eq : α → α → Bool} {xs ys : List α} (h : xs.length ≠ ys.length) : sameL eq xs ys = false := by simp [sameL, h]
theorem sameL_no {α : Type} {eq : α → α → Bool} {xs ys : List α} (i : Nat) {x y : α} (hx : xs[i]? = some x) (hy : ys[i]? = some y) (h : eq x y = false) : sameL eq xs ys = false := by
  have hm : (x, y) ∈ xs.zip ys := List.mem_of_getElem? (i := i) (by simp [List.getElem?_zip_eq_some, hx, hy])
  unfold sameL
  rw [Bool.and_eq_false_iff]
  right
  rw [List.all_eq_false]
  exact ⟨_, hm, by simp [h]⟩
theorem sameL_yes {α : Type} {eq : α → α → Bool} {xs ys : List α} (hl : xs.length = ys.length) (h : ∀ (i : Nat) (x y : α), i < xs.length → xs[i]? = some x → ys[i]? = some y → eq x y = true) : sameL eq xs ys = true := by
  unfold sameL
  rw [Bool.and_eq_true, List.all_eq_true]
  refine ⟨by simp [hl], fun p hp => ?_⟩
  obtain ⟨i, hi, he⟩ := List.mem_iff_getElem.1 hp
  have h2 : (xs.zip ys)[i]? = some p := by rw [List.getElem?_eq_getElem hi, he]
  rw [List.getElem?_zip_eq_some] at h2
  have hi2 : i < xs.length := by have := hi; simp only [List.length_zip] at this; omega
  exact h i _ _ hi2 h2.1 h2.2

def FoundD.same (x y : FoundD) : Bool := x.fPath.toList == y.fPath.toList && x.fId == y.fId
def ThingD.same (x y : ThingD) : Bool := x.fId == y.fId && (x.fFolder == y.fFolder && x.fText.toList == y.fText.toList)
def FlatD.same (x y : FlatD) : Bool := sameL FoundD.same x.fNames y.fNames && sameL ThingD.same x.fThings y.fThings

set_option maxRecDepth 100000 in
theorem eqFoundW (x y : FoundD) (w : World) : (Op.equalIn 10000 160 (.agg #[.string x.fPath, .int .i64 x.fId]) (.agg #[.string y.fPath, .int .i64 y.fId])).run Try.prog w = .ok (FoundD.same x y) w := by
  have hS : Try.prog.underlying 160 = some (.struct (Try.prog.fieldsOf 160)) := by kernel_rfl
  have hp : Try.prog.stoodInHeld 160 = false := by kernel_rfl
  rw [show (10000 : Nat) = 9999 + 1 from rfl, run_equalIn_agg w 9999 160 _ _ hS hp]
  simp only [Program.fieldsOf, Try.underlying160]
  unfold FoundD.same
  go_simp
  by_cases h1 : x.fPath.toList = y.fPath.toList <;> by_cases h2 : x.fId = y.fId <;> simp [h1, h2]
set_option maxRecDepth 100000 in
theorem eqThingW (x y : ThingD) (w : World) : (Op.equalIn 10000 162 (.agg #[.int .i64 x.fId, .bool x.fFolder, .string x.fText]) (.agg #[.int .i64 y.fId, .bool y.fFolder, .string y.fText])).run Try.prog w = .ok (ThingD.same x y) w := by
  have hS : Try.prog.underlying 162 = some (.struct (Try.prog.fieldsOf 162)) := by kernel_rfl
  have hp : Try.prog.stoodInHeld 162 = false := by kernel_rfl
  rw [show (10000 : Nat) = 9999 + 1 from rfl, run_equalIn_agg w 9999 162 _ _ hS hp]
  simp only [Program.fieldsOf, Try.underlying162]
  unfold ThingD.same
  go_simp
  by_cases h1 : x.fText.toList = y.fText.toList <;> by_cases h2 : x.fId = y.fId <;> by_cases h3 : x.fFolder = y.fFolder <;> simp [h1, h2, h3]

set_option maxHeartbeats 400000 in
set_option maxRecDepth 100000 in
theorem equalFound_any (ao bo : Option Addr) (n m cap cap2 : Nat) (xs ys : List FoundD) (w : World) (hlen : n ≤ 1048576) (hr : Rd FoundD.cells 2 w ao n xs) (hr2 : Rd FoundD.cells 2 w bo m ys) :
    Calls Try.prog 127 #[.slice ao n cap, .slice bo m cap2] w fun e w' => e = .returned (.bool (sameL FoundD.same xs ys)) ∧ Below w.heap.size w w' := by
  by_cases hnm : n = m
  rotate_left
  · have HL := Lib.hid (sameL_len (eq := FoundD.same) (xs := xs) (ys := ys) (by rw [hr.len, hr2.len]; exact hnm))
    have hnm' : ¬ ((n : Int) = (m : Int)) := by omega
    clear hr hr2
    go_enter Try.func127, Try.ntmps127
    go_wp2
    go_ret
    exact ⟨ret_bool HL.out.symm, Below.refl _ _⟩
  subst hnm
  have HA := Bx.mk hr
  have HB := Bx.mk hr2
  clear hr hr2
  go_enter Try.func127, Try.ntmps127
  go_wp2
  go_loopw [13] (fun i wr => ∃ k : Nat, k ≤ n ∧ i = .int .i64 k ∧ (∀ (j : Nat) (x y : FoundD), j < k → xs[j]? = some x → ys[j]? = some y → FoundD.same x y = true) ∧ Below w.heap.size w wr) (fun i _ => n - (intOf i).toNat)
  case atStart => exact ⟨0, Nat.zero_le _, rfl, fun j x y h => by omega, Below.refl _ _⟩
  case round =>
    obtain ⟨k, hk, rfl, hin, hb⟩ := hrel
    have HI := Bx.mk hin
    clear hin
    by_cases hlt : k < n
    · have hkx : k < xs.length := by rw [HA.out.len]; exact hlt
      have hky : k < ys.length := by rw [HB.out.len]; exact hlt
      obtain ⟨b, off, x, hx0, rfl, hbl, hrg⟩ := HA.out.at_ k hkx
      obtain ⟨c0, c1⟩ := FoundD.at_ (rangeAt_below hrg hb hbl)
      obtain ⟨b2, off2, y, hy0, rfl, hbl2, hrg2⟩ := HB.out.at_ k hky
      obtain ⟨d0, d1⟩ := FoundD.at_ (rangeAt_below hrg2 hb hbl2)
      have HX := Bx.mk (And.intro hx0 hy0)
      have he := eqFoundW x y
      clear hx0 hy0 hrg hrg2
      cases hs : FoundD.same x y
      · rw [hs] at he
        go_wp2_with fail
        go_quiet (fail)
        go_wp2
        go_ret
        exact ⟨ret_bool (sameL_no k HX.out.1 HX.out.2 hs).symm, hb.trans (below_drewN _ _ _)⟩
      · rw [hs] at he
        go_wp2_with fail
        go_quiet (fail)
        go_wp2
        go_roundw
        case rel =>
          refine ⟨k + 1, by omega, by go_num, fun j x' y' hj hx' hy' => ?_, hb.trans (below_drewN _ _ _)⟩
          by_cases hjk : j < k
          · exact HI.out j x' y' hjk hx' hy'
          · obtain rfl : j = k := by omega
            obtain rfl := Option.some.inj (HX.out.1.symm.trans hx')
            obtain rfl := Option.some.inj (HX.out.2.symm.trans hy')
            exact hs
        case measure => simp [intOf]; omega
    · go_wp2
      go_ret
      exact ⟨ret_bool (sameL_yes (by rw [HA.out.len, HB.out.len]) fun i x y hi hx hy => HI.out i x y (by rw [HA.out.len] at hi; omega) hx hy).symm, hb⟩

set_option maxHeartbeats 400000 in
set_option maxRecDepth 100000 in
theorem equalThing_any (ao bo : Option Addr) (n m cap cap2 : Nat) (xs ys : List ThingD) (w : World) (hlen : n ≤ 1048576) (hr : Rd ThingD.cells 3 w ao n xs) (hr2 : Rd ThingD.cells 3 w bo m ys) :
    Calls Try.prog 128 #[.slice ao n cap, .slice bo m cap2] w fun e w' => e = .returned (.bool (sameL ThingD.same xs ys)) ∧ Below w.heap.size w w' := by
  by_cases hnm : n = m
  rotate_left
  · have HL := Lib.hid (sameL_len (eq := ThingD.same) (xs := xs) (ys := ys) (by rw [hr.len, hr2.len]; exact hnm))
    have hnm' : ¬ ((n : Int) = (m : Int)) := by omega
    clear hr hr2
    go_enter Try.func128, Try.ntmps128
    go_wp2
    go_ret
    exact ⟨ret_bool HL.out.symm, Below.refl _ _⟩
  subst hnm
  have HA := Bx.mk hr
  have HB := Bx.mk hr2
  clear hr hr2
  go_enter Try.func128, Try.ntmps128
  go_wp2
  go_loopw [13] (fun i wr => ∃ k : Nat, k ≤ n ∧ i = .int .i64 k ∧ (∀ (j : Nat) (x y : ThingD), j < k → xs[j]? = some x → ys[j]? = some y → ThingD.same x y = true) ∧ Below w.heap.size w wr) (fun i _ => n - (intOf i).toNat)
  case atStart => exact ⟨0, Nat.zero_le _, rfl, fun j x y h => by omega, Below.refl _ _⟩
  case round =>
    obtain ⟨k, hk, rfl, hin, hb⟩ := hrel
    have HI := Bx.mk hin
    clear hin
    by_cases hlt : k < n
    · have hkx : k < xs.length := by rw [HA.out.len]; exact hlt
      have hky : k < ys.length := by rw [HB.out.len]; exact hlt
      obtain ⟨b, off, x, hx0, rfl, hbl, hrg⟩ := HA.out.at_ k hkx
      obtain ⟨c0, c1, c2⟩ := ThingD.at_ (rangeAt_below hrg hb hbl)
      obtain ⟨b2, off2, y, hy0, rfl, hbl2, hrg2⟩ := HB.out.at_ k hky
      obtain ⟨d0, d1, d2⟩ := ThingD.at_ (rangeAt_below hrg2 hb hbl2)
      have HX := Bx.mk (And.intro hx0 hy0)
      have he := eqThingW x y
      clear hx0 hy0 hrg hrg2
      cases hs : ThingD.same x y
      · rw [hs] at he
        go_wp2_with fail
        go_quiet (fail)
        go_wp2
        go_ret
        exact ⟨ret_bool (sameL_no k HX.out.1 HX.out.2 hs).symm, hb.trans (below_drewN _ _ _)⟩
      · rw [hs] at he
        go_wp2_with fail
        go_quiet (fail)
        go_wp2
        go_roundw
        case rel =>
          refine ⟨k + 1, by omega, by go_num, fun j x' y' hj hx' hy' => ?_, hb.trans (below_drewN _ _ _)⟩
          by_cases hjk : j < k
          · exact HI.out j x' y' hjk hx' hy'
          · obtain rfl : j = k := by omega
            obtain rfl := Option.some.inj (HX.out.1.symm.trans hx')
            obtain rfl := Option.some.inj (HX.out.2.symm.trans hy')
            exact hs
        case measure => simp [intOf]; omega
    · go_wp2
      go_ret
      exact ⟨ret_bool (sameL_yes (by rw [HA.out.len, HB.out.len]) fun i x y hi hx hy => HI.out i x y (by rw [HA.out.len] at hi; omega) hx hy).symm, hb⟩

end Go.Proofs.Ytkgmilobmbeplaa
