/- Several references dropped: plain. -/
import Derived.Test.YtkgmilobmbeplaaDrop
namespace Go.Proofs.Ytkgmilobmbeplaa
open Go.RowKit

def dropRS (x : List ByteArray × SpaceD) (p : PtrD) : List ByteArray × SpaceD := (dropRows x.1 x.2 p.fAt.toNat, x.2.give p.fAt.toNat)
def dropsRS (x : List ByteArray × SpaceD) (ps : List PtrD) : List ByteArray × SpaceD := ps.foldl dropRS x
theorem dropsRS_snoc (x : List ByteArray × SpaceD) (ps : List PtrD) (p : PtrD) : dropsRS x (ps ++ [p]) = dropRS (dropsRS x ps) p := by simp [dropsRS, List.foldl_append]
theorem dropsRS_len (x : List ByteArray × SpaceD) (ps : List PtrD) : (dropsRS x ps).1.length = x.1.length ∧ (dropsRS x ps).2.fRefs.length = x.2.fRefs.length ∧ (dropsRS x ps).2.fLast.length = x.2.fLast.length := by
  unfold dropsRS
  induction ps generalizing x with
  | nil => exact ⟨rfl, rfl, rfl⟩
  | cons p r ih =>
    obtain ⟨h1, h2, h3⟩ := ih (dropRS x p)
    exact ⟨h1.trans (dropRows_len _ _ _), h2.trans (SpaceD.give_refs _ _), h3.trans (SpaceD.give_last _ _)⟩
theorem give_getD (s : SpaceD) (a i : Nat) (hi : i < s.fRefs.length) : (s.give a).fRefs.getD i 0 = s.fRefs.getD i 0 - if a = i then 1 else 0 := by
  unfold SpaceD.give
  simp only [List.getD, List.getElem?_set]
  by_cases h : a = i
  · subst h
    simp [hi]
  · simp [h]
theorem dropsRS_refs (x : List ByteArray × SpaceD) (ps : List PtrD) (hp : ∀ p ∈ ps, 0 ≤ p.fAt) (i : Nat) (hi : i < x.2.fRefs.length) : (dropsRS x ps).2.fRefs.getD i 0 = x.2.fRefs.getD i 0 - (cnt ps i : Int) := by
  unfold dropsRS
  induction ps generalizing x with
  | nil => simp [cnt]
  | cons p r ih =>
    have h1 := ih (dropRS x p) (fun q hq => hp q (List.mem_cons_of_mem _ hq)) (by rw [show (dropRS x p).2.fRefs.length = x.2.fRefs.length from SpaceD.give_refs _ _]; exact hi)
    rw [List.foldl_cons, h1, show (dropRS x p).2 = x.2.give p.fAt.toNat from rfl, give_getD _ _ _ hi]
    have h2 : cnt (p :: r) i = (if p.fAt = (i : Int) then 1 else 0) + cnt r i := by
      have := cnt_append [p] r i
      rw [List.singleton_append] at this
      rw [this]
      congr 1
      by_cases h : p.fAt = (i : Int) <;> simp [cnt, h]
    have h0 := hp p List.mem_cons_self
    rw [h2]
    by_cases h : p.fAt = (i : Int)
    · rw [if_pos h, if_pos (by omega)]; push_cast; omega
    · rw [if_neg h, if_neg (by omega)]; push_cast; omega
/-- While what was given up is dropped, no reference count is short. -/
theorem drops_pos {rows : List ByteArray} {s : SpaceD} {ps : List PtrD} (hs : s.fRefs.length = 64) (hin : ∀ p ∈ ps, 8 ≤ p.fAt ∧ p.fAt ≤ 63) (how : ∀ i, i < 64 → (cnt ps i : Int) ≤ s.fRefs.getD i 0) {k : Nat} {p : PtrD} (hp : ps[k]? = some p) :
    1 ≤ (dropsRS (rows, s) (ps.take k)).2.fRefs.getD p.fAt.toNat 0 ∧ (dropsRS (rows, s) (ps.take k)).2.fRefs.getD p.fAt.toNat 0 ≤ s.fRefs.getD p.fAt.toNat 0 := by
  obtain ⟨hk, hpe⟩ := List.getElem?_eq_some_iff.1 hp
  have hm : p ∈ ps := by rw [← hpe]; exact List.getElem_mem _
  obtain ⟨h8, h63⟩ := hin p hm
  have h1 := dropsRS_refs (rows, s) (ps.take k) (fun q hq => by have := hin q (List.mem_of_mem_take hq); omega) p.fAt.toNat (by show _ < s.fRefs.length; omega)
  have h2 := cnt_take ps (k + 1) p.fAt.toNat
  rw [List.take_succ_eq_append_getElem hk, hpe, cnt_snoc, if_pos (by omega)] at h2
  have h3 := how p.fAt.toNat (by omega)
  rw [h1]
  constructor <;> simp only <;> omega
end Go.Proofs.Ytkgmilobmbeplaa
