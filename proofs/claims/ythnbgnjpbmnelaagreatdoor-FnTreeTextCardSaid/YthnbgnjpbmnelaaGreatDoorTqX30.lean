/- A part of the proof in YthnbgnjpbmnelaaGreatDoorTqX34. -/
import Derived.Deep.Slices
import Derived.ProofKit
import Derived.Test.YthnbgnjpbmnelaaGreatDoorTqX29
namespace Go.Proofs.YthnbgnjpbmnelaaGreatDoor
open Go.Proofs.Tryz
open List (length_map mem_append_left mem_append_right)
set_option linter.unusedVariables false
set_option linter.unusedSimpArgs false
set_option maxHeartbeats 1000000
set_option maxRecDepth 100000
open Go.ChangeShapes Go.WideShapes Go.ChangeAt Go.RowKit Go.Deep
theorem Tryz.own : ownKnob Tryz.prog.godebug = none := by kernel_rfl
theorem Tryz.laidOut : laidOutB prog = true := by kernel_rfl
section
variable {H : Type} {enc : TypeId × Value → H} {P : Program}
theorem Zay (hl : laidOutB P = true) {W W' : World} (hb : Below W.heap.size W W') : ∀ (ts : List TypeId) (vs : List Value) (ds : List (DataW H)) (ps : List MemPlace),
  (∀ t ∈ ts, P.readableRec t = true ∧ t < P.types.size) → DataW.TrodAll enc P W 0 (fun _ => true) true ts vs ds ps → (∀ x ∈ ps, x.block < W.heap.size) →
  DataW.TrodAll enc P W' 0 (fun b => decide (b < W.heap.size)) true ts vs ds ps
 | [], [], [], _, _, h, _ => h
 | t :: ts, v :: vs, d :: ds, ps, ht, ⟨p, q, h1, h2, e⟩, hlt =>
  ⟨p, q, Below.trod hl (ht t (by simp)).1 (ht t (by simp)).2 h1 hb (fun x hx => hlt x (by rw [e]; exact mem_append_left _ hx)),
   Zay hl hb ts vs ds q (fun t' h' => ht t' (by simp [h'])) h2 (fun x hx => hlt x (by rw [e]; exact mem_append_right _ hx)), e⟩
theorem ZmX (hl : laidOutB P = true) {f : Func} {s : ChangeSpec} {apart fresh handsOn : Bool} {W W' : World} {args : Array Value} {ds : List (DataW H)} {before : List MemPlace} {tb : TypeId}
  (hvars : s.vars = []) (hrt : f.resultTypes.toList = [tb]) (hrs : f.resultTypes.size = 1) (htb : P.underlying tb = some .bool)
  (hspec : s.fn H (ds ++ []) = { results := [.lit (.bool true)], args := ds })
  (hty0 : (f.params.toList.all fun t => P.readableRec t && decide (t < P.types.size)) = true)
  (hW : DataW.Whole enc P f.params.toList s.vars apart W args.toList ds [] before) (hb : Below W.heap.size W W') :
  s.post enc P f apart fresh handsOn false W args (.bool true) W' := by
 have hW' := hW;have hty : ∀ t ∈ f.params.toList, P.readableRec t = true ∧ t < P.types.size := fun t ht => by
  have := List.all_eq_true.1 hty0 t ht
  simpa using this
 obtain ⟨p, q, hA, hV, rfl, _, _⟩ := hW;rw [hvars] at hV;obtain ⟨_, rfl⟩ := trodVars_none hV;have hlt : ∀ x ∈ p, x.block < W.heap.size := fun x hx => hW'.lt x (mem_append_left _ hx)
 refine ⟨ds, [], _, [], p, [], hW', ?_, ?_, ?_, hb.frame _, fun h => by cases h⟩
 ·rw [hspec, hrt, hrs]
  exact trodAll_mk1 (shut_bool htb true)
 ·rw [hspec]
  exact Zay hl hb _ _ _ _ hty hA hlt
 ·rw [hspec, hvars]
  exact rfl
theorem ZmY {α : Type} [Inhabited α] {ef : α → List Value} {size : Nat} {Q : α → Prop} {w : World} {spare : Nat → Bool} {held : Bool} {t e : TypeId} {fuel : Nat} {c : Value} {x : DataW H × List MemPlace} (ht : P.underlying t = some (.slice e)) (hc : P.cellsOf e = size) (hsz : 0 < size)
  (hel : ∀ n cs y, DataW.trod enc P w 0 spare held n e cs = some y → ∃ a : α, cs = ef a ∧ Q a) (h : DataW.trod enc P w 0 spare held fuel t [c] = some x) :
  ∃ ao len cap xs, c = .slice ao len cap ∧ len ≤ maxLen ∧ Rd ef size w ao len xs ∧ ∀ a ∈ xs, Q a := by
 rcases open_slice ht h with ⟨hcs, _⟩ | ⟨a, len, cap, m, n, D, Pl, hcs, _, hlc, hcm, hm, _, hi⟩
 ·simp only [List.cons.injEq, and_true] at hcs
  exact ⟨none, 0, 0, [], hcs, Nat.zero_le _, ⟨rfl, fun i hi => absurd hi (Nat.not_lt_zero _)⟩, by simp⟩
 ·simp only [List.cons.injEq, and_true] at hcs
  have hmle : len ≤ m := by rw [hm]; split <;> omega
  have key : ∀ i, i < len → ∃ a0 : α, w.cells? 0 (a.add (i * size)) size = some (ef a0) ∧ Q a0 := by
   intro i hil;obtain ⟨cs', h1, h2⟩ := hi i (by omega);obtain ⟨a0, rfl, hq⟩ := hel _ _ _ h2;rw [hc] at h1;exact ⟨a0, h1, hq⟩
  obtain ⟨f, hf⟩ := choose_lt key;refine ⟨some a, len, cap, (List.range len).map f, hcs, Nat.le_trans hlc hcm, ⟨by simp, fun i hil => ?_⟩, ?_⟩
  ·simp only [length_map, List.length_range] at hil
   obtain ⟨b, off, spot⟩ := a;obtain ⟨h1, hq⟩ := hf i hil;obtain ⟨_, hlen, hcell⟩ := World.cells?_some h1;have h0 : w.cell? (((⟨b, off, spot⟩ : Addr).add (i * size)).add 0) = some ((ef (f i))[0]'(by omega)) := by
    rw [hcell 0 hsz, List.getElem?_eq_getElem (by omega)]
   have hspot : spot = none := by
    obtain ⟨h10, _⟩ := hf 0 (by omega);obtain ⟨_, hlen0, hcell0⟩ := World.cells?_some h10;have h00 : w.cell? (((⟨b, off, spot⟩ : Addr).add (0 * size)).add 0) = some ((ef (f 0))[0]'(by omega)) := by
     rw [hcell0 0 hsz, List.getElem?_eq_getElem (by omega)]
    have := World.cell?_spot h00
    simpa [Addr.add] using this
   subst hspot;refine ⟨b, off, f i, by simp [hil], rfl, ?_, fun j v hv => ?_⟩
   ·have := World.block_lt_of_cell? w _ h0
    simpa [Addr.add_mid] using this
   ·have hj : j < size := by have := (List.getElem?_eq_some_iff.1 hv).1; omega
    have := hcell j hj;rw [Addr.add_mid, Addr.add_mid] at this;rw [this, hv]
  ·intro a0 ha0
   obtain ⟨i, hi', rfl⟩ := List.mem_map.1 ha0;exact (hf i (List.mem_range.1 hi')).2
end
end Go.Proofs.YthnbgnjpbmnelaaGreatDoor
