/- A region that draws its order, by an invariant: one obligation an operation, whatever the order. No program in sight. -/
import Derived.Test.YtkgmilobmbeplaaMem
import Derived.Orders
import Derived.BigQuiet
namespace Go.Proofs.Ytkgmilobmbeplaa
open Go.RowKit

/-- One more operation is listed. -/
def upd (L : Nat → Bool) (i : Nat) : Nat → Bool := fun j => if j = i then true else L j
/-- Every edge of every operation leads back. -/
def backB (l : List Oper) : Bool := (List.range l.length).all fun i => ((l[i]?).map fun o => o.after.all fun e => !Region.binds .any e || decide (e.on < i)).getD true

theorem wpAny_inv {P : Program} {Q : Exit → Act → World → Prop} {l : List Oper} (hB : backB l = true) (I : (Nat → Bool) → Act → World → Prop)
    (hend : ∀ L a w, I L a w → (∀ i, i < l.length → L i = true) → Q .normal a w)
    (hstep : ∀ i (h : i < l.length), ∀ L a w, I L a w → L i = false → (l[i].after.all fun e => !Region.binds .any e || L e.on) = true → ∀ K : Act → World → Prop, (∀ a' w', I (upd L i) a' w' → K a' w') →
      if Region.wanted l[i] (yielded l.toArray a.tmps) = true then l[i].wp P a w K Q else K (a.put l[i].dst undef) w) :
    ∀ (fuel : Nat) (listed : Array Bool) (a : Act) (w : World), listed.size = l.length → (listed.toList.filter (fun b => !b)).length ≤ fuel → I (fun j => listed.getD j false) a w → wpAny P .any l.toArray Q fuel listed a w := by
  have hready : ∀ listed : Array Bool, listed.size = l.length → Region.ready .any l.toArray listed = [] → ∀ i, i < l.length → listed.getD i false = true := by
    intro listed hs hr i
    induction i using Nat.strongRecOn with
    | _ i ih =>
      intro hi
      cases hl : listed.getD i false with
      | true => rfl
      | false =>
        have hm : i ∈ Region.ready .any l.toArray listed := by
          unfold Region.ready
          rw [List.mem_filter]
          refine ⟨by simpa using hi, ?_⟩
          have h1 : listed.getD i true = false := by
            rw [Array.getD_eq_getD_getElem?] at hl ⊢
            rw [Array.getElem?_eq_getElem (by omega)] at hl ⊢
            exact hl
          rw [h1]
          have h2 := List.all_eq_true.1 hB i (List.mem_range.2 hi)
          rw [List.getElem?_eq_getElem hi] at h2
          simp only [Option.map_some, Option.getD_some] at h2
          simp only [List.getElem?_toArray, List.getElem?_eq_getElem hi, Option.map_some, Option.getD_some, Bool.not_false, Bool.true_and]
          rw [Array.all_eq_true_iff_forall_mem] at h2 ⊢
          intro e he
          have h3 := h2 e he
          simp only [Bool.or_eq_true, decide_eq_true_eq] at h3 ⊢
          rcases h3 with h3 | h3
          · exact .inl h3
          · exact .inr (ih e.on h3 (by omega))
        rw [hr] at hm
        cases hm
  intro fuel
  induction fuel with
  | zero =>
    intro listed a w hs hf hI
    have hall : ∀ i, i < l.length → listed.getD i false = true := fun i hi => by
      have h0 : listed.toList.filter (fun b => !b) = [] := List.length_eq_zero_iff.1 (by omega)
      rw [List.filter_eq_nil_iff] at h0
      have hi' : i < listed.size := by omega
      have h1 := h0 listed[i] (by simp)
      rw [Array.getD_eq_getD_getElem?, Array.getElem?_eq_getElem hi']
      simpa using h1
    refine ⟨?_, hend _ a w hI hall⟩
    unfold Region.ready
    rw [List.filter_eq_nil_iff]
    intro i hi
    have hi' : i < l.length := by simpa using hi
    have h1 := hall i hi'
    have h2 : listed.getD i true = true := by
      rw [Array.getD_eq_getD_getElem?] at h1 ⊢
      rw [Array.getElem?_eq_getElem (by omega)] at h1 ⊢
      exact h1
    rw [h2]; simp
  | succ fuel ih =>
    intro listed a w hs hf hI
    refine ⟨fun hr => hend _ a w hI (hready listed hs hr), fun i hi => ?_⟩
    unfold Region.ready at hi
    rw [List.mem_filter] at hi
    obtain ⟨hi1, hi2⟩ := hi
    have hil : i < l.length := by simpa using hi1
    simp only [List.getElem?_toArray, List.getElem?_eq_getElem hil, Option.map_some, Option.getD_some, Bool.and_eq_true, Bool.not_eq_true'] at hi2
    obtain ⟨hun, hed⟩ := hi2
    have his : i < listed.size := by omega
    have hcount : ((listed.setIfInBounds i true).toList.filter (fun b => !b)).length ≤ fuel := by
      have hli : listed[i] = false := by
        rw [Array.getD_eq_getD_getElem?, Array.getElem?_eq_getElem his] at hun
        exact hun
      have e1 : listed.toList = listed.toList.take i ++ listed[i] :: listed.toList.drop (i + 1) := by
        have h9 : listed.toList.drop i = listed.toList[i]'(by simpa using his) :: listed.toList.drop (i + 1) := List.drop_eq_getElem_cons (by simpa using his)
        conv => lhs; rw [← List.take_append_drop i listed.toList, h9]
        rfl
      have e2 : (listed.setIfInBounds i true).toList = listed.toList.take i ++ true :: listed.toList.drop (i + 1) := by
        rw [Array.toList_setIfInBounds, List.set_eq_take_append_cons_drop, if_pos (by simpa using his)]
      rw [e2]
      rw [e1, hli] at hf
      simp only [List.filter_append, List.filter_cons, List.length_append, Bool.not_false, if_true, Bool.not_true, List.length_cons] at hf ⊢
      first | omega | (simp at hf ⊢; omega)
    have hupd : (fun j => (listed.setIfInBounds i true).getD j false) = upd (fun j => listed.getD j false) i := by
      funext j
      unfold upd
      by_cases hj : j = i
      · subst hj
        rw [if_pos rfl, Array.getD_eq_getD_getElem?, Array.getElem?_setIfInBounds_self_of_lt his]; rfl
      · rw [if_neg hj, Array.getD_eq_getD_getElem?, Array.getElem?_setIfInBounds_ne (fun e => hj e.symm)]
        show _ = listed.getD j false
        rw [Array.getD_eq_getD_getElem?]
    have hlf : listed.getD i false = false := by
      rw [Array.getD_eq_getD_getElem?, Array.getElem?_eq_getElem his] at hun ⊢
      exact hun
    have h := hstep i hil _ a w hI hlf hed (wpAny P .any l.toArray Q fuel (listed.setIfInBounds i true)) (fun a' w' hI' => ih _ a' w' (by simpa using hs) hcount (by rw [hupd]; exact hI'))
    unfold wpOp
    simp only [List.getElem?_toArray, List.getElem?_eq_getElem hil]
    split
    · rename_i hw
      rw [if_pos hw] at h
      exact .inl h
    · rename_i hw
      rw [if_neg hw] at h
      exact h

theorem wp_region_inv {P : Program} {id : Nat} {Q : Exit → Act → World → Prop} {a : Act} {w : World} {l : List Oper} (hm : P.follows .mixedOrders = true) (hB : backB l = true) (I : (Nat → Bool) → Act → World → Prop)
    (h0 : I (fun _ => false) a w.drew)
    (hend : ∀ L a w, I L a w → (∀ i, i < l.length → L i = true) → Q .normal a w)
    (hstep : ∀ i (h : i < l.length), ∀ L a w, I L a w → L i = false → (l[i].after.all fun e => !Region.binds .any e || L e.on) = true → ∀ K : Act → World → Prop, (∀ a' w', I (upd L i) a' w' → K a' w') →
      if Region.wanted l[i] (yielded l.toArray a.tmps) = true then l[i].wp P a w K Q else K (a.put l[i].dst undef) w) :
    (Code.region id l.toArray true).wp P Q a w := by
  refine wp_region_any hm ?_
  refine wpAny_inv hB I hend hstep _ _ _ _ (by simp) ?_ ?_
  · simp
  · have : (fun j => (Array.replicate l.toArray.size false).getD j false) = fun _ => false := by
      funext j
      rw [Array.getD_eq_getD_getElem?]
      cases h : (Array.replicate l.toArray.size false)[j]? with
      | none => rfl
      | some b =>
        have := Array.mem_of_getElem? h
        simp at this
        simpa using this.2
    rw [this]
    exact h0
end Go.Proofs.Ytkgmilobmbeplaa
