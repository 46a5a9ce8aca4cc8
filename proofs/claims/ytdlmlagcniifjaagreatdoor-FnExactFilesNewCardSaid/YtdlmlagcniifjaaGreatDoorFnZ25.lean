/- A part of the proof in YtdlmlagcniifjaaGreatDoorFnZ32. -/
import Derived.Lib.Bytealg
import Derived.Test.YtdlmlagcniifjaaGreatDoorFnZ24
namespace Go.Proofs.YtdlmlagcniifjaaGreatDoor
set_option linter.unusedVariables false
set_option linter.unusedSimpArgs false
set_option maxHeartbeats 1000000
set_option maxRecDepth 100000
open Go.RowKit
theorem less_irr : ∀ a : List UInt8, Op.bytesLess a a = false
  | [] => rfl
  | x :: a => by
    unfold Op.bytesLess
    rw [less_irr a]
    simp
theorem less_trans : ∀ {a b c : List UInt8}, Op.bytesLess a b = true → Op.bytesLess b c = true → Op.bytesLess a c = true
  | _, y, [], _, h2 => by cases y <;> cases h2
  | x, [], _ :: _, h1, _ => by cases x <;> cases h1
  | [], _ :: _, _ :: _, _, _ => rfl
  | x :: a, y :: b, z :: c, h1, h2 => by
    unfold Op.bytesLess at h1 h2 ⊢
    simp only [Bool.or_eq_true, Bool.and_eq_true, decide_eq_true_eq, beq_iff_eq] at h1 h2 ⊢
    rcases h1 with h1 | ⟨h1, h3⟩
    · rcases h2 with h2 | ⟨h2, h4⟩
      · exact .inl (UInt8.lt_trans h1 h2)
      · exact .inl (h2 ▸ h1)
    · rcases h2 with h2 | ⟨h2, h4⟩
      · exact .inl (h1 ▸ h2)
      · exact .inr ⟨h1.trans h2, less_trans h3 h4⟩
theorem ents_less {l : List EntryD} (h : entsOk l = true) : ∀ {j i : Nat}, i < j → j < l.length → Op.bytesLess (l.getD i EntryD.zero).fName.toList (l.getD j EntryD.zero).fName.toList = true
  | 0, i, hi, _ => absurd hi (Nat.not_lt_zero _)
  | j + 1, i, hi, hj => by
    have h1 := (entAt_is ((entsOk_is h).1 (j + 1) hj)).2.2.2
    have h1 := h1.resolve_left (Nat.succ_ne_zero j)
    rw [Nat.add_sub_cancel] at h1
    by_cases e : i = j
    · rw [e]; exact h1
    · exact less_trans (ents_less h (show i < j by omega) (by omega)) h1
def atIx (l : List EntryD) (s : ByteArray) (o : Option Nat) : Prop := match o with
  | some i => i < l.length ∧ (l.getD i EntryD.zero).fName = s
  | none => ∀ i, i < l.length → (l.getD i EntryD.zero).fName ≠ s
theorem atIx_one {l : List EntryD} (h : entsOk l = true) {s : ByteArray} {o o' : Option Nat} (h1 : atIx l s o) (h2 : atIx l s o') : o = o' := by
  cases o with
  | none =>
    cases o' with
    | none => rfl
    | some j => exact absurd h2.2 (h1 j h2.1)
  | some i =>
    cases o' with
    | none => exact absurd h1.2 (h2 i h1.1)
    | some j =>
      have hne : ∀ {a b : Nat}, a < b → b < l.length → (l.getD a EntryD.zero).fName = s → (l.getD b EntryD.zero).fName = s → False := fun {a b} hab hb ha hb2 => by
        have := ents_less h hab hb
        rw [ha, hb2, less_irr] at this; cases this
      rcases Nat.lt_trichotomy i j with hij | hij | hij
      · exact (hne hij h2.1 h1.2 h2.2).elim
      · rw [hij]
      · exact (hne hij h1.1 h2.2 h1.2).elim
open Classical in
noncomputable def entIx (l : List EntryD) (s : ByteArray) : Option Nat := if h : ∃ i, i < l.length ∧ (l.getD i EntryD.zero).fName = s then some (Classical.choose h) else none
theorem entIx_at (l : List EntryD) (s : ByteArray) : atIx l s (entIx l s) := by
  unfold entIx
  split
  · rename_i h
    exact Classical.choose_spec h
  · rename_i h
    exact fun i hi e => h ⟨i, hi, e⟩
theorem entIx_is {l : List EntryD} (h : entsOk l = true) {s : ByteArray} {o : Option Nat} (h1 : atIx l s o) : entIx l s = o := atIx_one h (entIx_at l s) h1
structure HalfI (l : List EntryD) (s : ByteArray) (lo hi : Nat) : Prop where
  le : lo ≤ hi
  top : hi ≤ l.length
  low : ∀ i, i < lo → Op.bytesLess (l.getD i EntryD.zero).fName.toList s.toList = true
  high : ∀ i, hi ≤ i → i < l.length → Op.bytesLess (l.getD i EntryD.zero).fName.toList s.toList = false
theorem HalfI.start (l : List EntryD) (s : ByteArray) : HalfI l s 0 l.length := ⟨Nat.zero_le _, Nat.le_refl _, fun i hi => absurd hi (Nat.not_lt_zero _), fun i h1 h2 => absurd h2 (by omega)⟩
theorem HalfI.none {l : List EntryD} {s : ByteArray} {k : Nat} (h : HalfI l s k k) (ho : entsOk l = true) (hn : k < l.length → (l.getD k EntryD.zero).fName ≠ s) : entIx l s = .none := by
  refine entIx_is ho fun i hi e => ?_
  rcases Nat.lt_trichotomy i k with hik | hik | hik
  · have := h.low i hik
    rw [e, less_irr] at this; cases this
  · subst hik; exact hn hi e
  · have h1 := h.high k (Nat.le_refl _) (by omega)
    have h2 := ents_less ho hik hi
    rw [e] at h2
    rw [h1] at h2; cases h2
theorem HalfI.some {l : List EntryD} {s : ByteArray} {k : Nat} (ho : entsOk l = true) (hk : k < l.length) (hn : (l.getD k EntryD.zero).fName = s) : entIx l s = .some k := entIx_is ho ⟨hk, hn⟩
theorem HalfI.out {l : List EntryD} {s : ByteArray} {k : Nat} (h : HalfI l s k k) (ho : entsOk l = true) (hk : ¬ k < l.length) : entIx l s = .none := h.none ho fun h2 => absurd h2 hk
open Go.RowKit
def wg : Nat → Nat
  | 0 => 1
  | n + 1 => 1 + 4 * wg n
open Go.RowKit
noncomputable def allO (st : StoreD) (p : PtrD) : List PtrD := allL st p.fLevel.toNat p
theorem allO_wf {st : StoreD} {n : Nat} {p : PtrD} (h : Wf st n p) : allO st p = allL st n p := by
  unfold allO
  cases hh : p.hole with
  | true => rw [allL_hole hh, allL_hole hh]
  | false => rw [h.level hh]; rfl
def mz : List PtrD → Nat
  | [] => 0
  | p :: r => (bif p.hole then 1 else wg p.fLevel.toNat) + mz r
theorem wg_pos : ∀ n, 1 ≤ wg n
  | 0 => Nat.le_refl _
  | n + 1 => by show 1 ≤ 1 + 4 * wg n; omega
theorem mz_kids {st : StoreD} {n : Nat} : ∀ {l : List PtrD}, (∀ q ∈ l, Wf st n q) → mz l ≤ l.length * wg n
  | [], _ => Nat.zero_le _
  | p :: r, h => by
    have ih := mz_kids fun q hq => h q (List.mem_cons_of_mem _ hq)
    have hw := h p (List.mem_cons_self ..)
    have h1 : (bif p.hole then 1 else wg p.fLevel.toNat) ≤ wg n := by
      cases hh : p.hole with
      | true => exact wg_pos n
      | false => rw [hw.level hh]; exact Nat.le_refl _
    show (bif p.hole then 1 else wg p.fLevel.toNat) + mz r ≤ (r.length + 1) * wg n
    rw [Nat.succ_mul]; omega
structure AllTo (st : StoreD) (A os ts : List PtrD) : Prop where
  sum : os ++ ts.flatMap (allO st) = A
  wf : ∀ p ∈ ts, ∃ n, n ≤ 2 ∧ Wf st n p
  room : os.length + mz ts ≤ 21
theorem AllTo.start {st : StoreD} {n : Nat} {p : PtrD} (hn : n ≤ 2) (h : Wf st n p) : AllTo st (allL st n p) [] [p] := by
  refine ⟨?_, fun q hq => ⟨n, hn, by rw [List.mem_singleton.1 hq]; exact h⟩, ?_⟩
  · rw [List.nil_append, List.flatMap_cons, List.flatMap_nil, List.append_nil, allO_wf h]
  · have h1 := mz_kids (l := [p]) (n := n) fun q hq => by rw [List.mem_singleton.1 hq]; exact h
    have h2 : wg n ≤ 21 := by rcases (by omega : n = 0 ∨ n = 1 ∨ n = 2) with e | e | e <;> rw [e] <;> decide
    rw [List.length_singleton, Nat.one_mul] at h1
    show 0 + mz [p] ≤ 21
    omega
section
variable {st : StoreD} {A os r : List PtrD} {p : PtrD}
theorem AllTo.tail (h : AllTo st A os (p :: r)) : ∀ q ∈ ([] ++ r : List PtrD), ∃ n, n ≤ 2 ∧ Wf st n q := fun q hq => h.wf q (List.mem_cons_of_mem _ (by simpa using hq))
theorem AllTo.hole (h : AllTo st A os (p :: r)) (hh : p.hole = true) : AllTo st A os ([] ++ r) ∧ mz ([] ++ r) < mz (p :: r) := by
  have h1 := h.sum
  have h2 := h.room
  have e : mz (p :: r) = 1 + mz r := by show (bif p.hole then 1 else wg p.fLevel.toNat) + mz r = _; rw [hh]; rfl
  refine ⟨⟨?_, h.tail, ?_⟩, ?_⟩
  · rw [List.nil_append, ← h1, List.flatMap_cons, show allO st p = [] from allL_hole hh _, List.nil_append]
  · rw [List.nil_append]; omega
  · rw [List.nil_append]; omega
theorem AllTo.below (h : AllTo st A os (p :: r)) (hh : p.hole = false) (hl : 0 < p.fLevel) : ∃ n l, n + 1 ≤ 2 ∧ p.fLevel = ((n + 1 : Nat) : Int) ∧ kidsS st p p.fLevel = some l ∧ kids st p ((n + 1 : Nat) : Int) = some l ∧ ∀ q ∈ l, Wf st n q := by
  obtain ⟨n, hn, hw⟩ := h.wf p (List.mem_cons_self ..)
  have hl2 := hw.level hh
  match n, hw, hl2, hn with
  | 0, _, hl2, _ => omega
  | n + 1, hw, hl2, hn =>
    obtain ⟨hp, hb, l, hk, hq⟩ := hw
    exact ⟨n, l, hn, hl2, by rw [kidsS_eq hp hb, hl2]; exact hk, hk, hq⟩
end
open Go.RowKit
def wideL (x : List PtrD) : List PtrD := x ++ List.replicate (16 - x.length) PtrD.zero
theorem l8Leaves_some (a0 : Option Addr) (c0 : Nat) (a1 : Option Addr) (c1 : Nat) (a2 : Option Addr) (c2 : Nat) (a4 : Option Addr) (c4 : Nat) (a6 : Option Addr) (c6 : Nat) (st : StoreD) (t : TreeD) {x : List PtrD} (hx : downL (kidsS st) (depthN t.fMany) [t.fRoot] = some x) (hdep : t.fDepth = ((depthN t.fMany : Nat) : Int)) (hxl : x.length ≤ 16) (w0 : World) (hR : Rd encS 1 w0 a0 st.fRows.length st.fRows) (hrow : RowsOk st) : Calls Tryz.prog 62 #[.agg #[.slice a0 st.fRows.length c0, .slice a1 st.fSpace.fRefs.length c1, .slice a2 st.fSpace.fLast.length c2, .int .i64 st.fTxg, .slice a4 st.fGone.length c4, .int .i64 st.fKeep, .slice a6 st.fDead.length c6, .bool st.fSame], .agg #[.int .i64 t.fRoot.fAt, .int .i64 t.fRoot.fBirth, .int .i64 t.fRoot.fSize, .int .i64 t.fRoot.fSum, .int .i64 t.fRoot.fLevel, .int .i64 t.fDepth, .int .i64 t.fMany]] w0 fun e w' => ∃ ao cp, e = .returned (.tuple #[.slice ao x.length cp, .bool true]) ∧ St w0 [rowA PtrD.cells 5 35 (.slice ao x.length cp) x] w' := by
  refine (l8Leaves_any a0 c0 a1 c1 a2 c2 a4 c4 a6 c6 st t hdep w0 hR hrow).mono ?_
  rintro e w' (⟨l, h, ao, cp, he, hs⟩ | ⟨h, _⟩)
  · rw [hx] at h
    obtain rfl := Option.some.inj h
    exact ⟨ao, cp, he, hs⟩
  · rw [hx] at h; cases h
theorem l8Wide_any (a0 : Option Addr) (c0 : Nat) (a1 : Option Addr) (c1 : Nat) (a2 : Option Addr) (c2 : Nat) (a4 : Option Addr) (c4 : Nat) (a6 : Option Addr) (c6 : Nat) (st : StoreD) (t : TreeD) {x : List PtrD} (hx : downL (kidsS st) (depthN t.fMany) [t.fRoot] = some x) (hdep : t.fDepth = ((depthN t.fMany : Nat) : Int)) (hxl : x.length ≤ 16) (w0 : World) (hR : Rd encS 1 w0 a0 st.fRows.length st.fRows) (hrow : RowsOk st) : Calls Tryz.prog 76 #[sV a0 c0 a1 c1 a2 c2 a4 c4 a6 c6 st, tV t] w0 fun e w' => ∃ ao cp, e = .returned (.slice ao (wideL x).length cp) ∧ St w0 [rowA PtrD.cells 5 35 (.slice ao (wideL x).length cp) (wideL x)] w' := by
 have HR := Bx.mk hR; clear hR
 have HS := Bx.mk (St.start w0)
 refine wc_enter Tryz.func76 rfl Tryz.ntmps76 [(0, sV a0 c0 a1 c1 a2 c2 a4 c4 a6 c6 st), (1, tV t)] ⟨rfl, rfl, trivial⟩ rfl ?_
 refine xsr ?_
 intro a HF
 refine ybx HF HS ?_;clear HF HS a;intro a w1 b1 HF HS
 refine ybx HF HS ?_;clear HF HS a;intro a w2 b2 HF HS
 revert a;refine xr 1 rfl<|xne<|xsr<|xy rfl (vw HS.out 1 8 rfl rfl)<|xy rfl (vw HS.out 0 7 rfl rfl) ?_
 intro a HF
 refine yc (l8Leaves_some a0 c0 a1 c1 a2 c2 a4 c4 a6 c6 st t hx hdep hxl _ (HR.out.below HS.out.bel) hrow) HF Tryz.func62 ?_
 rintro _ w3 ⟨ao, cp, rfl, hs⟩
 refine ⟨_, rfl, ?_⟩; replace HS := Bx.mk (HS.out.add hs);clear hs HF a;intro a HF
 try dsimp only [List.eraseIdx] at HS
 revert a;refine xr 5 rfl<|xne<|xsr ?_
 intro a HF
 refine yem 35 5 HF HS ?_;clear HF HS a;intro a w4 b3 HF HS
 revert a;refine xr 1 rfl ?_
 replace HS := Bx.mk (HS.out.nilRow PtrD.cells 5 35 (some ⟨b3, 0, none⟩))
 intro a HF
 refine wl_appL rfl HF rfl rfl rfl (HF.ev rfl) (HF.ev rfl) elemQ PtrD.cells_len HS.out 0 (xs := []) rfl (ys := x) (St.rdOf HS.out PtrD.cells_len 1 rfl) (cells_one_Q _) (by unfold maxLen; (try simp only [List.length_append, List.length_cons, List.length_nil, List.nil_append, List.length_map, List.length_replicate]); omega) (by (try simp only [List.length_append, List.length_cons, List.length_nil, List.nil_append, List.length_map, List.length_replicate]); omega) ?_; clear HF HS a; intro ao5 cp6 w5 a HF HS; replace HS := Bx.mk HS
 try dsimp only [List.eraseIdx] at HS
 revert a;refine xr 1 rfl<|xy rfl (vn 35 5 rfl)<|xy rfl (fun a HF=>yl_subI (r := ((16 - x.length : Nat) : Int)) rfl (HF.ev rfl) (HF.ev rfl) ((i64w (by omega)).trans (by omega))) ?_
 intro a HF
 refine yc (l8Holes_any (16 - x.length) (by omega) _) HF Tryz.func107 ?_
 rintro _ w6 ⟨ao7, cp7, rfl, hs⟩
 refine ⟨_, rfl, ?_⟩
 replace HS := Bx.mk (HS.out.add hs);clear hs HF a;intro a HF
 try dsimp only [List.eraseIdx] at HS
 refine wl_appL rfl HF rfl rfl rfl (HF.ev rfl) (HF.ev rfl) elemQ PtrD.cells_len HS.out 1 (xs := ([]) ++ x) rfl (ys := List.replicate (16 - x.length) PtrD.zero) (St.rdN HS.out PtrD.cells_len 0 rfl) (cells_one_Q _) (by unfold maxLen; (try simp only [List.length_append, List.length_cons, List.length_nil, List.nil_append, List.length_map, List.length_replicate]); omega) (by (try simp only [List.length_append, List.length_cons, List.length_nil, List.nil_append, List.length_map, List.length_replicate]); omega) ?_; clear HF HS a; intro ao8 cp9 w7 a HF HS; replace HS := Bx.mk HS
 try dsimp only [List.eraseIdx] at HS
 revert a;refine xr 1 rfl<|xne<|xre<|xb1 Tryz.results76 rfl ?_
 have hwl : ([] ++ x).length + (List.replicate (16 - x.length) PtrD.zero).length = (wideL x).length := (List.length_append ..).symm; rw [hwl] at HS ⊢
 exact ⟨_, _, rfl, ((((HS.out.erase 4).erase 3).erase 2).erase 0)⟩
open Go.RowKit
def EntsFit (l : List EntryD) : Prop := ∀ e ∈ l, e.fName.size ≤ 1000000
structure EntTo (s : ByteArray) (es : List EntryD) (r : ByteArray) : Prop where
  is : entsL es ++ r.data.toList = s.data.toList
  any : ∀ l, IsEnts s l → ∃ q, l = es ++ q ∧ r.data.toList = entsL q
  size : r.size ≤ s.size
  fit : EntsFit es ∨ 1000000 < s.size
theorem EntTo.start (s : ByteArray) : EntTo s [] s := ⟨rfl, fun l h => ⟨l, rfl, by rw [← h.is]; rfl⟩, Nat.le_refl _, .inl fun e he => by cases he⟩
open Go.RowKit
structure CacheD where
  fRoom : Int
  fGoal : Int
  fOnce : List Int
  fOften : List Int
  fPast : List Int
  fFormer : List Int
def CacheD.Reads (w : World) (v : Value) (x : CacheD) : Prop := ∃ (a2 : Option Addr) (c2 : Nat) (a3 : Option Addr) (c3 : Nat) (a4 : Option Addr) (c4 : Nat) (a5 : Option Addr) (c5 : Nat), v = .agg #[.int .i64 x.fRoom, .int .i64 x.fGoal, .slice a2 x.fOnce.length c2, .slice a3 x.fOften.length c3, .slice a4 x.fPast.length c4, .slice a5 x.fFormer.length c5] ∧ Rd encI 1 w a2 x.fOnce.length x.fOnce ∧ Rd encI 1 w a3 x.fOften.length x.fOften ∧ Rd encI 1 w a4 x.fPast.length x.fPast ∧ Rd encI 1 w a5 x.fFormer.length x.fFormer
def CacheD.Own (w : World) (B B1 : Nat) (v : Value) (x : CacheD) : Prop := ∃ (a2 : Option Addr) (c2 : Nat) (a3 : Option Addr) (c3 : Nat) (a4 : Option Addr) (c4 : Nat) (a5 : Option Addr) (c5 : Nat), v = .agg #[.int .i64 x.fRoom, .int .i64 x.fGoal, .slice a2 x.fOnce.length c2, .slice a3 x.fOften.length c3, .slice a4 x.fPast.length c4, .slice a5 x.fFormer.length c5] ∧ RowO encI 1 3 w B B1 (.slice a2 x.fOnce.length c2) x.fOnce ∧ RowO encI 1 3 w B B1 (.slice a3 x.fOften.length c3) x.fOften ∧ RowO encI 1 3 w B B1 (.slice a4 x.fPast.length c4) x.fPast ∧ RowO encI 1 3 w B B1 (.slice a5 x.fFormer.length c5) x.fFormer ∧ Apart (.slice a2 x.fOnce.length c2) (.slice a3 x.fOften.length c3) ∧ Apart (.slice a2 x.fOnce.length c2) (.slice a4 x.fPast.length c4) ∧ Apart (.slice a2 x.fOnce.length c2) (.slice a5 x.fFormer.length c5) ∧ Apart (.slice a3 x.fOften.length c3) (.slice a4 x.fPast.length c4) ∧ Apart (.slice a3 x.fOften.length c3) (.slice a5 x.fFormer.length c5) ∧ Apart (.slice a4 x.fPast.length c4) (.slice a5 x.fFormer.length c5)
theorem CacheD.Reads.below {w w' : World} {v : Value} {x : CacheD} (h : CacheD.Reads w v x) (hb : Below w.heap.size w w') : CacheD.Reads w' v x := by
  obtain ⟨a2, c2, a3, c3, a4, c4, a5, c5, rfl, r2, r3, r4, r5⟩ := h
  exact ⟨a2, c2, a3, c3, a4, c4, a5, c5, rfl, r2.below hb, r3.below hb, r4.below hb, r5.below hb⟩
theorem CacheD.Own.rd {w : World} {B B1 : Nat} {v : Value} {x : CacheD} (h : CacheD.Own w B B1 v x) : CacheD.Reads w v x := by
  obtain ⟨a2, c2, a3, c3, a4, c4, a5, c5, rfl, r2, r3, r4, r5, p2_3, p2_4, p2_5, p3_4, p3_5, p4_5⟩ := h
  obtain ⟨u2, e2, k2, d2⟩ := r2.rd encI_len
  simp only [Value.slice.injEq, true_and] at k2
  obtain ⟨rfl, rfl⟩ := k2
  obtain ⟨u3, e3, k3, d3⟩ := r3.rd encI_len
  simp only [Value.slice.injEq, true_and] at k3
  obtain ⟨rfl, rfl⟩ := k3
  obtain ⟨u4, e4, k4, d4⟩ := r4.rd encI_len
  simp only [Value.slice.injEq, true_and] at k4
  obtain ⟨rfl, rfl⟩ := k4
  obtain ⟨u5, e5, k5, d5⟩ := r5.rd encI_len
  simp only [Value.slice.injEq, true_and] at k5
  obtain ⟨rfl, rfl⟩ := k5
  exact ⟨_, _, _, _, _, _, _, _, rfl, d2, d3, d4, d5⟩
theorem CacheD.Own.below {w : World} {B B1 : Nat} {v : Value} {x : CacheD} (h : CacheD.Own w B B1 v x) {w' : World} {C : Nat} (hb : Below C w w') (hC : w.heap.size ≤ C) : CacheD.Own w' B B1 v x := by
  obtain ⟨a2, c2, a3, c3, a4, c4, a5, c5, rfl, r2, r3, r4, r5, p2_3, p2_4, p2_5, p3_4, p3_5, p4_5⟩ := h
  exact ⟨a2, c2, a3, c3, a4, c4, a5, c5, rfl, r2.below hb hC, r3.below hb hC, r4.below hb hC, r5.below hb hC, p2_3, p2_4, p2_5, p3_4, p3_5, p4_5⟩
theorem CacheD.Own.mono {w : World} {B B1 : Nat} {v : Value} {x : CacheD} (h : CacheD.Own w B B1 v x) {B' B1' : Nat} (hB : B' ≤ B) (hB1 : B1 ≤ B1') : CacheD.Own w B' B1' v x := by
  obtain ⟨a2, c2, a3, c3, a4, c4, a5, c5, rfl, r2, r3, r4, r5, p2_3, p2_4, p2_5, p3_4, p3_5, p4_5⟩ := h
  exact ⟨a2, c2, a3, c3, a4, c4, a5, c5, rfl, r2.mono hB hB1, r3.mono hB hB1, r4.mono hB hB1, r5.mono hB hB1, p2_3, p2_4, p2_5, p3_4, p3_5, p4_5⟩
theorem CacheD.Own.set {w : World} {B B1 : Nat} {v : Value} {x : CacheD} (h : CacheD.Own w B B1 v x) {p : Addr} (hp : p.block < B) (u : Value) : CacheD.Own (w.setCell p u) B B1 v x := by
  obtain ⟨a2, c2, a3, c3, a4, c4, a5, c5, rfl, r2, r3, r4, r5, p2_3, p2_4, p2_5, p3_4, p3_5, p4_5⟩ := h
  exact ⟨a2, c2, a3, c3, a4, c4, a5, c5, rfl, r2.set hp u, r3.set hp u, r4.set hp u, r5.set hp u, p2_3, p2_4, p2_5, p3_4, p3_5, p4_5⟩
def CacheD.bulk (x : CacheD) : Nat := x.fOnce.length + x.fOften.length + x.fPast.length + x.fFormer.length
structure CacheD.Small (x : CacheD) : Prop where
  s2_0 : x.fOnce.length ≤ 9223372036854775807
  s3_0 : x.fOften.length ≤ 9223372036854775807
  s4_0 : x.fPast.length ≤ 9223372036854775807
  s5_0 : x.fFormer.length ≤ 9223372036854775807
structure CacheD.Fit (x : CacheD) : Prop where
  f2 : x.fOnce.length ≤ 1048576
  f3 : x.fOften.length ≤ 1048576
  f4 : x.fPast.length ≤ 1048576
  f5 : x.fFormer.length ≤ 1048576
theorem CacheD.fit {x : CacheD} (h : x.bulk ≤ 1048576) : x.Fit := by
  unfold CacheD.bulk at h
  exact ⟨by omega, by omega, by omega, by omega⟩
end Go.Proofs.YtdlmlagcniifjaaGreatDoor
