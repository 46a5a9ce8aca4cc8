/- A part of the proof in YtoaopmkbfifhaaaGreatDoorIwLZ29. -/
import Derived.Lib.Atoi
import Derived.Test.YtoaopmkbfifhaaaGreatDoorIwLZ20
/- Numbers read from texts: plain. -/
namespace Go.Proofs.YtoaopmkbfifhaaaGreatDoor
set_option linter.unusedVariables false
set_option linter.unusedSimpArgs false
set_option maxHeartbeats 1000000
set_option maxRecDepth 100000
open Go.RowKit Go.Lib

theorem digit_of {d : Nat} (h : d < 10) : digitVal (UInt8.ofNat (48 + d)) = some d := by
  unfold digitVal
  have : (UInt8.ofNat (48 + d)).toNat = 48 + d := by rw [UInt8.toNat_ofNat']; omega
  rw [this, if_pos (by omega)]
  congr 1; omega
theorem digit_back {b : UInt8} {d : Nat} (h : digitVal b = some d) : b = UInt8.ofNat (48 + d) ∧ d < 10 := by
  unfold digitVal at h
  split at h
  · rename_i hb
    obtain rfl := Option.some.inj h
    refine ⟨UInt8.toNat_inj.1 ?_, by omega⟩
    rw [UInt8.toNat_ofNat']; omega
  · cases h
theorem decFrom_app (a b : List UInt8) : ∀ acc, decFrom acc (a ++ b) = (decFrom acc a).bind fun n => decFrom n b := by
  induction a with
  | nil => intro acc; rfl
  | cons x t ih =>
    intro acc
    show (match digitVal x with | some d => decFrom (acc * 10 + d) (t ++ b) | none => none) = (match digitVal x with | some d => decFrom (acc * 10 + d) t | none => none).bind _
    cases digitVal x with
    | none => rfl
    | some d => exact ih _
theorem decFrom_snoc {a : List UInt8} {acc n d : Nat} {b : UInt8} (h : decFrom acc a = some n) (hd : digitVal b = some d) : decFrom acc (a ++ [b]) = some (n * 10 + d) := by
  rw [decFrom_app, h]
  show (match digitVal b with | some d => decFrom (n * 10 + d) [] | none => none) = _
  rw [hd]; rfl
theorem decDigits_ne (n : Nat) : decDigits n ≠ [] := fun h => by have := nDigits_pos n; rw [← decDigits_length, h] at this; simp at this
theorem decFrom_digits (n : Nat) : decFrom 0 (decDigits n) = some n := by
  induction n using Nat.strongRecOn with
  | _ n ih =>
    by_cases h : n < 10
    · rw [decDigits_one h]
      have := decFrom_snoc (a := []) (acc := 0) (n := 0) rfl (digit_of h)
      simpa using this
    · rw [decDigits, dif_neg h]
      rw [decFrom_snoc (ih (n / 10) (by omega)) (digit_of (by omega))]
      congr 1; omega
theorem digits_all (n : Nat) : ∀ b ∈ decDigits n, ∃ d, digitVal b = some d := by
  induction n using Nat.strongRecOn with
  | _ n ih =>
    by_cases h : n < 10
    · rw [decDigits_one h]
      intro b hb
      obtain rfl := List.mem_singleton.1 hb
      exact ⟨_, digit_of h⟩
    · rw [decDigits, dif_neg h]
      intro b hb
      rcases List.mem_append.1 hb with hb | hb
      · exact ih (n / 10) (by omega) b hb
      · obtain rfl := List.mem_singleton.1 hb
        exact ⟨_, digit_of (by omega)⟩
/-- The number that a number text is of. -/
def numG (s : ByteArray) : Option Nat := match decNat s.data.toList with
  | some n => if n ≤ 999999999 ∧ decB n = s then some n else none
  | none => none
theorem numG_dec {n : Nat} (h : n ≤ 999999999) : numG (decB n) = some n := by
  unfold numG
  have : decNat (decB n).data.toList = some n := by
    unfold decNat
    rw [decB_list, if_neg (by simp; exact decDigits_ne n), decFrom_digits]
  rw [this]
  exact if_pos ⟨h, rfl⟩
theorem numG_some {s : ByteArray} {n : Nat} (h : numG s = some n) : n ≤ 999999999 ∧ s = decB n := by
  unfold numG at h
  cases hd : decNat s.data.toList with
  | none => rw [hd] at h; cases h
  | some m =>
    rw [hd] at h
    by_cases hc : m ≤ 999999999 ∧ decB m = s
    · have h : (if m ≤ 999999999 ∧ decB m = s then some m else none) = some n := h
      rw [if_pos hc] at h
      obtain rfl := Option.some.inj h
      exact ⟨hc.1, hc.2.symm⟩
    · have h : (if m ≤ 999999999 ∧ decB m = s then some m else none) = some n := h
      rw [if_neg hc] at h; cases h
/-- The program's reading. -/
theorem atoi_dec (n : Nat) : atoi (decB n).data.toList = some (n : Int) := by
  rw [decB_list]
  cases hl : decDigits n with
  | nil => exact absurd hl (decDigits_ne n)
  | cons b t =>
    obtain ⟨d, hd⟩ := digits_all n b (by rw [hl]; exact List.mem_cons_self ..)
    obtain ⟨e, hlt⟩ := digit_back hd
    have h45 : (b == 45) = false := by
      rw [beq_eq_false_iff_ne]; intro e2
      have := congrArg UInt8.toNat (e.symm.trans e2)
      rw [UInt8.toNat_ofNat'] at this
      have h : (45 : UInt8).toNat = 45 := rfl
      omega
    have h43 : (b == 43) = false := by
      rw [beq_eq_false_iff_ne]; intro e2
      have := congrArg UInt8.toNat (e.symm.trans e2)
      rw [UInt8.toNat_ofNat'] at this
      have h : (43 : UInt8).toNat = 43 := rfl
      omega
    have hdn : decNat (b :: t) = some n := by
      unfold decNat
      rw [if_neg (by simp), ← hl, decFrom_digits]
    have hm : atoi (b :: t) = (decNat (b :: t)).map fun (m : Nat) => (m : Int) := by unfold atoi; simp [h45, h43]
    rw [hm, hdn]; rfl
theorem numG_yes {s : ByteArray} {n : Int} (h : atoi s.data.toList = some n) (hb : (numB n) = s) : ∃ m : Nat, n = m ∧ numG s = some m := by
  by_cases hr : 0 ≤ n ∧ n ≤ 999999999
  · refine ⟨n.toNat, by omega, ?_⟩
    rw [← hb, numB_in hr.1 hr.2]; exact numG_dec (by omega)
  · rw [numB_out hr] at hb
    rw [← hb] at h; cases h
theorem numG_no {s : ByteArray} (h : ∀ n : Nat, n ≤ 999999999 → s = decB n → False) : numG s = none := by
  cases hg : numG s with
  | none => rfl
  | some n => exact (h n (numG_some hg).1 (numG_some hg).2).elim
theorem decB_9 {n : Nat} (h : n ≤ 999999999) : (decB n).size ≤ 9 := decB_le (k := 8) (by omega)
end Go.Proofs.YtoaopmkbfifhaaaGreatDoor

/- Drawing numbers and texts. -/
namespace Go.Proofs.YtoaopmkbfifhaaaGreatDoor
set_option linter.unusedVariables false
set_option linter.unusedSimpArgs false
set_option maxHeartbeats 1000000
set_option maxRecDepth 100000
open Go.RowKit

theorem u8_b (b : UInt8) : 0 ≤ (b.toNat : Int) ∧ (b.toNat : Int) ≤ 255 := by have := b.toNat_lt; omega

theorem pick_any (w0 w : World) (rb : Nat) (ab : Option Addr) (n cb : Nat) (bs : List UInt8) (hn : n ≤ 2000) (hR : Rd encB 1 w0 ab n bs) (B : Nat) (hB : B ≤ 1000000) (m : Int) (hm : m ≤ 1000000) (F : List Asr) (hS : St w0 (rdA rb ab n cb B :: F) w) : Calls Tryz.prog 94 #[.pointer (some ⟨rb, 0, none⟩), .int .i64 m] w fun e w' => ∃ v : Int, e = .returned (.int .i64 v) ∧ 0 ≤ v ∧ (v < m ∨ v = 0) ∧ St w0 (rdA rb ab n cb (B + 1) :: F) w' := by
 obtain ⟨p, hpB, h0⟩ := hS.rdOpen
 have HS := Bx.mk h0; clear h0 hS
 have hbl : bs.length = n := hR.len
 obtain ⟨g, off, r0⟩ := hR.opn; have RB := Bx.mk r0; clear r0 hR
 refine wc_enter Tryz.func94 rfl Tryz.ntmps94 [(0, .pointer (some ⟨rb, 0, none⟩)), (1, .int .i64 m)] ⟨rfl, rfl, trivial⟩ rfl ?_; intro a HF
 refine wp_sr ?_
 refine za HF ?_;clear HF a;intro a HF
 refine wl_ne ?_
 refine wp_sr ?_
 refine zm HF ?_;clear HF a;intro a HF
 refine zm HF ?_;clear HF a;intro a HF
 refine zy HF (yl_nilCheck rfl (HF.ev rfl)) ?_;clear HF a;intro a HF
 refine zy HF (yfa 1 rfl (HF.ev rfl)) ?_;clear HF a;intro a HF
 refine zy HF (ylo (v := .int .i64 (p : Int)) rfl (HF.ev rfl) (((HS.out.box 0 rfl).cell 1).trans rfl)) ?_;clear HF a;intro a HF
 refine zy HF (yl_addI rfl (HF.ev rfl) (HF.ev rfl) (i64w (by omega))) ?_;clear HF a;intro a HF
 refine zy HF (yl_nilCheck rfl (HF.ev rfl)) ?_;clear HF a;intro a HF
 refine zy HF (yfa 1 rfl (HF.ev rfl)) ?_;clear HF a;intro a HF
 refine wl_storeF rfl rfl rfl (HF.ev rfl) (HF.ev rfl) (by kernel_rfl) HS.out 0 rfl rfl rfl ?_; clear HS; intro w1 HS; replace HS := Bx.mk HS
 have HS : Bx (St w0 (boxA rb 2 129 (.agg #[.slice ab n cb, .int .i64 ((p : Int) + 1)]) :: F) _) := HS
 refine wl_ne ?_
 refine wp_seq ?_
 refine wp_sr ?_
 refine zm HF ?_;clear HF a;intro a HF
 refine zy HF (yl_lssI rfl (HF.ev rfl) (HF.ev rfl)) ?_;clear HF a;intro a HF
 refine zm HF ?_;clear HF a;intro a HF
 refine HF.cases 17 rfl (fun cc1 _ => ?_) fun cc1 _ => ?_
 ·clear HF;rename_i HF
  have dcc1 := of_decide_eq_true cc1
  refine zk HF ?_;clear HF a;intro a HF
  refine zk HF ?_;clear HF a;intro a HF
  refine zk HF ?_;clear HF a;intro a HF
  refine zk HF ?_;clear HF a;intro a HF
  refine zk HF ?_;clear HF a;intro a HF
  refine zk HF ?_;clear HF a;intro a HF
  refine zy HF (yl_pick_t rfl (HF.ev rfl) (HF.ev rfl)) ?_;clear HF a;intro a HF
  refine wl_ne ?_
  refine wc_true HF rfl ?_
  refine wp_sr ?_
  refine za HF ?_;clear HF a;intro a HF
  refine wl_ne ?_
  refine wp_ret ?_
  refine ex_then_ret ?_
  refine bp_ret1 HF Tryz.results94 (HF.res rfl) ?_
  exact ⟨_, rfl, by omega, by omega, St.rdMk (p := p + 1) (by omega) HS.out⟩
 ·clear HF;rename_i HF
  have dcc1 := of_decide_eq_false cc1
  refine zg HF (yl_move rfl (HF.ev rfl)) ?_;clear HF a;intro a HF
  refine zg HF (yl_nilCheck rfl (HF.ev rfl)) ?_;clear HF a;intro a HF
  refine zg HF (yfa 0 rfl (HF.ev rfl)) ?_;clear HF a;intro a HF
  refine zg HF (ylo (v := .slice ab n cb) rfl (HF.ev rfl) (((HS.out.box 0 rfl).cell 0).trans rfl)) ?_;clear HF a;intro a HF
  refine zg HF (yl_lenL (e := 5) (size := 1) rfl (HF.ev rfl) (by kernel_rfl)) ?_;clear HF a;intro a HF
  refine zg HF (yl_eqlI rfl (HF.ev rfl) (HF.ev rfl)) ?_;clear HF a;intro a HF
  refine zy HF (yl_pick_f rfl (HF.ev rfl) (HF.ev rfl)) ?_;clear HF a;intro a HF
  refine wl_ne ?_
  refine HF.cases 24 rfl (fun cc2 _ => ?_) fun cc2 _ => ?_
  ·clear HF;rename_i HF
   have dcc2 := eq_of_beq cc2
   refine wc_true HF rfl ?_
   refine wp_sr ?_
   refine za HF ?_;clear HF a;intro a HF
   refine wl_ne ?_
   refine wp_ret ?_
   refine ex_then_ret ?_
   refine bp_ret1 HF Tryz.results94 (HF.res rfl) ?_
   exact ⟨_, rfl, by omega, by omega, St.rdMk (p := p + 1) (by omega) HS.out⟩
  ·clear HF;rename_i HF
   have dcc2 := ne_of_beq_false cc2
   refine wc_false HF rfl ?_
   refine wp_skip ?_
   refine ex_then ?_
   refine wp_sr ?_
   refine zm HF ?_;clear HF a;intro a HF
   refine zy HF (yl_nilCheck rfl (HF.ev rfl)) ?_;clear HF a;intro a HF
   refine zy HF (yfa 1 rfl (HF.ev rfl)) ?_;clear HF a;intro a HF
   refine zy HF (ylo (v := .int .i64 ((p : Int) + 1)) rfl (HF.ev rfl) (((HS.out.box 0 rfl).cell 1).trans rfl)) ?_;clear HF a;intro a HF
   refine zy HF (yl_subI (r := (p : Int)) rfl (HF.ev rfl) (HF.ev rfl) ((i64w (by omega)).trans (by omega))) ?_;clear HF a;intro a HF
   refine za HF ?_;clear HF a;intro a HF
   refine wl_ne ?_
   refine wp_seq ?_
   refine wp_sr ?_
   refine zm HF ?_;clear HF a;intro a HF
   refine zm HF ?_;clear HF a;intro a HF
   refine zy HF (yl_nilCheck rfl (HF.ev rfl)) ?_;clear HF a;intro a HF
   refine zy HF (yfa 0 rfl (HF.ev rfl)) ?_;clear HF a;intro a HF
   refine zy HF (ylo (v := .slice ab n cb) rfl (HF.ev rfl) (((HS.out.box 0 rfl).cell 0).trans rfl)) ?_;clear HF a;intro a HF
   refine zy HF (yl_lenL (e := 5) (size := 1) rfl (HF.ev rfl) (by kernel_rfl)) ?_;clear HF a;intro a HF
   refine zy HF (yl_lssI rfl (HF.ev rfl) (HF.ev rfl)) ?_;clear HF a;intro a HF
   refine wl_ne ?_
   refine HF.cases 36 rfl (fun cc3 _ => ?_) fun cc3 _ => ?_
   ·clear HF;rename_i HF
    have dcc3 := of_decide_eq_true cc3
    refine wc_true HF rfl ?_
    refine wp_seq ?_
    have hb1 := u8_b (bs.getD p 0)
    refine wp_region_lit ?_
    refine zm HF ?_;clear HF a;intro a HF
    refine zy HF (yl_nilCheck rfl (HF.ev rfl)) ?_;clear HF a;intro a HF
    refine zy HF (yfa 0 rfl (HF.ev rfl)) ?_;clear HF a;intro a HF
    refine zy HF (ylo (v := .slice ab n cb) rfl (HF.ev rfl) (((HS.out.box 0 rfl).cell 0).trans rfl)) ?_;clear HF a;intro a HF
    refine zm HF ?_;clear HF a;intro a HF
    refine zy HF (yl_indexAddrR (e := 5) (i := p) (size := 1) rfl (HF.ev rfl) (HF.ev rfl) (by kernel_rfl) rfl (by omega) (RB.out.ao p (by omega))) ?_;clear HF a;intro a HF
    refine zy HF (ylo (v := .int .u8 ((bs.getD p 0).toNat : Int)) rfl (HF.ev rfl) (RB.out.elem1 HS.out (get_getD (xs := bs) (j := p) (d := 0) (by omega)) rfl)) ?_;clear HF a;intro a HF
    refine zy HF (yl_convU8 (n := ((bs.getD p 0).toNat : Int)) rfl (HF.ev rfl) (u8_b _) (by kernel_rfl) (by kernel_rfl)) ?_;clear HF a;intro a HF
    refine zm HF ?_;clear HF a;intro a HF
    refine zy HF (yl_remI rfl (HF.ev rfl) (HF.ev rfl) (by omega) (rem_pos (by omega) (by omega))) ?_;clear HF a;intro a HF
    refine za HF ?_;clear HF a;intro a HF
    refine wl_ne ?_
    refine wp_ret ?_
    refine ex_then_ret ?_
    refine bp_ret1 HF Tryz.results94 (HF.res rfl) ?_
    have e8 := Int.emod_nonneg (((bs.getD p 0).toNat : Int)) (show m ≠ 0 by omega); have e9 := Int.emod_lt_of_pos (((bs.getD p 0).toNat : Int)) (show 0 < m by omega)
    exact ⟨_, rfl, by omega, by omega, St.rdMk (p := p + 1) (by omega) HS.out⟩
   ·clear HF;rename_i HF
    have dcc3 := of_decide_eq_false cc3
    refine wc_false HF rfl ?_
    refine wp_skip ?_
    refine ex_then ?_
    refine wp_seq ?_
    have e1 := Int.emod_nonneg (p : Int) (show (n : Int) ≠ 0 by omega); have e2 := Int.emod_lt_of_pos (p : Int) (show (0 : Int) < (n : Int) by omega)
    have e3 := Int.emod_nonneg ((p : Int) * 7 + 3) (show (n : Int) ≠ 0 by omega); have e4 := Int.emod_lt_of_pos ((p : Int) * 7 + 3) (show (0 : Int) < (n : Int) by omega)
    have e5 := Int.ediv_nonneg (show (0 : Int) ≤ (p : Int) by omega) (show (0 : Int) ≤ (n : Int) by omega); have e6 := Int.ediv_le_self (a := (p : Int)) (n : Int) (by omega)
    obtain ⟨i1, hi1⟩ : ∃ i1 : Nat, (p : Int) % (n : Int) = (i1 : Int) := ⟨((p : Int) % (n : Int)).toNat, by omega⟩; obtain ⟨i2, hi2⟩ : ∃ i2 : Nat, ((p : Int) * 7 + 3) % (n : Int) = (i2 : Int) := ⟨(((p : Int) * 7 + 3) % (n : Int)).toNat, by omega⟩
    have hb1 := u8_b (bs.getD i1 0); have hb2 := u8_b (bs.getD i2 0)
    refine wr_quiet (by kernel_rfl) (by kernel_rfl) HS.out ?_
    refine zq HF (fun _ HS => (yl_move rfl (HF.ev rfl))) ?_;clear HF a;intro a HF
    refine zq HF (fun _ HS => (yl_nilCheck rfl (HF.ev rfl))) ?_;clear HF a;intro a HF
    refine zq HF (fun _ HS => (yfa 0 rfl (HF.ev rfl))) ?_;clear HF a;intro a HF
    refine zq HF (fun _ HS => (ylo (v := .slice ab n cb) rfl (HF.ev rfl) (((HS.box 0 rfl).cell 0).trans rfl))) ?_;clear HF a;intro a HF
    refine zq HF (fun _ HS => (yl_move rfl (HF.ev rfl))) ?_;clear HF a;intro a HF
    refine zq HF (fun _ HS => (yl_move rfl (HF.ev rfl))) ?_;clear HF a;intro a HF
    refine zq HF (fun _ HS => (yl_nilCheck rfl (HF.ev rfl))) ?_;clear HF a;intro a HF
    refine zq HF (fun _ HS => (yfa 0 rfl (HF.ev rfl))) ?_;clear HF a;intro a HF
    refine zq HF (fun _ HS => (ylo (v := .slice ab n cb) rfl (HF.ev rfl) (((HS.box 0 rfl).cell 0).trans rfl))) ?_;clear HF a;intro a HF
    refine zq HF (fun _ HS => (yl_lenL (e := 5) (size := 1) rfl (HF.ev rfl) (by kernel_rfl))) ?_;clear HF a;intro a HF
    refine zq HF (fun _ HS => (yl_remI rfl (HF.ev rfl) (HF.ev rfl) (by omega) (rem_pos (by omega) (by omega)))) ?_;clear HF a;intro a HF
    refine zq HF (fun _ HS => (yl_indexAddrR (e := 5) (i := i1) (size := 1) rfl (HF.ev rfl) (HF.ev rfl) (by kernel_rfl) (by omega) (by omega) (RB.out.ao i1 (by omega)))) ?_;clear HF a;intro a HF
    refine zq HF (fun _ HS => (ylo (v := .int .u8 ((bs.getD i1 0).toNat : Int)) rfl (HF.ev rfl) (RB.out.elem1 HS (get_getD (xs := bs) (j := i1) (d := 0) (by omega)) rfl))) ?_;clear HF a;intro a HF
    refine zq HF (fun _ HS => (yl_convU8 (n := ((bs.getD i1 0).toNat : Int)) rfl (HF.ev rfl) (u8_b _) (by kernel_rfl) (by kernel_rfl))) ?_;clear HF a;intro a HF
    refine zq HF (fun _ HS => (yl_mulI rfl (HF.ev rfl) (HF.ev rfl) (i64w (by omega)))) ?_;clear HF a;intro a HF
    refine zq HF (fun _ HS => (yl_move rfl (HF.ev rfl))) ?_;clear HF a;intro a HF
    refine zq HF (fun _ HS => (yl_nilCheck rfl (HF.ev rfl))) ?_;clear HF a;intro a HF
    refine zq HF (fun _ HS => (yfa 0 rfl (HF.ev rfl))) ?_;clear HF a;intro a HF
    refine zq HF (fun _ HS => (ylo (v := .slice ab n cb) rfl (HF.ev rfl) (((HS.box 0 rfl).cell 0).trans rfl))) ?_;clear HF a;intro a HF
    refine zq HF (fun _ HS => (yl_move rfl (HF.ev rfl))) ?_;clear HF a;intro a HF
    refine zq HF (fun _ HS => (yl_mulI rfl (HF.ev rfl) (HF.ev rfl) (i64w (by omega)))) ?_;clear HF a;intro a HF
    refine zq HF (fun _ HS => (yl_addI rfl (HF.ev rfl) (HF.ev rfl) (i64w (by omega)))) ?_;clear HF a;intro a HF
    refine zq HF (fun _ HS => (yl_move rfl (HF.ev rfl))) ?_;clear HF a;intro a HF
    refine zq HF (fun _ HS => (yl_nilCheck rfl (HF.ev rfl))) ?_;clear HF a;intro a HF
    refine zq HF (fun _ HS => (yfa 0 rfl (HF.ev rfl))) ?_;clear HF a;intro a HF
    refine zq HF (fun _ HS => (ylo (v := .slice ab n cb) rfl (HF.ev rfl) (((HS.box 0 rfl).cell 0).trans rfl))) ?_;clear HF a;intro a HF
    refine zq HF (fun _ HS => (yl_lenL (e := 5) (size := 1) rfl (HF.ev rfl) (by kernel_rfl))) ?_;clear HF a;intro a HF
    refine zq HF (fun _ HS => (yl_remI rfl (HF.ev rfl) (HF.ev rfl) (by omega) (rem_pos (by omega) (by omega)))) ?_;clear HF a;intro a HF
    refine zq HF (fun _ HS => (yl_indexAddrR (e := 5) (i := i2) (size := 1) rfl (HF.ev rfl) (HF.ev rfl) (by kernel_rfl) (by omega) (by omega) (RB.out.ao i2 (by omega)))) ?_;clear HF a;intro a HF
    refine zq HF (fun _ HS => (ylo (v := .int .u8 ((bs.getD i2 0).toNat : Int)) rfl (HF.ev rfl) (RB.out.elem1 HS (get_getD (xs := bs) (j := i2) (d := 0) (by omega)) rfl))) ?_;clear HF a;intro a HF
    refine zq HF (fun _ HS => (yl_convU8 (n := ((bs.getD i2 0).toNat : Int)) rfl (HF.ev rfl) (u8_b _) (by kernel_rfl) (by kernel_rfl))) ?_;clear HF a;intro a HF
    refine zq HF (fun _ HS => (yl_mulI rfl (HF.ev rfl) (HF.ev rfl) (i64w (by omega)))) ?_;clear HF a;intro a HF
    refine zq HF (fun _ HS => (yl_addI rfl (HF.ev rfl) (HF.ev rfl) (i64w (by omega)))) ?_;clear HF a;intro a HF
    refine zq HF (fun _ HS => (yl_move rfl (HF.ev rfl))) ?_;clear HF a;intro a HF
    refine zq HF (fun _ HS => (yl_mulI rfl (HF.ev rfl) (HF.ev rfl) (i64w (by omega)))) ?_;clear HF a;intro a HF
    refine zq HF (fun _ HS => (yl_addI rfl (HF.ev rfl) (HF.ev rfl) (i64w (by omega)))) ?_;clear HF a;intro a HF
    refine zq HF (fun _ HS => (yl_move rfl (HF.ev rfl))) ?_;clear HF a;intro a HF
    refine zq HF (fun _ HS => (yl_move rfl (HF.ev rfl))) ?_;clear HF a;intro a HF
    refine zq HF (fun _ HS => (yl_nilCheck rfl (HF.ev rfl))) ?_;clear HF a;intro a HF
    refine zq HF (fun _ HS => (yfa 0 rfl (HF.ev rfl))) ?_;clear HF a;intro a HF
    refine zq HF (fun _ HS => (ylo (v := .slice ab n cb) rfl (HF.ev rfl) (((HS.box 0 rfl).cell 0).trans rfl))) ?_;clear HF a;intro a HF
    refine zq HF (fun _ HS => (yl_lenL (e := 5) (size := 1) rfl (HF.ev rfl) (by kernel_rfl))) ?_;clear HF a;intro a HF
    refine zq HF (fun _ HS => (yl_quoI rfl (HF.ev rfl) (HF.ev rfl) (by omega) (quo_pos (by omega) (by omega) (by omega)))) ?_;clear HF a;intro a HF
    refine zq HF (fun _ HS => (yl_mulI rfl (HF.ev rfl) (HF.ev rfl) (i64w (by omega)))) ?_;clear HF a;intro a HF
    refine zq HF (fun _ HS => (yl_addI rfl (HF.ev rfl) (HF.ev rfl) (i64w (by omega)))) ?_;clear HF a;intro a HF
    refine zq HF (fun _ HS => (yl_assign rfl (HF.ev rfl))) ?_;clear HF a;intro a HF
    refine wpQuiet_nil ?_; intro w2 HS; replace HS := Bx.mk HS
    refine ex_then ?_
    refine wp_seq ?_
    obtain ⟨xn, hxn⟩ : ∃ xn : Nat, ((((((bs.getD i1 0).toNat : Int) * 131) + (((bs.getD i2 0).toNat : Int) * 1117)) + ((p : Int) * 29)) + (((p : Int) / (n : Int)) * 53)) = (xn : Int) := ⟨((((((bs.getD i1 0).toNat : Int) * 131) + (((bs.getD i2 0).toNat : Int) * 1117)) + ((p : Int) * 29)) + (((p : Int) / (n : Int)) * 53)).toNat, by omega⟩; have hxb : xn < 1000000000000 := (by omega); rw [hxn] at HF
    refine wp_region_lit ?_
    refine zm HF ?_;clear HF a;intro a HF
    refine zm HF ?_;clear HF a;intro a HF
    refine zy HF (yl_quoI rfl (HF.ev rfl) (HF.ev rfl) (by omega) (quo_pos (by omega) (by omega) (by omega))) ?_;clear HF a;intro a HF
    refine zy HF (yl_xorI (m := xn) (n := (xn / 64)) rfl (HF.ev rfl) (HF.ev rfl) (by omega) (by omega)) ?_;clear HF a;intro a HF
    refine za HF ?_;clear HF a;intro a HF
    refine wl_ne ?_
    refine wp_sr ?_
    refine zm HF ?_;clear HF a;intro a HF
    refine zm HF ?_;clear HF a;intro a HF
    refine zy HF (yl_remI rfl (HF.ev rfl) (HF.ev rfl) (by omega) (rem_pos (by omega) (by omega))) ?_;clear HF a;intro a HF
    refine za HF ?_;clear HF a;intro a HF
    refine wl_ne ?_
    refine wp_ret ?_
    refine bp_ret1 HF Tryz.results94 (HF.res rfl) ?_
    have e8 := Int.emod_nonneg (((xn ^^^ (xn / 64) : Nat) : Int)) (show m ≠ 0 by omega); have e9 := Int.emod_lt_of_pos (((xn ^^^ (xn / 64) : Nat) : Int)) (show 0 < m by omega)
    exact ⟨_, rfl, by omega, by omega, St.rdMk (p := p + 1) (by omega) HS.out⟩

theorem pickN (w0 w : World) (rb : Nat) (ab : Option Addr) (n cb : Nat) (bs : List UInt8) (hn : n ≤ 2000) (hR : Rd encB 1 w0 ab n bs) (B : Nat) (hB : B ≤ 950000) (m : Int) (hm : m ≤ 1000000) (F : List Asr) (hS : St w0 (rdA rb ab n cb B :: F) w) : Calls Tryz.prog 94 #[.pointer (some ⟨rb, 0, none⟩), .int .i64 m] w fun e w' => ∃ v : Nat, e = .returned (.int .i64 (v : Int)) ∧ ((v : Int) < m ∨ v = 0) ∧ St w0 (rdA rb ab n cb (B + 1) :: F) w' := by
  refine (pick_any w0 w rb ab n cb bs hn hR B (by omega) m hm F hS).mono ?_
  rintro e w' ⟨v, rfl, h0, h1, hs⟩
  obtain ⟨u, rfl⟩ := Int.eq_ofNat_of_zero_le h0
  exact ⟨u, rfl, by omega, hs⟩

end Go.Proofs.YtoaopmkbfifhaaaGreatDoor

/- Numbers read from texts: walked. -/
namespace Go.Proofs.YtoaopmkbfifhaaaGreatDoor
set_option linter.unusedVariables false
set_option linter.unusedSimpArgs false
set_option maxHeartbeats 1000000
set_option maxRecDepth 100000
open Go.RowKit

section
variable {P : Program} {w : World} {o : Oper} {a : Act} {t t' : TypeId} {x y : Operand}
theorem yl_neNil (ho : o.op = .binOp .neq t x (.const .nilIface) t') (hu : P.underlying t = some (.interface (P.methodsAt t))) (hx : a.eval x = .nilIface) : Yl P w o a (.bool false) := by
  have hy : a.eval (.const .nilIface) = .nilIface := rfl
  simp [Yl, execOp, ho, hx, hy, eqGuard, binOp, run_equal_nil_nil w t hu]
theorem yl_neErr (ho : o.op = .binOp .neq t x (.const .nilIface) t') (hu : P.underlying t = some (.interface (P.methodsAt t))) {te : TypeId} {pe : Value} (hx : a.eval x = .iface te pe) : Yl P w o a (.bool true) := by
  have hy : a.eval (.const .nilIface) = .nilIface := rfl
  simp [Yl, execOp, ho, hx, hy, eqGuard, binOp, run_equal_held_nil w t te pe hu]
end
/-- The variable of the library that tells of a bad number holds an error. -/
def ErrP (w : World) : Prop := ∃ te pe, w.cell? ⟨2, 0, none⟩ = some (.iface te pe)
theorem ErrP.below {w w' : World} (h : ErrP w) (hb : Below w.heap.size w w') : ErrP w' := by
  obtain ⟨te, pe, hm⟩ := h
  have hlt : 2 < w.heap.size := World.block_lt_of_cell? w _ hm
  exact ⟨te, pe, (hb.cell (p := ⟨2, 0, none⟩) hlt).trans hm⟩
theorem atoi_ways (s : ByteArray) (w : World) (hl : s.size ≤ 18) (hE : ErrP w) : Calls Tryz.prog 167 #[.string s] w fun e w' => (∃ n, Go.Lib.atoi s.data.toList = some n ∧ e = .returned (.tuple #[.int .i64 n, .nilIface]) ∧ Below w.heap.size w w') ∨ (∃ te pe, Go.Lib.atoi s.data.toList = none ∧ e = .returned (.tuple #[.int .i64 0, .iface te pe]) ∧ Below w.heap.size w w') := by
  cases h : Go.Lib.atoi s.data.toList with
  | some n =>
    refine (Any.strconv_Atoi layAtoi s n hl h w).mono ?_
    rintro e w' ⟨rfl, t, rfl⟩
    exact .inl ⟨n, rfl, rfl, Go.Lib.bytesWorld_below _ _ _⟩
  | none =>
    obtain ⟨te, pe, hv⟩ := hE
    refine (Any.strconv_Atoi_err layAtoiC s hl h (.iface te pe) w hv (.inr ⟨te, pe, rfl⟩)).mono ?_
    rintro e w' ⟨N, rfl, _, _, hb⟩
    exact .inr ⟨_, _, rfl, rfl, hb⟩
theorem implNumGet_any (s : ByteArray) (w0 : World) (hT : TabP w0) (hE : ErrP w0) : Calls Tryz.prog 143 #[.string s] w0 fun e w' => ((∃ n : Nat, numG s = some n ∧ e = .returned (.tuple #[.int .i64 (n : Int), .bool true]) ∧ Below w0.heap.size w0 w') ∨ (numG s = none ∧ e = .returned (.tuple #[.int .i64 0, .bool false]) ∧ Below w0.heap.size w0 w')) := by
 have HT := Bx.mk hT; clear hT
 have HE := Bx.mk hE; clear hE
 have HS := Bx.mk (St.start w0)
 refine wc_enter Tryz.func143 rfl Tryz.ntmps143 [(0, .string s)] ⟨rfl, trivial⟩ rfl ?_; intro a HF
 refine wp_sr ?_
 refine za HF ?_;clear HF a;intro a HF
 refine za HF ?_;clear HF a;intro a HF
 refine wl_ne ?_
 refine wp_seq ?_
 refine wp_sr ?_
 refine zm HF ?_;clear HF a;intro a HF
 refine zy HF (yl_lenS rfl (HF.ev rfl) (by kernel_rfl)) ?_;clear HF a;intro a HF
 refine zy HF (yl_gtrI rfl (HF.ev rfl) (HF.ev rfl)) ?_;clear HF a;intro a HF
 refine wl_ne ?_
 refine HF.cases 8 rfl (fun cc1 _ => ?_) fun cc1 _ => ?_
 ·clear HF;rename_i HF
  have dcc1 := of_decide_eq_true cc1
  refine wc_true HF rfl ?_
  refine wp_sr ?_
  refine za HF ?_;clear HF a;intro a HF
  refine za HF ?_;clear HF a;intro a HF
  refine wl_ne ?_
  refine wp_ret ?_
  refine ex_then_ret ?_
  refine bp_ret2 HF Tryz.results143 (HF.res rfl) (HF.res rfl) ?_
  exact .inr ⟨numG_no fun m hm e => by have := decB_9 hm; rw [← e] at this; omega, rfl, HS.out.bel⟩
 ·clear HF;rename_i HF
  have dcc1 := of_decide_eq_false cc1
  refine wc_false HF rfl ?_
  refine wp_skip ?_
  refine ex_then ?_
  refine wp_sr ?_
  refine zm HF ?_;clear HF a;intro a HF
  refine wl_call rfl HF rfl (enter_of Tryz.func167 (by kernel_rfl) rfl) (args := #[.string s]) rfl (atoi_ways s _ (by omega) (HE.out.below HS.out.bel)) rfl rfl ?_
  rintro _ w1 (⟨n, hat, rfl, hb⟩ | ⟨te, pe, hat, rfl, hb⟩)
  ·skip
   refine ⟨_, rfl, ?_⟩; replace HS := Bx.mk (HS.out.later hb);clear hb HF a;intro a HF
   refine zm HF ?_;clear HF a;intro a HF
   refine zy HF (yl_extract rfl (HF.ev rfl) rfl) ?_;clear HF a;intro a HF
   refine zy HF (yl_extract rfl (HF.ev rfl) rfl) ?_;clear HF a;intro a HF
   refine za HF ?_;clear HF a;intro a HF
   refine za HF ?_;clear HF a;intro a HF
   refine wl_ne ?_
   refine wp_seq ?_
   refine wp_sr ?_
   refine zm HF ?_;clear HF a;intro a HF
   refine zy HF (yl_neNil rfl (by kernel_rfl) (HF.ev rfl)) ?_;clear HF a;intro a HF
   refine zm HF ?_;clear HF a;intro a HF
   refine zg HF (yl_move rfl (HF.ev rfl)) ?_;clear HF a;intro a HF
   refine wl_callBg HF rfl rfl rfl rfl (enter_of Tryz.func80 (by kernel_rfl) rfl) (args := #[.int .i64 n]) rfl (v := .string (numB n)) (numPutI_any n _ (HT.out.below HS.out.bel)) rfl rfl HS.out ?_; clear HF HS a; intro w2 a HS HF; replace HS := Bx.mk HS
   refine zg HF (yl_move rfl (HF.ev rfl)) ?_;clear HF a;intro a HF
   refine zg HF (yl_neqS rfl (HF.ev rfl) (HF.ev rfl)) ?_;clear HF a;intro a HF
   refine zy HF (yl_pick_f rfl (HF.ev rfl) (HF.ev rfl)) ?_;clear HF a;intro a HF
   refine wl_ne ?_
   refine HF.cases 21 rfl (fun cc2 _ => ?_) fun cc2 _ => ?_
   ·clear HF;rename_i HF
    refine wc_true HF rfl ?_
    refine wp_sr ?_
    refine za HF ?_;clear HF a;intro a HF
    refine za HF ?_;clear HF a;intro a HF
    refine wl_ne ?_
    refine wp_ret ?_
    refine ex_then_ret ?_
    refine bp_ret2 HF Tryz.results143 (HF.res rfl) (HF.res rfl) ?_
    exact .inr ⟨numG_no fun m hm e => by rw [e, atoi_dec] at hat; obtain rfl := Option.some.inj hat; rw [numB_in (by omega) (by omega), Int.toNat_natCast, ← e] at cc2; simp at cc2, rfl, HS.out.bel⟩
   ·clear HF;rename_i HF
    refine wc_false HF rfl ?_
    refine wp_skip ?_
    refine ex_then ?_
    refine wp_sr ?_
    refine zm HF ?_;clear HF a;intro a HF
    refine za HF ?_;clear HF a;intro a HF
    refine za HF ?_;clear HF a;intro a HF
    refine wl_ne ?_
    refine wp_ret ?_
    refine bp_ret2 HF Tryz.results143 (HF.res rfl) (HF.res rfl) ?_
    obtain ⟨m, rfl, hg⟩ := numG_yes hat (bytes_toList (by simpa using cc2))
    exact .inl ⟨m, hg, rfl, HS.out.bel⟩
  ·skip
   refine ⟨_, rfl, ?_⟩; replace HS := Bx.mk (HS.out.later hb);clear hb HF a;intro a HF
   refine zm HF ?_;clear HF a;intro a HF
   refine zy HF (yl_extract rfl (HF.ev rfl) rfl) ?_;clear HF a;intro a HF
   refine zy HF (yl_extract rfl (HF.ev rfl) rfl) ?_;clear HF a;intro a HF
   refine za HF ?_;clear HF a;intro a HF
   refine za HF ?_;clear HF a;intro a HF
   refine wl_ne ?_
   refine wp_seq ?_
   refine wp_sr ?_
   refine zm HF ?_;clear HF a;intro a HF
   refine zy HF (yl_neErr rfl (by kernel_rfl) (HF.ev rfl)) ?_;clear HF a;intro a HF
   refine zm HF ?_;clear HF a;intro a HF
   refine zk HF ?_;clear HF a;intro a HF
   refine zk HF ?_;clear HF a;intro a HF
   refine zk HF ?_;clear HF a;intro a HF
   refine zk HF ?_;clear HF a;intro a HF
   refine zy HF (yl_pick_t rfl (HF.ev rfl) (HF.ev rfl)) ?_;clear HF a;intro a HF
   refine wl_ne ?_
   refine wc_true HF rfl ?_
   refine wp_sr ?_
   refine za HF ?_;clear HF a;intro a HF
   refine za HF ?_;clear HF a;intro a HF
   refine wl_ne ?_
   refine wp_ret ?_
   refine ex_then_ret ?_
   refine bp_ret2 HF Tryz.results143 (HF.res rfl) (HF.res rfl) ?_
   exact .inr ⟨numG_no fun m hm e => by rw [e, atoi_dec] at hat; exact absurd hat (by simp), rfl, HS.out.bel⟩

end Go.Proofs.YtoaopmkbfifhaaaGreatDoor
