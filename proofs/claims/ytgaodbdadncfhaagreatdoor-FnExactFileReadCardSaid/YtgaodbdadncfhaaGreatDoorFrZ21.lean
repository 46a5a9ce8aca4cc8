/- A part of the proof in YtgaodbdadncfhaaGreatDoorFrZ29. -/
import Derived.Shelf.Strconv.Clone
import Derived.Shelf.Strings.Cut
import Derived.Test.YtgaodbdadncfhaaGreatDoorFrZ20
/- Pointers, trees, roots read: walked. -/
namespace Go.Proofs.YtgaodbdadncfhaaGreatDoor
set_option linter.unusedVariables false
set_option linter.unusedSimpArgs false
set_option maxHeartbeats 1000000
set_option maxRecDepth 100000
open Go.RowKit

theorem dec_no46 (n : Nat) : ∀ x ∈ (decB n).data.toList, x ≠ 46 := by
  intro x hx e
  subst e
  rw [decB_list] at hx
  obtain ⟨d, hd⟩ := digits_all n 46 hx
  obtain ⟨h1, h10⟩ := digit_back hd
  have hn : (UInt8.ofNat (48 + d)).toNat = 48 + d := by rw [UInt8.toNat_ofNat']; omega
  rw [← h1] at hn
  have : (46 : UInt8).toNat = 46 := rfl
  omega
theorem num_no46 {n : Int} (h : 0 ≤ n ∧ n ≤ 999999999) : ∀ x ∈ (numB n).data.toList, x ≠ 46 := by rw [numB_in h.1 h.2]; exact dec_no46 _
theorem pieces46 {a : ByteArray} (h : ∀ x ∈ a.data.toList, x ≠ 46) (b : ByteArray) : piecesB (a ++ (dotB ++ b)) 46 = a :: piecesB b 46 := by
  unfold piecesB
  rw [list_append, list_append, show dotB.data.toList = [46] from rfl, List.singleton_append, splitL_app 46 _ _ h, List.map_cons]
theorem pieces46_one {a : ByteArray} (h : ∀ x ∈ a.data.toList, x ≠ 46) : piecesB a 46 = [a] := by
  unfold piecesB
  rw [splitL_none 46 _ h, List.map_cons, List.map_nil]
theorem app_assoc (a b c : ByteArray) : a ++ b ++ c = a ++ (b ++ c) := ba_ext (by simp only [list_append, List.append_assoc])
theorem ptr_pieces {p : PtrD} (h : p.ok = true) (hh : p.hole = false) : piecesB (ptrB p) 46 = [numB p.fAt, numB p.fBirth, numB p.fSize, numB p.fSum, numB p.fLevel] := by
  have hb := PtrD.ok_all h hh
  rw [ptrB_yes h hh]
  simp only [app_assoc]
  rw [pieces46 (num_no46 (by omega)), pieces46 (num_no46 (by omega)), pieces46 (num_no46 (by omega)), pieces46 (num_no46 (by omega)), pieces46_one (num_no46 (by omega))]
theorem numG_num {n : Int} (h : 0 ≤ n ∧ n ≤ 999999999) : numG (numB n) = some n.toNat := by rw [numB_in h.1 h.2]; exact numG_dec (by omega)
theorem num_read {n : Int} {m : Nat} (h : 0 ≤ n ∧ n ≤ 999999999) (hg : numG (numB n) = some m) : (m : Int) = n := by
  rw [numG_num h] at hg
  have := Option.some.inj hg
  omega
theorem hole_zero {p : PtrD} (h : p.hole = true) : p = PtrD.zero := by
  unfold PtrD.hole at h
  simp only [Bool.and_eq_true, beq_iff_eq] at h
  obtain ⟨⟨⟨⟨h1, h2⟩, h3⟩, h4⟩, h5⟩ := h
  cases p
  simp only at h1 h2 h3 h4 h5
  subst h1; subst h2; subst h3; subst h4; subst h5
  rfl
theorem ptr_dash {p : PtrD} {s : ByteArray} (h : p.ok = true) (hs : ptrB p = s) (hd : (s.toList == (⟨#[45]⟩ : ByteArray).toList) = false) : p.hole = false := by
  cases hh : p.hole with
  | false => rfl
  | true =>
    rw [ptrB_hole h hh] at hs
    rw [← hs, show ((⟨#[45]⟩ : ByteArray).toList == (⟨#[45]⟩ : ByteArray).toList) = true from beq_self_eq_true _] at hd
    cases hd
theorem len5 {α : Type} {l : List α} (h : l.length = 5) : ∃ a b c d e, l = [a, b, c, d, e] := by
  match l, h with
  | [a, b, c, d, e], _ => exact ⟨a, b, c, d, e, rfl⟩
/-- Two valid pointers have one text only if they are one. -/
theorem ptrB_inj {p q : PtrD} (hp : p.ok = true) (hq : q.ok = true) (h : ptrB p = ptrB q) : p = q := by
  cases h1 : p.hole with
  | true =>
    cases h2 : q.hole with
    | true => rw [hole_zero h1, hole_zero h2]
    | false =>
      have := ptr_pieces hq h2
      rw [← h, ptrB_hole hp h1] at this
      exact absurd (congrArg List.length this) (show ¬ (1 : Nat) = 5 by decide)
  | false =>
    cases h2 : q.hole with
    | true =>
      have := ptr_pieces hp h1
      rw [h, ptrB_hole hq h2] at this
      exact absurd (congrArg List.length this) (show ¬ (1 : Nat) = 5 by decide)
    | false =>
      have e1 := ptr_pieces hp h1
      have e2 := ptr_pieces hq h2
      rw [h, e2] at e1
      have hb := PtrD.ok_all hp h1
      have hc := PtrD.ok_all hq h2
      simp only [List.cons.injEq, and_true] at e1
      obtain ⟨k1, k2, k3, k4, k5⟩ := e1
      have num : ∀ {m n : Int}, 0 ≤ m ∧ m ≤ 999999999 → 0 ≤ n ∧ n ≤ 999999999 → numB m = numB n → n = m := fun hm hn e => by
        have := numG_num hm
        rw [e, numG_num hn] at this
        have := Option.some.inj this
        omega
      have j1 := num (by omega) (by omega) k1
      have j2 := num (by omega) (by omega) k2
      have j3 := num (by omega) (by omega) k3
      have j4 := num (by omega) (by omega) k4
      have j5 := num (by omega) (by omega) k5
      cases p; cases q
      simp only at j1 j2 j3 j4 j5
      subst j1; subst j2; subst j3; subst j4; subst j5
      rfl

theorem ptrGet_any (s : ByteArray) (w0 : World) (hT : TabP w0) (hM : MaxP w0) (hE : ErrP w0) (hs : s.size ≤ 4294967280) : Calls Tryz.prog 134 #[.string s] w0 fun e w' => (∃ p : PtrD, p.ok = true ∧ ptrB p = s ∧ e = .returned (.tuple #[pV p, .bool true]) ∧ Below w0.heap.size w0 w') ∨ ((∀ p : PtrD, p.ok = true → ptrB p = s → False) ∧ e = .returned (.tuple #[.agg #[.int .i64 0, .int .i64 0, .int .i64 0, .int .i64 0, .int .i64 0], .bool false]) ∧ Below w0.heap.size w0 w') := by
  have HT := Bx.mk hT; have HM := Bx.mk hM; have HE := Bx.mk hE; clear hT hM hE
  have HS := Bx.mk (St.start w0)
  refine wc_enter Tryz.func134 rfl Tryz.ntmps134 [(0, .string s)] ⟨rfl, trivial⟩ rfl ?_; intro a HF
  refine wp_sr ?_
  refine wl_alloc rfl HF rfl rfl rfl (Z := [.int .i64 0, .int .i64 0, .int .i64 0, .int .i64 0, .int .i64 0]) (by kernel_rfl) rfl HS.out ?_; clear HF HS a; intro a w1 b1 HF HS; replace HS := Bx.mk HS
  refine za HF ?_;clear HF a;intro a HF
  refine wl_ne ?_
  refine wp_seq ?_
  refine wp_sr ?_
  refine zm HF ?_;clear HF a;intro a HF
  refine zy HF (yl_eqlS rfl (HF.ev rfl) (HF.ev rfl)) ?_;clear HF a;intro a HF
  refine wl_ne ?_
  refine HF.cases 12 rfl (fun cc1 _ => ?_) fun cc1 _ => ?_
  · clear HF;rename_i HF
    refine wc_true HF rfl ?_
    refine wp_sr ?_
    refine zy HF (yl_build HF rfl (ps := []) rfl (cs := #[.int .i64 0, .int .i64 0, .int .i64 0, .int .i64 0, .int .i64 0]) (by kernel_rfl)) ?_;clear HF a;intro a HF
    refine wl_storeBox rfl HF rfl rfl (HF.ev rfl) (HF.ev rfl) HS.out 0 rfl (cells_lit [.int .i64 0, .int .i64 0, .int .i64 0, .int .i64 0, .int .i64 0] rfl rfl) (by kernel_rfl) ?_; clear HS; intro w2 HS; replace HS := Bx.mk HS
    try dsimp only [List.set] at HS
    refine za HF ?_;clear HF a;intro a HF
    refine wl_ne ?_
    refine wp_ret ?_
    refine ex_then_ret ?_
    refine bp_ret2 HF Tryz.results134 (HF.resBox rfl (HS.out.box 0 rfl) (by kernel_rfl)) (HF.res rfl) ?_
    exact .inl ⟨PtrD.zero, by decide, (ptrB_hole (by decide) (by decide)).trans (bytes_toList cc1).symm, rfl, HS.out.bel⟩
  · clear HF;rename_i HF
    refine wc_false HF rfl ?_
    refine wp_skip ?_
    refine ex_then ?_
    refine wp_sr ?_
    refine wl_alloc rfl HF rfl rfl rfl (Z := [.int .i64 0, .int .i64 0, .int .i64 0, .int .i64 0, .int .i64 0]) (by kernel_rfl) rfl HS.out ?_; clear HF HS a; intro a w3 b2 HF HS; replace HS := Bx.mk HS
    refine wl_ne ?_
    refine wp_sr ?_
    refine zm HF ?_;clear HF a;intro a HF
    refine wl_call rfl HF rfl (enter_of Tryz.func133 (by kernel_rfl) rfl) (args := #[.string s, .string (⟨#[46]⟩ : ByteArray)]) rfl (split_any s 46 _ (by omega) (HM.out.below HS.out.bel)) rfl rfl ?_
    rintro _ w4 ⟨ao3, cp3, rfl, hs⟩
    refine ⟨_, rfl, ?_⟩
    replace HS := Bx.mk (HS.out.add hs);clear hs HF a;intro a HF
    try dsimp only [List.eraseIdx] at HS
    refine za HF ?_;clear HF a;intro a HF
    refine wl_ne ?_
    refine wp_sr ?_
    refine wl_call rfl HF rfl (enter_of Tryz.func156 (by kernel_rfl) rfl) (args := #[.pointer (some ⟨b2, 0, none⟩)]) rfl (parts_any b2 _) rfl rfl ?_
    rintro _ w5 ⟨ao4, cp4, rfl, hs⟩
    refine ⟨_, rfl, ?_⟩
    replace HS := Bx.mk (HS.out.add hs);clear hs HF a;intro a HF
    try dsimp only [List.eraseIdx] at HS
    refine za HF ?_;clear HF a;intro a HF
    refine wl_ne ?_
    refine wp_seq ?_
    refine wp_sr ?_
    refine zm HF ?_;clear HF a;intro a HF
    refine zy HF (yl_lenL (e := 9) (size := 1) rfl (HF.ev rfl) (by kernel_rfl)) ?_;clear HF a;intro a HF
    refine zm HF ?_;clear HF a;intro a HF
    refine zy HF (yl_lenL (e := 171) (size := 1) rfl (HF.ev rfl) (by kernel_rfl)) ?_;clear HF a;intro a HF
    refine zy HF (yl_neqI rfl (HF.ev rfl) (HF.ev rfl)) ?_;clear HF a;intro a HF
    refine wl_ne ?_
    refine HF.cases 21 rfl (fun cc2 _ => ?_) fun cc2 _ => ?_
    · clear HF;rename_i HF
      have dcc2 := bne_iff_ne.1 cc2
      refine wc_true HF rfl ?_
      refine wp_sr ?_
      refine zy HF (yl_build HF rfl (ps := []) rfl (cs := #[.int .i64 0, .int .i64 0, .int .i64 0, .int .i64 0, .int .i64 0]) (by kernel_rfl)) ?_;clear HF a;intro a HF
      refine wl_storeBox rfl HF rfl rfl (HF.ev rfl) (HF.ev rfl) HS.out 3 rfl (cells_lit [.int .i64 0, .int .i64 0, .int .i64 0, .int .i64 0, .int .i64 0] rfl rfl) (by kernel_rfl) ?_; clear HS; intro w6 HS; replace HS := Bx.mk HS
      try dsimp only [List.set] at HS
      refine za HF ?_;clear HF a;intro a HF
      refine wl_ne ?_
      refine wp_ret ?_
      refine ex_then_ret ?_
      refine bp_ret2 HF Tryz.results134 (HF.resBox rfl (HS.out.box 3 rfl) (by kernel_rfl)) (HF.res rfl) ?_
      refine .inr ⟨fun q hq hqs => ?_, rfl, HS.out.bel⟩
      have hqh := ptr_dash hq hqs (by simpa using cc1); have hqp := ptr_pieces hq hqh; rw [hqs] at hqp; have hqb := PtrD.ok_all hq hqh
      rw [hqp] at dcc2; exact dcc2 rfl
    · clear HF;rename_i HF
      have dcc2 := bne_eq_false_iff_eq.1 cc2
      refine wc_false HF rfl ?_
      refine wp_skip ?_
      refine ex_then ?_
      refine wp_seq ?_
      refine wp_seq ?_
      obtain ⟨x0, x1, x2, x3, x4, hws⟩ := len5 (l := piecesB s 46) (by omega); rw [hws] at HS HF
      replace HF : Fr 51 a [(0, .string s), (2, .pointer (some ⟨b1, 0, none⟩)), (3, .bool false), (11, .string s), (12, .bool false), (4, .pointer (some ⟨b2, 0, none⟩)), (14, .string s), (15, .slice ao3 5 cp3), (5, .slice ao3 5 cp3), (16, .slice ao4 5 cp4), (6, .slice ao4 5 cp4), (17, .slice ao3 5 cp3), (19, .slice ao4 5 cp4), (20, .int .i64 (5 : Int)), (21, .bool false)] := HF.less _ ⟨rfl, rfl, rfl, rfl, rfl, rfl, rfl, rfl, rfl, rfl, rfl, rfl, rfl, rfl, rfl, trivial⟩
      try dsimp only [List.eraseIdx] at HS
      obtain ⟨g5, rfl, _, _, _, _⟩ := HS.out.rowOpen 1 rfl (Nat.succ_pos _)
      obtain ⟨g6, rfl, _, _, _, _⟩ := HS.out.rowOpen 0 rfl (Nat.succ_pos _)
      refine wp_region_lit ?_
      refine zm HF ?_;clear HF a;intro a HF
      refine zy HF (yl_lenL (e := 9) (size := 1) rfl (HF.ev rfl) (by kernel_rfl)) ?_;clear HF a;intro a HF
      refine zm HF ?_;clear HF a;intro a HF
      refine wl_ne ?_
      refine wp_block ?_
      refine wc_rounds 6 ?_
      refine wp_sr ?_
      refine zy HF (yl_lssI rfl (HF.ev rfl) (HF.ev rfl)) ?_;clear HF a;intro a HF
      refine wl_ne ?_
      refine wp_seq ?_
      replace HF := HF.know (k := 26) (c := true) rfl (by decide)
      refine wc_true HF rfl ?_
      refine wp_skip ?_
      refine ex_then ?_
      refine wp_seq ?_
      refine wp_block ?_
      refine wp_sr ?_
      refine zm HF ?_;clear HF a;intro a HF
      refine zy HF (yl_indexAddr (e := 9) (i := 0) (size := 1) rfl (HF.ev rfl) (HF.ev rfl) (by kernel_rfl) rfl (by omega)) ?_;clear HF a;intro a HF
      refine zy HF (ylo (v := .string x0) rfl (HF.ev rfl) (HS.out.elem1 encS_len 1 rfl (show ([x0, x1, x2, x3, x4] : List _)[0]? = some _ from rfl) rfl)) ?_;clear HF a;intro a HF
      refine zr 2 HF rfl ?_;clear HF a;intro a HF
      refine wl_ne ?_
      refine wp_sr ?_
      refine zm HF ?_;clear HF a;intro a HF
      refine wl_call rfl HF rfl (enter_of Tryz.func143 (by kernel_rfl) rfl) (args := #[.string x0]) rfl (implNumGet_any x0 _ (HT.out.below HS.out.bel) (HE.out.below HS.out.bel)) rfl rfl ?_
      rintro _ w7 (⟨n7, hg7, rfl, hb⟩ | ⟨hg7, rfl, hb⟩)
      · skip
        refine ⟨_, rfl, ?_⟩; replace HS := Bx.mk (HS.out.later hb);clear hb HF a;intro a HF
        refine zr 5 HF rfl ?_;clear HF a;intro a HF
        refine wl_ne ?_
        refine wp_seq ?_
        refine wp_sr ?_
        refine zr 2 HF rfl ?_;clear HF a;intro a HF
        refine wl_ne ?_
        refine wc_false HF rfl ?_
        refine wp_skip ?_
        refine ex_then ?_
        refine wp_region_lit ?_
        refine zr 2 HF rfl ?_;clear HF a;intro a HF
        refine zy HF (yl_indexAddr (e := 171) (i := 0) (size := 1) rfl (HF.ev rfl) (HF.ev rfl) (by kernel_rfl) rfl (by omega)) ?_;clear HF a;intro a HF
        refine zy HF (ylo (v := .pointer (some ⟨b2, 0 + 0, none⟩)) rfl (HF.ev rfl) (HS.out.elem1 encA_len 0 rfl (show ([(some ⟨b2, 0 + 0, none⟩), (some ⟨b2, 0 + 1, none⟩), (some ⟨b2, 0 + 2, none⟩), (some ⟨b2, 0 + 3, none⟩), (some ⟨b2, 0 + 4, none⟩)] : List (Option Addr))[0]? = some _ from rfl) rfl)) ?_;clear HF a;intro a HF
        refine zr 2 HF rfl ?_;clear HF a;intro a HF
        refine wl_storeF rfl rfl rfl (HF.ev rfl) (HF.ev rfl) (by kernel_rfl) HS.out 2 rfl rfl rfl ?_; clear HS; intro w8 HS; replace HS := Bx.mk HS
        try dsimp only [List.set] at HS
        refine wpList_nil ?_
        refine ex_block ?_
        refine ex_then ?_
        refine wp_region_lit ?_
        refine zy HF (yl_addI (r := 1) rfl (HF.ev rfl) (HF.ev rfl) (by decide)) ?_;clear HF a;intro a HF
        refine zm HF ?_;clear HF a;intro a HF
        refine wl_ne ?_
        refine wc_round 5 ?_
        refine wp_sr ?_
        refine zy HF (yl_lssI rfl (HF.ev rfl) (HF.ev rfl)) ?_;clear HF a;intro a HF
        refine wl_ne ?_
        refine wp_seq ?_
        replace HF := HF.know (k := 26) (c := true) rfl (by decide)
        refine wc_true HF rfl ?_
        refine wp_skip ?_
        refine ex_then ?_
        refine wp_seq ?_
        refine wp_block ?_
        refine wp_sr ?_
        refine zm HF ?_;clear HF a;intro a HF
        refine zy HF (yl_indexAddr (e := 9) (i := 1) (size := 1) rfl (HF.ev rfl) (HF.ev rfl) (by kernel_rfl) rfl (by omega)) ?_;clear HF a;intro a HF
        refine zy HF (ylo (v := .string x1) rfl (HF.ev rfl) (HS.out.elem1 encS_len 1 rfl (show ([x0, x1, x2, x3, x4] : List _)[1]? = some _ from rfl) rfl)) ?_;clear HF a;intro a HF
        refine zr 2 HF rfl ?_;clear HF a;intro a HF
        refine wl_ne ?_
        refine wp_sr ?_
        refine zm HF ?_;clear HF a;intro a HF
        refine wl_call rfl HF rfl (enter_of Tryz.func143 (by kernel_rfl) rfl) (args := #[.string x1]) rfl (implNumGet_any x1 _ (HT.out.below HS.out.bel) (HE.out.below HS.out.bel)) rfl rfl ?_
        rintro _ w9 (⟨n8, hg8, rfl, hb⟩ | ⟨hg8, rfl, hb⟩)
        · skip
          refine ⟨_, rfl, ?_⟩; replace HS := Bx.mk (HS.out.later hb);clear hb HF a;intro a HF
          refine zr 5 HF rfl ?_;clear HF a;intro a HF
          refine wl_ne ?_
          refine wp_seq ?_
          refine wp_sr ?_
          refine zr 2 HF rfl ?_;clear HF a;intro a HF
          refine wl_ne ?_
          refine wc_false HF rfl ?_
          refine wp_skip ?_
          refine ex_then ?_
          refine wp_region_lit ?_
          refine zr 2 HF rfl ?_;clear HF a;intro a HF
          refine zy HF (yl_indexAddr (e := 171) (i := 1) (size := 1) rfl (HF.ev rfl) (HF.ev rfl) (by kernel_rfl) rfl (by omega)) ?_;clear HF a;intro a HF
          refine zy HF (ylo (v := .pointer (some ⟨b2, 0 + 1, none⟩)) rfl (HF.ev rfl) (HS.out.elem1 encA_len 0 rfl (show ([(some ⟨b2, 0 + 0, none⟩), (some ⟨b2, 0 + 1, none⟩), (some ⟨b2, 0 + 2, none⟩), (some ⟨b2, 0 + 3, none⟩), (some ⟨b2, 0 + 4, none⟩)] : List (Option Addr))[1]? = some _ from rfl) rfl)) ?_;clear HF a;intro a HF
          refine zr 2 HF rfl ?_;clear HF a;intro a HF
          refine wl_storeF rfl rfl rfl (HF.ev rfl) (HF.ev rfl) (by kernel_rfl) HS.out 2 rfl rfl rfl ?_; clear HS; intro w10 HS; replace HS := Bx.mk HS
          try dsimp only [List.set] at HS
          refine wpList_nil ?_
          refine ex_block ?_
          refine ex_then ?_
          refine wp_region_lit ?_
          refine zy HF (yl_addI (r := 2) rfl (HF.ev rfl) (HF.ev rfl) (by decide)) ?_;clear HF a;intro a HF
          refine zm HF ?_;clear HF a;intro a HF
          refine wl_ne ?_
          refine wc_round 4 ?_
          refine wp_sr ?_
          refine zy HF (yl_lssI rfl (HF.ev rfl) (HF.ev rfl)) ?_;clear HF a;intro a HF
          refine wl_ne ?_
          refine wp_seq ?_
          replace HF := HF.know (k := 26) (c := true) rfl (by decide)
          refine wc_true HF rfl ?_
          refine wp_skip ?_
          refine ex_then ?_
          refine wp_seq ?_
          refine wp_block ?_
          refine wp_sr ?_
          refine zm HF ?_;clear HF a;intro a HF
          refine zy HF (yl_indexAddr (e := 9) (i := 2) (size := 1) rfl (HF.ev rfl) (HF.ev rfl) (by kernel_rfl) rfl (by omega)) ?_;clear HF a;intro a HF
          refine zy HF (ylo (v := .string x2) rfl (HF.ev rfl) (HS.out.elem1 encS_len 1 rfl (show ([x0, x1, x2, x3, x4] : List _)[2]? = some _ from rfl) rfl)) ?_;clear HF a;intro a HF
          refine zr 2 HF rfl ?_;clear HF a;intro a HF
          refine wl_ne ?_
          refine wp_sr ?_
          refine zm HF ?_;clear HF a;intro a HF
          refine wl_call rfl HF rfl (enter_of Tryz.func143 (by kernel_rfl) rfl) (args := #[.string x2]) rfl (implNumGet_any x2 _ (HT.out.below HS.out.bel) (HE.out.below HS.out.bel)) rfl rfl ?_
          rintro _ w11 (⟨n9, hg9, rfl, hb⟩ | ⟨hg9, rfl, hb⟩)
          · skip
            refine ⟨_, rfl, ?_⟩; replace HS := Bx.mk (HS.out.later hb);clear hb HF a;intro a HF
            refine zr 5 HF rfl ?_;clear HF a;intro a HF
            refine wl_ne ?_
            refine wp_seq ?_
            refine wp_sr ?_
            refine zr 2 HF rfl ?_;clear HF a;intro a HF
            refine wl_ne ?_
            refine wc_false HF rfl ?_
            refine wp_skip ?_
            refine ex_then ?_
            refine wp_region_lit ?_
            refine zr 2 HF rfl ?_;clear HF a;intro a HF
            refine zy HF (yl_indexAddr (e := 171) (i := 2) (size := 1) rfl (HF.ev rfl) (HF.ev rfl) (by kernel_rfl) rfl (by omega)) ?_;clear HF a;intro a HF
            refine zy HF (ylo (v := .pointer (some ⟨b2, 0 + 2, none⟩)) rfl (HF.ev rfl) (HS.out.elem1 encA_len 0 rfl (show ([(some ⟨b2, 0 + 0, none⟩), (some ⟨b2, 0 + 1, none⟩), (some ⟨b2, 0 + 2, none⟩), (some ⟨b2, 0 + 3, none⟩), (some ⟨b2, 0 + 4, none⟩)] : List (Option Addr))[2]? = some _ from rfl) rfl)) ?_;clear HF a;intro a HF
            refine zr 2 HF rfl ?_;clear HF a;intro a HF
            refine wl_storeF rfl rfl rfl (HF.ev rfl) (HF.ev rfl) (by kernel_rfl) HS.out 2 rfl rfl rfl ?_; clear HS; intro w12 HS; replace HS := Bx.mk HS
            try dsimp only [List.set] at HS
            refine wpList_nil ?_
            refine ex_block ?_
            refine ex_then ?_
            refine wp_region_lit ?_
            refine zy HF (yl_addI (r := 3) rfl (HF.ev rfl) (HF.ev rfl) (by decide)) ?_;clear HF a;intro a HF
            refine zm HF ?_;clear HF a;intro a HF
            refine wl_ne ?_
            refine wc_round 3 ?_
            refine wp_sr ?_
            refine zy HF (yl_lssI rfl (HF.ev rfl) (HF.ev rfl)) ?_;clear HF a;intro a HF
            refine wl_ne ?_
            refine wp_seq ?_
            replace HF := HF.know (k := 26) (c := true) rfl (by decide)
            refine wc_true HF rfl ?_
            refine wp_skip ?_
            refine ex_then ?_
            refine wp_seq ?_
            refine wp_block ?_
            refine wp_sr ?_
            refine zm HF ?_;clear HF a;intro a HF
            refine zy HF (yl_indexAddr (e := 9) (i := 3) (size := 1) rfl (HF.ev rfl) (HF.ev rfl) (by kernel_rfl) rfl (by omega)) ?_;clear HF a;intro a HF
            refine zy HF (ylo (v := .string x3) rfl (HF.ev rfl) (HS.out.elem1 encS_len 1 rfl (show ([x0, x1, x2, x3, x4] : List _)[3]? = some _ from rfl) rfl)) ?_;clear HF a;intro a HF
            refine zr 2 HF rfl ?_;clear HF a;intro a HF
            refine wl_ne ?_
            refine wp_sr ?_
            refine zm HF ?_;clear HF a;intro a HF
            refine wl_call rfl HF rfl (enter_of Tryz.func143 (by kernel_rfl) rfl) (args := #[.string x3]) rfl (implNumGet_any x3 _ (HT.out.below HS.out.bel) (HE.out.below HS.out.bel)) rfl rfl ?_
            rintro _ w13 (⟨n10, hg10, rfl, hb⟩ | ⟨hg10, rfl, hb⟩)
            · skip
              refine ⟨_, rfl, ?_⟩; replace HS := Bx.mk (HS.out.later hb);clear hb HF a;intro a HF
              refine zr 5 HF rfl ?_;clear HF a;intro a HF
              refine wl_ne ?_
              refine wp_seq ?_
              refine wp_sr ?_
              refine zr 2 HF rfl ?_;clear HF a;intro a HF
              refine wl_ne ?_
              refine wc_false HF rfl ?_
              refine wp_skip ?_
              refine ex_then ?_
              refine wp_region_lit ?_
              refine zr 2 HF rfl ?_;clear HF a;intro a HF
              refine zy HF (yl_indexAddr (e := 171) (i := 3) (size := 1) rfl (HF.ev rfl) (HF.ev rfl) (by kernel_rfl) rfl (by omega)) ?_;clear HF a;intro a HF
              refine zy HF (ylo (v := .pointer (some ⟨b2, 0 + 3, none⟩)) rfl (HF.ev rfl) (HS.out.elem1 encA_len 0 rfl (show ([(some ⟨b2, 0 + 0, none⟩), (some ⟨b2, 0 + 1, none⟩), (some ⟨b2, 0 + 2, none⟩), (some ⟨b2, 0 + 3, none⟩), (some ⟨b2, 0 + 4, none⟩)] : List (Option Addr))[3]? = some _ from rfl) rfl)) ?_;clear HF a;intro a HF
              refine zr 2 HF rfl ?_;clear HF a;intro a HF
              refine wl_storeF rfl rfl rfl (HF.ev rfl) (HF.ev rfl) (by kernel_rfl) HS.out 2 rfl rfl rfl ?_; clear HS; intro w14 HS; replace HS := Bx.mk HS
              try dsimp only [List.set] at HS
              refine wpList_nil ?_
              refine ex_block ?_
              refine ex_then ?_
              refine wp_region_lit ?_
              refine zy HF (yl_addI (r := 4) rfl (HF.ev rfl) (HF.ev rfl) (by decide)) ?_;clear HF a;intro a HF
              refine zm HF ?_;clear HF a;intro a HF
              refine wl_ne ?_
              refine wc_round 2 ?_
              refine wp_sr ?_
              refine zy HF (yl_lssI rfl (HF.ev rfl) (HF.ev rfl)) ?_;clear HF a;intro a HF
              refine wl_ne ?_
              refine wp_seq ?_
              replace HF := HF.know (k := 26) (c := true) rfl (by decide)
              refine wc_true HF rfl ?_
              refine wp_skip ?_
              refine ex_then ?_
              refine wp_seq ?_
              refine wp_block ?_
              refine wp_sr ?_
              refine zm HF ?_;clear HF a;intro a HF
              refine zy HF (yl_indexAddr (e := 9) (i := 4) (size := 1) rfl (HF.ev rfl) (HF.ev rfl) (by kernel_rfl) rfl (by omega)) ?_;clear HF a;intro a HF
              refine zy HF (ylo (v := .string x4) rfl (HF.ev rfl) (HS.out.elem1 encS_len 1 rfl (show ([x0, x1, x2, x3, x4] : List _)[4]? = some _ from rfl) rfl)) ?_;clear HF a;intro a HF
              refine zr 2 HF rfl ?_;clear HF a;intro a HF
              refine wl_ne ?_
              refine wp_sr ?_
              refine zm HF ?_;clear HF a;intro a HF
              refine wl_call rfl HF rfl (enter_of Tryz.func143 (by kernel_rfl) rfl) (args := #[.string x4]) rfl (implNumGet_any x4 _ (HT.out.below HS.out.bel) (HE.out.below HS.out.bel)) rfl rfl ?_
              rintro _ w15 (⟨n11, hg11, rfl, hb⟩ | ⟨hg11, rfl, hb⟩)
              · skip
                refine ⟨_, rfl, ?_⟩; replace HS := Bx.mk (HS.out.later hb);clear hb HF a;intro a HF
                refine zr 5 HF rfl ?_;clear HF a;intro a HF
                refine wl_ne ?_
                refine wp_seq ?_
                refine wp_sr ?_
                refine zr 2 HF rfl ?_;clear HF a;intro a HF
                refine wl_ne ?_
                refine wc_false HF rfl ?_
                refine wp_skip ?_
                refine ex_then ?_
                refine wp_region_lit ?_
                refine zr 2 HF rfl ?_;clear HF a;intro a HF
                refine zy HF (yl_indexAddr (e := 171) (i := 4) (size := 1) rfl (HF.ev rfl) (HF.ev rfl) (by kernel_rfl) rfl (by omega)) ?_;clear HF a;intro a HF
                refine zy HF (ylo (v := .pointer (some ⟨b2, 0 + 4, none⟩)) rfl (HF.ev rfl) (HS.out.elem1 encA_len 0 rfl (show ([(some ⟨b2, 0 + 0, none⟩), (some ⟨b2, 0 + 1, none⟩), (some ⟨b2, 0 + 2, none⟩), (some ⟨b2, 0 + 3, none⟩), (some ⟨b2, 0 + 4, none⟩)] : List (Option Addr))[4]? = some _ from rfl) rfl)) ?_;clear HF a;intro a HF
                refine zr 2 HF rfl ?_;clear HF a;intro a HF
                refine wl_storeF rfl rfl rfl (HF.ev rfl) (HF.ev rfl) (by kernel_rfl) HS.out 2 rfl rfl rfl ?_; clear HS; intro w16 HS; replace HS := Bx.mk HS
                try dsimp only [List.set] at HS
                refine wpList_nil ?_
                refine ex_block ?_
                refine ex_then ?_
                refine wp_region_lit ?_
                refine zy HF (yl_addI (r := 5) rfl (HF.ev rfl) (HF.ev rfl) (by decide)) ?_;clear HF a;intro a HF
                refine zm HF ?_;clear HF a;intro a HF
                refine wl_ne ?_
                refine wc_round 1 ?_
                refine wp_sr ?_
                refine zy HF (yl_lssI rfl (HF.ev rfl) (HF.ev rfl)) ?_;clear HF a;intro a HF
                refine wl_ne ?_
                refine wp_seq ?_
                replace HF := HF.know (k := 26) (c := false) rfl (by decide)
                refine wc_false HF rfl ?_
                refine wp_exit ?_
                refine ex_then_exit ?_
                refine ex_then_exit ?_
                refine ex_block_hit ?_
                refine ex_then ?_
                refine wp_seq ?_
                refine wp_sr ?_
                refine zy HF (ylr (cs := [.int .i64 (n7 : Int), .int .i64 (n8 : Int), .int .i64 (n9 : Int), .int .i64 (n10 : Int), .int .i64 (n11 : Int)]) rfl (HF.ev rfl) ((HS.out.box 2 rfl).sub 0 5)) ?_;clear HF a;intro a HF
                refine wl_callB rfl HF rfl (enter_of Tryz.func157 (by kernel_rfl) rfl) (args := #[.agg #[.int .i64 (n7 : Int), .int .i64 (n8 : Int), .int .i64 (n9 : Int), .int .i64 (n10 : Int), .int .i64 (n11 : Int)]]) rfl (v := .string (ptrB (⟨(n7 : Int), (n8 : Int), (n9 : Int), (n10 : Int), (n11 : Int)⟩ : PtrD))) (ptrPutI_any (⟨(n7 : Int), (n8 : Int), (n9 : Int), (n10 : Int), (n11 : Int)⟩ : PtrD) _ (HT.out.below HS.out.bel)) rfl rfl HS.out ?_; clear HF HS a; intro w17 a HS HF; replace HS := Bx.mk HS
                refine zm HF ?_;clear HF a;intro a HF
                refine zy HF (yl_neqS rfl (HF.ev rfl) (HF.ev rfl)) ?_;clear HF a;intro a HF
                refine wl_ne ?_
                refine HF.cases 48 rfl (fun cc3 _ => ?_) fun cc3 _ => ?_
                · clear HF;rename_i HF
                  refine wc_true HF rfl ?_
                  refine wp_sr ?_
                  refine zy HF (yl_build HF rfl (ps := []) rfl (cs := #[.int .i64 0, .int .i64 0, .int .i64 0, .int .i64 0, .int .i64 0]) (by kernel_rfl)) ?_;clear HF a;intro a HF
                  refine wl_storeBox rfl HF rfl rfl (HF.ev rfl) (HF.ev rfl) HS.out 3 rfl (cells_lit [.int .i64 0, .int .i64 0, .int .i64 0, .int .i64 0, .int .i64 0] rfl rfl) (by kernel_rfl) ?_; clear HS; intro w18 HS; replace HS := Bx.mk HS
                  try dsimp only [List.set] at HS
                  refine za HF ?_;clear HF a;intro a HF
                  refine wl_ne ?_
                  refine wp_ret ?_
                  refine ex_then_ret ?_
                  refine bp_ret2 HF Tryz.results134 (HF.resBox rfl (HS.out.box 3 rfl) (by kernel_rfl)) (HF.res rfl) ?_
                  refine .inr ⟨fun q hq hqs => ?_, rfl, HS.out.bel⟩
                  have hqh := ptr_dash hq hqs (by simpa using cc1); have hqp := ptr_pieces hq hqh; rw [hqs] at hqp; have hqb := PtrD.ok_all hq hqh
                  rw [hws] at hqp; simp only [List.cons.injEq, and_true] at hqp; obtain ⟨k0, k1, k2, k3, k4⟩ := hqp
                  rw [k0] at hg7; have j0 := num_read (n := q.fAt) (by omega) hg7
                  rw [k1] at hg8; have j1 := num_read (n := q.fBirth) (by omega) hg8
                  rw [k2] at hg9; have j2 := num_read (n := q.fSize) (by omega) hg9
                  rw [k3] at hg10; have j3 := num_read (n := q.fSum) (by omega) hg10
                  rw [k4] at hg11; have j4 := num_read (n := q.fLevel) (by omega) hg11
                  have hpq : (⟨(n7 : Int), (n8 : Int), (n9 : Int), (n10 : Int), (n11 : Int)⟩ : PtrD) = q := by rw [j0, j1, j2, j3, j4]
                  rw [hpq, hqs] at cc3; simp at cc3
                · clear HF;rename_i HF
                  refine wc_false HF rfl ?_
                  refine wp_skip ?_
                  refine ex_then ?_
                  refine wp_sr ?_
                  refine zy HF (ylr (cs := [.int .i64 (n7 : Int), .int .i64 (n8 : Int), .int .i64 (n9 : Int), .int .i64 (n10 : Int), .int .i64 (n11 : Int)]) rfl (HF.ev rfl) ((HS.out.box 2 rfl).sub 0 5)) ?_;clear HF a;intro a HF
                  refine wl_storeBox rfl HF rfl rfl (HF.ev rfl) (HF.ev rfl) HS.out 3 rfl (cells_lit [.int .i64 (n7 : Int), .int .i64 (n8 : Int), .int .i64 (n9 : Int), .int .i64 (n10 : Int), .int .i64 (n11 : Int)] rfl rfl) (by kernel_rfl) ?_; clear HS; intro w19 HS; replace HS := Bx.mk HS
                  try dsimp only [List.set] at HS
                  refine za HF ?_;clear HF a;intro a HF
                  refine wl_ne ?_
                  refine wp_ret ?_
                  refine bp_ret2 HF Tryz.results134 (HF.resBox rfl (HS.out.box 3 rfl) (by kernel_rfl)) (HF.res rfl) ?_
                  have hpt : ptrB (⟨(n7 : Int), (n8 : Int), (n9 : Int), (n10 : Int), (n11 : Int)⟩ : PtrD) = s := bytes_toList (by simpa using cc3)
                  have hpo : (⟨(n7 : Int), (n8 : Int), (n9 : Int), (n10 : Int), (n11 : Int)⟩ : PtrD).ok = true := by
                      cases ho : (⟨(n7 : Int), (n8 : Int), (n9 : Int), (n10 : Int), (n11 : Int)⟩ : PtrD).ok with
                      | true => rfl
                      | false =>
                        rw [ptrB_no ho] at hpt
                        rw [← hpt] at hws
                        exact absurd (congrArg List.length hws) (show ¬ (1 : Nat) = 5 by decide)
                  exact .inl ⟨_, hpo, hpt, rfl, HS.out.bel⟩
              · skip
                refine ⟨_, rfl, ?_⟩; replace HS := Bx.mk (HS.out.later hb);clear hb HF a;intro a HF
                refine zr 5 HF rfl ?_;clear HF a;intro a HF
                refine wl_ne ?_
                refine wp_seq ?_
                refine wp_sr ?_
                refine zr 2 HF rfl ?_;clear HF a;intro a HF
                refine wl_ne ?_
                refine wc_true HF rfl ?_
                refine wp_sr ?_
                refine zy HF (yl_build HF rfl (ps := []) rfl (cs := #[.int .i64 0, .int .i64 0, .int .i64 0, .int .i64 0, .int .i64 0]) (by kernel_rfl)) ?_;clear HF a;intro a HF
                refine wl_storeBox rfl HF rfl rfl (HF.ev rfl) (HF.ev rfl) HS.out 3 rfl (cells_lit [.int .i64 0, .int .i64 0, .int .i64 0, .int .i64 0, .int .i64 0] rfl rfl) (by kernel_rfl) ?_; clear HS; intro w20 HS; replace HS := Bx.mk HS
                try dsimp only [List.set] at HS
                refine za HF ?_;clear HF a;intro a HF
                refine wl_ne ?_
                refine wp_ret ?_
                refine ex_then_ret ?_
                refine ex_block_ret ?_
                refine ex_then_ret ?_
                refine ex_then_ret ?_
                refine ex_block_ret ?_
                refine ex_then_ret ?_
                refine bp_ret2 HF Tryz.results134 (HF.resBox rfl (HS.out.box 3 rfl) (by kernel_rfl)) (HF.res rfl) ?_
                refine .inr ⟨fun q hq hqs => ?_, rfl, HS.out.bel⟩
                have hqh := ptr_dash hq hqs (by simpa using cc1); have hqp := ptr_pieces hq hqh; rw [hqs] at hqp; have hqb := PtrD.ok_all hq hqh
                rw [hws] at hqp; simp only [List.cons.injEq, and_true] at hqp; obtain ⟨k0, k1, k2, k3, k4⟩ := hqp
                rw [k4, numG_num (by omega)] at hg11; cases hg11
            · skip
              refine ⟨_, rfl, ?_⟩; replace HS := Bx.mk (HS.out.later hb);clear hb HF a;intro a HF
              refine zr 5 HF rfl ?_;clear HF a;intro a HF
              refine wl_ne ?_
              refine wp_seq ?_
              refine wp_sr ?_
              refine zr 2 HF rfl ?_;clear HF a;intro a HF
              refine wl_ne ?_
              refine wc_true HF rfl ?_
              refine wp_sr ?_
              refine zy HF (yl_build HF rfl (ps := []) rfl (cs := #[.int .i64 0, .int .i64 0, .int .i64 0, .int .i64 0, .int .i64 0]) (by kernel_rfl)) ?_;clear HF a;intro a HF
              refine wl_storeBox rfl HF rfl rfl (HF.ev rfl) (HF.ev rfl) HS.out 3 rfl (cells_lit [.int .i64 0, .int .i64 0, .int .i64 0, .int .i64 0, .int .i64 0] rfl rfl) (by kernel_rfl) ?_; clear HS; intro w21 HS; replace HS := Bx.mk HS
              try dsimp only [List.set] at HS
              refine za HF ?_;clear HF a;intro a HF
              refine wl_ne ?_
              refine wp_ret ?_
              refine ex_then_ret ?_
              refine ex_block_ret ?_
              refine ex_then_ret ?_
              refine ex_then_ret ?_
              refine ex_block_ret ?_
              refine ex_then_ret ?_
              refine bp_ret2 HF Tryz.results134 (HF.resBox rfl (HS.out.box 3 rfl) (by kernel_rfl)) (HF.res rfl) ?_
              refine .inr ⟨fun q hq hqs => ?_, rfl, HS.out.bel⟩
              have hqh := ptr_dash hq hqs (by simpa using cc1); have hqp := ptr_pieces hq hqh; rw [hqs] at hqp; have hqb := PtrD.ok_all hq hqh
              rw [hws] at hqp; simp only [List.cons.injEq, and_true] at hqp; obtain ⟨k0, k1, k2, k3, k4⟩ := hqp
              rw [k3, numG_num (by omega)] at hg10; cases hg10
          · skip
            refine ⟨_, rfl, ?_⟩; replace HS := Bx.mk (HS.out.later hb);clear hb HF a;intro a HF
            refine zr 5 HF rfl ?_;clear HF a;intro a HF
            refine wl_ne ?_
            refine wp_seq ?_
            refine wp_sr ?_
            refine zr 2 HF rfl ?_;clear HF a;intro a HF
            refine wl_ne ?_
            refine wc_true HF rfl ?_
            refine wp_sr ?_
            refine zy HF (yl_build HF rfl (ps := []) rfl (cs := #[.int .i64 0, .int .i64 0, .int .i64 0, .int .i64 0, .int .i64 0]) (by kernel_rfl)) ?_;clear HF a;intro a HF
            refine wl_storeBox rfl HF rfl rfl (HF.ev rfl) (HF.ev rfl) HS.out 3 rfl (cells_lit [.int .i64 0, .int .i64 0, .int .i64 0, .int .i64 0, .int .i64 0] rfl rfl) (by kernel_rfl) ?_; clear HS; intro w22 HS; replace HS := Bx.mk HS
            try dsimp only [List.set] at HS
            refine za HF ?_;clear HF a;intro a HF
            refine wl_ne ?_
            refine wp_ret ?_
            refine ex_then_ret ?_
            refine ex_block_ret ?_
            refine ex_then_ret ?_
            refine ex_then_ret ?_
            refine ex_block_ret ?_
            refine ex_then_ret ?_
            refine bp_ret2 HF Tryz.results134 (HF.resBox rfl (HS.out.box 3 rfl) (by kernel_rfl)) (HF.res rfl) ?_
            refine .inr ⟨fun q hq hqs => ?_, rfl, HS.out.bel⟩
            have hqh := ptr_dash hq hqs (by simpa using cc1); have hqp := ptr_pieces hq hqh; rw [hqs] at hqp; have hqb := PtrD.ok_all hq hqh
            rw [hws] at hqp; simp only [List.cons.injEq, and_true] at hqp; obtain ⟨k0, k1, k2, k3, k4⟩ := hqp
            rw [k2, numG_num (by omega)] at hg9; cases hg9
        · skip
          refine ⟨_, rfl, ?_⟩; replace HS := Bx.mk (HS.out.later hb);clear hb HF a;intro a HF
          refine zr 5 HF rfl ?_;clear HF a;intro a HF
          refine wl_ne ?_
          refine wp_seq ?_
          refine wp_sr ?_
          refine zr 2 HF rfl ?_;clear HF a;intro a HF
          refine wl_ne ?_
          refine wc_true HF rfl ?_
          refine wp_sr ?_
          refine zy HF (yl_build HF rfl (ps := []) rfl (cs := #[.int .i64 0, .int .i64 0, .int .i64 0, .int .i64 0, .int .i64 0]) (by kernel_rfl)) ?_;clear HF a;intro a HF
          refine wl_storeBox rfl HF rfl rfl (HF.ev rfl) (HF.ev rfl) HS.out 3 rfl (cells_lit [.int .i64 0, .int .i64 0, .int .i64 0, .int .i64 0, .int .i64 0] rfl rfl) (by kernel_rfl) ?_; clear HS; intro w23 HS; replace HS := Bx.mk HS
          try dsimp only [List.set] at HS
          refine za HF ?_;clear HF a;intro a HF
          refine wl_ne ?_
          refine wp_ret ?_
          refine ex_then_ret ?_
          refine ex_block_ret ?_
          refine ex_then_ret ?_
          refine ex_then_ret ?_
          refine ex_block_ret ?_
          refine ex_then_ret ?_
          refine bp_ret2 HF Tryz.results134 (HF.resBox rfl (HS.out.box 3 rfl) (by kernel_rfl)) (HF.res rfl) ?_
          refine .inr ⟨fun q hq hqs => ?_, rfl, HS.out.bel⟩
          have hqh := ptr_dash hq hqs (by simpa using cc1); have hqp := ptr_pieces hq hqh; rw [hqs] at hqp; have hqb := PtrD.ok_all hq hqh
          rw [hws] at hqp; simp only [List.cons.injEq, and_true] at hqp; obtain ⟨k0, k1, k2, k3, k4⟩ := hqp
          rw [k1, numG_num (by omega)] at hg8; cases hg8
      · skip
        refine ⟨_, rfl, ?_⟩; replace HS := Bx.mk (HS.out.later hb);clear hb HF a;intro a HF
        refine zr 5 HF rfl ?_;clear HF a;intro a HF
        refine wl_ne ?_
        refine wp_seq ?_
        refine wp_sr ?_
        refine zr 2 HF rfl ?_;clear HF a;intro a HF
        refine wl_ne ?_
        refine wc_true HF rfl ?_
        refine wp_sr ?_
        refine zy HF (yl_build HF rfl (ps := []) rfl (cs := #[.int .i64 0, .int .i64 0, .int .i64 0, .int .i64 0, .int .i64 0]) (by kernel_rfl)) ?_;clear HF a;intro a HF
        refine wl_storeBox rfl HF rfl rfl (HF.ev rfl) (HF.ev rfl) HS.out 3 rfl (cells_lit [.int .i64 0, .int .i64 0, .int .i64 0, .int .i64 0, .int .i64 0] rfl rfl) (by kernel_rfl) ?_; clear HS; intro w24 HS; replace HS := Bx.mk HS
        try dsimp only [List.set] at HS
        refine za HF ?_;clear HF a;intro a HF
        refine wl_ne ?_
        refine wp_ret ?_
        refine ex_then_ret ?_
        refine ex_block_ret ?_
        refine ex_then_ret ?_
        refine ex_then_ret ?_
        refine ex_block_ret ?_
        refine ex_then_ret ?_
        refine bp_ret2 HF Tryz.results134 (HF.resBox rfl (HS.out.box 3 rfl) (by kernel_rfl)) (HF.res rfl) ?_
        refine .inr ⟨fun q hq hqs => ?_, rfl, HS.out.bel⟩
        have hqh := ptr_dash hq hqs (by simpa using cc1); have hqp := ptr_pieces hq hqh; rw [hqs] at hqp; have hqb := PtrD.ok_all hq hqh
        rw [hws] at hqp; simp only [List.cons.injEq, and_true] at hqp; obtain ⟨k0, k1, k2, k3, k4⟩ := hqp
        rw [k0, numG_num (by omega)] at hg7; cases hg7

end Go.Proofs.YtgaodbdadncfhaaGreatDoor

/- Fans: the text of four pointers, and what a text tells. -/
namespace Go.Proofs.YtgaodbdadncfhaaGreatDoor
set_option linter.unusedVariables false
set_option linter.unusedSimpArgs false
set_option maxHeartbeats 1000000
set_option maxRecDepth 100000
open Go.RowKit Go.Lib

def comB : ByteArray := ⟨#[44]⟩
def fanB (l : List PtrD) : ByteArray := joinT (l.map ptrB) comB

theorem splitL_joinL (c : UInt8) : ∀ (x : List UInt8) (r : List (List UInt8)), (∀ y ∈ x :: r, ∀ b ∈ y, b ≠ c) → splitL c (Go.Lib.join (x :: r) [c]) = x :: r
  | x, [], h => by
    rw [show Go.Lib.join [x] [c] = x by simp [Go.Lib.join, Go.Lib.joinTail]]
    exact splitL_none c x (h x (List.mem_cons_self ..))
  | x, y :: r, h => by
    have e : Go.Lib.join (x :: y :: r) [c] = x ++ c :: Go.Lib.join (y :: r) [c] := by simp [Go.Lib.join, Go.Lib.joinTail]
    rw [e, splitL_app c _ x (h x (List.mem_cons_self ..)), splitL_joinL c y r fun z hz => h z (List.mem_cons_of_mem _ hz)]
/-- What was joined is cut to the same pieces. -/
theorem pieces_join {l : List ByteArray} {c : UInt8} (hne : l ≠ []) (h : ∀ y ∈ l, ∀ b ∈ y.data.toList, b ≠ c) : piecesB (joinT l ⟨#[c]⟩) c = l := by
  match l, hne with
  | x :: r, _ =>
    unfold piecesB joinT
    show (splitL c (Go.Lib.join ((x :: r).map (·.data.toList)) [c])).map _ = _
    rw [List.map_cons, splitL_joinL c _ _ (fun y hy b hb => by
      rcases List.mem_cons.1 hy with rfl | hy
      · exact h x (List.mem_cons_self ..) b hb
      · obtain ⟨z, hz, rfl⟩ := List.mem_map.1 hy
        exact h z (List.mem_cons_of_mem _ hz) b hb), ← List.map_cons (f := fun y : ByteArray => y.data.toList)]
    exact map_back (x :: r)
theorem dec_not (c : UInt8) (hc : digitVal c = none) (n : Nat) : ∀ x ∈ (decB n).data.toList, x ≠ c := by
  intro x hx e
  subst e
  obtain ⟨d, hd⟩ := digits_all n x (by rw [← decB_list]; exact hx)
  rw [hc] at hd
  cases hd
theorem num_not (c : UInt8) (hc : digitVal c = none) (n : Int) : ∀ x ∈ (numB n).data.toList, x ≠ c := by
  unfold numB
  split
  · exact dec_not c hc _
  · intro x hx; simp at hx
theorem ptr_no44 (p : PtrD) : ∀ x ∈ (ptrB p).data.toList, x ≠ 44 := by
  cases h : p.ok with
  | false => rw [ptrB_no h]; intro x hx; simp at hx
  | true =>
    cases hh : p.hole with
    | true => rw [ptrB_hole h hh]; intro x hx; rw [show x = 45 from by simpa using hx]; decide
    | false =>
      rw [ptrB_yes h hh]
      intro x hx
      have hn := fun n => num_not 44 (by decide) n x
      simp only [list_append, List.mem_append, show dotB.data.toList = [46] from rfl, List.mem_singleton] at hx
      rcases hx with (((((((hx | hx) | hx) | hx) | hx) | hx) | hx) | hx) | hx
      all_goals first | exact hn _ hx | (rw [hx]; decide)
theorem fan_pieces {l : List PtrD} (hne : l ≠ []) : piecesB (fanB l) 44 = l.map ptrB := by
  refine pieces_join (by simpa using hne) fun y hy => ?_
  obtain ⟨p, _, rfl⟩ := List.mem_map.1 hy
  exact ptr_no44 p
/-- The text of four pointers that are valid and no four holes. -/
structure IsFan (s : ByteArray) (l : List PtrD) : Prop where
  n : l.length = 4
  ok : ∀ p ∈ l, p.ok = true
  some : l.all (fun p => p.hole) = false
  is : fanB l = s
theorem map_inj {l m : List PtrD} (hl : ∀ p ∈ l, p.ok = true) (hm : ∀ p ∈ m, p.ok = true) (h : l.map ptrB = m.map ptrB) : l = m := by
  induction l generalizing m with
  | nil => cases m with
    | nil => rfl
    | cons _ _ => simp at h
  | cons p l ih => cases m with
    | nil => simp at h
    | cons q m =>
      simp only [List.map_cons, List.cons.injEq] at h
      rw [ptrB_inj (hl p (List.mem_cons_self ..)) (hm q (List.mem_cons_self ..)) h.1, ih (fun x hx => hl x (List.mem_cons_of_mem _ hx)) (fun x hx => hm x (List.mem_cons_of_mem _ hx)) h.2]
theorem IsFan.one {s : ByteArray} {l m : List PtrD} (h : IsFan s l) (k : IsFan s m) : l = m := by
  refine map_inj h.ok k.ok ?_
  rw [← fan_pieces (l := l) (fun e => by have := h.n; rw [e] at this; cases this), ← fan_pieces (l := m) (fun e => by have := k.n; rw [e] at this; cases this), h.is, k.is]
theorem IsFan.pieces {s : ByteArray} {l : List PtrD} (h : IsFan s l) : piecesB s 44 = l.map ptrB := by
  rw [← h.is]
  exact fan_pieces fun e => by have := h.n; rw [e] at this; cases this
open Classical in
noncomputable def fanG (s : ByteArray) : Option (List PtrD) := if h : ∃ l, IsFan s l then some h.choose else none
theorem fanG_yes {s : ByteArray} {l : List PtrD} (h : IsFan s l) : fanG s = some l := by
  have he : ∃ l, IsFan s l := ⟨l, h⟩
  unfold fanG
  rw [dif_pos he, he.choose_spec.one h]
theorem fanG_no {s : ByteArray} (h : ∀ l, ¬ IsFan s l) : fanG s = none := by
  unfold fanG
  rw [dif_neg fun ⟨l, hl⟩ => h l hl]
end Go.Proofs.YtgaodbdadncfhaaGreatDoor

/- Trees of blocks: what they tell, plain. -/
namespace Go.Proofs.YtgaodbdadncfhaaGreatDoor
set_option linter.unusedVariables false
set_option linter.unusedSimpArgs false
set_option maxHeartbeats 1000000
set_option maxRecDepth 100000
open Go.RowKit

/-- A pointer fits a text. -/
def fitsB (p : PtrD) (s : ByteArray) : Bool := p.ok && (!p.hole && ((p.fSize == (s.size : Int)) && (p.fSum == sumOf s)))
def rowAt (st : StoreD) (p : PtrD) : ByteArray := st.fRows.getD p.fAt.toNat ByteArray.empty
def readT (st : StoreD) (p : PtrD) : ByteArray := bif p.hole then ByteArray.empty else bif fitsB p (rowAt st p) then rowAt st p else ByteArray.empty
def readB (st : StoreD) (p : PtrD) : Bool := bif p.hole then true else fitsB p (rowAt st p)
theorem readT_hole {st : StoreD} {p : PtrD} (h : p.hole = true) : readT st p = ByteArray.empty := by unfold readT; rw [h]; rfl
theorem readB_hole {st : StoreD} {p : PtrD} (h : p.hole = true) : readB st p = true := by unfold readB; rw [h]; rfl
theorem readT_yes {st : StoreD} {p : PtrD} (h : p.hole = false) (hf : fitsB p (rowAt st p) = true) : readT st p = rowAt st p := by unfold readT; rw [h, hf]; rfl
theorem readT_no {st : StoreD} {p : PtrD} (h : p.hole = false) (hf : fitsB p (rowAt st p) = false) : readT st p = ByteArray.empty := by unfold readT; rw [h, hf]; rfl
theorem readB_is {st : StoreD} {p : PtrD} (h : p.hole = false) : readB st p = fitsB p (rowAt st p) := by unfold readB; rw [h]; rfl
def holes4 : List PtrD := [PtrD.zero, PtrD.zero, PtrD.zero, PtrD.zero]
/-- The pointers below a pointer of a level. -/
noncomputable def kids (st : StoreD) (p : PtrD) (level : Int) : Option (List PtrD) :=
  bif p.hole then some holes4 else bif readB st p && (p.fLevel == level) then (fanG (readT st p)).bind fun l => bif l.any (fun k => decide (p.fBirth < k.fBirth)) then none else some l else none
/-- As the reference asks: valid, and born in the store's time. -/
noncomputable def kidsS (st : StoreD) (p : PtrD) (level : Int) : Option (List PtrD) :=
  bif p.hole then some holes4 else bif p.ok && ((p.fLevel == level) && decide (p.fBirth ≤ st.fTxg)) then kids st p level else none
theorem kids_hole {st : StoreD} {p : PtrD} {n : Int} (h : p.hole = true) : kids st p n = some holes4 := by unfold kids; rw [h]; rfl
theorem kidsS_hole {st : StoreD} {p : PtrD} {n : Int} (h : p.hole = true) : kidsS st p n = some holes4 := by unfold kidsS; rw [h]; rfl
theorem kids_unread {st : StoreD} {p : PtrD} {n : Int} (h : p.hole = false) (hr : readB st p = false) : kids st p n = none := by unfold kids; rw [h, hr]; rfl
theorem kids_level {st : StoreD} {p : PtrD} {n : Int} (h : p.hole = false) (hr : (p.fLevel == n) = false) : kids st p n = none := by unfold kids; rw [h, hr, Bool.and_false]; rfl
theorem kids_nofan {st : StoreD} {p : PtrD} {n : Int} (h : p.hole = false) (hf : ∀ l, ¬ IsFan (readT st p) l) : kids st p n = none := by
  unfold kids
  rw [h, fanG_no hf]
  cases (readB st p && (p.fLevel == n)) <;> rfl
theorem kids_born {st : StoreD} {p : PtrD} {n : Int} {l : List PtrD} (h : p.hole = false) (hf : IsFan (readT st p) l) (hb : l.any (fun k => decide (p.fBirth < k.fBirth)) = true) : kids st p n = none := by
  unfold kids
  rw [h, fanG_yes hf]
  cases (readB st p && (p.fLevel == n))
  · rfl
  · simp only [cond_true, cond_false, Option.bind_some, hb]
theorem kids_yes {st : StoreD} {p : PtrD} {n : Int} {l : List PtrD} (h : p.hole = false) (hr : readB st p = true) (hn : (p.fLevel == n) = true) (hf : IsFan (readT st p) l) (hb : l.any (fun k => decide (p.fBirth < k.fBirth)) = false) : kids st p n = some l := by
  unfold kids
  rw [h, fanG_yes hf, hr, hn]
  simp only [cond_true, cond_false, Option.bind_some, hb, Bool.and_self]
/-- What stands below: four valid pointers, no younger. -/
theorem kids_are {st : StoreD} {p : PtrD} {n : Int} {l : List PtrD} (h : kids st p n = some l) : l.length = 4 ∧ (∀ k ∈ l, k.ok = true) ∧ (p.hole = true ∧ l = holes4 ∨ p.hole = false ∧ p.fLevel = n ∧ readB st p = true ∧ IsFan (readT st p) l ∧ ∀ k ∈ l, k.fBirth ≤ p.fBirth) := by
  cases hh : p.hole with
  | true =>
    rw [kids_hole hh] at h
    obtain rfl := Option.some.inj h
    exact ⟨rfl, fun k hk => by simp only [holes4, List.mem_cons, List.not_mem_nil, or_false, or_self] at hk; rw [hk]; rfl, .inl ⟨rfl, rfl⟩⟩
  | false =>
    cases hr : readB st p with
    | false => rw [kids_unread hh hr] at h; cases h
    | true =>
      cases hn : (p.fLevel == n) with
      | false => rw [kids_level hh hn] at h; cases h
      | true =>
        by_cases hf : ∃ m, IsFan (readT st p) m
        · obtain ⟨m, hm⟩ := hf
          cases hb : m.any (fun k => decide (p.fBirth < k.fBirth)) with
          | true => rw [kids_born hh hm hb] at h; cases h
          | false =>
            rw [kids_yes hh hr hn hm hb] at h
            obtain rfl := Option.some.inj h
            refine ⟨hm.n, hm.ok, .inr ⟨rfl, eq_of_beq hn, rfl, hm, fun k hk => ?_⟩⟩
            have := (List.any_eq_false.1 hb) k hk
            have := of_decide_eq_false (by simpa using this : decide (p.fBirth < k.fBirth) = false)
            omega
        · rw [kids_nofan hh fun l hl => hf ⟨l, hl⟩] at h; cases h
theorem kidsS_eq {st : StoreD} {p : PtrD} {n : Int} (hp : p.ok = true) (hb : p.fBirth ≤ st.fTxg) : kidsS st p n = kids st p n := by
  unfold kidsS
  rw [hp, decide_eq_true hb, Bool.and_true, Bool.true_and]
  cases hh : p.hole with
  | true => rw [kids_hole hh]; rfl
  | false =>
    cases hn : (p.fLevel == n) with
    | false => rw [kids_level hh hn]; rfl
    | true => rfl
theorem kidsS_no {st : StoreD} {p : PtrD} {n : Int} (h : p.hole = false) (hn : (p.ok && ((p.fLevel == n) && decide (p.fBirth ≤ st.fTxg))) = false) : kidsS st p n = none := by unfold kidsS; rw [h, hn]; rfl
theorem kidsS_are {st : StoreD} {p : PtrD} {n : Int} {l : List PtrD} (h : kidsS st p n = some l) : kids st p n = some l ∧ (p.hole = false → p.ok = true ∧ p.fBirth ≤ st.fTxg) := by
  cases hh : p.hole with
  | true => rw [kidsS_hole hh] at h; rw [kids_hole hh]; exact ⟨h, fun e => by cases e⟩
  | false =>
    cases hc : (p.ok && ((p.fLevel == n) && decide (p.fBirth ≤ st.fTxg))) with
    | false => rw [kidsS_no hh hc] at h; cases h
    | true =>
      unfold kidsS at h
      rw [hh, hc] at h
      simp only [Bool.and_eq_true, decide_eq_true_eq] at hc
      exact ⟨h, fun _ => ⟨hc.1, hc.2.2⟩⟩
/-- A level of pointers, from the one above. -/
noncomputable def nextL (f : PtrD → Option (List PtrD)) : List PtrD → Option (List PtrD)
  | [] => some []
  | p :: r => (f p).bind fun k => (nextL f r).map (k ++ ·)
theorem nextL_no {f : PtrD → Option (List PtrD)} {p : PtrD} {r : List PtrD} (h : f p = none) : nextL f (p :: r) = none := by show Option.bind _ _ = _; rw [h]; rfl
theorem nextL_yes {f : PtrD → Option (List PtrD)} {p : PtrD} {r k : List PtrD} (h : f p = some k) : nextL f (p :: r) = (nextL f r).map (k ++ ·) := by show Option.bind _ _ = _; rw [h]; rfl
theorem map_app {o : Option (List PtrD)} (a b : List PtrD) : (o.map (b ++ ·)).map (a ++ ·) = o.map ((a ++ b) ++ ·) := by cases o <;> simp
theorem nextL_congr {f g : PtrD → Option (List PtrD)} : ∀ {l : List PtrD}, (∀ p ∈ l, f p = g p) → nextL f l = nextL g l
  | [], _ => rfl
  | p :: r, h => by
    show Option.bind _ _ = Option.bind _ _
    rw [h p (List.mem_cons_self ..), nextL_congr fun q hq => h q (List.mem_cons_of_mem _ hq)]
theorem nextL_mem {f : PtrD → Option (List PtrD)} : ∀ {l m : List PtrD}, nextL f l = some m → (∀ p ∈ l, ∃ k, f p = some k) ∧ (∀ q ∈ m, ∃ p ∈ l, ∃ k, f p = some k ∧ q ∈ k) ∧ (∀ p ∈ l, ∀ k, f p = some k → ∀ q ∈ k, q ∈ m)
  | [], m, h => by
    obtain rfl : [] = m := Option.some.inj h
    exact ⟨fun p hp => (nomatch hp), fun p hp => (nomatch hp), fun p hp => (nomatch hp)⟩
  | p :: r, m, h => by
    cases hk : f p with
    | none => rw [nextL_no hk] at h; cases h
    | some k =>
      rw [nextL_yes hk] at h
      cases hn : nextL f r with
      | none => rw [hn] at h; cases h
      | some n =>
        rw [hn] at h
        obtain rfl : k ++ n = m := Option.some.inj h
        obtain ⟨i1, i2, i3⟩ := nextL_mem hn
        refine ⟨fun q hq => ?_, fun q hq => ?_, fun q hq k2 hk2 x hx => ?_⟩
        · rcases List.mem_cons.1 hq with rfl | hq
          · exact ⟨k, hk⟩
          · exact i1 q hq
        · rcases List.mem_append.1 hq with hq | hq
          · exact ⟨p, List.mem_cons_self .., k, hk, hq⟩
          · obtain ⟨y, hy, z, hz, hq⟩ := i2 q hq
            exact ⟨y, List.mem_cons_of_mem _ hy, z, hz, hq⟩
        · rcases List.mem_cons.1 hq with rfl | hq
          · rw [hk] at hk2
            obtain rfl := Option.some.inj hk2
            exact List.mem_append_left _ hx
          · exact List.mem_append_right _ (i3 q hq k2 hk2 x hx)
theorem nextL_len {f : PtrD → Option (List PtrD)} (hf : ∀ p k, f p = some k → k.length = 4) : ∀ {l m : List PtrD}, nextL f l = some m → m.length = 4 * l.length
  | [], m, h => by obtain rfl : [] = m := Option.some.inj h; rfl
  | p :: r, m, h => by
    cases hk : f p with
    | none => rw [nextL_no hk] at h; cases h
    | some k =>
      rw [nextL_yes hk] at h
      cases hn : nextL f r with
      | none => rw [hn] at h; cases h
      | some n =>
        rw [hn] at h
        obtain rfl : k ++ n = m := Option.some.inj h
        have := nextL_len hf hn
        rw [List.length_append, hf p k hk, List.length_cons]; omega
/-- All places, level by level. -/
noncomputable def downL (f : PtrD → Int → Option (List PtrD)) : Nat → List PtrD → Option (List PtrD)
  | 0, l => some l
  | n + 1, l => (nextL (fun p => f p ((n + 1 : Nat) : Int)) l).bind (downL f n)
theorem downL_no {f : PtrD → Int → Option (List PtrD)} {n : Nat} {l : List PtrD} (h : nextL (fun p => f p ((n + 1 : Nat) : Int)) l = none) : downL f (n + 1) l = none := by show Option.bind _ _ = _; rw [h]; rfl
theorem downL_yes {f : PtrD → Int → Option (List PtrD)} {n : Nat} {l m : List PtrD} (h : nextL (fun p => f p ((n + 1 : Nat) : Int)) l = some m) : downL f (n + 1) l = downL f n m := by show Option.bind _ _ = _; rw [h]; rfl
theorem downL_len {f : PtrD → Int → Option (List PtrD)} (hf : ∀ p n k, f p n = some k → k.length = 4) : ∀ {n : Nat} {l m : List PtrD}, downL f n l = some m → m.length = 4 ^ n * l.length
  | 0, l, m, h => by obtain rfl : l = m := Option.some.inj h; omega
  | n + 1, l, m, h => by
    cases hn : nextL (fun p => f p ((n + 1 : Nat) : Int)) l with
    | none => rw [downL_no hn] at h; cases h
    | some x =>
      rw [downL_yes hn] at h
      rw [downL_len hf h, nextL_len (fun p k => hf p _ k) hn, Nat.pow_succ, Nat.mul_assoc]
def depthN (many : Int) : Nat := if many ≤ 1 then 0 else if many ≤ 4 then 1 else 2
theorem depthN_le (many : Int) : depthN many ≤ 2 := by unfold depthN; split <;> (try split) <;> omega
theorem depthN_fan {many : Int} (h : many ≤ 16) : many ≤ ((4 ^ depthN many : Nat) : Int) := by
  unfold depthN
  split
  · simp; omega
  · split
    · simp; omega
    · simp; omega
/-- A place that is as it must be. -/
def leafB (st : StoreD) (many : Int) (i : Nat) (p : PtrD) : Bool := bif p.hole then p.fLevel == 0 else readB st p && ((p.fLevel == 0) && decide ((i : Int) < many))
def leavesB (st : StoreD) (many : Int) : Nat → List PtrD → Bool
  | _, [] => true
  | i, p :: r => leafB st many i p && leavesB st many (i + 1) r
def topB (st : StoreD) (t : TreeD) : Bool := inB t.fMany 0 16 && ((t.fDepth == (depthN t.fMany : Int)) && (t.fRoot.ok && decide (t.fRoot.fBirth ≤ st.fTxg)))
/-- The pointers of all places of a valid tree. -/
noncomputable def leavesF (st : StoreD) (t : TreeD) : Option (List PtrD) :=
  bif topB st t then (downL (kids st) (depthN t.fMany) [t.fRoot]).bind fun l => bif leavesB st t.fMany 0 l then some (l.take t.fMany.toNat) else none else none
noncomputable def treeOk (st : StoreD) (t : TreeD) : Bool := (leavesF st t).isSome
theorem leavesF_top {st : StoreD} {t : TreeD} (h : topB st t = false) : leavesF st t = none := by unfold leavesF; rw [h]; rfl
theorem leavesF_down {st : StoreD} {t : TreeD} (h : downL (kids st) (depthN t.fMany) [t.fRoot] = none) : leavesF st t = none := by
  unfold leavesF
  cases topB st t
  · rfl
  · rw [h]; rfl
theorem leavesF_bad {st : StoreD} {t : TreeD} {l : List PtrD} (h : downL (kids st) (depthN t.fMany) [t.fRoot] = some l) (hb : leavesB st t.fMany 0 l = false) : leavesF st t = none := by
  unfold leavesF
  cases topB st t
  · rfl
  · rw [h]
    simp only [cond_true, cond_false, Option.bind_some, hb]
theorem leavesF_yes {st : StoreD} {t : TreeD} {l : List PtrD} (h0 : topB st t = true) (h : downL (kids st) (depthN t.fMany) [t.fRoot] = some l) (hb : leavesB st t.fMany 0 l = true) : leavesF st t = some (l.take t.fMany.toNat) := by
  unfold leavesF
  rw [h0, h]
  simp only [cond_true, cond_false, Option.bind_some, hb]
theorem kids_len {st : StoreD} {p : PtrD} {n : Int} {k : List PtrD} (h : kids st p n = some k) : k.length = 4 := (kids_are h).1
theorem leavesF_is {st : StoreD} {t : TreeD} {r : List PtrD} (h : leavesF st t = some r) : ∃ l, topB st t = true ∧ downL (kids st) (depthN t.fMany) [t.fRoot] = some l ∧ leavesB st t.fMany 0 l = true ∧ r = l.take t.fMany.toNat ∧ l.length = 4 ^ depthN t.fMany ∧ r.length = t.fMany.toNat := by
  cases h0 : topB st t with
  | false => rw [leavesF_top h0] at h; cases h
  | true =>
    cases h1 : downL (kids st) (depthN t.fMany) [t.fRoot] with
    | none => rw [leavesF_down h1] at h; cases h
    | some l =>
      cases h2 : leavesB st t.fMany 0 l with
      | false => rw [leavesF_bad h1 h2] at h; cases h
      | true =>
        rw [leavesF_yes h0 h1 h2] at h
        obtain rfl := Option.some.inj h
        have hl : l.length = 4 ^ depthN t.fMany := by rw [downL_len (fun p n k => kids_len) h1]; simp
        refine ⟨l, rfl, rfl, h2, rfl, hl, ?_⟩
        unfold topB at h0
        rw [Bool.and_eq_true] at h0
        have hi := inB_true h0.1
        have := depthN_fan hi.2
        rw [List.length_take, hl]
        omega
/-! ### The reference's way is the program's -/
theorem young_down {st : StoreD} : ∀ {n : Nat} {l : List PtrD}, (∀ p ∈ l, p.ok = true ∧ p.fBirth ≤ st.fTxg) → 0 ≤ st.fTxg → downL (kidsS st) n l = downL (kids st) n l ∧ ∀ m, downL (kids st) n l = some m → ∀ p ∈ m, p.ok = true ∧ p.fBirth ≤ st.fTxg
  | 0, l, h, _ => ⟨rfl, fun m hm p hp => by obtain rfl : l = m := Option.some.inj hm; exact h p hp⟩
  | n + 1, l, h, h0 => by
    have e : nextL (fun p => kidsS st p ((n + 1 : Nat) : Int)) l = nextL (fun p => kids st p ((n + 1 : Nat) : Int)) l := nextL_congr fun p hp => kidsS_eq (h p hp).1 (h p hp).2
    cases hn : nextL (fun p => kids st p ((n + 1 : Nat) : Int)) l with
    | none => rw [downL_no (e.trans hn), downL_no hn]; exact ⟨rfl, fun m hm => by cases hm⟩
    | some x =>
      rw [downL_yes (e.trans hn), downL_yes hn]
      refine young_down (fun q hq => ?_) h0
      obtain ⟨p, hp, k, hk, hq⟩ := (nextL_mem hn).2.1 q hq
      obtain ⟨_, ok, hc⟩ := kids_are hk
      refine ⟨ok q hq, ?_⟩
      rcases hc with ⟨_, rfl⟩ | ⟨_, _, _, _, hb⟩
      · simp only [holes4, List.mem_cons, List.not_mem_nil, or_false, or_self] at hq
        rw [hq]; exact h0
      · have := hb q hq; have := (h p hp).2; omega
/-- As the reference asks a place. -/
def leafS (st : StoreD) (many : Int) (i : Nat) (p : PtrD) : Bool := bif p.hole then true else readB st p && ((p.fLevel == 0) && (decide (p.fBirth ≤ st.fTxg) && decide ((i : Int) < many)))
def leavesS (st : StoreD) (many : Int) : Nat → List PtrD → Bool
  | _, [] => true
  | i, p :: r => leafS st many i p && leavesS st many (i + 1) r
theorem hole_level {p : PtrD} (h : p.hole = true) : p.fLevel = 0 := by rw [hole_zero h]; rfl
theorem hole_birth {p : PtrD} (h : p.hole = true) : p.fBirth = 0 := by rw [hole_zero h]; rfl
theorem leafS_eq {st : StoreD} {many : Int} {i : Nat} {p : PtrD} (h : p.fBirth ≤ st.fTxg) : leafS st many i p = leafB st many i p := by
  unfold leafS leafB
  cases hh : p.hole with
  | true => show true = (p.fLevel == 0); rw [hole_level hh]; rfl
  | false => rw [decide_eq_true h, Bool.true_and]; rfl
theorem leavesS_eq {st : StoreD} {many : Int} : ∀ {i : Nat} {l : List PtrD}, (∀ p ∈ l, p.fBirth ≤ st.fTxg) → leavesS st many i l = leavesB st many i l
  | _, [], _ => rfl
  | i, p :: r, h => by
    show (_ && _) = (_ && _)
    rw [leafS_eq (h p (List.mem_cons_self ..)), leavesS_eq fun q hq => h q (List.mem_cons_of_mem _ hq)]
def topS (t : TreeD) : Bool := inB t.fMany 0 16 && ((t.fDepth == (depthN t.fMany : Int)) && t.fRoot.ok)
noncomputable def okS (st : StoreD) (t : TreeD) : Bool := topS t && match downL (kidsS st) (depthN t.fMany) [t.fRoot] with | none => false | some l => leavesS st t.fMany 0 l
theorem okS_top {st : StoreD} {t : TreeD} (h : topS t = false) : okS st t = false := by unfold okS; rw [h]; rfl
theorem okS_down {st : StoreD} {t : TreeD} (h : downL (kidsS st) (depthN t.fMany) [t.fRoot] = none) : okS st t = false := by unfold okS; rw [h, Bool.and_false]
theorem okS_is {st : StoreD} {t : TreeD} {l : List PtrD} (h0 : topS t = true) (h : downL (kidsS st) (depthN t.fMany) [t.fRoot] = some l) : okS st t = leavesS st t.fMany 0 l := by unfold okS; rw [h0, h]; rfl
theorem okS_eq {st : StoreD} {t : TreeD} (h0 : 0 ≤ st.fTxg) : okS st t = treeOk st t := by
  unfold treeOk
  cases ht : topS t with
  | false =>
    rw [okS_top ht, leavesF_top (by unfold topB; unfold topS at ht; rw [← Bool.and_assoc, ← Bool.and_assoc]; rw [← Bool.and_assoc] at ht; rw [ht]; rfl)]; rfl
  | true =>
    have hok : t.fRoot.ok = true := by unfold topS at ht; simp only [Bool.and_eq_true] at ht; exact ht.2.2
    by_cases hb : t.fRoot.fBirth ≤ st.fTxg
    · have htop : topB st t = true := by unfold topB; unfold topS at ht; rw [decide_eq_true hb, Bool.and_true]; exact ht
      obtain ⟨e, hy⟩ := young_down (st := st) (n := depthN t.fMany) (l := [t.fRoot]) (fun p hp => by rw [List.mem_singleton.1 hp]; exact ⟨hok, hb⟩) h0
      cases hd : downL (kids st) (depthN t.fMany) [t.fRoot] with
      | none => rw [okS_down (e.trans hd), leavesF_down hd]; rfl
      | some l =>
        rw [okS_is ht (e.trans hd), leavesS_eq fun p hp => (hy l hd p hp).2]
        cases hl : leavesB st t.fMany 0 l with
        | true => rw [leavesF_yes htop hd hl]; rfl
        | false => rw [leavesF_bad hd hl]; rfl
    · have htop : topB st t = false := by unfold topB; rw [decide_eq_false hb]; simp
      rw [leavesF_top htop]
      have hh : t.fRoot.hole = false := by
        cases hh : t.fRoot.hole with
        | false => rfl
        | true => have := hole_birth hh; omega
      cases hd : depthN t.fMany with
      | zero =>
        rw [okS_is (l := [t.fRoot]) ht (by rw [hd]; rfl)]
        show (leafS st t.fMany 0 t.fRoot && true) = false
        unfold leafS
        rw [hh, decide_eq_false hb]; simp
      | succ n =>
        rw [okS_down (by rw [hd]; exact downL_no (nextL_no (kidsS_no hh (by rw [decide_eq_false hb]; simp))))]; rfl
/-! ### All pointers of a tree, each ahead of what is below it -/
noncomputable def allL (st : StoreD) : Nat → PtrD → List PtrD
  | 0, p => bif p.hole then [] else [p]
  | n + 1, p => bif p.hole then [] else p :: ((kids st p ((n + 1 : Nat) : Int)).getD []).flatMap (allL st n)
theorem allL_hole {st : StoreD} {p : PtrD} (h : p.hole = true) : ∀ n, allL st n p = []
  | 0 => by unfold allL; rw [h]; rfl
  | n + 1 => by unfold allL; rw [h]; rfl
/-- A pointer at a level of a valid tree, with all below it. -/
def Wf (st : StoreD) : Nat → PtrD → Prop
  | 0, p => p.ok = true ∧ p.fBirth ≤ st.fTxg ∧ p.fLevel = 0 ∧ readB st p = true
  | n + 1, p => p.ok = true ∧ p.fBirth ≤ st.fTxg ∧ ∃ l, kids st p ((n + 1 : Nat) : Int) = some l ∧ ∀ k ∈ l, Wf st n k
theorem Wf.ok {st : StoreD} : ∀ {n : Nat} {p : PtrD}, Wf st n p → p.ok = true ∧ p.fBirth ≤ st.fTxg
  | 0, _, h => ⟨h.1, h.2.1⟩
  | _ + 1, _, h => ⟨h.1, h.2.1⟩
theorem Wf.level {st : StoreD} : ∀ {n : Nat} {p : PtrD}, Wf st n p → p.hole = false → p.fLevel = (n : Int)
  | 0, _, h, _ => h.2.2.1
  | n + 1, p, ⟨_, _, l, hk, _⟩, hh => by
    rcases (kids_are hk).2.2 with ⟨e, _⟩ | ⟨_, e, _⟩
    · rw [hh] at e; cases e
    · exact e
theorem Wf.zero {st : StoreD} (h0 : 0 ≤ st.fTxg) : ∀ n, Wf st n PtrD.zero
  | 0 => ⟨rfl, h0, rfl, rfl⟩
  | n + 1 => ⟨rfl, h0, holes4, kids_hole rfl, fun k hk => by
    simp only [holes4, List.mem_cons, List.not_mem_nil, or_false, or_self] at hk
    rw [hk]; exact Wf.zero h0 n⟩
end Go.Proofs.YtgaodbdadncfhaaGreatDoor

/- Trees and roots read: walked. -/
namespace Go.Proofs.YtgaodbdadncfhaaGreatDoor
set_option linter.unusedVariables false
set_option linter.unusedSimpArgs false
set_option maxHeartbeats 1000000
set_option maxRecDepth 100000
open Go.RowKit

/-- What three fields tell. -/
structure IsTree (x y z : ByteArray) (t : TreeD) : Prop where
  ok : t.fRoot.ok = true
  p : ptrB t.fRoot = x
  d : 0 ≤ t.fDepth ∧ t.fDepth ≤ 999999999 ∧ numB t.fDepth = y
  m : 0 ≤ t.fMany ∧ t.fMany ≤ 999999999 ∧ numB t.fMany = z
theorem num_one {m n : Int} {y : ByteArray} (h : 0 ≤ m ∧ m ≤ 999999999 ∧ numB m = y) (k : 0 ≤ n ∧ n ≤ 999999999 ∧ numB n = y) : m = n := by
  have h1 := numG_num ⟨h.1, h.2.1⟩
  have h2 := numG_num ⟨k.1, k.2.1⟩
  rw [h.2.2] at h1
  rw [k.2.2, h1] at h2
  have := Option.some.inj h2
  omega
theorem IsTree.one {x y z : ByteArray} {t u : TreeD} (h : IsTree x y z t) (k : IsTree x y z u) : t = u := by
  have h1 := ptrB_inj h.ok k.ok (h.p.trans k.p.symm)
  have h2 := num_one h.d k.d
  have h3 := num_one h.m k.m
  cases t; cases u
  simp only at h1 h2 h3
  rw [h1, h2, h3]
theorem RootD.all {x : RootD} (h : x.ok = true) : (1 ≤ x.fTxg ∧ x.fTxg ≤ 900) ∧ x.fMeta.fRoot.ok = true ∧ (0 ≤ x.fMeta.fDepth ∧ x.fMeta.fDepth ≤ 2) ∧ (1 ≤ x.fMeta.fMany ∧ x.fMeta.fMany ≤ 16) := by
  unfold RootD.ok at h
  cases h1 : inB x.fTxg 1 900 with
  | false => rw [h1] at h; cases h
  | true =>
    cases h2 : x.fMeta.fRoot.ok with
    | false => rw [h1, h2] at h; cases h
    | true =>
      cases h3 : inB x.fMeta.fDepth 0 2 with
      | false => rw [h1, h2, h3] at h; cases h
      | true =>
        rw [h1, h2, h3] at h
        have k1 := inB_true h1
        have k3 := inB_true h3
        have k4 := inB_true (show inB x.fMeta.fMany 1 16 = true from h)
        exact ⟨by omega, rfl, by omega, by omega⟩
end Go.Proofs.YtgaodbdadncfhaaGreatDoor

/- Nodes: what they tell, plain. -/
namespace Go.Proofs.YtgaodbdadncfhaaGreatDoor
set_option linter.unusedVariables false
set_option linter.unusedSimpArgs false
set_option maxHeartbeats 1000000
set_option maxRecDepth 100000
open Go.RowKit

structure NodeD where
  fKind : Int
  fLinks : Int
  fSize : Int
  fTree : TreeD
abbrev nV (n : NodeD) : Value := .agg #[.int .i64 n.fKind, .int .i64 n.fLinks, .int .i64 n.fSize, .int .i64 n.fTree.fRoot.fAt, .int .i64 n.fTree.fRoot.fBirth, .int .i64 n.fTree.fRoot.fSize, .int .i64 n.fTree.fRoot.fSum, .int .i64 n.fTree.fRoot.fLevel, .int .i64 n.fTree.fDepth, .int .i64 n.fTree.fMany]
def eachN (kind : Int) : Int := if kind = 1 then 12 else if kind = 2 then 128 else 0
theorem eachN_file : eachN 1 = 12 := rfl
theorem eachN_none {k : Int} (h1 : k ≠ 1) (h2 : k ≠ 2) : eachN k = 0 := by unfold eachN; rw [if_neg h1, if_neg h2]
def piecesN (kind size : Int) : Int := if eachN kind = 0 ∨ ¬ (0 ≤ size ∧ size ≤ 16 * eachN kind) then -1 else (size + eachN kind - 1) / eachN kind
theorem piecesN_no {k s : Int} (h : eachN k = 0) : piecesN k s = -1 := if_pos (.inl h)
theorem piecesN_out {k s : Int} (h : ¬ (0 ≤ s ∧ s ≤ 16 * eachN k)) : piecesN k s = -1 := if_pos (.inr h)
theorem piecesN_in {k s : Int} (h : eachN k ≠ 0) (h1 : 0 ≤ s) (h2 : s ≤ 16 * eachN k) : piecesN k s = (s + eachN k - 1) / eachN k := if_neg fun e => e.elim h fun e => e ⟨h1, h2⟩
/-- A node that is formed. -/
structure NodeOk (n : NodeD) : Prop where
  many : 0 ≤ piecesN n.fKind n.fSize
  links : 1 ≤ n.fLinks ∧ n.fLinks ≤ if n.fKind = 2 then 1 else 9
  tmany : n.fTree.fMany = piecesN n.fKind n.fSize
  depth : n.fTree.fDepth = ((depthN (piecesN n.fKind n.fSize) : Nat) : Int)
  root : n.fTree.fRoot.ok = true
  level : n.fTree.fRoot.hole = true ∨ n.fTree.fRoot.fLevel = n.fTree.fDepth
instance (n : NodeD) : Decidable (NodeOk n) := decidable_of_iff (0 ≤ piecesN n.fKind n.fSize ∧ (1 ≤ n.fLinks ∧ n.fLinks ≤ if n.fKind = 2 then 1 else 9) ∧ n.fTree.fMany = piecesN n.fKind n.fSize ∧ n.fTree.fDepth = ((depthN (piecesN n.fKind n.fSize) : Nat) : Int) ∧ n.fTree.fRoot.ok = true ∧ (n.fTree.fRoot.hole = true ∨ n.fTree.fRoot.fLevel = n.fTree.fDepth)) ⟨fun ⟨a, b, c, d, e, f⟩ => ⟨a, b, c, d, e, f⟩, fun ⟨a, b, c, d, e, f⟩ => ⟨a, b, c, d, e, f⟩⟩
def NodeD.ok (n : NodeD) : Bool := decide (NodeOk n)
theorem NodeD.ok_yes {n : NodeD} (h : NodeOk n) : n.ok = true := decide_eq_true h
theorem NodeD.ok_no {n : NodeD} (h : ¬ NodeOk n) : n.ok = false := decide_eq_false h
theorem NodeD.ok_is {n : NodeD} (h : n.ok = true) : NodeOk n := of_decide_eq_true h
structure NodeS (n : NodeD) : Prop where
  kind : n.fKind = 1 ∨ n.fKind = 2
  links : 1 ≤ n.fLinks ∧ n.fLinks ≤ 9
  size : 0 ≤ n.fSize ∧ n.fSize ≤ 16 * eachN n.fKind
  is : piecesN n.fKind n.fSize = (n.fSize + eachN n.fKind - 1) / eachN n.fKind
  many : 0 ≤ n.fTree.fMany ∧ n.fTree.fMany ≤ 16
  depth : 0 ≤ n.fTree.fDepth ∧ n.fTree.fDepth ≤ 2
theorem NodeOk.small {n : NodeD} (h : NodeOk n) : NodeS n := by
  have hk : n.fKind = 1 ∨ n.fKind = 2 := by
    by_cases h1 : n.fKind = 1
    · exact .inl h1
    · by_cases h2 : n.fKind = 2
      · exact .inr h2
      · have := h.many
        rw [piecesN_no (eachN_none h1 h2)] at this
        omega
  have he : 12 ≤ eachN n.fKind ∧ eachN n.fKind ≤ 128 := by rcases hk with e | e <;> rw [e] <;> decide
  have hs : 0 ≤ n.fSize ∧ n.fSize ≤ 16 * eachN n.fKind := by
    by_cases hs : 0 ≤ n.fSize ∧ n.fSize ≤ 16 * eachN n.fKind
    · exact hs
    · have := h.many
      rw [piecesN_out hs] at this
      omega
  have hp := piecesN_in (k := n.fKind) (by omega) hs.1 hs.2
  have hl := h.links
  have hm : piecesN n.fKind n.fSize ≤ 16 := by
    rw [hp]
    have : (n.fSize + eachN n.fKind - 1) / eachN n.fKind < 17 := Int.ediv_lt_of_lt_mul (by omega) (by omega)
    omega
  have hd := depthN_le (piecesN n.fKind n.fSize)
  have h1 := h.many
  have h2 := h.tmany
  have h3 := h.depth
  refine ⟨hk, ⟨hl.1, ?_⟩, hs, hp, by omega, by omega⟩
  have := hl.2
  split at this <;> omega
def endB : ByteArray := ⟨#[101, 110, 100]⟩
def nodeL (n : NodeD) : List ByteArray := [numB n.fKind, numB n.fLinks, numB n.fSize, ptrB n.fTree.fRoot, numB n.fTree.fDepth, numB n.fTree.fMany, endB]
def nodeB (n : NodeD) : ByteArray := bif n.ok then (fieldsPut (nodeL n)).1 else ByteArray.empty
open Classical in
/-- The node that a text is the text of. -/
noncomputable def nodeG (s : ByteArray) : Option NodeD := if h : ∃ n : NodeD, n.ok = true ∧ nodeB n = s then some h.choose else none
end Go.Proofs.YtgaodbdadncfhaaGreatDoor

/- Rows written in place: a reference given up. -/
namespace Go.Proofs.YtgaodbdadncfhaaGreatDoor
set_option linter.unusedVariables false
set_option linter.unusedSimpArgs false
set_option maxHeartbeats 1000000
set_option maxRecDepth 100000
open Go.RowKit

/-! ### What the functions reckon -/
def SpaceD.give (s : SpaceD) (a : Nat) : SpaceD := { fRefs := s.fRefs.set a (s.fRefs.getD a 0 - 1), fLast := if s.fRefs.getD a 0 - 1 = 0 then s.fLast.set a 0 else s.fLast }
def StoreD.drop (st : StoreD) (a : Nat) : StoreD := { st with fSpace := st.fSpace.give a, fRows := if st.fSpace.fRefs.getD a 0 - 1 = 0 then st.fRows.set a ByteArray.empty else st.fRows }
def StoreD.drops (st : StoreD) (ps : List PtrD) : StoreD := ps.foldl (fun st p => st.drop p.fAt.toNat) st
def StoreD.next (st : StoreD) : StoreD := { st.drops st.fGone with fGone := [], fTxg := st.fTxg + 1 }

end Go.Proofs.YtgaodbdadncfhaaGreatDoor
