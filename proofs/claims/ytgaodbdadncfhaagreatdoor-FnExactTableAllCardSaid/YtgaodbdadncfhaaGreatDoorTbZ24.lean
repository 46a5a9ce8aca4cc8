/- A part of the proof in YtgaodbdadncfhaaGreatDoorTbZ29. -/
import Derived.Test.YtgaodbdadncfhaaGreatDoorTbZ23
/- Records read by the reference; nodes asked and told: walked. -/
namespace Go.Proofs.YtgaodbdadncfhaaGreatDoor
set_option linter.unusedVariables false
set_option linter.unusedSimpArgs false
set_option maxHeartbeats 1000000
set_option maxRecDepth 100000
open Go.RowKit

theorem l1S_k9 {s : ByteArray} {n k : Nat} (h : l1S s n k) : k ≤ 9 := by
  rcases h with ⟨h, _⟩ | ⟨_, rfl, _⟩
  · exact h
  · decide
theorem byte58 {b : UInt8} (h : ((b.toNat : Nat) : Int) = 58) : b = 58 := UInt8.toNat_inj.1 (by show b.toNat = 58; omega)
theorem recB_szs {s : ByteArray} {xs : List ByteArray} {r : ByteArray} (h : RdTo s xs r) (hs : s.size ≤ 1000000) : szs xs := fun k => by
  by_cases hk : k < xs.length
  · have h1 := recB_elem xs hk
    have h2 := congrArg List.length h.is
    rw [List.length_append, ← size_list, ← size_list] at h2
    omega
  · rw [List.getD_eq_getElem?_getD, List.getElem?_eq_none (by omega)]; decide

theorem fieldsPut_back {l : List ByteArray} (h : (fieldsPut l).2 = true) : l.length ≤ 60 ∧ (fieldsPut l).1 = recB l ∧ (recB l).size ≤ 2048 := by
  unfold fieldsPut at h ⊢
  split at h
  · next e => rw [if_pos e]; exact ⟨e.1, rfl, e.2⟩
  · cases h

theorem specFieldsGet_any (s : ByteArray) (w0 : World) (hs : s.size ≤ 1000000) : Calls Tryz.prog 110 #[.string s] w0 fun e w' => (∃ xs, IsRec s xs ∧ s.size ≤ 2048 ∧ ∃ ao cp, e = .returned (.tuple #[.slice ao xs.length cp, .bool true]) ∧ St w0 [rowA encS 1 9 (.slice ao xs.length cp) xs] w') ∨ ((∀ l, IsRec s l → s.size ≤ 2048 → False) ∧ ∃ ao, e = .returned (.tuple #[.slice ao 0 0, .bool false]) ∧ Below w0.heap.size w0 w') := by
 have HS := Bx.mk (St.start w0)
 refine wc_enter Tryz.func110 rfl Tryz.ntmps110 [(0, .string s)] ⟨rfl, trivial⟩ rfl ?_; intro a HF
 refine wp_sr ?_
 refine zr 2 HF rfl ?_;clear HF a;intro a HF
 refine wl_ne ?_
 refine wp_sr ?_
 refine wl_empty (e := 9) (size := 1) rfl HF rfl rfl rfl (by kernel_rfl) HS.out ?_; clear HF HS a; intro a w1 b1 HF HS; replace HS := Bx.mk HS
 refine za HF ?_;clear HF a;intro a HF
 refine wl_ne ?_
 refine wp_sr ?_
 refine za HF ?_;clear HF a;intro a HF
 refine wl_ne ?_
 refine wp_seq ?_
 refine wp_block ?_
 replace HS := Bx.mk (HS.out.nilRow encS 1 9 (some ⟨b1, 0, none⟩))
 refine wc_loop (ι := Nat) (fun p a w => ∃ (ao : Option Addr) (cp : Nat) (xs : List ByteArray), (p ≤ s.size ∧ xs.length ≤ p ∧ RdTo s xs (s.extract p s.size) ∧ (p ≠ 0 → s.size ≤ 2048)) ∧ Fr 92 a [(0, .string s), (2, .slice none 0 0), (3, .bool false), (4, .slice ao xs.length cp), (5, .int .i64 (p : Int))] ∧ St w0 ([rowA encS 1 9 (.slice ao xs.length cp) xs]) w) (fun p => s.size - p) 0 ⟨_, _, [], ⟨Nat.zero_le _, Nat.zero_le _, by rw [show s.extract 0 s.size = s from ByteArray.extract_zero_size]; exact RdTo.zero s, fun h => absurd rfl h⟩, HF.less _ ⟨rfl, rfl, rfl, rfl, rfl, trivial⟩, HS.out⟩ ?_
 clear HF HS; clear a
 rintro p a w2 ⟨ao, cp, xs, ⟨hp, hxp, hto, hps⟩, HF, HS⟩
 replace HS := Bx.mk HS
 refine wp_seq ?_
 refine wp_sr ?_
 refine zr 2 HF rfl ?_;clear HF a;intro a HF
 refine zy HF (yl_lenS rfl (HF.ev rfl) (by kernel_rfl)) ?_;clear HF a;intro a HF
 refine zr 2 HF rfl ?_;clear HF a;intro a HF
 refine HF.cases 15 rfl (fun cc1 _ => ?_) fun cc1 _ => ?_
 ·clear HF;rename_i HF
  have dcc1 := of_decide_eq_true cc1
  refine zg HF (yl_move rfl (HF.ev rfl)) ?_;clear HF a;intro a HF
  refine zg HF (yl_lenS rfl (HF.ev rfl) (by kernel_rfl)) ?_;clear HF a;intro a HF
  refine zr 2 HF rfl ?_;clear HF a;intro a HF
  refine wl_ne ?_
  refine HF.cases 19 rfl (fun cc2 _ => ?_) fun cc2 _ => ?_
  ·clear HF;rename_i HF
   have dcc2 := of_decide_eq_true cc2
   refine wc_true HF rfl ?_
   refine wp_skip ?_
   refine ex_then ?_
   refine wp_block ?_
   refine wp_sr ?_
   refine zr 2 HF rfl ?_;clear HF a;intro a HF
   refine zy HF (yl_sliceSl (k := p) rfl (HF.ev rfl) (HF.ev rfl) (by kernel_rfl) (by omega) (by omega)) ?_;clear HF a;intro a HF
   refine wl_call rfl HF rfl (enter_of Tryz.func137 (by kernel_rfl) rfl) (args := #[.string (s.extract p s.size)]) rfl (l1Num_any (s.extract p s.size) _ (by rw [ByteArray.size_extract]; omega)) rfl rfl ?_
   rintro _ w3 ⟨n, k, hl1, hn9, rfl, hb⟩
   refine ⟨_, rfl, ?_⟩; replace HS := Bx.mk (HS.out.later hb);clear hb HF a;intro a HF
   have hk9 := l1S_k9 hl1
   refine zr 5 HF rfl ?_;clear HF a;intro a HF
   refine wl_ne ?_
   refine wp_seq ?_
   refine wp_sr ?_
   refine zr 3 HF rfl ?_;clear HF a;intro a HF
   refine HF.cases 29 rfl (fun cc3 _ => ?_) fun cc3 _ => ?_
   ·clear HF;rename_i HF
    have dcc3 := eq_of_beq cc3
    refine zr 26 HF rfl ?_;clear HF a;intro a HF
    refine wl_ne ?_
    refine wc_true HF rfl ?_
    refine wp_sr ?_
    refine wl_empty (e := 9) (size := 1) rfl HF rfl rfl rfl (by kernel_rfl) HS.out ?_; clear HF HS a; intro a w4 b2 HF HS; replace HS := Bx.mk HS
    refine zr 2 HF rfl ?_;clear HF a;intro a HF
    refine wl_ne ?_
    refine wp_ret ?_
    refine ex_then_ret ?_
    refine ex_block_ret ?_
    refine ex_then_ret ?_
    refine ex_block_ret ?_
    refine ex_then_ret ?_
    refine bp_ret2 HF Tryz.results110 (HF.res rfl) (HF.res rfl) ?_
    refine .inr ⟨fun l h h2 => ?_, _, rfl, HS.out.bel⟩
    obtain ⟨q0, q1, q2, q3⟩ := fld_go hto hl1 h h2 (by omega)
    omega
   ·clear HF;rename_i HF
    have dcc3 := ne_of_beq_false cc3
    refine zr 2 HF rfl ?_;clear HF a;intro a HF
    refine zg HF (yl_addI rfl (HF.ev rfl) (HF.ev rfl) (i64w (by omega))) ?_;clear HF a;intro a HF
    refine zg HF (yl_move rfl (HF.ev rfl)) ?_;clear HF a;intro a HF
    refine zg HF (yl_lenS rfl (HF.ev rfl) (by kernel_rfl)) ?_;clear HF a;intro a HF
    refine zr 3 HF rfl ?_;clear HF a;intro a HF
    refine HF.cases 37 rfl (fun cc4 _ => ?_) fun cc4 _ => ?_
    ·clear HF;rename_i HF
     have dcc4 := of_decide_eq_true cc4
     refine zr 18 HF rfl ?_;clear HF a;intro a HF
     refine wl_ne ?_
     refine wc_true HF rfl ?_
     refine wp_sr ?_
     refine wl_empty (e := 9) (size := 1) rfl HF rfl rfl rfl (by kernel_rfl) HS.out ?_; clear HF HS a; intro a w5 b3 HF HS; replace HS := Bx.mk HS
     refine zr 2 HF rfl ?_;clear HF a;intro a HF
     refine wl_ne ?_
     refine wp_ret ?_
     refine ex_then_ret ?_
     refine ex_block_ret ?_
     refine ex_then_ret ?_
     refine ex_block_ret ?_
     refine ex_then_ret ?_
     refine bp_ret2 HF Tryz.results110 (HF.res rfl) (HF.res rfl) ?_
     refine .inr ⟨fun l h h2 => ?_, _, rfl, HS.out.bel⟩
     obtain ⟨q0, q1, q2, q3⟩ := fld_go hto hl1 h h2 (by omega)
     omega
    ·clear HF;rename_i HF
     have dcc4 := of_decide_eq_false cc4
     refine zr 3 HF rfl ?_;clear HF a;intro a HF
     refine zg HF (yl_addI rfl (HF.ev rfl) (HF.ev rfl) (i64w (by omega))) ?_;clear HF a;intro a HF
     refine zg HF (yl_indexS (i := p + k) rfl (HF.ev rfl) (HF.ev rfl) (by kernel_rfl) (by omega) (by omega)) ?_;clear HF a;intro a HF
     refine zr 3 HF rfl ?_;clear HF a;intro a HF
     refine HF.cases 45 rfl (fun cc5 _ => ?_) fun cc5 _ => ?_
     ·clear HF;rename_i HF
      have dcc5 := bne_iff_ne.1 cc5
      refine zr 10 HF rfl ?_;clear HF a;intro a HF
      refine wl_ne ?_
      refine wc_true HF rfl ?_
      refine wp_sr ?_
      refine wl_empty (e := 9) (size := 1) rfl HF rfl rfl rfl (by kernel_rfl) HS.out ?_; clear HF HS a; intro a w6 b4 HF HS; replace HS := Bx.mk HS
      refine zr 2 HF rfl ?_;clear HF a;intro a HF
      refine wl_ne ?_
      refine wp_ret ?_
      refine ex_then_ret ?_
      refine ex_block_ret ?_
      refine ex_then_ret ?_
      refine ex_block_ret ?_
      refine ex_then_ret ?_
      refine bp_ret2 HF Tryz.results110 (HF.res rfl) (HF.res rfl) ?_
      refine .inr ⟨fun l h h2 => ?_, _, rfl, HS.out.bel⟩
      obtain ⟨q0, q1, q2, q3⟩ := fld_go hto hl1 h h2 (by omega)
      have hq := congrArg UInt8.toNat q2; have h58 : (58 : UInt8).toNat = 58 := rfl; omega
     ·clear HF;rename_i HF
      have dcc5 := bne_eq_false_iff_eq.1 cc5
      refine zr 2 HF rfl ?_;clear HF a;intro a HF
      refine zg HF (yl_lenS rfl (HF.ev rfl) (by kernel_rfl)) ?_;clear HF a;intro a HF
      refine zg HF (yl_move rfl (HF.ev rfl)) ?_;clear HF a;intro a HF
      refine zg HF (yl_subI rfl (HF.ev rfl) (HF.ev rfl) (i64w (by omega))) ?_;clear HF a;intro a HF
      refine zg HF (yl_move rfl (HF.ev rfl)) ?_;clear HF a;intro a HF
      refine zg HF (yl_subI rfl (HF.ev rfl) (HF.ev rfl) (i64w (by omega))) ?_;clear HF a;intro a HF
      refine zg HF (yl_subI rfl (HF.ev rfl) (HF.ev rfl) (i64w (by omega))) ?_;clear HF a;intro a HF
      refine zr 2 HF rfl ?_;clear HF a;intro a HF
      refine wl_ne ?_
      refine HF.cases 55 rfl (fun cc6 _ => ?_) fun cc6 _ => ?_
      ·clear HF;rename_i HF
       have dcc6 := of_decide_eq_true cc6
       refine wc_true HF rfl ?_
       refine wp_sr ?_
       refine wl_empty (e := 9) (size := 1) rfl HF rfl rfl rfl (by kernel_rfl) HS.out ?_; clear HF HS a; intro a w7 b5 HF HS; replace HS := Bx.mk HS
       refine zr 2 HF rfl ?_;clear HF a;intro a HF
       refine wl_ne ?_
       refine wp_ret ?_
       refine ex_then_ret ?_
       refine ex_block_ret ?_
       refine ex_then_ret ?_
       refine ex_block_ret ?_
       refine ex_then_ret ?_
       refine bp_ret2 HF Tryz.results110 (HF.res rfl) (HF.res rfl) ?_
       refine .inr ⟨fun l h h2 => ?_, _, rfl, HS.out.bel⟩
       obtain ⟨q0, q1, q2, q3⟩ := fld_go hto hl1 h h2 (by omega)
       omega
      ·clear HF;rename_i HF
       have dcc6 := of_decide_eq_false cc6
       refine wc_false HF rfl ?_
       refine wp_skip ?_
       refine ex_then ?_
       refine wp_sr ?_
       refine zr 4 HF rfl ?_;clear HF a;intro a HF
       refine zy HF (yl_addI rfl (HF.ev rfl) (HF.ev rfl) (i64w (by omega))) ?_;clear HF a;intro a HF
       refine zy HF (yl_addI rfl (HF.ev rfl) (HF.ev rfl) (i64w (by omega))) ?_;clear HF a;intro a HF
       refine zr 2 HF rfl ?_;clear HF a;intro a HF
       refine zy HF (yl_addI rfl (HF.ev rfl) (HF.ev rfl) (i64w (by omega))) ?_;clear HF a;intro a HF
       refine zy HF (yl_addI rfl (HF.ev rfl) (HF.ev rfl) (i64w (by omega))) ?_;clear HF a;intro a HF
       refine zm HF ?_;clear HF a;intro a HF
       refine zy HF (yl_addI rfl (HF.ev rfl) (HF.ev rfl) (i64w (by omega))) ?_;clear HF a;intro a HF
       refine zy HF (yl_sliceSm (i := (p + k) + 1) (j := ((p + k) + 1) + n) rfl (HF.ev rfl) (HF.ev rfl) (HF.ev rfl) (by kernel_rfl) (by omega) (by omega) (by omega) (by omega)) ?_;clear HF a;intro a HF
       refine wl_buildS (enc := encS) (e := 9) (size := 1) rfl HF rfl rfl rfl (ps := [(0, .string (s.extract ((p + k) + 1) (((p + k) + 1) + n)))]) rfl (cells := [.string (s.extract ((p + k) + 1) (((p + k) + 1) + n))]) (by kernel_rfl) [s.extract ((p + k) + 1) (((p + k) + 1) + n)] rfl rfl (by unfold maxLen; omega) rfl HS.out ?_; clear HF HS a; intro b6 a w8 HF HS; replace HS := Bx.mk HS
       refine wl_appL rfl HF rfl rfl rfl (HF.ev rfl) (HF.ev rfl) elemS encS_len HS.out 1 (xs := xs) rfl (ys := [s.extract ((p + k) + 1) (((p + k) + 1) + n)]) (St.rdN HS.out encS_len 0 rfl) (cells_one_S _) (by unfold maxLen; (try simp only [List.length_append, List.length_cons, List.length_nil, List.nil_append, List.length_map]); omega) (by (try simp only [List.length_append, List.length_cons, List.length_nil, List.nil_append, List.length_map]); omega) ?_; clear HF HS a; intro ao7 cp8 w9 a HF HS; replace HS := Bx.mk HS
       try dsimp only [List.eraseIdx] at HS
       refine za HF ?_;clear HF a;intro a HF
       refine wl_ne ?_
       refine wp_region_lit ?_
       refine zr 2 HF rfl ?_;clear HF a;intro a HF
       refine zy HF (yl_addI rfl (HF.ev rfl) (HF.ev rfl) (i64w (by omega))) ?_;clear HF a;intro a HF
       refine zy HF (yl_addI rfl (HF.ev rfl) (HF.ev rfl) (i64w (by omega))) ?_;clear HF a;intro a HF
       refine zm HF ?_;clear HF a;intro a HF
       refine zy HF (yl_addI rfl (HF.ev rfl) (HF.ev rfl) (i64w (by omega))) ?_;clear HF a;intro a HF
       refine za HF ?_;clear HF a;intro a HF
       refine wpList_nil ?_
       refine ex_block ?_
       refine ex_then ?_
       have hz : xs.length + ([s.extract ((p + k) + 1) (((p + k) + 1) + n)]).length = (xs ++ ([s.extract ((p + k) + 1) (((p + k) + 1) + n)])).length := (List.length_append ..).symm
       rw [hz] at HS HF
       have hto2 := fld_step hto hl1 (by omega) (by omega) (byte58 (by omega)) (by omega)
       replace HS:=Bx.mk (HS.out.pick 1 rfl)
       exact ⟨p + k + 1 + n, ⟨_, _, xs ++ [s.extract ((p + k) + 1) (((p + k) + 1) + n)], ⟨by omega, by rw [List.length_append, List.length_cons, List.length_nil]; omega, hto2, fun _ => by omega⟩, HF.less _ ⟨rfl, rfl, rfl, rfl, rfl, trivial⟩, (HS.out.erase 1)⟩, (by omega)⟩
  ·clear HF;rename_i HF
   have dcc2 := of_decide_eq_false cc2
   refine wc_false HF rfl ?_
   refine wp_exit ?_
   refine ex_then_exit ?_
   refine ex_then_exit ?_
   refine ex_block_hit ?_
   refine ex_then ?_
   refine wp_sr ?_
   refine zm HF ?_;clear HF a;intro a HF
   refine wl_callB rfl HF rfl (enter_of Tryz.func138 (by kernel_rfl) rfl) (args := #[.slice ao xs.length cp]) rfl (v := .tuple #[.string ((fieldsPut xs).1), .bool ((fieldsPut xs).2)]) ((fieldsPutS_any _ _ _ xs _ (by omega) (recB_szs hto (by omega)) (St.rdOf HS.out encS_len 0 rfl))) rfl rfl HS.out ?_; clear HF HS a; intro w10 a HS HF; replace HS := Bx.mk HS
   refine zr 5 HF rfl ?_;clear HF a;intro a HF
   refine wl_ne ?_
   refine wp_seq ?_
   refine wp_sr ?_
   refine zr 3 HF rfl ?_;clear HF a;intro a HF
   refine HF.cases 85 rfl (fun cc7 _ => ?_) fun cc7 _ => ?_
   ·clear HF;rename_i HF
    refine zr 4 HF rfl ?_;clear HF a;intro a HF
    refine wl_ne ?_
    refine wc_true HF rfl ?_
    refine wp_sr ?_
    refine wl_empty (e := 9) (size := 1) rfl HF rfl rfl rfl (by kernel_rfl) HS.out ?_; clear HF HS a; intro a w11 b9 HF HS; replace HS := Bx.mk HS
    refine zr 2 HF rfl ?_;clear HF a;intro a HF
    refine wl_ne ?_
    refine wp_ret ?_
    refine ex_then_ret ?_
    refine bp_ret2 HF Tryz.results110 (HF.res rfl) (HF.res rfl) ?_
    refine .inr ⟨fun l h h2 => ?_, _, rfl, HS.out.bel⟩
    have hx : recB xs = s := fld_rest hto (by omega)
    have e : xs = l := recB_inj (hx.trans h.is.symm); subst e
    have hy := fieldsPut_yes h.many (by rw [hx]; exact h2); rw [hx] at hy; simp [hy] at cc7
   ·clear HF;rename_i HF
    refine zr 2 HF rfl ?_;clear HF a;intro a HF
    refine zg HF (yl_neqS rfl (HF.ev rfl) (HF.ev rfl)) ?_;clear HF a;intro a HF
    refine zy HF (yl_pick_f rfl (HF.ev rfl) (HF.ev rfl)) ?_;clear HF a;intro a HF
    refine wl_ne ?_
    refine HF.cases 89 rfl (fun cc8 _ => ?_) fun cc8 _ => ?_
    ·clear HF;rename_i HF
     refine wc_true HF rfl ?_
     refine wp_sr ?_
     refine wl_empty (e := 9) (size := 1) rfl HF rfl rfl rfl (by kernel_rfl) HS.out ?_; clear HF HS a; intro a w12 b10 HF HS; replace HS := Bx.mk HS
     refine zr 2 HF rfl ?_;clear HF a;intro a HF
     refine wl_ne ?_
     refine wp_ret ?_
     refine ex_then_ret ?_
     refine bp_ret2 HF Tryz.results110 (HF.res rfl) (HF.res rfl) ?_
     refine .inr ⟨fun l h h2 => ?_, _, rfl, HS.out.bel⟩
     have hx : recB xs = s := fld_rest hto (by omega)
     have e : xs = l := recB_inj (hx.trans h.is.symm); subst e
     have hy := fieldsPut_yes h.many (by rw [hx]; exact h2); rw [hx] at hy; simp [hy] at cc8
    ·clear HF;rename_i HF
     refine wc_false HF rfl ?_
     refine wp_skip ?_
     refine ex_then ?_
     refine wp_sr ?_
     refine zr 3 HF rfl ?_;clear HF a;intro a HF
     refine wl_ne ?_
     refine wp_ret ?_
     refine bp_ret2 HF Tryz.results110 (HF.res rfl) (HF.res rfl) ?_
     have hf2 : (fieldsPut xs).2 = true := (by simpa using cc7); have hf1 : (fieldsPut xs).1 = s := bytes_toList (by simpa using cc8)
     obtain ⟨q1, q2⟩ := fieldsPut_back hf2; rw [q2.1] at hf1; have hq2 := q2.2; rw [hf1] at hq2
     exact .inl ⟨xs, ⟨hf1, q1⟩, hq2, _, _, rfl, HS.out⟩
 ·clear HF;rename_i HF
  have dcc1 := of_decide_eq_false cc1
  refine zr 4 HF rfl ?_;clear HF a;intro a HF
  refine wl_ne ?_
  refine wc_false HF rfl ?_
  refine wp_exit ?_
  refine ex_then_exit ?_
  refine ex_then_exit ?_
  refine ex_block_hit ?_
  refine ex_then ?_
  refine wp_sr ?_
  refine zm HF ?_;clear HF a;intro a HF
  refine wl_callB rfl HF rfl (enter_of Tryz.func138 (by kernel_rfl) rfl) (args := #[.slice ao xs.length cp]) rfl (v := .tuple #[.string ((fieldsPut xs).1), .bool ((fieldsPut xs).2)]) ((fieldsPutS_any _ _ _ xs _ (by omega) (recB_szs hto (by omega)) (St.rdOf HS.out encS_len 0 rfl))) rfl rfl HS.out ?_; clear HF HS a; intro w13 a HS HF; replace HS := Bx.mk HS
  refine zr 5 HF rfl ?_;clear HF a;intro a HF
  refine wl_ne ?_
  refine wp_seq ?_
  refine wp_sr ?_
  refine zr 3 HF rfl ?_;clear HF a;intro a HF
  refine HF.cases 85 rfl (fun cc9 _ => ?_) fun cc9 _ => ?_
  ·clear HF;rename_i HF
   refine zr 4 HF rfl ?_;clear HF a;intro a HF
   refine wl_ne ?_
   refine wc_true HF rfl ?_
   refine wp_sr ?_
   refine wl_empty (e := 9) (size := 1) rfl HF rfl rfl rfl (by kernel_rfl) HS.out ?_; clear HF HS a; intro a w14 b11 HF HS; replace HS := Bx.mk HS
   refine zr 2 HF rfl ?_;clear HF a;intro a HF
   refine wl_ne ?_
   refine wp_ret ?_
   refine ex_then_ret ?_
   refine bp_ret2 HF Tryz.results110 (HF.res rfl) (HF.res rfl) ?_
   refine .inr ⟨fun l h h2 => ?_, _, rfl, HS.out.bel⟩
   have hx : recB xs = s := fld_rest hto (by omega)
   have e : xs = l := recB_inj (hx.trans h.is.symm); subst e
   have hy := fieldsPut_yes h.many (by rw [hx]; exact h2); rw [hx] at hy; simp [hy] at cc9
  ·clear HF;rename_i HF
   refine zr 2 HF rfl ?_;clear HF a;intro a HF
   refine zg HF (yl_neqS rfl (HF.ev rfl) (HF.ev rfl)) ?_;clear HF a;intro a HF
   refine zy HF (yl_pick_f rfl (HF.ev rfl) (HF.ev rfl)) ?_;clear HF a;intro a HF
   refine wl_ne ?_
   refine HF.cases 89 rfl (fun cc10 _ => ?_) fun cc10 _ => ?_
   ·clear HF;rename_i HF
    refine wc_true HF rfl ?_
    refine wp_sr ?_
    refine wl_empty (e := 9) (size := 1) rfl HF rfl rfl rfl (by kernel_rfl) HS.out ?_; clear HF HS a; intro a w15 b12 HF HS; replace HS := Bx.mk HS
    refine zr 2 HF rfl ?_;clear HF a;intro a HF
    refine wl_ne ?_
    refine wp_ret ?_
    refine ex_then_ret ?_
    refine bp_ret2 HF Tryz.results110 (HF.res rfl) (HF.res rfl) ?_
    refine .inr ⟨fun l h h2 => ?_, _, rfl, HS.out.bel⟩
    have hx : recB xs = s := fld_rest hto (by omega)
    have e : xs = l := recB_inj (hx.trans h.is.symm); subst e
    have hy := fieldsPut_yes h.many (by rw [hx]; exact h2); rw [hx] at hy; simp [hy] at cc10
   ·clear HF;rename_i HF
    refine wc_false HF rfl ?_
    refine wp_skip ?_
    refine ex_then ?_
    refine wp_sr ?_
    refine zr 3 HF rfl ?_;clear HF a;intro a HF
    refine wl_ne ?_
    refine wp_ret ?_
    refine bp_ret2 HF Tryz.results110 (HF.res rfl) (HF.res rfl) ?_
    have hf2 : (fieldsPut xs).2 = true := (by simpa using cc9); have hf1 : (fieldsPut xs).1 = s := bytes_toList (by simpa using cc10)
    obtain ⟨q1, q2⟩ := fieldsPut_back hf2; rw [q2.1] at hf1; have hq2 := q2.2; rw [hf1] at hq2
    exact .inl ⟨xs, ⟨hf1, q1⟩, hq2, _, _, rfl, HS.out⟩

theorem l10Each_any (kind : Int) (w0 : World) : Calls Tryz.prog 129 #[.int .i64 kind] w0 fun e w' => e = .returned (.int .i64 (eachN kind)) ∧ Below w0.heap.size w0 w' := by
 have HS := Bx.mk (St.start w0)
 refine wc_enter Tryz.func129 rfl Tryz.ntmps129 [(0, .int .i64 kind)] ⟨rfl, trivial⟩ rfl ?_; intro a HF
 refine wp_sr ?_
 refine za HF ?_;clear HF a;intro a HF
 refine wl_ne ?_
 refine wp_seq ?_
 refine wp_sr ?_
 refine zm HF ?_;clear HF a;intro a HF
 refine wl_ne ?_
 refine wp_block ?_
 refine wp_sr ?_
 refine zr 2 HF rfl ?_;clear HF a;intro a HF
 refine wl_ne ?_
 refine HF.cases 4 rfl (fun cc1 _ => ?_) fun cc1 _ => ?_
 ·clear HF;rename_i HF
  have dcc1 := eq_of_beq cc1
  refine wc_true HF rfl ?_
  refine wp_sr ?_
  refine za HF ?_;clear HF a;intro a HF
  refine wl_ne ?_
  refine wp_ret ?_
  refine ex_block_ret ?_
  refine ex_then_ret ?_
  refine bp_ret1 HF Tryz.results129 (HF.res rfl) ?_
  have he : eachN kind = 12 := by rw [dcc1]; rfl
  exact ⟨by rw [he], HS.out.bel⟩
 ·clear HF;rename_i HF
  have dcc1 := ne_of_beq_false cc1
  refine wc_false HF rfl ?_
  refine wp_sr ?_
  refine zr 2 HF rfl ?_;clear HF a;intro a HF
  refine wl_ne ?_
  refine HF.cases 6 rfl (fun cc2 _ => ?_) fun cc2 _ => ?_
  ·clear HF;rename_i HF
   have dcc2 := eq_of_beq cc2
   refine wc_true HF rfl ?_
   refine wp_sr ?_
   refine za HF ?_;clear HF a;intro a HF
   refine wl_ne ?_
   refine wp_ret ?_
   refine ex_block_ret ?_
   refine ex_then_ret ?_
   refine bp_ret1 HF Tryz.results129 (HF.res rfl) ?_
   have he : eachN kind = 128 := by rw [dcc2]; rfl
   exact ⟨by rw [he], HS.out.bel⟩
  ·clear HF;rename_i HF
   have dcc2 := ne_of_beq_false cc2
   refine wc_false HF rfl ?_
   refine wp_skip ?_
   refine ex_block ?_
   refine ex_then ?_
   refine wp_sr ?_
   refine za HF ?_;clear HF a;intro a HF
   refine wl_ne ?_
   refine wp_ret ?_
   refine bp_ret1 HF Tryz.results129 (HF.res rfl) ?_
   have he : eachN kind = 0 := eachN_none dcc1 dcc2
   exact ⟨by rw [he], HS.out.bel⟩

theorem l10Pieces_any (size each : Int) (h0 : 0 ≤ size) (h1 : 1 ≤ each) (hs : size ≤ 1000000) (he : each ≤ 1000000) (w0 : World) : Calls Tryz.prog 130 #[.int .i64 size, .int .i64 each] w0 fun e w' => e = .returned (.int .i64 ((size + each - (1 : Int)) / each)) ∧ Below w0.heap.size w0 w' := by
 have HS := Bx.mk (St.start w0)
 refine wc_enter Tryz.func130 rfl Tryz.ntmps130 [(0, .int .i64 size), (1, .int .i64 each)] ⟨rfl, rfl, trivial⟩ rfl ?_; intro a HF
 refine wp_sr ?_
 refine za HF ?_;clear HF a;intro a HF
 refine wl_ne ?_
 refine wp_sr ?_
 refine zr 2 HF rfl ?_;clear HF a;intro a HF
 refine zy HF (yl_addI rfl (HF.ev rfl) (HF.ev rfl) (i64w (by omega))) ?_;clear HF a;intro a HF
 refine zy HF (yl_subI rfl (HF.ev rfl) (HF.ev rfl) (i64w (by omega))) ?_;clear HF a;intro a HF
 refine zm HF ?_;clear HF a;intro a HF
 refine zy HF (yl_quoI rfl (HF.ev rfl) (HF.ev rfl) (by omega) (quo_pos (by omega) (by omega) (by omega))) ?_;clear HF a;intro a HF
 refine za HF ?_;clear HF a;intro a HF
 refine wl_ne ?_
 refine wp_ret ?_
 refine bp_ret1 HF Tryz.results130 (HF.res rfl) ?_
 exact ⟨rfl, HS.out.bel⟩

theorem eachN_le (k : Int) : 0 ≤ eachN k ∧ eachN k ≤ 128 := by
  unfold eachN
  split
  · omega
  · split <;> omega

theorem implNodePieces_any (kind size : Int) (w0 : World) : Calls Tryz.prog 97 #[.int .i64 kind, .int .i64 size] w0 fun e w' => e = .returned (.int .i64 (piecesN kind size)) ∧ Below w0.heap.size w0 w' := by
 have HS := Bx.mk (St.start w0)
 refine wc_enter Tryz.func97 rfl Tryz.ntmps97 [(0, .int .i64 kind), (1, .int .i64 size)] ⟨rfl, rfl, trivial⟩ rfl ?_; intro a HF
 refine wp_sr ?_
 refine za HF ?_;clear HF a;intro a HF
 refine wl_ne ?_
 refine wp_sr ?_
 refine za HF ?_;clear HF a;intro a HF
 refine wl_ne ?_
 refine wp_seq ?_
 refine wp_seq ?_
 have hel := eachN_le kind
 refine wp_region_lit ?_
 refine zm HF ?_;clear HF a;intro a HF
 refine wl_ne ?_
 refine wp_block ?_
 refine wp_sr ?_
 refine zr 2 HF rfl ?_;clear HF a;intro a HF
 refine wl_ne ?_
 refine HF.cases 7 rfl (fun cc1 _ => ?_) fun cc1 _ => ?_
 ·clear HF;rename_i HF
  have dcc1 := eq_of_beq cc1
  refine wc_true HF rfl ?_
  refine wp_region_lit ?_
  refine za HF ?_;clear HF a;intro a HF
  refine wpList_nil ?_
  refine ex_block ?_
  refine ex_then ?_
  refine wp_seq ?_
  refine wp_sr ?_
  refine zr 3 HF rfl ?_;clear HF a;intro a HF
  replace HF := HF.know (k := 13) (c := false) rfl (by decide)
  refine zr 2 HF rfl ?_;clear HF a;intro a HF
  refine zg HF (yl_mulI (r := 192) rfl (HF.ev rfl) (HF.ev rfl) (by decide)) ?_;clear HF a;intro a HF
  refine wl_callBg HF rfl rfl rfl rfl (enter_of Tryz.func48 (by kernel_rfl) rfl) (args := #[.int .i64 size, .int .i64 0, .int .i64 192]) rfl (v := .bool (inB size 0 192)) (((within_any size 0 192 _).mono fun _ _ h => ⟨h.1, h.2 ▸ Below.refl _ _⟩)) rfl rfl HS.out ?_; clear HF HS a; intro w1 a HS HF; replace HS := Bx.mk HS
  refine zr 2 HF rfl ?_;clear HF a;intro a HF
  refine wl_ne ?_
  refine HF.cases 19 rfl (fun cc2 _ => ?_) fun cc2 _ => ?_
  ·clear HF;rename_i HF
   have hin : inB size 0 192 = false := by simpa using cc2
   refine wc_true HF rfl ?_
   refine wp_sr ?_
   refine za HF ?_;clear HF a;intro a HF
   refine wl_ne ?_
   refine wp_ret ?_
   refine ex_then_ret ?_
   refine bp_ret1 HF Tryz.results97 (HF.res rfl) ?_
   have he : eachN kind = 12 := by rw [dcc1]; rfl
   have hp : piecesN kind size = -1 := piecesN_out (fun h => by rw [he] at h; rw [inB_yes h.1 (by omega)] at hin; cases hin)
   exact ⟨by rw [hp], HS.out.bel⟩
  ·clear HF;rename_i HF
   have hin : inB size 0 192 = true := by simpa using cc2
   have hib := inB_true hin
   refine wc_false HF rfl ?_
   refine wp_skip ?_
   refine ex_then ?_
   refine wp_sr ?_
   refine zr 2 HF rfl ?_;clear HF a;intro a HF
   refine zy HF (yl_addI rfl (HF.ev rfl) (HF.ev rfl) (i64w (by omega))) ?_;clear HF a;intro a HF
   refine zy HF (yl_subI rfl (HF.ev rfl) (HF.ev rfl) (i64w (by omega))) ?_;clear HF a;intro a HF
   refine zm HF ?_;clear HF a;intro a HF
   refine zy HF (yl_quoI rfl (HF.ev rfl) (HF.ev rfl) (by omega) (quo_pos (by omega) (by omega) (by omega))) ?_;clear HF a;intro a HF
   refine za HF ?_;clear HF a;intro a HF
   refine wl_ne ?_
   refine wp_ret ?_
   refine bp_ret1 HF Tryz.results97 (HF.res rfl) ?_
   have he : eachN kind = 12 := by rw [dcc1]; rfl
   have hp : piecesN kind size = ((size + 12) - 1) / 12 := by rw [piecesN_in (k := kind) (by omega) (by omega) (by omega), he]
   exact ⟨by rw [hp], HS.out.bel⟩
 ·clear HF;rename_i HF
  have dcc1 := ne_of_beq_false cc1
  refine wc_false HF rfl ?_
  refine wp_sr ?_
  refine zr 2 HF rfl ?_;clear HF a;intro a HF
  refine wl_ne ?_
  refine HF.cases 9 rfl (fun cc3 _ => ?_) fun cc3 _ => ?_
  ·clear HF;rename_i HF
   have dcc3 := eq_of_beq cc3
   refine wc_true HF rfl ?_
   refine wp_region_lit ?_
   refine za HF ?_;clear HF a;intro a HF
   refine wpList_nil ?_
   refine ex_block ?_
   refine ex_then ?_
   refine wp_seq ?_
   refine wp_sr ?_
   refine zr 3 HF rfl ?_;clear HF a;intro a HF
   replace HF := HF.know (k := 13) (c := false) rfl (by decide)
   refine zr 2 HF rfl ?_;clear HF a;intro a HF
   refine zg HF (yl_mulI (r := 2048) rfl (HF.ev rfl) (HF.ev rfl) (by decide)) ?_;clear HF a;intro a HF
   refine wl_callBg HF rfl rfl rfl rfl (enter_of Tryz.func48 (by kernel_rfl) rfl) (args := #[.int .i64 size, .int .i64 0, .int .i64 2048]) rfl (v := .bool (inB size 0 2048)) (((within_any size 0 2048 _).mono fun _ _ h => ⟨h.1, h.2 ▸ Below.refl _ _⟩)) rfl rfl HS.out ?_; clear HF HS a; intro w2 a HS HF; replace HS := Bx.mk HS
   refine zr 2 HF rfl ?_;clear HF a;intro a HF
   refine wl_ne ?_
   refine HF.cases 19 rfl (fun cc4 _ => ?_) fun cc4 _ => ?_
   ·clear HF;rename_i HF
    have hin : inB size 0 2048 = false := by simpa using cc4
    refine wc_true HF rfl ?_
    refine wp_sr ?_
    refine za HF ?_;clear HF a;intro a HF
    refine wl_ne ?_
    refine wp_ret ?_
    refine ex_then_ret ?_
    refine bp_ret1 HF Tryz.results97 (HF.res rfl) ?_
    have he : eachN kind = 128 := by rw [dcc3]; rfl
    have hp : piecesN kind size = -1 := piecesN_out (fun h => by rw [he] at h; rw [inB_yes h.1 (by omega)] at hin; cases hin)
    exact ⟨by rw [hp], HS.out.bel⟩
   ·clear HF;rename_i HF
    have hin : inB size 0 2048 = true := by simpa using cc4
    have hib := inB_true hin
    refine wc_false HF rfl ?_
    refine wp_skip ?_
    refine ex_then ?_
    refine wp_sr ?_
    refine zr 2 HF rfl ?_;clear HF a;intro a HF
    refine zy HF (yl_addI rfl (HF.ev rfl) (HF.ev rfl) (i64w (by omega))) ?_;clear HF a;intro a HF
    refine zy HF (yl_subI rfl (HF.ev rfl) (HF.ev rfl) (i64w (by omega))) ?_;clear HF a;intro a HF
    refine zm HF ?_;clear HF a;intro a HF
    refine zy HF (yl_quoI rfl (HF.ev rfl) (HF.ev rfl) (by omega) (quo_pos (by omega) (by omega) (by omega))) ?_;clear HF a;intro a HF
    refine za HF ?_;clear HF a;intro a HF
    refine wl_ne ?_
    refine wp_ret ?_
    refine bp_ret1 HF Tryz.results97 (HF.res rfl) ?_
    have he : eachN kind = 128 := by rw [dcc3]; rfl
    have hp : piecesN kind size = ((size + 128) - 1) / 128 := by rw [piecesN_in (k := kind) (by omega) (by omega) (by omega), he]
    exact ⟨by rw [hp], HS.out.bel⟩
  ·clear HF;rename_i HF
   have dcc3 := ne_of_beq_false cc3
   refine wc_false HF rfl ?_
   refine wp_skip ?_
   refine ex_block ?_
   refine ex_then ?_
   refine wp_seq ?_
   refine wp_sr ?_
   refine zr 3 HF rfl ?_;clear HF a;intro a HF
   replace HF := HF.know (k := 13) (c := true) rfl (by decide)
   refine zr 6 HF rfl ?_;clear HF a;intro a HF
   refine wl_ne ?_
   refine wc_true HF rfl ?_
   refine wp_sr ?_
   refine za HF ?_;clear HF a;intro a HF
   refine wl_ne ?_
   refine wp_ret ?_
   refine ex_then_ret ?_
   refine bp_ret1 HF Tryz.results97 (HF.res rfl) ?_
   have he : eachN kind = 0 := eachN_none dcc1 dcc3
   have hp : piecesN kind size = -1 := piecesN_no (he)
   exact ⟨by rw [hp], HS.out.bel⟩

theorem specNodePieces_any (kind size : Int) (w0 : World) : Calls Tryz.prog 103 #[.int .i64 kind, .int .i64 size] w0 fun e w' => e = .returned (.int .i64 (piecesN kind size)) ∧ Below w0.heap.size w0 w' := by
 have HS := Bx.mk (St.start w0)
 refine wc_enter Tryz.func103 rfl Tryz.ntmps103 [(0, .int .i64 kind), (1, .int .i64 size)] ⟨rfl, rfl, trivial⟩ rfl ?_; intro a HF
 refine wp_sr ?_
 refine za HF ?_;clear HF a;intro a HF
 refine wl_ne ?_
 refine wp_sr ?_
 refine zm HF ?_;clear HF a;intro a HF
 refine wl_callB rfl HF rfl (enter_of Tryz.func129 (by kernel_rfl) rfl) (args := #[.int .i64 kind]) rfl (v := .int .i64 (eachN kind)) (l10Each_any kind _) rfl rfl HS.out ?_; clear HF HS a; intro w1 a HS HF; replace HS := Bx.mk HS
 refine za HF ?_;clear HF a;intro a HF
 refine wl_ne ?_
 refine wp_seq ?_
 refine wp_seq ?_
 have hel := eachN_le kind
 refine wp_region_lit ?_
 refine zr 3 HF rfl ?_;clear HF a;intro a HF
 refine HF.cases 10 rfl (fun cc1 _ => ?_) fun cc1 _ => ?_
 ·clear HF;rename_i HF
  have dcc1 := eq_of_beq cc1
  refine zr 6 HF rfl ?_;clear HF a;intro a HF
  refine wl_ne ?_
  refine wc_true HF rfl ?_
  refine wp_sr ?_
  refine za HF ?_;clear HF a;intro a HF
  refine wl_ne ?_
  refine wp_ret ?_
  refine ex_then_ret ?_
  refine bp_ret1 HF Tryz.results103 (HF.res rfl) ?_
  have hp : piecesN kind size = -1 := piecesN_no (by omega)
  exact ⟨by rw [hp], HS.out.bel⟩
 ·clear HF;rename_i HF
  have dcc1 := ne_of_beq_false cc1
  refine zr 2 HF rfl ?_;clear HF a;intro a HF
  refine zg HF (yl_mulI rfl (HF.ev rfl) (HF.ev rfl) (i64w (by omega))) ?_;clear HF a;intro a HF
  refine wl_callBg HF rfl rfl rfl rfl (enter_of Tryz.func46 (by kernel_rfl) rfl) (args := #[.int .i64 size, .int .i64 0, .int .i64 ((16 : Int) * (eachN kind))]) rfl (v := .bool (inB size 0 ((16 : Int) * (eachN kind)))) (((l6In_any size 0 ((16 : Int) * (eachN kind)) _).mono fun _ _ h => ⟨h.1, h.2 ▸ Below.refl _ _⟩)) rfl rfl HS.out ?_; clear HF HS a; intro w2 a HS HF; replace HS := Bx.mk HS
  refine zr 2 HF rfl ?_;clear HF a;intro a HF
  refine wl_ne ?_
  refine HF.cases 16 rfl (fun cc2 _ => ?_) fun cc2 _ => ?_
  ·clear HF;rename_i HF
   have hin : inB size 0 ((16 : Int) * (eachN kind)) = false := by simpa using cc2
   refine wc_true HF rfl ?_
   refine wp_sr ?_
   refine za HF ?_;clear HF a;intro a HF
   refine wl_ne ?_
   refine wp_ret ?_
   refine ex_then_ret ?_
   refine bp_ret1 HF Tryz.results103 (HF.res rfl) ?_
   have hp : piecesN kind size = -1 := piecesN_out (fun h => by rw [inB_yes h.1 (by omega)] at hin; cases hin)
   exact ⟨by rw [hp], HS.out.bel⟩
  ·clear HF;rename_i HF
   have hin : inB size 0 ((16 : Int) * (eachN kind)) = true := by simpa using cc2
   have hib := inB_true hin
   refine wc_false HF rfl ?_
   refine wp_skip ?_
   refine ex_then ?_
   refine wp_sr ?_
   refine zr 2 HF rfl ?_;clear HF a;intro a HF
   refine wl_callB rfl HF rfl (enter_of Tryz.func130 (by kernel_rfl) rfl) (args := #[.int .i64 size, .int .i64 (eachN kind)]) rfl (v := .int .i64 ((size + (eachN kind) - (1 : Int)) / (eachN kind))) (l10Pieces_any size (eachN kind) (by omega) (by omega) (by omega) (by omega) _) rfl rfl HS.out ?_; clear HF HS a; intro w3 a HS HF; replace HS := Bx.mk HS
   refine za HF ?_;clear HF a;intro a HF
   refine wl_ne ?_
   refine wp_ret ?_
   refine bp_ret1 HF Tryz.results103 (HF.res rfl) ?_
   have hp : piecesN kind size = ((size + (eachN kind) - (1 : Int)) / (eachN kind)) := piecesN_in (k := kind) (by omega) (by omega) (by omega)
   exact ⟨by rw [hp], HS.out.bel⟩

theorem implNodeOk_any (n : NodeD) (w0 : World) : Calls Tryz.prog 65 #[nV n] w0 fun e w' => e = .returned (.bool n.ok) ∧ Below w0.heap.size w0 w' := by
  have HS := Bx.mk (St.start w0)
  refine wc_enter Tryz.func65 rfl Tryz.ntmps65 [(0, nV n)] ⟨rfl, trivial⟩ rfl ?_; intro a HF
  refine wp_sr ?_
  refine wl_box rfl HF rfl (HF.ev rfl) (Z := [.int .i64 n.fKind, .int .i64 n.fLinks, .int .i64 n.fSize, .int .i64 n.fTree.fRoot.fAt, .int .i64 n.fTree.fRoot.fBirth, .int .i64 n.fTree.fRoot.fSize, .int .i64 n.fTree.fRoot.fSum, .int .i64 n.fTree.fRoot.fLevel, .int .i64 n.fTree.fDepth, .int .i64 n.fTree.fMany]) rfl rfl rfl rfl HS.out ?_; clear HF HS a; intro a w1 b1 HF HS; replace HS := Bx.mk HS
  refine za HF ?_;clear HF a;intro a HF
  refine wl_ne ?_
  refine wp_sr ?_
  refine zy HF (yfa 0 rfl (HF.ev rfl)) ?_;clear HF a;intro a HF
  refine zy HF (ylo (v := .int .i64 n.fKind) rfl (HF.ev rfl) (((HS.out.box 0 rfl).cell 0).trans rfl)) ?_;clear HF a;intro a HF
  refine zy HF (yfa 2 rfl (HF.ev rfl)) ?_;clear HF a;intro a HF
  refine zy HF (ylo (v := .int .i64 n.fSize) rfl (HF.ev rfl) (((HS.out.box 0 rfl).cell 2).trans rfl)) ?_;clear HF a;intro a HF
  refine wl_callB rfl HF rfl (enter_of Tryz.func97 (by kernel_rfl) rfl) (args := #[.int .i64 n.fKind, .int .i64 n.fSize]) rfl (v := .int .i64 (piecesN n.fKind n.fSize)) (implNodePieces_any n.fKind n.fSize _) rfl rfl HS.out ?_; clear HF HS a; intro w2 a HS HF; replace HS := Bx.mk HS
  refine za HF ?_;clear HF a;intro a HF
  refine wl_ne ?_
  refine wp_sr ?_
  refine za HF ?_;clear HF a;intro a HF
  refine wl_ne ?_
  refine wp_seq ?_
  refine wp_sr ?_
  refine zy HF (yfa 0 rfl (HF.ev rfl)) ?_;clear HF a;intro a HF
  refine zy HF (ylo (v := .int .i64 n.fKind) rfl (HF.ev rfl) (((HS.out.box 0 rfl).cell 0).trans rfl)) ?_;clear HF a;intro a HF
  refine zy HF (yl_eqlI rfl (HF.ev rfl) (HF.ev rfl)) ?_;clear HF a;intro a HF
  refine wl_ne ?_
  refine HF.cases 12 rfl (fun cc1 _ => ?_) fun cc1 _ => ?_
  · clear HF;rename_i HF
    have dcc1 := eq_of_beq cc1
    refine wc_true HF rfl ?_
    refine wp_region_lit ?_
    refine za HF ?_;clear HF a;intro a HF
    refine wl_ne ?_
    refine wp_seq ?_
    refine wr_quiet (by kernel_rfl) (by kernel_rfl) HS.out ?_
    refine zrq 3 HF rfl ?_;clear HF a;intro a HF
    refine HF.cases 15 rfl (fun cc2 _ => ?_) fun cc2 _ => ?_
    · clear HF;rename_i HF
      have dcc2 := of_decide_eq_true cc2
      refine zqg HF (fun _ HS => (yfa 1 rfl (HF.ev rfl))) ?_;clear HF a;intro a HF
      refine zqg HF (fun _ HS => (ylo (v := .int .i64 n.fLinks) rfl (HF.ev rfl) (((HS.box 0 rfl).cell 1).trans rfl))) ?_;clear HF a;intro a HF
      refine zqg HF (fun _ HS => (yl_move rfl (HF.ev rfl))) ?_;clear HF a;intro a HF
      refine wq_callg HF rfl rfl rfl rfl (enter_of Tryz.func48 (by kernel_rfl) rfl) (args := #[.int .i64 n.fLinks, .int .i64 1, .int .i64 1]) rfl (v := .bool (inB n.fLinks 1 1)) (fun _ HS => ((within_any n.fLinks 1 1 _).mono fun _ _ h => ⟨h.1, h.2 ▸ Below.refl _ _⟩)) rfl rfl ?_;clear HF a;intro a HF
      refine zrq 2 HF rfl ?_;clear HF a;intro a HF
      refine HF.cases 21 rfl (fun cc3 _ => ?_) fun cc3 _ => ?_
      · clear HF;rename_i HF
        refine zqg HF (fun _ HS => (yfa 3 rfl (HF.ev rfl))) ?_;clear HF a;intro a HF
        refine zqg HF (fun _ HS => (yfa 6 rfl (HF.ev rfl))) ?_;clear HF a;intro a HF
        refine zqg HF (fun _ HS => (ylo (v := .int .i64 n.fTree.fMany) rfl (HF.ev rfl) (((HS.box 0 rfl).cell 9).trans rfl))) ?_;clear HF a;intro a HF
        refine zrq 4 HF rfl ?_;clear HF a;intro a HF
        refine HF.cases 28 rfl (fun cc4 _ => ?_) fun cc4 _ => ?_
        · clear HF;rename_i HF
          have dcc4 := eq_of_beq cc4
          refine zqg HF (fun _ HS => (yfa 3 rfl (HF.ev rfl))) ?_;clear HF a;intro a HF
          refine zqg HF (fun _ HS => (yfa 5 rfl (HF.ev rfl))) ?_;clear HF a;intro a HF
          refine zqg HF (fun _ HS => (ylo (v := .int .i64 n.fTree.fDepth) rfl (HF.ev rfl) (((HS.box 0 rfl).cell 8).trans rfl))) ?_;clear HF a;intro a HF
          refine zqg HF (fun _ HS => (yl_move rfl (HF.ev rfl))) ?_;clear HF a;intro a HF
          refine wq_callg HF rfl rfl rfl rfl (enter_of Tryz.func82 (by kernel_rfl) rfl) (args := #[.int .i64 (piecesN n.fKind n.fSize)]) rfl (v := .int .i64 ((depthN (piecesN n.fKind n.fSize) : Nat) : Int)) (fun _ HS => depthOf_any (piecesN n.fKind n.fSize) _) rfl rfl ?_;clear HF a;intro a HF
          refine zrq 3 HF rfl ?_;clear HF a;intro a HF
          refine HF.cases 36 rfl (fun cc5 _ => ?_) fun cc5 _ => ?_
          · clear HF;rename_i HF
            have dcc5 := eq_of_beq cc5
            refine zqg HF (fun _ HS => (yfa 3 rfl (HF.ev rfl))) ?_;clear HF a;intro a HF
            refine zqg HF (fun _ HS => (yfa 0 rfl (HF.ev rfl))) ?_;clear HF a;intro a HF
            refine zqg HF (fun _ HS => (ylr (cs := [.int .i64 n.fTree.fRoot.fAt, .int .i64 n.fTree.fRoot.fBirth, .int .i64 n.fTree.fRoot.fSize, .int .i64 n.fTree.fRoot.fSum, .int .i64 n.fTree.fRoot.fLevel]) rfl (HF.ev rfl) ((HS.box 0 rfl).sub 3 5))) ?_;clear HF a;intro a HF
            refine wq_callg HF rfl rfl rfl rfl (enter_of Tryz.func64 (by kernel_rfl) rfl) (args := #[pV n.fTree.fRoot]) rfl (v := .bool n.fTree.fRoot.ok) (fun _ HS => implPtrOk_any n.fTree.fRoot _) rfl rfl ?_;clear HF a;intro a HF
            refine zrq 2 HF rfl ?_;clear HF a;intro a HF
            refine HF.cases 42 rfl (fun cc6 _ => ?_) fun cc6 _ => ?_
            · clear HF;rename_i HF
              refine zqg HF (fun _ HS => (yfa 3 rfl (HF.ev rfl))) ?_;clear HF a;intro a HF
              refine zqg HF (fun _ HS => (yfa 0 rfl (HF.ev rfl))) ?_;clear HF a;intro a HF
              refine zqg HF (fun _ HS => (ylr (cs := [.int .i64 n.fTree.fRoot.fAt, .int .i64 n.fTree.fRoot.fBirth, .int .i64 n.fTree.fRoot.fSize, .int .i64 n.fTree.fRoot.fSum, .int .i64 n.fTree.fRoot.fLevel]) rfl (HF.ev rfl) ((HS.box 0 rfl).sub 3 5))) ?_;clear HF a;intro a HF
              refine wq_callg HF rfl rfl rfl rfl (enter_of Tryz.func45 (by kernel_rfl) rfl) (args := #[pV n.fTree.fRoot]) rfl (v := .bool n.fTree.fRoot.hole) (fun _ HS => implHole_any n.fTree.fRoot _) rfl rfl ?_;clear HF a;intro a HF
              refine zqg HF (fun _ HS => (yl_move rfl (HF.ev rfl))) ?_;clear HF a;intro a HF
              refine HF.cases 47 rfl (fun cc7 _ => ?_) fun cc7 _ => ?_
              · clear HF;rename_i HF
                refine zrq 11 HF rfl ?_;clear HF a;intro a HF
                refine wpQuiet_nil ?_; intro w3 HS; replace HS := Bx.mk HS
                refine ex_then ?_
                refine wp_ret ?_
                refine bp_ret1 HF Tryz.results65 (HF.res rfl) ?_
                have hok : n.ok = true := NodeD.ok_yes ⟨by omega, by have h := inB_true (by simpa using cc3); rw [if_pos dcc1]; exact h, by simpa using dcc4, by simpa using dcc5, by simpa using cc6, .inl (by simpa using cc7)⟩
                exact ⟨by rw [hok], HS.out.bel⟩
              · clear HF;rename_i HF
                refine zqg HF (fun _ HS => (yfa 3 rfl (HF.ev rfl))) ?_;clear HF a;intro a HF
                refine zqg HF (fun _ HS => (yfa 0 rfl (HF.ev rfl))) ?_;clear HF a;intro a HF
                refine zqg HF (fun _ HS => (yfa 4 rfl (HF.ev rfl))) ?_;clear HF a;intro a HF
                refine zqg HF (fun _ HS => (ylo (v := .int .i64 n.fTree.fRoot.fLevel) rfl (HF.ev rfl) (((HS.box 0 rfl).cell 7).trans rfl))) ?_;clear HF a;intro a HF
                refine zqg HF (fun _ HS => (yfa 3 rfl (HF.ev rfl))) ?_;clear HF a;intro a HF
                refine zqg HF (fun _ HS => (yfa 5 rfl (HF.ev rfl))) ?_;clear HF a;intro a HF
                refine zqg HF (fun _ HS => (ylo (v := .int .i64 n.fTree.fDepth) rfl (HF.ev rfl) (((HS.box 0 rfl).cell 8).trans rfl))) ?_;clear HF a;intro a HF
                refine zrq 4 HF rfl ?_;clear HF a;intro a HF
                refine wpQuiet_nil ?_; intro w4 HS; replace HS := Bx.mk HS
                refine ex_then ?_
                refine wp_ret ?_
                refine bp_ret1 HF Tryz.results65 (HF.res rfl) ?_
                cases hlast : (n.fTree.fRoot.fLevel == n.fTree.fDepth) with
                | true =>
                  have hok : n.ok = true := NodeD.ok_yes ⟨by omega, by have h := inB_true (by simpa using cc3); rw [if_pos dcc1]; exact h, by simpa using dcc4, by simpa using dcc5, by simpa using cc6, .inr (eq_of_beq hlast)⟩
                  exact ⟨by rw [hok] <;> rfl, HS.out.bel⟩
                | false =>
                  have hok : n.ok = false := NodeD.ok_no fun h => by
                    rcases h.level with h | h
                    · rw [h] at cc7; simp at cc7
                    · rw [h] at hlast; simp at hlast
                  exact ⟨by rw [hok] <;> rfl, HS.out.bel⟩
            · clear HF;rename_i HF
              refine zrq 16 HF rfl ?_;clear HF a;intro a HF
              refine wpQuiet_nil ?_; intro w5 HS; replace HS := Bx.mk HS
              refine ex_then ?_
              refine wp_ret ?_
              refine bp_ret1 HF Tryz.results65 (HF.res rfl) ?_
              have hok : n.ok = false := NodeD.ok_no fun h => by
                rw [h.root] at cc6; simp at cc6
              exact ⟨by rw [hok], HS.out.bel⟩
          · clear HF;rename_i HF
            have dcc5 := ne_of_beq_false cc5
            refine zrq 22 HF rfl ?_;clear HF a;intro a HF
            refine wpQuiet_nil ?_; intro w6 HS; replace HS := Bx.mk HS
            refine ex_then ?_
            refine wp_ret ?_
            refine bp_ret1 HF Tryz.results65 (HF.res rfl) ?_
            have hok : n.ok = false := NodeD.ok_no fun h => by
              exact dcc5 h.depth
            exact ⟨by rw [hok], HS.out.bel⟩
        · clear HF;rename_i HF
          have dcc4 := ne_of_beq_false cc4
          refine zrq 30 HF rfl ?_;clear HF a;intro a HF
          refine wpQuiet_nil ?_; intro w7 HS; replace HS := Bx.mk HS
          refine ex_then ?_
          refine wp_ret ?_
          refine bp_ret1 HF Tryz.results65 (HF.res rfl) ?_
          have hok : n.ok = false := NodeD.ok_no fun h => by
            exact dcc4 h.tmany
          exact ⟨by rw [hok], HS.out.bel⟩
      · clear HF;rename_i HF
        refine zrq 37 HF rfl ?_;clear HF a;intro a HF
        refine wpQuiet_nil ?_; intro w8 HS; replace HS := Bx.mk HS
        refine ex_then ?_
        refine wp_ret ?_
        refine bp_ret1 HF Tryz.results65 (HF.res rfl) ?_
        have hok : n.ok = false := NodeD.ok_no fun h => by
          have h1 := h.links; rw [if_pos dcc1] at h1; rw [inB_yes h1.1 h1.2] at cc3; simp at cc3
        exact ⟨by rw [hok], HS.out.bel⟩
    · clear HF;rename_i HF
      have dcc2 := of_decide_eq_false cc2
      refine zrq 43 HF rfl ?_;clear HF a;intro a HF
      refine wpQuiet_nil ?_; intro w9 HS; replace HS := Bx.mk HS
      refine ex_then ?_
      refine wp_ret ?_
      refine bp_ret1 HF Tryz.results65 (HF.res rfl) ?_
      have hok : n.ok = false := NodeD.ok_no fun h => by
        have := h.many; omega
      exact ⟨by rw [hok], HS.out.bel⟩
  · clear HF;rename_i HF
    have dcc1 := ne_of_beq_false cc1
    refine wc_false HF rfl ?_
    refine wp_skip ?_
    refine ex_then ?_
    refine wp_seq ?_
    refine wr_quiet (by kernel_rfl) (by kernel_rfl) HS.out ?_
    refine zrq 3 HF rfl ?_;clear HF a;intro a HF
    refine HF.cases 15 rfl (fun cc8 _ => ?_) fun cc8 _ => ?_
    · clear HF;rename_i HF
      have dcc8 := of_decide_eq_true cc8
      refine zqg HF (fun _ HS => (yfa 1 rfl (HF.ev rfl))) ?_;clear HF a;intro a HF
      refine zqg HF (fun _ HS => (ylo (v := .int .i64 n.fLinks) rfl (HF.ev rfl) (((HS.box 0 rfl).cell 1).trans rfl))) ?_;clear HF a;intro a HF
      refine zqg HF (fun _ HS => (yl_move rfl (HF.ev rfl))) ?_;clear HF a;intro a HF
      refine wq_callg HF rfl rfl rfl rfl (enter_of Tryz.func48 (by kernel_rfl) rfl) (args := #[.int .i64 n.fLinks, .int .i64 1, .int .i64 9]) rfl (v := .bool (inB n.fLinks 1 9)) (fun _ HS => ((within_any n.fLinks 1 9 _).mono fun _ _ h => ⟨h.1, h.2 ▸ Below.refl _ _⟩)) rfl rfl ?_;clear HF a;intro a HF
      refine zrq 2 HF rfl ?_;clear HF a;intro a HF
      refine HF.cases 21 rfl (fun cc9 _ => ?_) fun cc9 _ => ?_
      · clear HF;rename_i HF
        refine zqg HF (fun _ HS => (yfa 3 rfl (HF.ev rfl))) ?_;clear HF a;intro a HF
        refine zqg HF (fun _ HS => (yfa 6 rfl (HF.ev rfl))) ?_;clear HF a;intro a HF
        refine zqg HF (fun _ HS => (ylo (v := .int .i64 n.fTree.fMany) rfl (HF.ev rfl) (((HS.box 0 rfl).cell 9).trans rfl))) ?_;clear HF a;intro a HF
        refine zrq 4 HF rfl ?_;clear HF a;intro a HF
        refine HF.cases 28 rfl (fun cc10 _ => ?_) fun cc10 _ => ?_
        · clear HF;rename_i HF
          have dcc10 := eq_of_beq cc10
          refine zqg HF (fun _ HS => (yfa 3 rfl (HF.ev rfl))) ?_;clear HF a;intro a HF
          refine zqg HF (fun _ HS => (yfa 5 rfl (HF.ev rfl))) ?_;clear HF a;intro a HF
          refine zqg HF (fun _ HS => (ylo (v := .int .i64 n.fTree.fDepth) rfl (HF.ev rfl) (((HS.box 0 rfl).cell 8).trans rfl))) ?_;clear HF a;intro a HF
          refine zqg HF (fun _ HS => (yl_move rfl (HF.ev rfl))) ?_;clear HF a;intro a HF
          refine wq_callg HF rfl rfl rfl rfl (enter_of Tryz.func82 (by kernel_rfl) rfl) (args := #[.int .i64 (piecesN n.fKind n.fSize)]) rfl (v := .int .i64 ((depthN (piecesN n.fKind n.fSize) : Nat) : Int)) (fun _ HS => depthOf_any (piecesN n.fKind n.fSize) _) rfl rfl ?_;clear HF a;intro a HF
          refine zrq 3 HF rfl ?_;clear HF a;intro a HF
          refine HF.cases 36 rfl (fun cc11 _ => ?_) fun cc11 _ => ?_
          · clear HF;rename_i HF
            have dcc11 := eq_of_beq cc11
            refine zqg HF (fun _ HS => (yfa 3 rfl (HF.ev rfl))) ?_;clear HF a;intro a HF
            refine zqg HF (fun _ HS => (yfa 0 rfl (HF.ev rfl))) ?_;clear HF a;intro a HF
            refine zqg HF (fun _ HS => (ylr (cs := [.int .i64 n.fTree.fRoot.fAt, .int .i64 n.fTree.fRoot.fBirth, .int .i64 n.fTree.fRoot.fSize, .int .i64 n.fTree.fRoot.fSum, .int .i64 n.fTree.fRoot.fLevel]) rfl (HF.ev rfl) ((HS.box 0 rfl).sub 3 5))) ?_;clear HF a;intro a HF
            refine wq_callg HF rfl rfl rfl rfl (enter_of Tryz.func64 (by kernel_rfl) rfl) (args := #[pV n.fTree.fRoot]) rfl (v := .bool n.fTree.fRoot.ok) (fun _ HS => implPtrOk_any n.fTree.fRoot _) rfl rfl ?_;clear HF a;intro a HF
            refine zrq 2 HF rfl ?_;clear HF a;intro a HF
            refine HF.cases 42 rfl (fun cc12 _ => ?_) fun cc12 _ => ?_
            · clear HF;rename_i HF
              refine zqg HF (fun _ HS => (yfa 3 rfl (HF.ev rfl))) ?_;clear HF a;intro a HF
              refine zqg HF (fun _ HS => (yfa 0 rfl (HF.ev rfl))) ?_;clear HF a;intro a HF
              refine zqg HF (fun _ HS => (ylr (cs := [.int .i64 n.fTree.fRoot.fAt, .int .i64 n.fTree.fRoot.fBirth, .int .i64 n.fTree.fRoot.fSize, .int .i64 n.fTree.fRoot.fSum, .int .i64 n.fTree.fRoot.fLevel]) rfl (HF.ev rfl) ((HS.box 0 rfl).sub 3 5))) ?_;clear HF a;intro a HF
              refine wq_callg HF rfl rfl rfl rfl (enter_of Tryz.func45 (by kernel_rfl) rfl) (args := #[pV n.fTree.fRoot]) rfl (v := .bool n.fTree.fRoot.hole) (fun _ HS => implHole_any n.fTree.fRoot _) rfl rfl ?_;clear HF a;intro a HF
              refine zqg HF (fun _ HS => (yl_move rfl (HF.ev rfl))) ?_;clear HF a;intro a HF
              refine HF.cases 47 rfl (fun cc13 _ => ?_) fun cc13 _ => ?_
              · clear HF;rename_i HF
                refine zrq 11 HF rfl ?_;clear HF a;intro a HF
                refine wpQuiet_nil ?_; intro w10 HS; replace HS := Bx.mk HS
                refine ex_then ?_
                refine wp_ret ?_
                refine bp_ret1 HF Tryz.results65 (HF.res rfl) ?_
                have hok : n.ok = true := NodeD.ok_yes ⟨by omega, by have h := inB_true (by simpa using cc9); rw [if_neg dcc1]; exact h, by simpa using dcc10, by simpa using dcc11, by simpa using cc12, .inl (by simpa using cc13)⟩
                exact ⟨by rw [hok], HS.out.bel⟩
              · clear HF;rename_i HF
                refine zqg HF (fun _ HS => (yfa 3 rfl (HF.ev rfl))) ?_;clear HF a;intro a HF
                refine zqg HF (fun _ HS => (yfa 0 rfl (HF.ev rfl))) ?_;clear HF a;intro a HF
                refine zqg HF (fun _ HS => (yfa 4 rfl (HF.ev rfl))) ?_;clear HF a;intro a HF
                refine zqg HF (fun _ HS => (ylo (v := .int .i64 n.fTree.fRoot.fLevel) rfl (HF.ev rfl) (((HS.box 0 rfl).cell 7).trans rfl))) ?_;clear HF a;intro a HF
                refine zqg HF (fun _ HS => (yfa 3 rfl (HF.ev rfl))) ?_;clear HF a;intro a HF
                refine zqg HF (fun _ HS => (yfa 5 rfl (HF.ev rfl))) ?_;clear HF a;intro a HF
                refine zqg HF (fun _ HS => (ylo (v := .int .i64 n.fTree.fDepth) rfl (HF.ev rfl) (((HS.box 0 rfl).cell 8).trans rfl))) ?_;clear HF a;intro a HF
                refine zrq 4 HF rfl ?_;clear HF a;intro a HF
                refine wpQuiet_nil ?_; intro w11 HS; replace HS := Bx.mk HS
                refine ex_then ?_
                refine wp_ret ?_
                refine bp_ret1 HF Tryz.results65 (HF.res rfl) ?_
                cases hlast : (n.fTree.fRoot.fLevel == n.fTree.fDepth) with
                | true =>
                  have hok : n.ok = true := NodeD.ok_yes ⟨by omega, by have h := inB_true (by simpa using cc9); rw [if_neg dcc1]; exact h, by simpa using dcc10, by simpa using dcc11, by simpa using cc12, .inr (eq_of_beq hlast)⟩
                  exact ⟨by rw [hok] <;> rfl, HS.out.bel⟩
                | false =>
                  have hok : n.ok = false := NodeD.ok_no fun h => by
                    rcases h.level with h | h
                    · rw [h] at cc13; simp at cc13
                    · rw [h] at hlast; simp at hlast
                  exact ⟨by rw [hok] <;> rfl, HS.out.bel⟩
            · clear HF;rename_i HF
              refine zrq 16 HF rfl ?_;clear HF a;intro a HF
              refine wpQuiet_nil ?_; intro w12 HS; replace HS := Bx.mk HS
              refine ex_then ?_
              refine wp_ret ?_
              refine bp_ret1 HF Tryz.results65 (HF.res rfl) ?_
              have hok : n.ok = false := NodeD.ok_no fun h => by
                rw [h.root] at cc12; simp at cc12
              exact ⟨by rw [hok], HS.out.bel⟩
          · clear HF;rename_i HF
            have dcc11 := ne_of_beq_false cc11
            refine zrq 22 HF rfl ?_;clear HF a;intro a HF
            refine wpQuiet_nil ?_; intro w13 HS; replace HS := Bx.mk HS
            refine ex_then ?_
            refine wp_ret ?_
            refine bp_ret1 HF Tryz.results65 (HF.res rfl) ?_
            have hok : n.ok = false := NodeD.ok_no fun h => by
              exact dcc11 h.depth
            exact ⟨by rw [hok], HS.out.bel⟩
        · clear HF;rename_i HF
          have dcc10 := ne_of_beq_false cc10
          refine zrq 30 HF rfl ?_;clear HF a;intro a HF
          refine wpQuiet_nil ?_; intro w14 HS; replace HS := Bx.mk HS
          refine ex_then ?_
          refine wp_ret ?_
          refine bp_ret1 HF Tryz.results65 (HF.res rfl) ?_
          have hok : n.ok = false := NodeD.ok_no fun h => by
            exact dcc10 h.tmany
          exact ⟨by rw [hok], HS.out.bel⟩
      · clear HF;rename_i HF
        refine zrq 37 HF rfl ?_;clear HF a;intro a HF
        refine wpQuiet_nil ?_; intro w15 HS; replace HS := Bx.mk HS
        refine ex_then ?_
        refine wp_ret ?_
        refine bp_ret1 HF Tryz.results65 (HF.res rfl) ?_
        have hok : n.ok = false := NodeD.ok_no fun h => by
          have h1 := h.links; rw [if_neg dcc1] at h1; rw [inB_yes h1.1 h1.2] at cc9; simp at cc9
        exact ⟨by rw [hok], HS.out.bel⟩
    · clear HF;rename_i HF
      have dcc8 := of_decide_eq_false cc8
      refine zrq 43 HF rfl ?_;clear HF a;intro a HF
      refine wpQuiet_nil ?_; intro w16 HS; replace HS := Bx.mk HS
      refine ex_then ?_
      refine wp_ret ?_
      refine bp_ret1 HF Tryz.results65 (HF.res rfl) ?_
      have hok : n.ok = false := NodeD.ok_no fun h => by
        have := h.many; omega
      exact ⟨by rw [hok], HS.out.bel⟩

theorem specNodeOk_any (n : NodeD) (w0 : World) : Calls Tryz.prog 75 #[nV n] w0 fun e w' => e = .returned (.bool n.ok) ∧ Below w0.heap.size w0 w' := by
  have HS := Bx.mk (St.start w0)
  refine wc_enter Tryz.func75 rfl Tryz.ntmps75 [(0, nV n)] ⟨rfl, trivial⟩ rfl ?_; intro a HF
  refine wp_sr ?_
  refine wl_box rfl HF rfl (HF.ev rfl) (Z := [.int .i64 n.fKind, .int .i64 n.fLinks, .int .i64 n.fSize, .int .i64 n.fTree.fRoot.fAt, .int .i64 n.fTree.fRoot.fBirth, .int .i64 n.fTree.fRoot.fSize, .int .i64 n.fTree.fRoot.fSum, .int .i64 n.fTree.fRoot.fLevel, .int .i64 n.fTree.fDepth, .int .i64 n.fTree.fMany]) rfl rfl rfl rfl HS.out ?_; clear HF HS a; intro a w1 b1 HF HS; replace HS := Bx.mk HS
  refine za HF ?_;clear HF a;intro a HF
  refine wl_ne ?_
  refine wp_sr ?_
  refine zy HF (yfa 0 rfl (HF.ev rfl)) ?_;clear HF a;intro a HF
  refine zy HF (ylo (v := .int .i64 n.fKind) rfl (HF.ev rfl) (((HS.out.box 0 rfl).cell 0).trans rfl)) ?_;clear HF a;intro a HF
  refine zy HF (yfa 2 rfl (HF.ev rfl)) ?_;clear HF a;intro a HF
  refine zy HF (ylo (v := .int .i64 n.fSize) rfl (HF.ev rfl) (((HS.out.box 0 rfl).cell 2).trans rfl)) ?_;clear HF a;intro a HF
  refine wl_callB rfl HF rfl (enter_of Tryz.func103 (by kernel_rfl) rfl) (args := #[.int .i64 n.fKind, .int .i64 n.fSize]) rfl (v := .int .i64 (piecesN n.fKind n.fSize)) (specNodePieces_any n.fKind n.fSize _) rfl rfl HS.out ?_; clear HF HS a; intro w2 a HS HF; replace HS := Bx.mk HS
  refine za HF ?_;clear HF a;intro a HF
  refine wl_ne ?_
  refine wp_seq ?_
  refine wp_seq ?_
  refine wr_quiet (by kernel_rfl) (by kernel_rfl) HS.out ?_
  refine zrq 3 HF rfl ?_;clear HF a;intro a HF
  refine HF.cases 12 rfl (fun cc1 _ => ?_) fun cc1 _ => ?_
  · clear HF;rename_i HF
    have dcc1 := of_decide_eq_true cc1
    refine zrq 21 HF rfl ?_;clear HF a;intro a HF
    refine wpQuiet_nil ?_; intro w3 HS; replace HS := Bx.mk HS
    refine ex_then ?_
    refine wc_true HF rfl ?_
    refine wp_sr ?_
    refine za HF ?_;clear HF a;intro a HF
    refine wl_ne ?_
    refine wp_ret ?_
    refine ex_then_ret ?_
    refine bp_ret1 HF Tryz.results75 (HF.res rfl) ?_
    have hok : n.ok = false := NodeD.ok_no fun h => by
      have := h.many; omega
    exact ⟨by rw [hok], HS.out.bel⟩
  · clear HF;rename_i HF
    have dcc1 := of_decide_eq_false cc1
    refine zqg HF (fun _ HS => (yfa 3 rfl (HF.ev rfl))) ?_;clear HF a;intro a HF
    refine zqg HF (fun _ HS => (yfa 6 rfl (HF.ev rfl))) ?_;clear HF a;intro a HF
    refine zqg HF (fun _ HS => (ylo (v := .int .i64 n.fTree.fMany) rfl (HF.ev rfl) (((HS.box 0 rfl).cell 9).trans rfl))) ?_;clear HF a;intro a HF
    refine zrq 4 HF rfl ?_;clear HF a;intro a HF
    refine HF.cases 19 rfl (fun cc2 _ => ?_) fun cc2 _ => ?_
    · clear HF;rename_i HF
      have dcc2 := bne_iff_ne.1 cc2
      refine zrq 14 HF rfl ?_;clear HF a;intro a HF
      refine wpQuiet_nil ?_; intro w4 HS; replace HS := Bx.mk HS
      refine ex_then ?_
      refine wc_true HF rfl ?_
      refine wp_sr ?_
      refine za HF ?_;clear HF a;intro a HF
      refine wl_ne ?_
      refine wp_ret ?_
      refine ex_then_ret ?_
      refine bp_ret1 HF Tryz.results75 (HF.res rfl) ?_
      have hok : n.ok = false := NodeD.ok_no fun h => by
        exact dcc2 h.tmany
      exact ⟨by rw [hok], HS.out.bel⟩
    · clear HF;rename_i HF
      have dcc2 := bne_eq_false_iff_eq.1 cc2
      refine zqg HF (fun _ HS => (yfa 3 rfl (HF.ev rfl))) ?_;clear HF a;intro a HF
      refine zqg HF (fun _ HS => (yfa 5 rfl (HF.ev rfl))) ?_;clear HF a;intro a HF
      refine zqg HF (fun _ HS => (ylo (v := .int .i64 n.fTree.fDepth) rfl (HF.ev rfl) (((HS.box 0 rfl).cell 8).trans rfl))) ?_;clear HF a;intro a HF
      refine zqg HF (fun _ HS => (yl_move rfl (HF.ev rfl))) ?_;clear HF a;intro a HF
      refine wq_callg HF rfl rfl rfl rfl (enter_of Tryz.func104 (by kernel_rfl) rfl) (args := #[.int .i64 (piecesN n.fKind n.fSize)]) rfl (v := .int .i64 ((depthN (piecesN n.fKind n.fSize) : Nat) : Int)) (fun _ HS => l8Depth_any (piecesN n.fKind n.fSize) _) rfl rfl ?_;clear HF a;intro a HF
      refine zrq 3 HF rfl ?_;clear HF a;intro a HF
      refine HF.cases 27 rfl (fun cc3 _ => ?_) fun cc3 _ => ?_
      · clear HF;rename_i HF
        have dcc3 := bne_iff_ne.1 cc3
        refine zrq 6 HF rfl ?_;clear HF a;intro a HF
        refine wpQuiet_nil ?_; intro w5 HS; replace HS := Bx.mk HS
        refine ex_then ?_
        refine wc_true HF rfl ?_
        refine wp_sr ?_
        refine za HF ?_;clear HF a;intro a HF
        refine wl_ne ?_
        refine wp_ret ?_
        refine ex_then_ret ?_
        refine bp_ret1 HF Tryz.results75 (HF.res rfl) ?_
        have hok : n.ok = false := NodeD.ok_no fun h => by
          exact dcc3 h.depth
        exact ⟨by rw [hok], HS.out.bel⟩
      · clear HF;rename_i HF
        have dcc3 := bne_eq_false_iff_eq.1 cc3
        refine zqg HF (fun _ HS => (yfa 3 rfl (HF.ev rfl))) ?_;clear HF a;intro a HF
        refine zqg HF (fun _ HS => (yfa 0 rfl (HF.ev rfl))) ?_;clear HF a;intro a HF
        refine zqg HF (fun _ HS => (ylr (cs := [.int .i64 n.fTree.fRoot.fAt, .int .i64 n.fTree.fRoot.fBirth, .int .i64 n.fTree.fRoot.fSize, .int .i64 n.fTree.fRoot.fSum, .int .i64 n.fTree.fRoot.fLevel]) rfl (HF.ev rfl) ((HS.box 0 rfl).sub 3 5))) ?_;clear HF a;intro a HF
        refine wq_callg HF rfl rfl rfl rfl (enter_of Tryz.func74 (by kernel_rfl) rfl) (args := #[pV n.fTree.fRoot]) rfl (v := .bool n.fTree.fRoot.ok) (fun _ HS => specPtrOk_any n.fTree.fRoot _) rfl rfl ?_;clear HF a;intro a HF
        refine zrq 2 HF rfl ?_;clear HF a;intro a HF
        refine wpQuiet_nil ?_; intro w6 HS; replace HS := Bx.mk HS
        refine ex_then ?_
        refine HF.cases 33 rfl (fun cc4 _ => ?_) fun cc4 _ => ?_
        · clear HF;rename_i HF
          refine wc_true HF rfl ?_
          refine wp_sr ?_
          refine za HF ?_;clear HF a;intro a HF
          refine wl_ne ?_
          refine wp_ret ?_
          refine ex_then_ret ?_
          refine bp_ret1 HF Tryz.results75 (HF.res rfl) ?_
          have hok : n.ok = false := NodeD.ok_no fun h => by
            rw [h.root] at cc4; simp at cc4
          exact ⟨by rw [hok], HS.out.bel⟩
        · clear HF;rename_i HF
          refine wc_false HF rfl ?_
          refine wp_skip ?_
          refine ex_then ?_
          refine wp_sr ?_
          refine za HF ?_;clear HF a;intro a HF
          refine wl_ne ?_
          refine wp_seq ?_
          refine wp_sr ?_
          refine zy HF (yfa 0 rfl (HF.ev rfl)) ?_;clear HF a;intro a HF
          refine zy HF (ylo (v := .int .i64 n.fKind) rfl (HF.ev rfl) (((HS.out.box 0 rfl).cell 0).trans rfl)) ?_;clear HF a;intro a HF
          refine zy HF (yl_eqlI rfl (HF.ev rfl) (HF.ev rfl)) ?_;clear HF a;intro a HF
          refine wl_ne ?_
          refine HF.cases 36 rfl (fun cc5 _ => ?_) fun cc5 _ => ?_
          · clear HF;rename_i HF
            have dcc5 := eq_of_beq cc5
            refine wc_true HF rfl ?_
            refine wp_region_lit ?_
            refine za HF ?_;clear HF a;intro a HF
            refine wl_ne ?_
            refine wp_sr ?_
            refine zy HF (yfa 1 rfl (HF.ev rfl)) ?_;clear HF a;intro a HF
            refine zy HF (ylo (v := .int .i64 n.fLinks) rfl (HF.ev rfl) (((HS.out.box 0 rfl).cell 1).trans rfl)) ?_;clear HF a;intro a HF
            refine zm HF ?_;clear HF a;intro a HF
            refine wl_callB rfl HF rfl (enter_of Tryz.func46 (by kernel_rfl) rfl) (args := #[.int .i64 n.fLinks, .int .i64 1, .int .i64 1]) rfl (v := .bool (inB n.fLinks 1 1)) (((l6In_any n.fLinks 1 1 _).mono fun _ _ h => ⟨h.1, h.2 ▸ Below.refl _ _⟩)) rfl rfl HS.out ?_; clear HF HS a; intro w7 a HS HF; replace HS := Bx.mk HS
            refine zm HF ?_;clear HF a;intro a HF
            refine HF.cases 41 rfl (fun cc6 _ => ?_) fun cc6 _ => ?_
            · clear HF;rename_i HF
              refine zg HF (yfa 3 rfl (HF.ev rfl)) ?_;clear HF a;intro a HF
              refine zg HF (yfa 0 rfl (HF.ev rfl)) ?_;clear HF a;intro a HF
              refine zg HF (ylr (cs := [.int .i64 n.fTree.fRoot.fAt, .int .i64 n.fTree.fRoot.fBirth, .int .i64 n.fTree.fRoot.fSize, .int .i64 n.fTree.fRoot.fSum, .int .i64 n.fTree.fRoot.fLevel]) rfl (HF.ev rfl) ((HS.out.box 0 rfl).sub 3 5)) ?_;clear HF a;intro a HF
              refine wl_callBg HF rfl rfl rfl rfl (enter_of Tryz.func43 (by kernel_rfl) rfl) (args := #[pV n.fTree.fRoot]) rfl (v := .bool n.fTree.fRoot.hole) (specHole_any n.fTree.fRoot _) rfl rfl HS.out ?_; clear HF HS a; intro w8 a HS HF; replace HS := Bx.mk HS
              refine zg HF (yl_move rfl (HF.ev rfl)) ?_;clear HF a;intro a HF
              refine HF.cases 46 rfl (fun cc7 _ => ?_) fun cc7 _ => ?_
              · clear HF;rename_i HF
                refine zr 11 HF rfl ?_;clear HF a;intro a HF
                refine wl_ne ?_
                refine wp_ret ?_
                refine bp_ret1 HF Tryz.results75 (HF.res rfl) ?_
                have hok : n.ok = true := NodeD.ok_yes ⟨by omega, by have h := inB_true (by simpa using cc6); rw [if_pos dcc5]; exact h, by simpa using dcc2, by simpa using dcc3, by simpa using cc4, .inl (by simpa using cc7)⟩
                exact ⟨by rw [hok], HS.out.bel⟩
              · clear HF;rename_i HF
                refine zg HF (yfa 3 rfl (HF.ev rfl)) ?_;clear HF a;intro a HF
                refine zg HF (yfa 0 rfl (HF.ev rfl)) ?_;clear HF a;intro a HF
                refine zg HF (yfa 4 rfl (HF.ev rfl)) ?_;clear HF a;intro a HF
                refine zg HF (ylo (v := .int .i64 n.fTree.fRoot.fLevel) rfl (HF.ev rfl) (((HS.out.box 0 rfl).cell 7).trans rfl)) ?_;clear HF a;intro a HF
                refine zg HF (yfa 3 rfl (HF.ev rfl)) ?_;clear HF a;intro a HF
                refine zg HF (yfa 5 rfl (HF.ev rfl)) ?_;clear HF a;intro a HF
                refine zg HF (ylo (v := .int .i64 n.fTree.fDepth) rfl (HF.ev rfl) (((HS.out.box 0 rfl).cell 8).trans rfl)) ?_;clear HF a;intro a HF
                refine zr 4 HF rfl ?_;clear HF a;intro a HF
                refine wl_ne ?_
                refine wp_ret ?_
                refine bp_ret1 HF Tryz.results75 (HF.res rfl) ?_
                cases hlast : (n.fTree.fRoot.fLevel == n.fTree.fDepth) with
                | true =>
                  have hok : n.ok = true := NodeD.ok_yes ⟨by omega, by have h := inB_true (by simpa using cc6); rw [if_pos dcc5]; exact h, by simpa using dcc2, by simpa using dcc3, by simpa using cc4, .inr (eq_of_beq hlast)⟩
                  exact ⟨by rw [hok] <;> rfl, HS.out.bel⟩
                | false =>
                  have hok : n.ok = false := NodeD.ok_no fun h => by
                    rcases h.level with h | h
                    · rw [h] at cc7; simp at cc7
                    · rw [h] at hlast; simp at hlast
                  exact ⟨by rw [hok] <;> rfl, HS.out.bel⟩
            · clear HF;rename_i HF
              refine zr 16 HF rfl ?_;clear HF a;intro a HF
              refine wl_ne ?_
              refine wp_ret ?_
              refine bp_ret1 HF Tryz.results75 (HF.res rfl) ?_
              have hok : n.ok = false := NodeD.ok_no fun h => by
                have h1 := h.links; rw [if_pos dcc5] at h1; rw [inB_yes h1.1 h1.2] at cc6; simp at cc6
              exact ⟨by rw [hok], HS.out.bel⟩
          · clear HF;rename_i HF
            have dcc5 := ne_of_beq_false cc5
            refine wc_false HF rfl ?_
            refine wp_skip ?_
            refine ex_then ?_
            refine wp_sr ?_
            refine zy HF (yfa 1 rfl (HF.ev rfl)) ?_;clear HF a;intro a HF
            refine zy HF (ylo (v := .int .i64 n.fLinks) rfl (HF.ev rfl) (((HS.out.box 0 rfl).cell 1).trans rfl)) ?_;clear HF a;intro a HF
            refine zm HF ?_;clear HF a;intro a HF
            refine wl_callB rfl HF rfl (enter_of Tryz.func46 (by kernel_rfl) rfl) (args := #[.int .i64 n.fLinks, .int .i64 1, .int .i64 9]) rfl (v := .bool (inB n.fLinks 1 9)) (((l6In_any n.fLinks 1 9 _).mono fun _ _ h => ⟨h.1, h.2 ▸ Below.refl _ _⟩)) rfl rfl HS.out ?_; clear HF HS a; intro w9 a HS HF; replace HS := Bx.mk HS
            refine zm HF ?_;clear HF a;intro a HF
            refine HF.cases 41 rfl (fun cc8 _ => ?_) fun cc8 _ => ?_
            · clear HF;rename_i HF
              refine zg HF (yfa 3 rfl (HF.ev rfl)) ?_;clear HF a;intro a HF
              refine zg HF (yfa 0 rfl (HF.ev rfl)) ?_;clear HF a;intro a HF
              refine zg HF (ylr (cs := [.int .i64 n.fTree.fRoot.fAt, .int .i64 n.fTree.fRoot.fBirth, .int .i64 n.fTree.fRoot.fSize, .int .i64 n.fTree.fRoot.fSum, .int .i64 n.fTree.fRoot.fLevel]) rfl (HF.ev rfl) ((HS.out.box 0 rfl).sub 3 5)) ?_;clear HF a;intro a HF
              refine wl_callBg HF rfl rfl rfl rfl (enter_of Tryz.func43 (by kernel_rfl) rfl) (args := #[pV n.fTree.fRoot]) rfl (v := .bool n.fTree.fRoot.hole) (specHole_any n.fTree.fRoot _) rfl rfl HS.out ?_; clear HF HS a; intro w10 a HS HF; replace HS := Bx.mk HS
              refine zg HF (yl_move rfl (HF.ev rfl)) ?_;clear HF a;intro a HF
              refine HF.cases 46 rfl (fun cc9 _ => ?_) fun cc9 _ => ?_
              · clear HF;rename_i HF
                refine zr 11 HF rfl ?_;clear HF a;intro a HF
                refine wl_ne ?_
                refine wp_ret ?_
                refine bp_ret1 HF Tryz.results75 (HF.res rfl) ?_
                have hok : n.ok = true := NodeD.ok_yes ⟨by omega, by have h := inB_true (by simpa using cc8); rw [if_neg dcc5]; exact h, by simpa using dcc2, by simpa using dcc3, by simpa using cc4, .inl (by simpa using cc9)⟩
                exact ⟨by rw [hok], HS.out.bel⟩
              · clear HF;rename_i HF
                refine zg HF (yfa 3 rfl (HF.ev rfl)) ?_;clear HF a;intro a HF
                refine zg HF (yfa 0 rfl (HF.ev rfl)) ?_;clear HF a;intro a HF
                refine zg HF (yfa 4 rfl (HF.ev rfl)) ?_;clear HF a;intro a HF
                refine zg HF (ylo (v := .int .i64 n.fTree.fRoot.fLevel) rfl (HF.ev rfl) (((HS.out.box 0 rfl).cell 7).trans rfl)) ?_;clear HF a;intro a HF
                refine zg HF (yfa 3 rfl (HF.ev rfl)) ?_;clear HF a;intro a HF
                refine zg HF (yfa 5 rfl (HF.ev rfl)) ?_;clear HF a;intro a HF
                refine zg HF (ylo (v := .int .i64 n.fTree.fDepth) rfl (HF.ev rfl) (((HS.out.box 0 rfl).cell 8).trans rfl)) ?_;clear HF a;intro a HF
                refine zr 4 HF rfl ?_;clear HF a;intro a HF
                refine wl_ne ?_
                refine wp_ret ?_
                refine bp_ret1 HF Tryz.results75 (HF.res rfl) ?_
                cases hlast : (n.fTree.fRoot.fLevel == n.fTree.fDepth) with
                | true =>
                  have hok : n.ok = true := NodeD.ok_yes ⟨by omega, by have h := inB_true (by simpa using cc8); rw [if_neg dcc5]; exact h, by simpa using dcc2, by simpa using dcc3, by simpa using cc4, .inr (eq_of_beq hlast)⟩
                  exact ⟨by rw [hok] <;> rfl, HS.out.bel⟩
                | false =>
                  have hok : n.ok = false := NodeD.ok_no fun h => by
                    rcases h.level with h | h
                    · rw [h] at cc9; simp at cc9
                    · rw [h] at hlast; simp at hlast
                  exact ⟨by rw [hok] <;> rfl, HS.out.bel⟩
            · clear HF;rename_i HF
              refine zr 16 HF rfl ?_;clear HF a;intro a HF
              refine wl_ne ?_
              refine wp_ret ?_
              refine bp_ret1 HF Tryz.results75 (HF.res rfl) ?_
              have hok : n.ok = false := NodeD.ok_no fun h => by
                have h1 := h.links; rw [if_neg dcc5] at h1; rw [inB_yes h1.1 h1.2] at cc8; simp at cc8
              exact ⟨by rw [hok], HS.out.bel⟩

end Go.Proofs.YtgaodbdadncfhaaGreatDoor

/- A part of a box is written as a whole. -/
namespace Go.Proofs.YtgaodbdadncfhaaGreatDoor
set_option linter.unusedVariables false
set_option linter.unusedSimpArgs false
set_option maxHeartbeats 1000000
set_option maxRecDepth 100000
open Go.RowKit

theorem Box.putAt {w : World} {b n : Nat} {t : TypeId} {cs : List Value} (h : Box w b n t (.agg cs.toArray)) (k : Nat) (ds : List Value) (hk : k + ds.length ≤ cs.length) (g1 : ∀ u ∈ ds, u.oneCell' = true) :
    w.there b k ds.length ∧ Box (w.setCells b k ds) b n t (.agg (splice cs k ds).toArray) ∧ Outside b (b + 1) w (w.setCells b k ds) := by
  obtain ⟨cs', e, hl, h1, hh⟩ := h
  obtain rfl : cs = cs' := by simpa using e
  obtain ⟨k1, k2, k3⟩ := blk_setCells ds k w cs hh hk
  refine ⟨fun j hj => ⟨by rw [blk_cell hh]; simp; omega, blk_frozen hh _⟩, ⟨_, rfl, ?_, ?_, k1⟩, k2⟩
  · unfold splice; simp; omega
  · intro u hu
    unfold splice at hu
    rcases List.mem_append.1 hu with hu | hu
    · rcases List.mem_append.1 hu with hu | hu
      · exact h1 u (List.mem_of_mem_take hu)
      · exact g1 u hu
    · exact h1 u (List.mem_of_mem_drop hu)
section
variable {P : Program} {ops : Array Oper} {Q : Exit → Act → World → Prop} {rest : List Oper} {o : Oper} {a : Act} {W w : World} {s : List Asr}
theorem wl_storeSub (hg : o.guard = none) {t : TypeId} {x y : Operand} (ho : o.op = .store t x y) (hd : o.dst = none) {b n k : Nat} {T : TypeId} {cs ds rs : List Value} (hx : a.eval x = .pointer (some ⟨b, k, none⟩)) (hy : a.eval y = .agg ds.toArray) (hS : St W s w) (i : Nat) (hi : s[i]? = some (boxA b n T (.agg cs.toArray))) (hk : Nat.ble (k + ds.length) cs.length = true) (hv : (ds.all fun u => u.oneCell') = true) (hn : rowOf? P t ds.length = true) (hr : splice cs k ds = rs)
    (h : ∀ w', St W (s.set i (boxA b n T (.agg rs.toArray))) w' → wpList P ops Q rest a w') : wpList P ops Q (o :: rest) a w := by
  obtain ⟨k1, k2, k3⟩ := (hS.box i hi).putAt k ds (Nat.le_of_ble_eq_true hk) (List.all_eq_true.1 hv)
  refine wpList_plain hg fun K hK => wp_store_mid t x y ho b k ds.toArray hx hy (by simpa using k1) (by rw [(rowOf_spec hn).2]; simp) (by simpa using hv) ?_
  rw [hd]
  exact hK _ _ (h _ (by rw [← hr]; exact hS.putBox i hi k2 k3))
end
end Go.Proofs.YtgaodbdadncfhaaGreatDoor

/- Nodes told and read: walked. -/
namespace Go.Proofs.YtgaodbdadncfhaaGreatDoor
set_option linter.unusedVariables false
set_option linter.unusedSimpArgs false
set_option maxHeartbeats 1000000
set_option maxRecDepth 100000
open Go.RowKit

theorem szs_nodeL (n : NodeD) : szs (nodeL n) := szs_cons (Nat.le_trans (numB_le _) (by decide)) (szs_cons (Nat.le_trans (numB_le _) (by decide)) (szs_cons (Nat.le_trans (numB_le _) (by decide)) (szs_cons (Nat.le_trans (ptrB_le _) (by decide)) (szs_cons (Nat.le_trans (numB_le _) (by decide)) (szs_cons (Nat.le_trans (numB_le _) (by decide)) (szs_cons (by decide) szs_nil))))))
theorem nodeL_len (n : NodeD) : (nodeL n).length = 7 := rfl

theorem implNodePut_any (n : NodeD) (w0 : World) (hT : TabP w0) : Calls Tryz.prog 145 #[nV n] w0 fun e w' => e = .returned (.string (nodeB n)) ∧ Below w0.heap.size w0 w' := by
 have HT := Bx.mk hT; clear hT
 have HS := Bx.mk (St.start w0)
 refine wc_enter Tryz.func145 rfl Tryz.ntmps145 [(0, nV n)] ⟨rfl, trivial⟩ rfl ?_; intro a HF
 refine wp_sr ?_
 refine wl_box rfl HF rfl (HF.ev rfl) (Z := [.int .i64 n.fKind, .int .i64 n.fLinks, .int .i64 n.fSize, .int .i64 n.fTree.fRoot.fAt, .int .i64 n.fTree.fRoot.fBirth, .int .i64 n.fTree.fRoot.fSize, .int .i64 n.fTree.fRoot.fSum, .int .i64 n.fTree.fRoot.fLevel, .int .i64 n.fTree.fDepth, .int .i64 n.fTree.fMany]) rfl rfl rfl rfl HS.out ?_; clear HF HS a; intro a w1 b1 HF HS; replace HS := Bx.mk HS
 refine za HF ?_;clear HF a;intro a HF
 refine wl_ne ?_
 refine wp_seq ?_
 refine wp_sr ?_
 refine zy HF (ylr (cs := [.int .i64 n.fKind, .int .i64 n.fLinks, .int .i64 n.fSize, .int .i64 n.fTree.fRoot.fAt, .int .i64 n.fTree.fRoot.fBirth, .int .i64 n.fTree.fRoot.fSize, .int .i64 n.fTree.fRoot.fSum, .int .i64 n.fTree.fRoot.fLevel, .int .i64 n.fTree.fDepth, .int .i64 n.fTree.fMany]) rfl (HF.ev rfl) ((HS.out.box 0 rfl).sub 0 10)) ?_;clear HF a;intro a HF
 refine wl_callB rfl HF rfl (enter_of Tryz.func65 (by kernel_rfl) rfl) (args := #[nV n]) rfl (v := .bool n.ok) (implNodeOk_any n _) rfl rfl HS.out ?_; clear HF HS a; intro w2 a HS HF; replace HS := Bx.mk HS
 refine zy HF (yl_not rfl (HF.ev rfl)) ?_;clear HF a;intro a HF
 refine wl_ne ?_
 refine HF.cases 7 rfl (fun cc1 _ => ?_) fun cc1 _ => ?_
 ·clear HF;rename_i HF
  refine wc_true HF rfl ?_
  refine wp_sr ?_
  refine za HF ?_;clear HF a;intro a HF
  refine wl_ne ?_
  refine wp_ret ?_
  refine ex_then_ret ?_
  refine bp_ret1 HF Tryz.results145 (HF.res rfl) ?_
  exact ⟨by rw [nodeB_no (by simpa using cc1)]; rfl, HS.out.bel⟩
 ·clear HF;rename_i HF
  refine wc_false HF rfl ?_
  refine wp_skip ?_
  refine ex_then ?_
  refine wp_seq ?_
  refine wp_join (R := fun a w => ∃ (b7 : Nat) (ao4 : Option Addr) (cp4 : Nat) (ao8 : Option Addr) (cp9 : Nat) (b2 : Nat), Fr 27 a [(0, nV n), (1, .pointer (some ⟨b1, 0, none⟩)), (2, .string (⟨#[]⟩ : ByteArray)), (5, nV n), (6, .bool n.ok), (7, .bool false), (3, .string ((fieldsPut (nodeL n)).1))] ∧ St w0 ([rowA encS 1 9 (.slice (some ⟨b7, 0, none⟩) 1 1) ([(⟨#[101, 110, 100]⟩ : ByteArray)]), rowA encS 1 9 (.slice ao4 3 cp4) (treeB n.fTree), rowA encS 1 9 (.slice ao8 (((([n.fKind, n.fLinks, n.fSize]).map numB) ++ (treeB n.fTree)).length + ([(⟨#[101, 110, 100]⟩ : ByteArray)]).length) cp9) (((([n.fKind, n.fLinks, n.fSize]).map numB) ++ (treeB n.fTree)) ++ ([(⟨#[101, 110, 100]⟩ : ByteArray)])), rowA encI 1 3 (.slice (some ⟨b2, 0, none⟩) 3 3) ([n.fKind, n.fLinks, n.fSize]), boxA b1 10 47 (nV n)]) w) ?_ ?_
  ·skip
   have hok : n.ok = true := by simpa using cc1
   have hsm := (NodeD.ok_is hok).small; have k1 := hsm.links; have k2 := hsm.size; have k3 := hsm.many; have k4 := hsm.depth; have k5 := hsm.kind; have hel := eachN_le n.fKind
   refine wr_heldS (s := [boxA b1 10 47 (nV n)]) (by kernel_rfl) (St.drew (HS.out)) ?_
   have HS2 := Bx.mk HS.out.drew; replace HS := Bx.mk (show St w0 ([boxA b1 10 47 (nV n)]) _ from HS.out.drew)
   generalize World.drew _ = w3 at HS HS2 ⊢
   refine zh 0 rfl HF (fun _ HS => (yfa 0 rfl (HF.ev rfl))) HS.out ?_;clear HF a;intro a HF
   refine zh 1 rfl HF (fun _ HS => (ylo (v := .int .i64 n.fKind) rfl (HF.ev rfl) (((HS.box 0 rfl).cell 0).trans rfl))) HS.out ?_;clear HF a;intro a HF
   refine zh 2 rfl HF (fun _ HS => (yfa 1 rfl (HF.ev rfl))) HS.out ?_;clear HF a;intro a HF
   refine zh 3 rfl HF (fun _ HS => (ylo (v := .int .i64 n.fLinks) rfl (HF.ev rfl) (((HS.box 0 rfl).cell 1).trans rfl))) HS.out ?_;clear HF a;intro a HF
   refine zh 4 rfl HF (fun _ HS => (yfa 2 rfl (HF.ev rfl))) HS.out ?_;clear HF a;intro a HF
   refine zh 5 rfl HF (fun _ HS => (ylo (v := .int .i64 n.fSize) rfl (HF.ev rfl) (((HS.box 0 rfl).cell 2).trans rfl))) HS.out ?_;clear HF a;intro a HF
   refine zh 8 rfl HF (fun _ HS => (yfa 3 rfl (HF.ev rfl))) HS.out ?_;clear HF a;intro a HF
   refine zh 9 rfl HF (fun _ HS => (ylr (cs := [.int .i64 n.fTree.fRoot.fAt, .int .i64 n.fTree.fRoot.fBirth, .int .i64 n.fTree.fRoot.fSize, .int .i64 n.fTree.fRoot.fSum, .int .i64 n.fTree.fRoot.fLevel, .int .i64 n.fTree.fDepth, .int .i64 n.fTree.fMany]) rfl (HF.ev rfl) ((HS.box 0 rfl).sub 3 7))) HS.out ?_;clear HF a;intro a HF
   refine wh_two 6 12 (by kernel_rfl) ?_ ?_
   ·skip
    refine wo_buildS (enc := encI) (e := 3) (size := 1) rfl rfl HF rfl rfl rfl (ps := [(0, .int .i64 n.fKind), (1, .int .i64 n.fLinks), (2, .int .i64 n.fSize)]) rfl (cells := [.int .i64 n.fKind, .int .i64 n.fLinks, .int .i64 n.fSize]) (by kernel_rfl) [n.fKind, n.fLinks, n.fSize] rfl rfl (by unfold maxLen; omega) rfl HS2.out HS.out ?_; clear HF HS HS2 a; intro b2 a w5 HF HS2 HS; replace HS := Bx.mk HS; replace HS2 := Bx.mk HS2; refine ⟨HS.out, ?_⟩
    refine wh_two 7 12 (by kernel_rfl) ?_ ?_
    ·skip
     refine wo_call rfl rfl HF rfl (enter_of Tryz.func163 (by kernel_rfl) rfl) (args := #[.slice (some ⟨b2, 0, none⟩) 3 3]) rfl (numbers_any _ _ _ ([n.fKind, n.fLinks, n.fSize]) _ (HT.out.below HS2.out.bel) (by simp) (St.rdN HS2.out encI_len 0 rfl)) rfl rfl ?_
     rintro _ w7 ⟨ao3, cp3, rfl, hs⟩
     refine ⟨_, rfl, ?_⟩
     replace HS := Bx.mk (HS.out.later hs.bel); replace HS2 := Bx.mk (HS2.out.add hs);clear hs HF a;intro a HF
     replace HS2 : Bx (St w0 ([rowA encS 1 9 (.slice ao3 (([n.fKind, n.fLinks, n.fSize]).length) cp3) (([n.fKind, n.fLinks, n.fSize]).map numB), rowA encI 1 3 (.slice (some ⟨b2, 0, none⟩) 3 3) ([n.fKind, n.fLinks, n.fSize]), boxA b1 10 47 (nV n)]) _) := ⟨HS2.out⟩
     refine ⟨HS.out, ?_⟩
     refine wh_two 10 12 (by kernel_rfl) ?_ ?_
     ·skip
      refine wo_call rfl rfl HF rfl (enter_of Tryz.func164 (by kernel_rfl) rfl) (args := #[tV n.fTree]) rfl (treeFields_any n.fTree _ (HT.out.below HS2.out.bel)) rfl rfl ?_
      rintro _ w9 ⟨ao4, cp4, rfl, hs⟩
      refine ⟨_, rfl, ?_⟩
      replace HS := Bx.mk (HS.out.later hs.bel); replace HS2 := Bx.mk (HS2.out.add hs);clear hs HF a;intro a HF
      replace HS2 : Bx (St w0 ([rowA encS 1 9 (.slice ao4 3 cp4) (treeB n.fTree), rowA encS 1 9 (.slice ao3 (([n.fKind, n.fLinks, n.fSize]).length) cp3) (([n.fKind, n.fLinks, n.fSize]).map numB), rowA encI 1 3 (.slice (some ⟨b2, 0, none⟩) 3 3) ([n.fKind, n.fLinks, n.fSize]), boxA b1 10 47 (nV n)]) _) := ⟨HS2.out⟩
      refine ⟨HS.out, ?_⟩
      refine wh_two 11 12 (by kernel_rfl) ?_ ?_
      ·skip
       refine wo_appL rfl rfl HF rfl rfl rfl (HF.ev rfl) (HF.ev rfl) elemS encS_len HS2.out 1 (xs := ([n.fKind, n.fLinks, n.fSize]).map numB) rfl (ys := treeB n.fTree) (St.rdN HS2.out encS_len 0 rfl) (cells_one_S _) (by unfold maxLen; (try simp only [List.length_append, List.length_cons, List.length_nil, List.nil_append, List.length_map, treeB_len, List.length_map]); omega) (by (try simp only [List.length_append, List.length_cons, List.length_nil, List.nil_append, List.length_map, treeB_len, List.length_map]); omega) ?_; clear HF HS HS2 a; intro ao5 cp6 w11 a HF HS2; replace HS2 := Bx.mk HS2
       replace HS2 : Bx (St w0 ([rowA encS 1 9 (.slice ao4 3 cp4) (treeB n.fTree), rowA encS 1 9 (.slice ao5 ((([n.fKind, n.fLinks, n.fSize]).map numB).length + (treeB n.fTree).length) cp6) ((([n.fKind, n.fLinks, n.fSize]).map numB) ++ (treeB n.fTree)), rowA encI 1 3 (.slice (some ⟨b2, 0, none⟩) 3 3) ([n.fKind, n.fLinks, n.fSize]), boxA b1 10 47 (nV n)]) _) := ⟨HS2.out⟩
       have HS:=Bx.mk ((((HS2.out.erase 2).erase 1).erase 0));refine ⟨HS.out,?_⟩
       refine wh_one 12 (by kernel_rfl) ?_
       refine wo_buildS (enc := encS) (e := 9) (size := 1) rfl rfl HF rfl rfl rfl (ps := [(0, .string (⟨#[101, 110, 100]⟩ : ByteArray))]) rfl (cells := [.string (⟨#[101, 110, 100]⟩ : ByteArray)]) (by kernel_rfl) [(⟨#[101, 110, 100]⟩ : ByteArray)] rfl rfl (by unfold maxLen; omega) rfl HS2.out HS.out ?_; clear HF HS HS2 a; intro b7 a w13 HF HS2 HS; replace HS := Bx.mk HS; replace HS2 := Bx.mk HS2; refine ⟨HS.out, ?_⟩
       refine wh_one 13 (by kernel_rfl) ?_
       refine wo_appL rfl rfl HF rfl rfl rfl (HF.ev rfl) (HF.ev rfl) elemS encS_len HS2.out 2 (xs := (([n.fKind, n.fLinks, n.fSize]).map numB) ++ (treeB n.fTree)) rfl (ys := [(⟨#[101, 110, 100]⟩ : ByteArray)]) (St.rdN HS2.out encS_len 0 rfl) (cells_one_S _) (by unfold maxLen; (try simp only [List.length_append, List.length_cons, List.length_nil, List.nil_append, List.length_map, treeB_len, List.length_map]); omega) (by (try simp only [List.length_append, List.length_cons, List.length_nil, List.nil_append, List.length_map, treeB_len, List.length_map]); omega) ?_; clear HF HS HS2 a; intro ao8 cp9 w15 a HF HS2; replace HS2 := Bx.mk HS2
       replace HS2 : Bx (St w0 ([rowA encS 1 9 (.slice (some ⟨b7, 0, none⟩) 1 1) ([(⟨#[101, 110, 100]⟩ : ByteArray)]), rowA encS 1 9 (.slice ao4 3 cp4) (treeB n.fTree), rowA encS 1 9 (.slice ao8 (((([n.fKind, n.fLinks, n.fSize]).map numB) ++ (treeB n.fTree)).length + ([(⟨#[101, 110, 100]⟩ : ByteArray)]).length) cp9) (((([n.fKind, n.fLinks, n.fSize]).map numB) ++ (treeB n.fTree)) ++ ([(⟨#[101, 110, 100]⟩ : ByteArray)])), rowA encI 1 3 (.slice (some ⟨b2, 0, none⟩) 3 3) ([n.fKind, n.fLinks, n.fSize]), boxA b1 10 47 (nV n)]) _) := ⟨HS2.out⟩
       have HS:=Bx.mk (((((HS2.out.erase 3).erase 2).erase 1).erase 0));refine ⟨HS.out,?_⟩
       refine wh_one 14 (by kernel_rfl) ?_
       refine wo_callB rfl rfl HF rfl (enter_of Tryz.func162 (by kernel_rfl) rfl) (args := #[.slice ao8 (((([n.fKind, n.fLinks, n.fSize]).map numB) ++ (treeB n.fTree)).length + ([(⟨#[101, 110, 100]⟩ : ByteArray)]).length) cp9]) rfl (v := .tuple #[.string ((fieldsPut (nodeL n)).1), .bool ((fieldsPut (nodeL n)).2)]) ((fieldsPutI_any _ _ _ (nodeL n) _ (HT.out.below HS2.out.bel) (by rw [nodeL_len]; omega) (szs_nodeL n) (St.rdN HS2.out encS_len 2 rfl))) rfl rfl ?_
       intro w16 hb; replace HS := Bx.mk (HS.out.later hb); replace HS2 := Bx.mk (HS2.out.later hb);clear hb HF a;intro a HF; refine ⟨HS.out, ?_⟩
       refine zh 15 rfl HF (fun _ HS => (yl_move rfl (HF.ev rfl))) HS.out ?_;clear HF a;intro a HF
       refine zh 16 rfl HF (fun _ HS => (yl_extract rfl (HF.ev rfl) rfl)) HS.out ?_;clear HF a;intro a HF
       refine zh 17 rfl HF (fun _ HS => (yl_extract rfl (HF.ev rfl) rfl)) HS.out ?_;clear HF a;intro a HF
       refine zh 18 rfl HF (fun _ HS => (yl_assign rfl (HF.ev rfl))) HS.out ?_;clear HF a;intro a HF
       refine zh 19 rfl HF (fun _ HS => (yl_assign rfl (HF.ev rfl))) HS.out ?_;clear HF a;intro a HF
       refine wh_done (by kernel_rfl) ?_
       replace HS := HS2; clear HS2
       exact on_mk ⟨_, _, _, _, _, _, HF.less _ ⟨rfl, rfl, rfl, rfl, rfl, rfl, rfl, trivial⟩, HS.out⟩
      ·skip
       refine wo_buildS (enc := encS) (e := 9) (size := 1) rfl rfl HF rfl rfl rfl (ps := [(0, .string (⟨#[101, 110, 100]⟩ : ByteArray))]) rfl (cells := [.string (⟨#[101, 110, 100]⟩ : ByteArray)]) (by kernel_rfl) [(⟨#[101, 110, 100]⟩ : ByteArray)] rfl rfl (by unfold maxLen; omega) rfl HS2.out HS.out ?_; clear HF HS HS2 a; intro b10 a w18 HF HS2 HS; replace HS := Bx.mk HS; replace HS2 := Bx.mk HS2; refine ⟨HS.out, ?_⟩
       refine wh_one 11 (by kernel_rfl) ?_
       refine wo_appL rfl rfl HF rfl rfl rfl (HF.ev rfl) (HF.ev rfl) elemS encS_len HS2.out 2 (xs := ([n.fKind, n.fLinks, n.fSize]).map numB) rfl (ys := treeB n.fTree) (St.rdN HS2.out encS_len 1 rfl) (cells_one_S _) (by unfold maxLen; (try simp only [List.length_append, List.length_cons, List.length_nil, List.nil_append, List.length_map, treeB_len, List.length_map]); omega) (by (try simp only [List.length_append, List.length_cons, List.length_nil, List.nil_append, List.length_map, treeB_len, List.length_map]); omega) ?_; clear HF HS HS2 a; intro ao11 cp12 w20 a HF HS2; replace HS2 := Bx.mk HS2
       replace HS2 : Bx (St w0 ([rowA encS 1 9 (.slice (some ⟨b10, 0, none⟩) 1 1) ([(⟨#[101, 110, 100]⟩ : ByteArray)]), rowA encS 1 9 (.slice ao4 3 cp4) (treeB n.fTree), rowA encS 1 9 (.slice ao11 ((([n.fKind, n.fLinks, n.fSize]).map numB).length + (treeB n.fTree).length) cp12) ((([n.fKind, n.fLinks, n.fSize]).map numB) ++ (treeB n.fTree)), rowA encI 1 3 (.slice (some ⟨b2, 0, none⟩) 3 3) ([n.fKind, n.fLinks, n.fSize]), boxA b1 10 47 (nV n)]) _) := ⟨HS2.out⟩
       have HS:=Bx.mk (((((HS2.out.erase 3).erase 2).erase 1).erase 0));refine ⟨HS.out,?_⟩
       refine wh_one 13 (by kernel_rfl) ?_
       refine wo_appL rfl rfl HF rfl rfl rfl (HF.ev rfl) (HF.ev rfl) elemS encS_len HS2.out 2 (xs := (([n.fKind, n.fLinks, n.fSize]).map numB) ++ (treeB n.fTree)) rfl (ys := [(⟨#[101, 110, 100]⟩ : ByteArray)]) (St.rdN HS2.out encS_len 0 rfl) (cells_one_S _) (by unfold maxLen; (try simp only [List.length_append, List.length_cons, List.length_nil, List.nil_append, List.length_map, treeB_len, List.length_map]); omega) (by (try simp only [List.length_append, List.length_cons, List.length_nil, List.nil_append, List.length_map, treeB_len, List.length_map]); omega) ?_; clear HF HS HS2 a; intro ao13 cp14 w22 a HF HS2; replace HS2 := Bx.mk HS2
       replace HS2 : Bx (St w0 ([rowA encS 1 9 (.slice (some ⟨b10, 0, none⟩) 1 1) ([(⟨#[101, 110, 100]⟩ : ByteArray)]), rowA encS 1 9 (.slice ao4 3 cp4) (treeB n.fTree), rowA encS 1 9 (.slice ao13 (((([n.fKind, n.fLinks, n.fSize]).map numB) ++ (treeB n.fTree)).length + ([(⟨#[101, 110, 100]⟩ : ByteArray)]).length) cp14) (((([n.fKind, n.fLinks, n.fSize]).map numB) ++ (treeB n.fTree)) ++ ([(⟨#[101, 110, 100]⟩ : ByteArray)])), rowA encI 1 3 (.slice (some ⟨b2, 0, none⟩) 3 3) ([n.fKind, n.fLinks, n.fSize]), boxA b1 10 47 (nV n)]) _) := ⟨HS2.out⟩
       have HS:=Bx.mk (((((HS2.out.erase 3).erase 2).erase 1).erase 0));refine ⟨HS.out,?_⟩
       refine wh_one 14 (by kernel_rfl) ?_
       refine wo_callB rfl rfl HF rfl (enter_of Tryz.func162 (by kernel_rfl) rfl) (args := #[.slice ao13 (((([n.fKind, n.fLinks, n.fSize]).map numB) ++ (treeB n.fTree)).length + ([(⟨#[101, 110, 100]⟩ : ByteArray)]).length) cp14]) rfl (v := .tuple #[.string ((fieldsPut (nodeL n)).1), .bool ((fieldsPut (nodeL n)).2)]) ((fieldsPutI_any _ _ _ (nodeL n) _ (HT.out.below HS2.out.bel) (by rw [nodeL_len]; omega) (szs_nodeL n) (St.rdN HS2.out encS_len 2 rfl))) rfl rfl ?_
       intro w23 hb; replace HS := Bx.mk (HS.out.later hb); replace HS2 := Bx.mk (HS2.out.later hb);clear hb HF a;intro a HF; refine ⟨HS.out, ?_⟩
       refine zh 15 rfl HF (fun _ HS => (yl_move rfl (HF.ev rfl))) HS.out ?_;clear HF a;intro a HF
       refine zh 16 rfl HF (fun _ HS => (yl_extract rfl (HF.ev rfl) rfl)) HS.out ?_;clear HF a;intro a HF
       refine zh 17 rfl HF (fun _ HS => (yl_extract rfl (HF.ev rfl) rfl)) HS.out ?_;clear HF a;intro a HF
       refine zh 18 rfl HF (fun _ HS => (yl_assign rfl (HF.ev rfl))) HS.out ?_;clear HF a;intro a HF
       refine zh 19 rfl HF (fun _ HS => (yl_assign rfl (HF.ev rfl))) HS.out ?_;clear HF a;intro a HF
       refine wh_done (by kernel_rfl) ?_
       replace HS := HS2; clear HS2
       exact on_mk ⟨_, _, _, _, _, _, HF.less _ ⟨rfl, rfl, rfl, rfl, rfl, rfl, rfl, trivial⟩, HS.out⟩
     ·skip
      refine wo_buildS (enc := encS) (e := 9) (size := 1) rfl rfl HF rfl rfl rfl (ps := [(0, .string (⟨#[101, 110, 100]⟩ : ByteArray))]) rfl (cells := [.string (⟨#[101, 110, 100]⟩ : ByteArray)]) (by kernel_rfl) [(⟨#[101, 110, 100]⟩ : ByteArray)] rfl rfl (by unfold maxLen; omega) rfl HS2.out HS.out ?_; clear HF HS HS2 a; intro b15 a w25 HF HS2 HS; replace HS := Bx.mk HS; replace HS2 := Bx.mk HS2; refine ⟨HS.out, ?_⟩
      refine wh_one 10 (by kernel_rfl) ?_
      refine wo_call rfl rfl HF rfl (enter_of Tryz.func164 (by kernel_rfl) rfl) (args := #[tV n.fTree]) rfl (treeFields_any n.fTree _ (HT.out.below HS2.out.bel)) rfl rfl ?_
      rintro _ w27 ⟨ao16, cp16, rfl, hs⟩
      refine ⟨_, rfl, ?_⟩
      replace HS := Bx.mk (HS.out.later hs.bel); replace HS2 := Bx.mk (HS2.out.add hs);clear hs HF a;intro a HF
      replace HS2 : Bx (St w0 ([rowA encS 1 9 (.slice ao16 3 cp16) (treeB n.fTree), rowA encS 1 9 (.slice (some ⟨b15, 0, none⟩) 1 1) ([(⟨#[101, 110, 100]⟩ : ByteArray)]), rowA encS 1 9 (.slice ao3 (([n.fKind, n.fLinks, n.fSize]).length) cp3) (([n.fKind, n.fLinks, n.fSize]).map numB), rowA encI 1 3 (.slice (some ⟨b2, 0, none⟩) 3 3) ([n.fKind, n.fLinks, n.fSize]), boxA b1 10 47 (nV n)]) _) := ⟨HS2.out⟩
      refine ⟨HS.out, ?_⟩
      refine wh_one 11 (by kernel_rfl) ?_
      refine wo_appL rfl rfl HF rfl rfl rfl (HF.ev rfl) (HF.ev rfl) elemS encS_len HS2.out 2 (xs := ([n.fKind, n.fLinks, n.fSize]).map numB) rfl (ys := treeB n.fTree) (St.rdN HS2.out encS_len 0 rfl) (cells_one_S _) (by unfold maxLen; (try simp only [List.length_append, List.length_cons, List.length_nil, List.nil_append, List.length_map, treeB_len, List.length_map]); omega) (by (try simp only [List.length_append, List.length_cons, List.length_nil, List.nil_append, List.length_map, treeB_len, List.length_map]); omega) ?_; clear HF HS HS2 a; intro ao17 cp18 w29 a HF HS2; replace HS2 := Bx.mk HS2
      replace HS2 : Bx (St w0 ([rowA encS 1 9 (.slice ao16 3 cp16) (treeB n.fTree), rowA encS 1 9 (.slice (some ⟨b15, 0, none⟩) 1 1) ([(⟨#[101, 110, 100]⟩ : ByteArray)]), rowA encS 1 9 (.slice ao17 ((([n.fKind, n.fLinks, n.fSize]).map numB).length + (treeB n.fTree).length) cp18) ((([n.fKind, n.fLinks, n.fSize]).map numB) ++ (treeB n.fTree)), rowA encI 1 3 (.slice (some ⟨b2, 0, none⟩) 3 3) ([n.fKind, n.fLinks, n.fSize]), boxA b1 10 47 (nV n)]) _) := ⟨HS2.out⟩
      have HS:=Bx.mk (((((HS2.out.erase 3).erase 2).erase 1).erase 0));refine ⟨HS.out,?_⟩
      refine wh_one 13 (by kernel_rfl) ?_
      refine wo_appL rfl rfl HF rfl rfl rfl (HF.ev rfl) (HF.ev rfl) elemS encS_len HS2.out 2 (xs := (([n.fKind, n.fLinks, n.fSize]).map numB) ++ (treeB n.fTree)) rfl (ys := [(⟨#[101, 110, 100]⟩ : ByteArray)]) (St.rdN HS2.out encS_len 1 rfl) (cells_one_S _) (by unfold maxLen; (try simp only [List.length_append, List.length_cons, List.length_nil, List.nil_append, List.length_map, treeB_len, List.length_map]); omega) (by (try simp only [List.length_append, List.length_cons, List.length_nil, List.nil_append, List.length_map, treeB_len, List.length_map]); omega) ?_; clear HF HS HS2 a; intro ao19 cp20 w31 a HF HS2; replace HS2 := Bx.mk HS2
      replace HS2 : Bx (St w0 ([rowA encS 1 9 (.slice ao16 3 cp16) (treeB n.fTree), rowA encS 1 9 (.slice (some ⟨b15, 0, none⟩) 1 1) ([(⟨#[101, 110, 100]⟩ : ByteArray)]), rowA encS 1 9 (.slice ao19 (((([n.fKind, n.fLinks, n.fSize]).map numB) ++ (treeB n.fTree)).length + ([(⟨#[101, 110, 100]⟩ : ByteArray)]).length) cp20) (((([n.fKind, n.fLinks, n.fSize]).map numB) ++ (treeB n.fTree)) ++ ([(⟨#[101, 110, 100]⟩ : ByteArray)])), rowA encI 1 3 (.slice (some ⟨b2, 0, none⟩) 3 3) ([n.fKind, n.fLinks, n.fSize]), boxA b1 10 47 (nV n)]) _) := ⟨HS2.out⟩
      have HS:=Bx.mk (((((HS2.out.erase 3).erase 2).erase 1).erase 0));refine ⟨HS.out,?_⟩
      refine wh_one 14 (by kernel_rfl) ?_
      refine wo_callB rfl rfl HF rfl (enter_of Tryz.func162 (by kernel_rfl) rfl) (args := #[.slice ao19 (((([n.fKind, n.fLinks, n.fSize]).map numB) ++ (treeB n.fTree)).length + ([(⟨#[101, 110, 100]⟩ : ByteArray)]).length) cp20]) rfl (v := .tuple #[.string ((fieldsPut (nodeL n)).1), .bool ((fieldsPut (nodeL n)).2)]) ((fieldsPutI_any _ _ _ (nodeL n) _ (HT.out.below HS2.out.bel) (by rw [nodeL_len]; omega) (szs_nodeL n) (St.rdN HS2.out encS_len 2 rfl))) rfl rfl ?_
      intro w32 hb; replace HS := Bx.mk (HS.out.later hb); replace HS2 := Bx.mk (HS2.out.later hb);clear hb HF a;intro a HF; refine ⟨HS.out, ?_⟩
      refine zh 15 rfl HF (fun _ HS => (yl_move rfl (HF.ev rfl))) HS.out ?_;clear HF a;intro a HF
      refine zh 16 rfl HF (fun _ HS => (yl_extract rfl (HF.ev rfl) rfl)) HS.out ?_;clear HF a;intro a HF
      refine zh 17 rfl HF (fun _ HS => (yl_extract rfl (HF.ev rfl) rfl)) HS.out ?_;clear HF a;intro a HF
      refine zh 18 rfl HF (fun _ HS => (yl_assign rfl (HF.ev rfl))) HS.out ?_;clear HF a;intro a HF
      refine zh 19 rfl HF (fun _ HS => (yl_assign rfl (HF.ev rfl))) HS.out ?_;clear HF a;intro a HF
      refine wh_done (by kernel_rfl) ?_
      replace HS := HS2; clear HS2
      replace HS:=Bx.mk (((((HS.out.pick 4 rfl).pick 4 rfl).pick 4 rfl).pick 3 rfl).pick 4 rfl)
      exact on_mk ⟨_, _, _, _, _, _, HF.less _ ⟨rfl, rfl, rfl, rfl, rfl, rfl, rfl, trivial⟩, HS.out⟩
    ·skip
     refine wo_buildS (enc := encS) (e := 9) (size := 1) rfl rfl HF rfl rfl rfl (ps := [(0, .string (⟨#[101, 110, 100]⟩ : ByteArray))]) rfl (cells := [.string (⟨#[101, 110, 100]⟩ : ByteArray)]) (by kernel_rfl) [(⟨#[101, 110, 100]⟩ : ByteArray)] rfl rfl (by unfold maxLen; omega) rfl HS2.out HS.out ?_; clear HF HS HS2 a; intro b21 a w34 HF HS2 HS; replace HS := Bx.mk HS; replace HS2 := Bx.mk HS2; refine ⟨HS.out, ?_⟩
     refine wh_one 7 (by kernel_rfl) ?_
     refine wo_call rfl rfl HF rfl (enter_of Tryz.func163 (by kernel_rfl) rfl) (args := #[.slice (some ⟨b2, 0, none⟩) 3 3]) rfl (numbers_any _ _ _ ([n.fKind, n.fLinks, n.fSize]) _ (HT.out.below HS2.out.bel) (by simp) (St.rdN HS2.out encI_len 1 rfl)) rfl rfl ?_
     rintro _ w36 ⟨ao22, cp22, rfl, hs⟩
     refine ⟨_, rfl, ?_⟩
     replace HS := Bx.mk (HS.out.later hs.bel); replace HS2 := Bx.mk (HS2.out.add hs);clear hs HF a;intro a HF
     replace HS2 : Bx (St w0 ([rowA encS 1 9 (.slice ao22 (([n.fKind, n.fLinks, n.fSize]).length) cp22) (([n.fKind, n.fLinks, n.fSize]).map numB), rowA encS 1 9 (.slice (some ⟨b21, 0, none⟩) 1 1) ([(⟨#[101, 110, 100]⟩ : ByteArray)]), rowA encI 1 3 (.slice (some ⟨b2, 0, none⟩) 3 3) ([n.fKind, n.fLinks, n.fSize]), boxA b1 10 47 (nV n)]) _) := ⟨HS2.out⟩
     refine ⟨HS.out, ?_⟩
     refine wh_one 10 (by kernel_rfl) ?_
     refine wo_call rfl rfl HF rfl (enter_of Tryz.func164 (by kernel_rfl) rfl) (args := #[tV n.fTree]) rfl (treeFields_any n.fTree _ (HT.out.below HS2.out.bel)) rfl rfl ?_
     rintro _ w38 ⟨ao23, cp23, rfl, hs⟩
     refine ⟨_, rfl, ?_⟩
     replace HS := Bx.mk (HS.out.later hs.bel); replace HS2 := Bx.mk (HS2.out.add hs);clear hs HF a;intro a HF
     replace HS2 : Bx (St w0 ([rowA encS 1 9 (.slice ao23 3 cp23) (treeB n.fTree), rowA encS 1 9 (.slice ao22 (([n.fKind, n.fLinks, n.fSize]).length) cp22) (([n.fKind, n.fLinks, n.fSize]).map numB), rowA encS 1 9 (.slice (some ⟨b21, 0, none⟩) 1 1) ([(⟨#[101, 110, 100]⟩ : ByteArray)]), rowA encI 1 3 (.slice (some ⟨b2, 0, none⟩) 3 3) ([n.fKind, n.fLinks, n.fSize]), boxA b1 10 47 (nV n)]) _) := ⟨HS2.out⟩
     refine ⟨HS.out, ?_⟩
     refine wh_one 11 (by kernel_rfl) ?_
     refine wo_appL rfl rfl HF rfl rfl rfl (HF.ev rfl) (HF.ev rfl) elemS encS_len HS2.out 1 (xs := ([n.fKind, n.fLinks, n.fSize]).map numB) rfl (ys := treeB n.fTree) (St.rdN HS2.out encS_len 0 rfl) (cells_one_S _) (by unfold maxLen; (try simp only [List.length_append, List.length_cons, List.length_nil, List.nil_append, List.length_map, treeB_len, List.length_map]); omega) (by (try simp only [List.length_append, List.length_cons, List.length_nil, List.nil_append, List.length_map, treeB_len, List.length_map]); omega) ?_; clear HF HS HS2 a; intro ao24 cp25 w40 a HF HS2; replace HS2 := Bx.mk HS2
     replace HS2 : Bx (St w0 ([rowA encS 1 9 (.slice ao23 3 cp23) (treeB n.fTree), rowA encS 1 9 (.slice ao24 ((([n.fKind, n.fLinks, n.fSize]).map numB).length + (treeB n.fTree).length) cp25) ((([n.fKind, n.fLinks, n.fSize]).map numB) ++ (treeB n.fTree)), rowA encS 1 9 (.slice (some ⟨b21, 0, none⟩) 1 1) ([(⟨#[101, 110, 100]⟩ : ByteArray)]), rowA encI 1 3 (.slice (some ⟨b2, 0, none⟩) 3 3) ([n.fKind, n.fLinks, n.fSize]), boxA b1 10 47 (nV n)]) _) := ⟨HS2.out⟩
     have HS:=Bx.mk (((((HS2.out.erase 3).erase 2).erase 1).erase 0));refine ⟨HS.out,?_⟩
     refine wh_one 13 (by kernel_rfl) ?_
     refine wo_appL rfl rfl HF rfl rfl rfl (HF.ev rfl) (HF.ev rfl) elemS encS_len HS2.out 1 (xs := (([n.fKind, n.fLinks, n.fSize]).map numB) ++ (treeB n.fTree)) rfl (ys := [(⟨#[101, 110, 100]⟩ : ByteArray)]) (St.rdN HS2.out encS_len 2 rfl) (cells_one_S _) (by unfold maxLen; (try simp only [List.length_append, List.length_cons, List.length_nil, List.nil_append, List.length_map, treeB_len, List.length_map]); omega) (by (try simp only [List.length_append, List.length_cons, List.length_nil, List.nil_append, List.length_map, treeB_len, List.length_map]); omega) ?_; clear HF HS HS2 a; intro ao26 cp27 w42 a HF HS2; replace HS2 := Bx.mk HS2
     replace HS2 : Bx (St w0 ([rowA encS 1 9 (.slice ao23 3 cp23) (treeB n.fTree), rowA encS 1 9 (.slice ao26 (((([n.fKind, n.fLinks, n.fSize]).map numB) ++ (treeB n.fTree)).length + ([(⟨#[101, 110, 100]⟩ : ByteArray)]).length) cp27) (((([n.fKind, n.fLinks, n.fSize]).map numB) ++ (treeB n.fTree)) ++ ([(⟨#[101, 110, 100]⟩ : ByteArray)])), rowA encS 1 9 (.slice (some ⟨b21, 0, none⟩) 1 1) ([(⟨#[101, 110, 100]⟩ : ByteArray)]), rowA encI 1 3 (.slice (some ⟨b2, 0, none⟩) 3 3) ([n.fKind, n.fLinks, n.fSize]), boxA b1 10 47 (nV n)]) _) := ⟨HS2.out⟩
     have HS:=Bx.mk (((((HS2.out.erase 3).erase 2).erase 1).erase 0));refine ⟨HS.out,?_⟩
     refine wh_one 14 (by kernel_rfl) ?_
     refine wo_callB rfl rfl HF rfl (enter_of Tryz.func162 (by kernel_rfl) rfl) (args := #[.slice ao26 (((([n.fKind, n.fLinks, n.fSize]).map numB) ++ (treeB n.fTree)).length + ([(⟨#[101, 110, 100]⟩ : ByteArray)]).length) cp27]) rfl (v := .tuple #[.string ((fieldsPut (nodeL n)).1), .bool ((fieldsPut (nodeL n)).2)]) ((fieldsPutI_any _ _ _ (nodeL n) _ (HT.out.below HS2.out.bel) (by rw [nodeL_len]; omega) (szs_nodeL n) (St.rdN HS2.out encS_len 1 rfl))) rfl rfl ?_
     intro w43 hb; replace HS := Bx.mk (HS.out.later hb); replace HS2 := Bx.mk (HS2.out.later hb);clear hb HF a;intro a HF; refine ⟨HS.out, ?_⟩
     refine zh 15 rfl HF (fun _ HS => (yl_move rfl (HF.ev rfl))) HS.out ?_;clear HF a;intro a HF
     refine zh 16 rfl HF (fun _ HS => (yl_extract rfl (HF.ev rfl) rfl)) HS.out ?_;clear HF a;intro a HF
     refine zh 17 rfl HF (fun _ HS => (yl_extract rfl (HF.ev rfl) rfl)) HS.out ?_;clear HF a;intro a HF
     refine zh 18 rfl HF (fun _ HS => (yl_assign rfl (HF.ev rfl))) HS.out ?_;clear HF a;intro a HF
     refine zh 19 rfl HF (fun _ HS => (yl_assign rfl (HF.ev rfl))) HS.out ?_;clear HF a;intro a HF
     refine wh_done (by kernel_rfl) ?_
     replace HS := HS2; clear HS2
     replace HS:=Bx.mk (((((HS.out.pick 4 rfl).pick 4 rfl).pick 3 rfl).pick 3 rfl).pick 4 rfl)
     exact on_mk ⟨_, _, _, _, _, _, HF.less _ ⟨rfl, rfl, rfl, rfl, rfl, rfl, rfl, trivial⟩, HS.out⟩
   ·skip
    refine wo_buildS (enc := encS) (e := 9) (size := 1) rfl rfl HF rfl rfl rfl (ps := [(0, .string (⟨#[101, 110, 100]⟩ : ByteArray))]) rfl (cells := [.string (⟨#[101, 110, 100]⟩ : ByteArray)]) (by kernel_rfl) [(⟨#[101, 110, 100]⟩ : ByteArray)] rfl rfl (by unfold maxLen; omega) rfl HS2.out HS.out ?_; clear HF HS HS2 a; intro b28 a w45 HF HS2 HS; replace HS := Bx.mk HS; replace HS2 := Bx.mk HS2; refine ⟨HS.out, ?_⟩
    refine wh_one 6 (by kernel_rfl) ?_
    refine wo_buildS (enc := encI) (e := 3) (size := 1) rfl rfl HF rfl rfl rfl (ps := [(0, .int .i64 n.fKind), (1, .int .i64 n.fLinks), (2, .int .i64 n.fSize)]) rfl (cells := [.int .i64 n.fKind, .int .i64 n.fLinks, .int .i64 n.fSize]) (by kernel_rfl) [n.fKind, n.fLinks, n.fSize] rfl rfl (by unfold maxLen; omega) rfl HS2.out HS.out ?_; clear HF HS HS2 a; intro b29 a w47 HF HS2 HS; replace HS := Bx.mk HS; replace HS2 := Bx.mk HS2; refine ⟨HS.out, ?_⟩
    refine wh_one 7 (by kernel_rfl) ?_
    refine wo_call rfl rfl HF rfl (enter_of Tryz.func163 (by kernel_rfl) rfl) (args := #[.slice (some ⟨b29, 0, none⟩) 3 3]) rfl (numbers_any _ _ _ ([n.fKind, n.fLinks, n.fSize]) _ (HT.out.below HS2.out.bel) (by simp) (St.rdN HS2.out encI_len 0 rfl)) rfl rfl ?_
    rintro _ w49 ⟨ao30, cp30, rfl, hs⟩
    refine ⟨_, rfl, ?_⟩
    replace HS := Bx.mk (HS.out.later hs.bel); replace HS2 := Bx.mk (HS2.out.add hs);clear hs HF a;intro a HF
    replace HS2 : Bx (St w0 ([rowA encS 1 9 (.slice ao30 (([n.fKind, n.fLinks, n.fSize]).length) cp30) (([n.fKind, n.fLinks, n.fSize]).map numB), rowA encI 1 3 (.slice (some ⟨b29, 0, none⟩) 3 3) ([n.fKind, n.fLinks, n.fSize]), rowA encS 1 9 (.slice (some ⟨b28, 0, none⟩) 1 1) ([(⟨#[101, 110, 100]⟩ : ByteArray)]), boxA b1 10 47 (nV n)]) _) := ⟨HS2.out⟩
    refine ⟨HS.out, ?_⟩
    refine wh_one 10 (by kernel_rfl) ?_
    refine wo_call rfl rfl HF rfl (enter_of Tryz.func164 (by kernel_rfl) rfl) (args := #[tV n.fTree]) rfl (treeFields_any n.fTree _ (HT.out.below HS2.out.bel)) rfl rfl ?_
    rintro _ w51 ⟨ao31, cp31, rfl, hs⟩
    refine ⟨_, rfl, ?_⟩
    replace HS := Bx.mk (HS.out.later hs.bel); replace HS2 := Bx.mk (HS2.out.add hs);clear hs HF a;intro a HF
    replace HS2 : Bx (St w0 ([rowA encS 1 9 (.slice ao31 3 cp31) (treeB n.fTree), rowA encS 1 9 (.slice ao30 (([n.fKind, n.fLinks, n.fSize]).length) cp30) (([n.fKind, n.fLinks, n.fSize]).map numB), rowA encI 1 3 (.slice (some ⟨b29, 0, none⟩) 3 3) ([n.fKind, n.fLinks, n.fSize]), rowA encS 1 9 (.slice (some ⟨b28, 0, none⟩) 1 1) ([(⟨#[101, 110, 100]⟩ : ByteArray)]), boxA b1 10 47 (nV n)]) _) := ⟨HS2.out⟩
    refine ⟨HS.out, ?_⟩
    refine wh_one 11 (by kernel_rfl) ?_
    refine wo_appL rfl rfl HF rfl rfl rfl (HF.ev rfl) (HF.ev rfl) elemS encS_len HS2.out 1 (xs := ([n.fKind, n.fLinks, n.fSize]).map numB) rfl (ys := treeB n.fTree) (St.rdN HS2.out encS_len 0 rfl) (cells_one_S _) (by unfold maxLen; (try simp only [List.length_append, List.length_cons, List.length_nil, List.nil_append, List.length_map, treeB_len, List.length_map]); omega) (by (try simp only [List.length_append, List.length_cons, List.length_nil, List.nil_append, List.length_map, treeB_len, List.length_map]); omega) ?_; clear HF HS HS2 a; intro ao32 cp33 w53 a HF HS2; replace HS2 := Bx.mk HS2
    replace HS2 : Bx (St w0 ([rowA encS 1 9 (.slice ao31 3 cp31) (treeB n.fTree), rowA encS 1 9 (.slice ao32 ((([n.fKind, n.fLinks, n.fSize]).map numB).length + (treeB n.fTree).length) cp33) ((([n.fKind, n.fLinks, n.fSize]).map numB) ++ (treeB n.fTree)), rowA encI 1 3 (.slice (some ⟨b29, 0, none⟩) 3 3) ([n.fKind, n.fLinks, n.fSize]), rowA encS 1 9 (.slice (some ⟨b28, 0, none⟩) 1 1) ([(⟨#[101, 110, 100]⟩ : ByteArray)]), boxA b1 10 47 (nV n)]) _) := ⟨HS2.out⟩
    have HS:=Bx.mk (((((HS2.out.erase 3).erase 2).erase 1).erase 0));refine ⟨HS.out,?_⟩
    refine wh_one 13 (by kernel_rfl) ?_
    refine wo_appL rfl rfl HF rfl rfl rfl (HF.ev rfl) (HF.ev rfl) elemS encS_len HS2.out 1 (xs := (([n.fKind, n.fLinks, n.fSize]).map numB) ++ (treeB n.fTree)) rfl (ys := [(⟨#[101, 110, 100]⟩ : ByteArray)]) (St.rdN HS2.out encS_len 3 rfl) (cells_one_S _) (by unfold maxLen; (try simp only [List.length_append, List.length_cons, List.length_nil, List.nil_append, List.length_map, treeB_len, List.length_map]); omega) (by (try simp only [List.length_append, List.length_cons, List.length_nil, List.nil_append, List.length_map, treeB_len, List.length_map]); omega) ?_; clear HF HS HS2 a; intro ao34 cp35 w55 a HF HS2; replace HS2 := Bx.mk HS2
    replace HS2 : Bx (St w0 ([rowA encS 1 9 (.slice ao31 3 cp31) (treeB n.fTree), rowA encS 1 9 (.slice ao34 (((([n.fKind, n.fLinks, n.fSize]).map numB) ++ (treeB n.fTree)).length + ([(⟨#[101, 110, 100]⟩ : ByteArray)]).length) cp35) (((([n.fKind, n.fLinks, n.fSize]).map numB) ++ (treeB n.fTree)) ++ ([(⟨#[101, 110, 100]⟩ : ByteArray)])), rowA encI 1 3 (.slice (some ⟨b29, 0, none⟩) 3 3) ([n.fKind, n.fLinks, n.fSize]), rowA encS 1 9 (.slice (some ⟨b28, 0, none⟩) 1 1) ([(⟨#[101, 110, 100]⟩ : ByteArray)]), boxA b1 10 47 (nV n)]) _) := ⟨HS2.out⟩
    have HS:=Bx.mk (((((HS2.out.erase 3).erase 2).erase 1).erase 0));refine ⟨HS.out,?_⟩
    refine wh_one 14 (by kernel_rfl) ?_
    refine wo_callB rfl rfl HF rfl (enter_of Tryz.func162 (by kernel_rfl) rfl) (args := #[.slice ao34 (((([n.fKind, n.fLinks, n.fSize]).map numB) ++ (treeB n.fTree)).length + ([(⟨#[101, 110, 100]⟩ : ByteArray)]).length) cp35]) rfl (v := .tuple #[.string ((fieldsPut (nodeL n)).1), .bool ((fieldsPut (nodeL n)).2)]) ((fieldsPutI_any _ _ _ (nodeL n) _ (HT.out.below HS2.out.bel) (by rw [nodeL_len]; omega) (szs_nodeL n) (St.rdN HS2.out encS_len 1 rfl))) rfl rfl ?_
    intro w56 hb; replace HS := Bx.mk (HS.out.later hb); replace HS2 := Bx.mk (HS2.out.later hb);clear hb HF a;intro a HF; refine ⟨HS.out, ?_⟩
    refine zh 15 rfl HF (fun _ HS => (yl_move rfl (HF.ev rfl))) HS.out ?_;clear HF a;intro a HF
    refine zh 16 rfl HF (fun _ HS => (yl_extract rfl (HF.ev rfl) rfl)) HS.out ?_;clear HF a;intro a HF
    refine zh 17 rfl HF (fun _ HS => (yl_extract rfl (HF.ev rfl) rfl)) HS.out ?_;clear HF a;intro a HF
    refine zh 18 rfl HF (fun _ HS => (yl_assign rfl (HF.ev rfl))) HS.out ?_;clear HF a;intro a HF
    refine zh 19 rfl HF (fun _ HS => (yl_assign rfl (HF.ev rfl))) HS.out ?_;clear HF a;intro a HF
    refine wh_done (by kernel_rfl) ?_
    replace HS := HS2; clear HS2
    replace HS:=Bx.mk (((((HS.out.pick 4 rfl).pick 3 rfl).pick 3 rfl).pick 3 rfl).pick 4 rfl)
    exact on_mk ⟨_, _, _, _, _, _, HF.less _ ⟨rfl, rfl, rfl, rfl, rfl, rfl, rfl, trivial⟩, HS.out⟩
  clear HF HS a; rintro a w57 ⟨b7, ao4, cp4, ao8, cp9, b2, HF, HS⟩; replace HS := Bx.mk HS
  refine ex_then ?_
  refine wp_sr ?_
  refine zr 2 HF rfl ?_;clear HF a;intro a HF
  refine wl_ne ?_
  refine wp_ret ?_
  refine bp_ret1 HF Tryz.results145 (HF.res rfl) ?_
  have hok : n.ok = true := by simpa using cc1
  exact ⟨by rw [nodeB_yes hok] <;> rfl, HS.out.bel⟩

theorem specNodePut_any (n : NodeD) (w0 : World) : Calls Tryz.prog 113 #[nV n] w0 fun e w' => e = .returned (.string (nodeB n)) ∧ Below w0.heap.size w0 w' := by
 have HS := Bx.mk (St.start w0)
 refine wc_enter Tryz.func113 rfl Tryz.ntmps113 [(0, nV n)] ⟨rfl, trivial⟩ rfl ?_; intro a HF
 refine wp_sr ?_
 refine wl_box rfl HF rfl (HF.ev rfl) (Z := [.int .i64 n.fKind, .int .i64 n.fLinks, .int .i64 n.fSize, .int .i64 n.fTree.fRoot.fAt, .int .i64 n.fTree.fRoot.fBirth, .int .i64 n.fTree.fRoot.fSize, .int .i64 n.fTree.fRoot.fSum, .int .i64 n.fTree.fRoot.fLevel, .int .i64 n.fTree.fDepth, .int .i64 n.fTree.fMany]) rfl rfl rfl rfl HS.out ?_; clear HF HS a; intro a w1 b1 HF HS; replace HS := Bx.mk HS
 refine za HF ?_;clear HF a;intro a HF
 refine wl_ne ?_
 refine wp_seq ?_
 refine wp_sr ?_
 refine zy HF (ylr (cs := [.int .i64 n.fKind, .int .i64 n.fLinks, .int .i64 n.fSize, .int .i64 n.fTree.fRoot.fAt, .int .i64 n.fTree.fRoot.fBirth, .int .i64 n.fTree.fRoot.fSize, .int .i64 n.fTree.fRoot.fSum, .int .i64 n.fTree.fRoot.fLevel, .int .i64 n.fTree.fDepth, .int .i64 n.fTree.fMany]) rfl (HF.ev rfl) ((HS.out.box 0 rfl).sub 0 10)) ?_;clear HF a;intro a HF
 refine wl_callB rfl HF rfl (enter_of Tryz.func75 (by kernel_rfl) rfl) (args := #[nV n]) rfl (v := .bool n.ok) (specNodeOk_any n _) rfl rfl HS.out ?_; clear HF HS a; intro w2 a HS HF; replace HS := Bx.mk HS
 refine zy HF (yl_not rfl (HF.ev rfl)) ?_;clear HF a;intro a HF
 refine wl_ne ?_
 refine HF.cases 7 rfl (fun cc1 _ => ?_) fun cc1 _ => ?_
 ·clear HF;rename_i HF
  refine wc_true HF rfl ?_
  refine wp_sr ?_
  refine za HF ?_;clear HF a;intro a HF
  refine wl_ne ?_
  refine wp_ret ?_
  refine ex_then_ret ?_
  refine bp_ret1 HF Tryz.results113 (HF.res rfl) ?_
  exact ⟨by rw [nodeB_no (by simpa using cc1)]; rfl, HS.out.bel⟩
 ·clear HF;rename_i HF
  refine wc_false HF rfl ?_
  refine wp_skip ?_
  refine ex_then ?_
  refine wp_seq ?_
  have hok : n.ok = true := by simpa using cc1
  have hsm := (NodeD.ok_is hok).small; have k1 := hsm.links; have k2 := hsm.size; have k3 := hsm.many; have k4 := hsm.depth; have k5 := hsm.kind; have hel := eachN_le n.fKind
  have hz_fKind : (decB n.fKind.toNat).size ≤ 9 := decB_9 (by omega)
  have hz_fLinks : (decB n.fLinks.toNat).size ≤ 9 := decB_9 (by omega)
  have hz_fSize : (decB n.fSize.toNat).size ≤ 9 := decB_9 (by omega)
  have hz_fTree_fDepth : (decB n.fTree.fDepth.toNat).size ≤ 9 := decB_9 (by omega)
  have hz_fTree_fMany : (decB n.fTree.fMany.toNat).size ≤ 9 := decB_9 (by omega)
  refine wr_heldS (s := [boxA b1 10 47 (nV n)]) (by kernel_rfl) (St.drew (HS.out)) ?_
  have HS2 := Bx.mk HS.out.drew; replace HS := Bx.mk (show St w0 ([boxA b1 10 47 (nV n)]) _ from HS.out.drew)
  generalize World.drew _ = w3 at HS HS2 ⊢
  refine zh 0 rfl HF (fun _ HS => (yfa 0 rfl (HF.ev rfl))) HS.out ?_;clear HF a;intro a HF
  refine zh 1 rfl HF (fun _ HS => (ylo (v := .int .i64 n.fKind) rfl (HF.ev rfl) (((HS.box 0 rfl).cell 0).trans rfl))) HS.out ?_;clear HF a;intro a HF
  refine zh 3 rfl HF (fun _ HS => (yfa 1 rfl (HF.ev rfl))) HS.out ?_;clear HF a;intro a HF
  refine zh 4 rfl HF (fun _ HS => (ylo (v := .int .i64 n.fLinks) rfl (HF.ev rfl) (((HS.box 0 rfl).cell 1).trans rfl))) HS.out ?_;clear HF a;intro a HF
  refine zh 6 rfl HF (fun _ HS => (yfa 2 rfl (HF.ev rfl))) HS.out ?_;clear HF a;intro a HF
  refine zh 7 rfl HF (fun _ HS => (ylo (v := .int .i64 n.fSize) rfl (HF.ev rfl) (((HS.box 0 rfl).cell 2).trans rfl))) HS.out ?_;clear HF a;intro a HF
  refine zh 9 rfl HF (fun _ HS => (yfa 3 rfl (HF.ev rfl))) HS.out ?_;clear HF a;intro a HF
  refine zh 10 rfl HF (fun _ HS => (yfa 0 rfl (HF.ev rfl))) HS.out ?_;clear HF a;intro a HF
  refine zh 11 rfl HF (fun _ HS => (ylr (cs := [.int .i64 n.fTree.fRoot.fAt, .int .i64 n.fTree.fRoot.fBirth, .int .i64 n.fTree.fRoot.fSize, .int .i64 n.fTree.fRoot.fSum, .int .i64 n.fTree.fRoot.fLevel]) rfl (HF.ev rfl) ((HS.box 0 rfl).sub 3 5))) HS.out ?_;clear HF a;intro a HF
  refine zh 13 rfl HF (fun _ HS => (yfa 3 rfl (HF.ev rfl))) HS.out ?_;clear HF a;intro a HF
  refine zh 14 rfl HF (fun _ HS => (yfa 5 rfl (HF.ev rfl))) HS.out ?_;clear HF a;intro a HF
  refine zh 15 rfl HF (fun _ HS => (ylo (v := .int .i64 n.fTree.fDepth) rfl (HF.ev rfl) (((HS.box 0 rfl).cell 8).trans rfl))) HS.out ?_;clear HF a;intro a HF
  refine zh 17 rfl HF (fun _ HS => (yfa 3 rfl (HF.ev rfl))) HS.out ?_;clear HF a;intro a HF
  refine zh 18 rfl HF (fun _ HS => (yfa 6 rfl (HF.ev rfl))) HS.out ?_;clear HF a;intro a HF
  refine zh 19 rfl HF (fun _ HS => (ylo (v := .int .i64 n.fTree.fMany) rfl (HF.ev rfl) (((HS.box 0 rfl).cell 9).trans rfl))) HS.out ?_;clear HF a;intro a HF
  refine wh_one 2 (by kernel_rfl) ?_
  refine wo_callB rfl rfl HF rfl (enter_of Tryz.func140 (by kernel_rfl) rfl) (args := #[.int .i64 n.fKind]) rfl (v := .string (decB n.fKind.toNat)) (l6DecI_any n.fKind (by omega) (by omega) _) rfl rfl ?_
  intro w4 hb; replace HS := Bx.mk (HS.out.later hb); replace HS2 := Bx.mk (HS2.out.later hb);clear hb HF a;intro a HF; refine ⟨HS.out, ?_⟩
  refine wh_one 5 (by kernel_rfl) ?_
  refine wo_callB rfl rfl HF rfl (enter_of Tryz.func140 (by kernel_rfl) rfl) (args := #[.int .i64 n.fLinks]) rfl (v := .string (decB n.fLinks.toNat)) (l6DecI_any n.fLinks (by omega) (by omega) _) rfl rfl ?_
  intro w5 hb; replace HS := Bx.mk (HS.out.later hb); replace HS2 := Bx.mk (HS2.out.later hb);clear hb HF a;intro a HF; refine ⟨HS.out, ?_⟩
  refine wh_one 8 (by kernel_rfl) ?_
  refine wo_callB rfl rfl HF rfl (enter_of Tryz.func140 (by kernel_rfl) rfl) (args := #[.int .i64 n.fSize]) rfl (v := .string (decB n.fSize.toNat)) (l6DecI_any n.fSize (by omega) (by omega) _) rfl rfl ?_
  intro w6 hb; replace HS := Bx.mk (HS.out.later hb); replace HS2 := Bx.mk (HS2.out.later hb);clear hb HF a;intro a HF; refine ⟨HS.out, ?_⟩
  refine wh_one 12 (by kernel_rfl) ?_
  refine wo_callB rfl rfl HF rfl (enter_of Tryz.func141 (by kernel_rfl) rfl) (args := #[pV n.fTree.fRoot]) rfl (v := .string (ptrB n.fTree.fRoot)) (ptrPutS_any n.fTree.fRoot _) rfl rfl ?_
  intro w7 hb; replace HS := Bx.mk (HS.out.later hb); replace HS2 := Bx.mk (HS2.out.later hb);clear hb HF a;intro a HF; refine ⟨HS.out, ?_⟩
  refine wh_one 16 (by kernel_rfl) ?_
  refine wo_callB rfl rfl HF rfl (enter_of Tryz.func140 (by kernel_rfl) rfl) (args := #[.int .i64 n.fTree.fDepth]) rfl (v := .string (decB n.fTree.fDepth.toNat)) (l6DecI_any n.fTree.fDepth (by omega) (by omega) _) rfl rfl ?_
  intro w8 hb; replace HS := Bx.mk (HS.out.later hb); replace HS2 := Bx.mk (HS2.out.later hb);clear hb HF a;intro a HF; refine ⟨HS.out, ?_⟩
  refine wh_one 20 (by kernel_rfl) ?_
  refine wo_callB rfl rfl HF rfl (enter_of Tryz.func140 (by kernel_rfl) rfl) (args := #[.int .i64 n.fTree.fMany]) rfl (v := .string (decB n.fTree.fMany.toNat)) (l6DecI_any n.fTree.fMany (by omega) (by omega) _) rfl rfl ?_
  intro w9 hb; replace HS := Bx.mk (HS.out.later hb); replace HS2 := Bx.mk (HS2.out.later hb);clear hb HF a;intro a HF; refine ⟨HS.out, ?_⟩
  refine wh_one 21 (by kernel_rfl) ?_
  refine wo_buildS (enc := encS) (e := 9) (size := 1) rfl rfl HF rfl rfl rfl (ps := [(0, .string (decB n.fKind.toNat)), (1, .string (decB n.fLinks.toNat)), (2, .string (decB n.fSize.toNat)), (3, .string (ptrB n.fTree.fRoot)), (4, .string (decB n.fTree.fDepth.toNat)), (5, .string (decB n.fTree.fMany.toNat)), (6, .string (⟨#[101, 110, 100]⟩ : ByteArray))]) rfl (cells := [.string (decB n.fKind.toNat), .string (decB n.fLinks.toNat), .string (decB n.fSize.toNat), .string (ptrB n.fTree.fRoot), .string (decB n.fTree.fDepth.toNat), .string (decB n.fTree.fMany.toNat), .string (⟨#[101, 110, 100]⟩ : ByteArray)]) (by kernel_rfl) [decB n.fKind.toNat, decB n.fLinks.toNat, decB n.fSize.toNat, ptrB n.fTree.fRoot, decB n.fTree.fDepth.toNat, decB n.fTree.fMany.toNat, (⟨#[101, 110, 100]⟩ : ByteArray)] rfl rfl (by unfold maxLen; omega) rfl HS2.out HS.out ?_; clear HF HS HS2 a; intro b2 a w11 HF HS2 HS; replace HS := Bx.mk HS; replace HS2 := Bx.mk HS2; refine ⟨HS.out, ?_⟩
  refine wh_one 22 (by kernel_rfl) ?_
  refine wo_callB rfl rfl HF rfl (enter_of Tryz.func138 (by kernel_rfl) rfl) (args := #[.slice (some ⟨b2, 0, none⟩) 7 7]) rfl (v := .tuple #[.string ((fieldsPut ([decB n.fKind.toNat, decB n.fLinks.toNat, decB n.fSize.toNat, ptrB n.fTree.fRoot, decB n.fTree.fDepth.toNat, decB n.fTree.fMany.toNat, (⟨#[101, 110, 100]⟩ : ByteArray)])).1), .bool ((fieldsPut ([decB n.fKind.toNat, decB n.fLinks.toNat, decB n.fSize.toNat, ptrB n.fTree.fRoot, decB n.fTree.fDepth.toNat, decB n.fTree.fMany.toNat, (⟨#[101, 110, 100]⟩ : ByteArray)])).2)]) (fieldsPutS_any _ _ _ ([decB n.fKind.toNat, decB n.fLinks.toNat, decB n.fSize.toNat, ptrB n.fTree.fRoot, decB n.fTree.fDepth.toNat, decB n.fTree.fMany.toNat, (⟨#[101, 110, 100]⟩ : ByteArray)]) _ (by (try simp only [List.length_append, List.length_cons, List.length_nil, List.nil_append, List.length_map]); omega) (szs_cons (by omega) (szs_cons (by omega) (szs_cons (by omega) (szs_cons (Nat.le_trans (ptrB_le _) (by decide)) (szs_cons (by omega) (szs_cons (by omega) (szs_cons (by decide) szs_nil))))))) (St.rdN HS2.out encS_len 0 rfl)) rfl rfl ?_
  intro w12 hb; replace HS := Bx.mk (HS.out.later hb); replace HS2 := Bx.mk (HS2.out.later hb);clear hb HF a;intro a HF; refine ⟨HS.out, ?_⟩
  refine zh 23 rfl HF (fun _ HS => (yl_move rfl (HF.ev rfl))) HS.out ?_;clear HF a;intro a HF
  refine zh 24 rfl HF (fun _ HS => (yl_extract rfl (HF.ev rfl) rfl)) HS.out ?_;clear HF a;intro a HF
  refine zh 25 rfl HF (fun _ HS => (yl_extract rfl (HF.ev rfl) rfl)) HS.out ?_;clear HF a;intro a HF
  refine zh 26 rfl HF (fun _ HS => (yl_assign rfl (HF.ev rfl))) HS.out ?_;clear HF a;intro a HF
  refine zh 27 rfl HF (fun _ HS => (yl_assign rfl (HF.ev rfl))) HS.out ?_;clear HF a;intro a HF
  refine wh_done (by kernel_rfl) ?_
  replace HS := HS2; clear HS2
  refine ex_then ?_
  refine wp_sr ?_
  refine zr 2 HF rfl ?_;clear HF a;intro a HF
  refine wl_ne ?_
  refine wp_ret ?_
  refine bp_ret1 HF Tryz.results113 (HF.res rfl) ?_
  have hok : n.ok = true := by simpa using cc1
  have hsm := (NodeD.ok_is hok).small; have k1 := hsm.links; have k2 := hsm.size; have k3 := hsm.many; have k4 := hsm.depth; have k5 := hsm.kind; have hel := eachN_le n.fKind
  have hL : nodeL n = [decB n.fKind.toNat, decB n.fLinks.toNat, decB n.fSize.toNat, ptrB n.fTree.fRoot, decB n.fTree.fDepth.toNat, decB n.fTree.fMany.toNat, endB] := by unfold nodeL; rw [numB_in (n := n.fKind) (by omega) (by omega), numB_in (n := n.fLinks) (by omega) (by omega), numB_in (n := n.fSize) (by omega) (by omega), numB_in (n := n.fTree.fDepth) (by omega) (by omega), numB_in (n := n.fTree.fMany) (by omega) (by omega)]
  exact ⟨by rw [nodeB_yes hok, hL] <;> rfl, HS.out.bel⟩

theorem lenS7 {α : Type} {l : List α} (h : l.length = 7) : ∃ a b c d e f g, l = [a, b, c, d, e, f, g] := by
  match l, h with
  | [a, b, c, d, e, f, g], _ => exact ⟨a, b, c, d, e, f, g, rfl⟩
theorem node_tree {n : NodeD} (h : n.ok = true) : IsTree (ptrB n.fTree.fRoot) (numB n.fTree.fDepth) (numB n.fTree.fMany) n.fTree := by
  have a := NodeD.ok_is h
  have s := a.small
  have k3 := s.many; have k4 := s.depth
  exact ⟨a.root, rfl, ⟨by omega, by omega, rfl⟩, ⟨by omega, by omega, rfl⟩⟩

theorem implNodeGet_any (s : ByteArray) (w0 : World) (hT : TabP w0) (hM : MaxP w0) (hE : ErrP w0) (hs : s.size ≤ 1000000) : Calls Tryz.prog 116 #[.string s] w0 fun e w' => (∃ n : NodeD, n.ok = true ∧ nodeB n = s ∧ e = .returned (.tuple #[nV n, .bool true]) ∧ Below w0.heap.size w0 w') ∨ ((∀ n : NodeD, n.ok = true → nodeB n = s → False) ∧ e = .returned (.tuple #[.agg #[.int .i64 0, .int .i64 0, .int .i64 0, .int .i64 0, .int .i64 0, .int .i64 0, .int .i64 0, .int .i64 0, .int .i64 0, .int .i64 0], .bool false]) ∧ Below w0.heap.size w0 w') := by
  have HT := Bx.mk hT; have HM := Bx.mk hM; have HE := Bx.mk hE; clear hT hM hE
  have HS := Bx.mk (St.start w0)
  refine wc_enter Tryz.func116 rfl Tryz.ntmps116 [(0, .string s)] ⟨rfl, trivial⟩ rfl ?_; intro a HF
  refine wp_sr ?_
  refine wl_alloc rfl HF rfl rfl rfl (Z := [.int .i64 0, .int .i64 0, .int .i64 0, .int .i64 0, .int .i64 0, .int .i64 0, .int .i64 0, .int .i64 0, .int .i64 0, .int .i64 0]) (by kernel_rfl) rfl HS.out ?_; clear HF HS a; intro a w1 b1 HF HS; replace HS := Bx.mk HS
  refine za HF ?_;clear HF a;intro a HF
  refine wl_ne ?_
  refine wp_sr ?_
  refine zm HF ?_;clear HF a;intro a HF
  refine wl_call rfl HF rfl (enter_of Tryz.func142 (by kernel_rfl) rfl) (args := #[.string s]) rfl (fieldsGet_any s _ (HT.out.below HS.out.bel) (HM.out.below HS.out.bel) (HE.out.below HS.out.bel) (by omega)) rfl rfl ?_
  rintro _ w2 (⟨xs, hrec, hsz, ao, cp, rfl, hs1⟩ | ⟨hno, rfl, hb⟩)
  · skip
    refine ⟨_, rfl, ?_⟩; replace HS := Bx.mk (HS.out.add hs1);clear hs1 HF a;intro a HF
    try dsimp only [List.eraseIdx] at HS
    refine zr 5 HF rfl ?_;clear HF a;intro a HF
    refine wl_ne ?_
    refine wp_seq ?_
    refine wp_sr ?_
    refine zr 4 HF rfl ?_;clear HF a;intro a HF
    refine zg HF (yl_lenL (e := 9) (size := 1) rfl (HF.ev rfl) (by kernel_rfl)) ?_;clear HF a;intro a HF
    refine zr 2 HF rfl ?_;clear HF a;intro a HF
    refine wl_ne ?_
    refine HF.cases 20 rfl (fun cc1 _ => ?_) fun cc1 _ => ?_
    · clear HF;rename_i HF
      have dcc1 := bne_iff_ne.1 cc1
      refine wc_true HF rfl ?_
      refine wp_sr ?_
      refine zy HF (yl_build HF rfl (ps := []) rfl (cs := #[.int .i64 0, .int .i64 0, .int .i64 0, .int .i64 0, .int .i64 0, .int .i64 0, .int .i64 0, .int .i64 0, .int .i64 0, .int .i64 0]) (by kernel_rfl)) ?_;clear HF a;intro a HF
      refine wl_storeBox rfl HF rfl rfl (HF.ev rfl) (HF.ev rfl) HS.out 1 rfl (cells_lit [.int .i64 0, .int .i64 0, .int .i64 0, .int .i64 0, .int .i64 0, .int .i64 0, .int .i64 0, .int .i64 0, .int .i64 0, .int .i64 0] rfl rfl) (by kernel_rfl) ?_; clear HS; intro w3 HS; replace HS := Bx.mk HS
      try dsimp only [List.set] at HS
      refine za HF ?_;clear HF a;intro a HF
      refine wl_ne ?_
      refine wp_ret ?_
      refine ex_then_ret ?_
      refine bp_ret2 HF Tryz.results116 (HF.resBox rfl (HS.out.box 1 rfl) (by kernel_rfl)) (HF.res rfl) ?_
      refine .inr ⟨fun x hx hxs => ?_, rfl, HS.out.bel⟩
      have hl6 := node_rec hx; rw [hxs] at hl6; have hx2 := nodeB_size x; rw [hxs] at hx2; have hsm := (node_five hx).1; have k1 := hsm.links; have k2 := hsm.size; have k3 := hsm.many; have k4 := hsm.depth; have k5 := hsm.kind; have hel := eachN_le x.fKind
      have hone := hrec.one hl6
      rw [hone] at dcc1; exact dcc1 rfl
    · clear HF;rename_i HF
      have dcc1 := bne_eq_false_iff_eq.1 cc1
      refine wc_false HF rfl ?_
      refine wp_skip ?_
      refine ex_then ?_
      refine wp_seq ?_
      obtain ⟨y0, y1, y2, y3, y4, y5, y6, rfl⟩ := lenS7 (l := xs) (by omega)
      replace HF : Fr 63 a [(0, .string s), (2, .pointer (some ⟨b1, 0, none⟩)), (3, .bool false), (10, .string s), (12, .slice ao 7 cp), (13, .bool true), (4, .slice ao 7 cp), (5, .bool true), (14, .bool true), (15, .bool false), (16, .bool false), (17, .slice ao 7 cp), (20, .bool false)] := HF.less _ ⟨rfl, rfl, rfl, rfl, rfl, rfl, rfl, rfl, rfl, rfl, rfl, rfl, rfl, trivial⟩
      try dsimp only [List.eraseIdx] at HS
      obtain ⟨g2, rfl, _, _, _, _⟩ := HS.out.rowOpen 0 rfl (Nat.succ_pos _)
      have hcap := HS.out.capLe 0 rfl
      have hy0 : y0.size ≤ 2048 := by have := recB_elem [y0, y1, y2, y3, y4, y5, y6] (k := 0) (by simp only [List.length_cons, List.length_nil]; omega); rw [hrec.is] at this; have e : ([y0, y1, y2, y3, y4, y5, y6] : List ByteArray).getD 0 ByteArray.empty = y0 := rfl; rw [e] at this; omega
      have hy1 : y1.size ≤ 2048 := by have := recB_elem [y0, y1, y2, y3, y4, y5, y6] (k := 1) (by simp only [List.length_cons, List.length_nil]; omega); rw [hrec.is] at this; have e : ([y0, y1, y2, y3, y4, y5, y6] : List ByteArray).getD 1 ByteArray.empty = y1 := rfl; rw [e] at this; omega
      have hy2 : y2.size ≤ 2048 := by have := recB_elem [y0, y1, y2, y3, y4, y5, y6] (k := 2) (by simp only [List.length_cons, List.length_nil]; omega); rw [hrec.is] at this; have e : ([y0, y1, y2, y3, y4, y5, y6] : List ByteArray).getD 2 ByteArray.empty = y2 := rfl; rw [e] at this; omega
      have hy3 : y3.size ≤ 2048 := by have := recB_elem [y0, y1, y2, y3, y4, y5, y6] (k := 3) (by simp only [List.length_cons, List.length_nil]; omega); rw [hrec.is] at this; have e : ([y0, y1, y2, y3, y4, y5, y6] : List ByteArray).getD 3 ByteArray.empty = y3 := rfl; rw [e] at this; omega
      have hy4 : y4.size ≤ 2048 := by have := recB_elem [y0, y1, y2, y3, y4, y5, y6] (k := 4) (by simp only [List.length_cons, List.length_nil]; omega); rw [hrec.is] at this; have e : ([y0, y1, y2, y3, y4, y5, y6] : List ByteArray).getD 4 ByteArray.empty = y4 := rfl; rw [e] at this; omega
      have hy5 : y5.size ≤ 2048 := by have := recB_elem [y0, y1, y2, y3, y4, y5, y6] (k := 5) (by simp only [List.length_cons, List.length_nil]; omega); rw [hrec.is] at this; have e : ([y0, y1, y2, y3, y4, y5, y6] : List ByteArray).getD 5 ByteArray.empty = y5 := rfl; rw [e] at this; omega
      have hy6 : y6.size ≤ 2048 := by have := recB_elem [y0, y1, y2, y3, y4, y5, y6] (k := 6) (by simp only [List.length_cons, List.length_nil]; omega); rw [hrec.is] at this; have e : ([y0, y1, y2, y3, y4, y5, y6] : List ByteArray).getD 6 ByteArray.empty = y6 := rfl; rw [e] at this; omega
      refine wp_region_lit ?_
      refine wl_alloc rfl HF rfl rfl rfl (Z := [.int .i64 0, .int .i64 0, .int .i64 0, .int .i64 0, .int .i64 0, .int .i64 0, .int .i64 0, .int .i64 0, .int .i64 0, .int .i64 0]) (by kernel_rfl) rfl HS.out ?_; clear HF HS a; intro a w4 b3 HF HS; replace HS := Bx.mk HS
      refine wl_ne ?_
      refine wp_seq ?_
      refine wp_sr ?_
      refine zy HF (yfa 0 rfl (HF.ev rfl)) ?_;clear HF a;intro a HF
      refine zy HF (yfa 1 rfl (HF.ev rfl)) ?_;clear HF a;intro a HF
      refine zy HF (yfa 2 rfl (HF.ev rfl)) ?_;clear HF a;intro a HF
      refine wl_buildS (enc := encA) (e := 171) (size := 1) rfl HF rfl rfl rfl (ps := [(0, .pointer (some ⟨b3, 0 + 0, none⟩)), (1, .pointer (some ⟨b3, 0 + 1, none⟩)), (2, .pointer (some ⟨b3, 0 + 2, none⟩))]) rfl (cells := [.pointer (some ⟨b3, 0 + 0, none⟩), .pointer (some ⟨b3, 0 + 1, none⟩), .pointer (some ⟨b3, 0 + 2, none⟩)]) (by kernel_rfl) [(some ⟨b3, 0 + 0, none⟩), (some ⟨b3, 0 + 1, none⟩), (some ⟨b3, 0 + 2, none⟩)] rfl rfl (by unfold maxLen; omega) rfl HS.out ?_; clear HF HS a; intro b4 a w5 HF HS; replace HS := Bx.mk HS
      refine zy HF (yl_lenL (e := 171) (size := 1) rfl (HF.ev rfl) (by kernel_rfl)) ?_;clear HF a;intro a HF
      refine zm HF ?_;clear HF a;intro a HF
      refine wl_ne ?_
      refine wp_block ?_
      refine wc_rounds 5 ?_
      refine wp_sr ?_
      refine zy HF (yl_lssI rfl (HF.ev rfl) (HF.ev rfl)) ?_;clear HF a;intro a HF
      refine wl_ne ?_
      refine wp_seq ?_
      replace HF := HF.know (k := 28) (c := true) rfl (by decide)
      refine wc_true HF rfl ?_
      refine wp_skip ?_
      refine ex_then ?_
      refine wp_seq ?_
      refine wp_block ?_
      refine wp_sr ?_
      refine zm HF ?_;clear HF a;intro a HF
      refine zy HF (yl_indexAddr (e := 171) (i := 0) (size := 1) rfl (HF.ev rfl) (HF.ev rfl) (by kernel_rfl) rfl (by omega)) ?_;clear HF a;intro a HF
      refine zy HF (ylo (v := .pointer (some ⟨b3, 0 + 0, none⟩)) rfl (HF.ev rfl) (HS.out.elem1 encA_len 0 rfl (show ([(some ⟨b3, 0 + 0, none⟩), (some ⟨b3, 0 + 1, none⟩), (some ⟨b3, 0 + 2, none⟩)] : List (Option Addr))[0]? = some _ from rfl) rfl)) ?_;clear HF a;intro a HF
      refine zr 2 HF rfl ?_;clear HF a;intro a HF
      refine wl_ne ?_
      refine wp_sr ?_
      refine zr 3 HF rfl ?_;clear HF a;intro a HF
      refine zy HF (yl_indexAddr (e := 9) (i := 0) (size := 1) rfl (HF.ev rfl) (HF.ev rfl) (by kernel_rfl) rfl (by omega)) ?_;clear HF a;intro a HF
      refine zy HF (ylo (v := .string y0) rfl (HF.ev rfl) (HS.out.elem1 encS_len 2 rfl (show ([y0, y1, y2, y3, y4, y5, y6] : List _)[0]? = some _ from rfl) rfl)) ?_;clear HF a;intro a HF
      refine wl_call rfl HF rfl (enter_of Tryz.func143 (by kernel_rfl) rfl) (args := #[.string y0]) rfl (implNumGet_any y0 _ (HT.out.below HS.out.bel) (HE.out.below HS.out.bel)) rfl rfl ?_
      rintro _ w6 (⟨n5, hg5, rfl, hb⟩ | ⟨hg5, rfl, hb⟩)
      · skip
        refine ⟨_, rfl, ?_⟩; replace HS := Bx.mk (HS.out.later hb);clear hb HF a;intro a HF
        refine zr 4 HF rfl ?_;clear HF a;intro a HF
        refine wl_storeF rfl rfl rfl (HF.ev rfl) (HF.ev rfl) (by kernel_rfl) HS.out 1 rfl rfl rfl ?_; clear HS; intro w7 HS; replace HS := Bx.mk HS
        try dsimp only [List.set] at HS
        refine za HF ?_;clear HF a;intro a HF
        refine wl_ne ?_
        refine wp_sr ?_
        refine zr 2 HF rfl ?_;clear HF a;intro a HF
        refine wl_ne ?_
        refine wc_false HF rfl ?_
        refine wp_skip ?_
        refine ex_block ?_
        refine ex_then ?_
        refine wp_region_lit ?_
        refine zy HF (yl_addI (r := 1) rfl (HF.ev rfl) (HF.ev rfl) (by decide)) ?_;clear HF a;intro a HF
        refine zm HF ?_;clear HF a;intro a HF
        refine wl_ne ?_
        refine wc_round 4 ?_
        refine wp_sr ?_
        refine zy HF (yl_lssI rfl (HF.ev rfl) (HF.ev rfl)) ?_;clear HF a;intro a HF
        refine wl_ne ?_
        refine wp_seq ?_
        replace HF := HF.know (k := 28) (c := true) rfl (by decide)
        refine wc_true HF rfl ?_
        refine wp_skip ?_
        refine ex_then ?_
        refine wp_seq ?_
        refine wp_block ?_
        refine wp_sr ?_
        refine zm HF ?_;clear HF a;intro a HF
        refine zy HF (yl_indexAddr (e := 171) (i := 1) (size := 1) rfl (HF.ev rfl) (HF.ev rfl) (by kernel_rfl) rfl (by omega)) ?_;clear HF a;intro a HF
        refine zy HF (ylo (v := .pointer (some ⟨b3, 0 + 1, none⟩)) rfl (HF.ev rfl) (HS.out.elem1 encA_len 0 rfl (show ([(some ⟨b3, 0 + 0, none⟩), (some ⟨b3, 0 + 1, none⟩), (some ⟨b3, 0 + 2, none⟩)] : List (Option Addr))[1]? = some _ from rfl) rfl)) ?_;clear HF a;intro a HF
        refine zr 2 HF rfl ?_;clear HF a;intro a HF
        refine wl_ne ?_
        refine wp_sr ?_
        refine zr 3 HF rfl ?_;clear HF a;intro a HF
        refine zy HF (yl_indexAddr (e := 9) (i := 1) (size := 1) rfl (HF.ev rfl) (HF.ev rfl) (by kernel_rfl) rfl (by omega)) ?_;clear HF a;intro a HF
        refine zy HF (ylo (v := .string y1) rfl (HF.ev rfl) (HS.out.elem1 encS_len 2 rfl (show ([y0, y1, y2, y3, y4, y5, y6] : List _)[1]? = some _ from rfl) rfl)) ?_;clear HF a;intro a HF
        refine wl_call rfl HF rfl (enter_of Tryz.func143 (by kernel_rfl) rfl) (args := #[.string y1]) rfl (implNumGet_any y1 _ (HT.out.below HS.out.bel) (HE.out.below HS.out.bel)) rfl rfl ?_
        rintro _ w8 (⟨n6, hg6, rfl, hb⟩ | ⟨hg6, rfl, hb⟩)
        · skip
          refine ⟨_, rfl, ?_⟩; replace HS := Bx.mk (HS.out.later hb);clear hb HF a;intro a HF
          refine zr 4 HF rfl ?_;clear HF a;intro a HF
          refine wl_storeF rfl rfl rfl (HF.ev rfl) (HF.ev rfl) (by kernel_rfl) HS.out 1 rfl rfl rfl ?_; clear HS; intro w9 HS; replace HS := Bx.mk HS
          try dsimp only [List.set] at HS
          refine za HF ?_;clear HF a;intro a HF
          refine wl_ne ?_
          refine wp_sr ?_
          refine zr 2 HF rfl ?_;clear HF a;intro a HF
          refine wl_ne ?_
          refine wc_false HF rfl ?_
          refine wp_skip ?_
          refine ex_block ?_
          refine ex_then ?_
          refine wp_region_lit ?_
          refine zy HF (yl_addI (r := 2) rfl (HF.ev rfl) (HF.ev rfl) (by decide)) ?_;clear HF a;intro a HF
          refine zm HF ?_;clear HF a;intro a HF
          refine wl_ne ?_
          refine wc_round 3 ?_
          refine wp_sr ?_
          refine zy HF (yl_lssI rfl (HF.ev rfl) (HF.ev rfl)) ?_;clear HF a;intro a HF
          refine wl_ne ?_
          refine wp_seq ?_
          replace HF := HF.know (k := 28) (c := true) rfl (by decide)
          refine wc_true HF rfl ?_
          refine wp_skip ?_
          refine ex_then ?_
          refine wp_seq ?_
          refine wp_block ?_
          refine wp_sr ?_
          refine zm HF ?_;clear HF a;intro a HF
          refine zy HF (yl_indexAddr (e := 171) (i := 2) (size := 1) rfl (HF.ev rfl) (HF.ev rfl) (by kernel_rfl) rfl (by omega)) ?_;clear HF a;intro a HF
          refine zy HF (ylo (v := .pointer (some ⟨b3, 0 + 2, none⟩)) rfl (HF.ev rfl) (HS.out.elem1 encA_len 0 rfl (show ([(some ⟨b3, 0 + 0, none⟩), (some ⟨b3, 0 + 1, none⟩), (some ⟨b3, 0 + 2, none⟩)] : List (Option Addr))[2]? = some _ from rfl) rfl)) ?_;clear HF a;intro a HF
          refine zr 2 HF rfl ?_;clear HF a;intro a HF
          refine wl_ne ?_
          refine wp_sr ?_
          refine zr 3 HF rfl ?_;clear HF a;intro a HF
          refine zy HF (yl_indexAddr (e := 9) (i := 2) (size := 1) rfl (HF.ev rfl) (HF.ev rfl) (by kernel_rfl) rfl (by omega)) ?_;clear HF a;intro a HF
          refine zy HF (ylo (v := .string y2) rfl (HF.ev rfl) (HS.out.elem1 encS_len 2 rfl (show ([y0, y1, y2, y3, y4, y5, y6] : List _)[2]? = some _ from rfl) rfl)) ?_;clear HF a;intro a HF
          refine wl_call rfl HF rfl (enter_of Tryz.func143 (by kernel_rfl) rfl) (args := #[.string y2]) rfl (implNumGet_any y2 _ (HT.out.below HS.out.bel) (HE.out.below HS.out.bel)) rfl rfl ?_
          rintro _ w10 (⟨n7, hg7, rfl, hb⟩ | ⟨hg7, rfl, hb⟩)
          · skip
            refine ⟨_, rfl, ?_⟩; replace HS := Bx.mk (HS.out.later hb);clear hb HF a;intro a HF
            refine zr 4 HF rfl ?_;clear HF a;intro a HF
            refine wl_storeF rfl rfl rfl (HF.ev rfl) (HF.ev rfl) (by kernel_rfl) HS.out 1 rfl rfl rfl ?_; clear HS; intro w11 HS; replace HS := Bx.mk HS
            try dsimp only [List.set] at HS
            refine za HF ?_;clear HF a;intro a HF
            refine wl_ne ?_
            refine wp_sr ?_
            refine zr 2 HF rfl ?_;clear HF a;intro a HF
            refine wl_ne ?_
            refine wc_false HF rfl ?_
            refine wp_skip ?_
            refine ex_block ?_
            refine ex_then ?_
            refine wp_region_lit ?_
            refine zy HF (yl_addI (r := 3) rfl (HF.ev rfl) (HF.ev rfl) (by decide)) ?_;clear HF a;intro a HF
            refine zm HF ?_;clear HF a;intro a HF
            refine wl_ne ?_
            refine wc_round 2 ?_
            refine wp_sr ?_
            refine zy HF (yl_lssI rfl (HF.ev rfl) (HF.ev rfl)) ?_;clear HF a;intro a HF
            refine wl_ne ?_
            refine wp_seq ?_
            replace HF := HF.know (k := 28) (c := false) rfl (by decide)
            refine wc_false HF rfl ?_
            refine wp_exit ?_
            refine ex_then_exit ?_
            refine ex_then_exit ?_
            refine ex_block_hit ?_
            refine ex_then ?_
            refine wp_sr ?_
            refine zm HF ?_;clear HF a;intro a HF
            refine zy HF (yl_sliceLH (e := 9) (size := 1) (k := 3) (j := 6) rfl (HF.ev rfl) (HF.ev rfl) (HF.ev rfl) (by kernel_rfl) rfl rfl (by decide) (by omega) (by omega)) ?_;clear HF a;intro a HF
            refine wl_call rfl HF rfl (enter_of Tryz.func144 (by kernel_rfl) rfl) (args := #[.slice (some ⟨g2, 0 + 3 * 1, none⟩) (6 - 3) (cp - 3)]) rfl (treeOf_any _ _ y3 y4 y5 _ (HT.out.below HS.out.bel) (HM.out.below HS.out.bel) (HE.out.below HS.out.bel) (by omega) (((St.rdN HS.out encS_len 2 rfl).drop (k := 3) (by simp)).take (k := 3) (by simp))) rfl rfl ?_
            rintro _ w12 (⟨t, htr, rfl, hb⟩ | ⟨t, htn, rfl, hb⟩)
            · skip
              refine ⟨_, rfl, ?_⟩; replace HS := Bx.mk (HS.out.later hb);clear hb HF a;intro a HF
              refine zr 3 HF rfl ?_;clear HF a;intro a HF
              refine zy HF (yfa 3 rfl (HF.ev rfl)) ?_;clear HF a;intro a HF
              refine wl_storeSub rfl rfl rfl (HF.ev rfl) (HF.ev rfl) HS.out 1 rfl (by kernel_rfl) rfl (by kernel_rfl) (rs := [.int .i64 (n5 : Int), .int .i64 (n6 : Int), .int .i64 (n7 : Int), .int .i64 t.fRoot.fAt, .int .i64 t.fRoot.fBirth, .int .i64 t.fRoot.fSize, .int .i64 t.fRoot.fSum, .int .i64 t.fRoot.fLevel, .int .i64 t.fDepth, .int .i64 t.fMany]) rfl ?_; clear HS; intro w13 HS; replace HS := Bx.mk HS
              try dsimp only [List.set] at HS
              refine za HF ?_;clear HF a;intro a HF
              refine wl_ne ?_
              refine wp_seq ?_
              refine wp_sr ?_
              refine zr 3 HF rfl ?_;clear HF a;intro a HF
              refine zg HF (ylr (cs := [.int .i64 (n5 : Int), .int .i64 (n6 : Int), .int .i64 (n7 : Int), .int .i64 t.fRoot.fAt, .int .i64 t.fRoot.fBirth, .int .i64 t.fRoot.fSize, .int .i64 t.fRoot.fSum, .int .i64 t.fRoot.fLevel, .int .i64 t.fDepth, .int .i64 t.fMany]) rfl (HF.ev rfl) ((HS.out.box 1 rfl).sub 0 10)) ?_;clear HF a;intro a HF
              refine wl_callBg HF rfl rfl rfl rfl (enter_of Tryz.func145 (by kernel_rfl) rfl) (args := #[.agg #[.int .i64 (n5 : Int), .int .i64 (n6 : Int), .int .i64 (n7 : Int), .int .i64 t.fRoot.fAt, .int .i64 t.fRoot.fBirth, .int .i64 t.fRoot.fSize, .int .i64 t.fRoot.fSum, .int .i64 t.fRoot.fLevel, .int .i64 t.fDepth, .int .i64 t.fMany]]) rfl (v := .string (nodeB (⟨(n5 : Int), (n6 : Int), (n7 : Int), ⟨t.fRoot, t.fDepth, t.fMany⟩⟩ : NodeD))) (implNodePut_any (⟨(n5 : Int), (n6 : Int), (n7 : Int), ⟨t.fRoot, t.fDepth, t.fMany⟩⟩ : NodeD) _ (HT.out.below HS.out.bel)) rfl rfl HS.out ?_; clear HF HS a; intro w14 a HS HF; replace HS := Bx.mk HS
              refine zg HF (yl_move rfl (HF.ev rfl)) ?_;clear HF a;intro a HF
              refine zg HF (yl_neqS rfl (HF.ev rfl) (HF.ev rfl)) ?_;clear HF a;intro a HF
              refine zy HF (yl_pick_f rfl (HF.ev rfl) (HF.ev rfl)) ?_;clear HF a;intro a HF
              refine wl_ne ?_
              refine HF.cases 60 rfl (fun cc2 _ => ?_) fun cc2 _ => ?_
              · clear HF;rename_i HF
                refine wc_true HF rfl ?_
                refine wp_sr ?_
                refine zy HF (yl_build HF rfl (ps := []) rfl (cs := #[.int .i64 0, .int .i64 0, .int .i64 0, .int .i64 0, .int .i64 0, .int .i64 0, .int .i64 0, .int .i64 0, .int .i64 0, .int .i64 0]) (by kernel_rfl)) ?_;clear HF a;intro a HF
                refine wl_storeBox rfl HF rfl rfl (HF.ev rfl) (HF.ev rfl) HS.out 3 rfl (cells_lit [.int .i64 0, .int .i64 0, .int .i64 0, .int .i64 0, .int .i64 0, .int .i64 0, .int .i64 0, .int .i64 0, .int .i64 0, .int .i64 0] rfl rfl) (by kernel_rfl) ?_; clear HS; intro w15 HS; replace HS := Bx.mk HS
                try dsimp only [List.set] at HS
                refine za HF ?_;clear HF a;intro a HF
                refine wl_ne ?_
                refine wp_ret ?_
                refine ex_then_ret ?_
                refine bp_ret2 HF Tryz.results116 (HF.resBox rfl (HS.out.box 3 rfl) (by kernel_rfl)) (HF.res rfl) ?_
                refine .inr ⟨fun x hx hxs => ?_, rfl, HS.out.bel⟩
                have hl6 := node_rec hx; rw [hxs] at hl6; have hx2 := nodeB_size x; rw [hxs] at hx2; have hsm := (node_five hx).1; have k1 := hsm.links; have k2 := hsm.size; have k3 := hsm.many; have k4 := hsm.depth; have k5 := hsm.kind; have hel := eachN_le x.fKind
                have hone := hrec.one hl6
                simp only [nodeL, List.cons.injEq, and_true] at hone; obtain ⟨z0, z1, z2, z3, z4, z5, _⟩ := hone
                have hxt := node_tree hx; rw [← z3, ← z4, ← z5] at hxt
                have e0 : (n5 : Int) = x.fKind := num_one (num_back hg5) ⟨by omega, by omega, z0.symm⟩
                have e1 : (n6 : Int) = x.fLinks := num_one (num_back hg6) ⟨by omega, by omega, z1.symm⟩
                have e2 : (n7 : Int) = x.fSize := num_one (num_back hg7) ⟨by omega, by omega, z2.symm⟩
                have e4 := htr.one hxt; have e3 : (⟨(n5 : Int), (n6 : Int), (n7 : Int), t⟩ : NodeD) = x := by rw [e0, e1, e2, e4]
                rw [e3, hxs] at cc2; simp at cc2
              · clear HF;rename_i HF
                refine wc_false HF rfl ?_
                refine wp_skip ?_
                refine ex_then ?_
                refine wp_sr ?_
                refine zy HF (ylr (cs := [.int .i64 (n5 : Int), .int .i64 (n6 : Int), .int .i64 (n7 : Int), .int .i64 t.fRoot.fAt, .int .i64 t.fRoot.fBirth, .int .i64 t.fRoot.fSize, .int .i64 t.fRoot.fSum, .int .i64 t.fRoot.fLevel, .int .i64 t.fDepth, .int .i64 t.fMany]) rfl (HF.ev rfl) ((HS.out.box 1 rfl).sub 0 10)) ?_;clear HF a;intro a HF
                refine wl_storeBox rfl HF rfl rfl (HF.ev rfl) (HF.ev rfl) HS.out 3 rfl (cells_lit [.int .i64 (n5 : Int), .int .i64 (n6 : Int), .int .i64 (n7 : Int), .int .i64 t.fRoot.fAt, .int .i64 t.fRoot.fBirth, .int .i64 t.fRoot.fSize, .int .i64 t.fRoot.fSum, .int .i64 t.fRoot.fLevel, .int .i64 t.fDepth, .int .i64 t.fMany] rfl rfl) (by kernel_rfl) ?_; clear HS; intro w16 HS; replace HS := Bx.mk HS
                try dsimp only [List.set] at HS
                refine za HF ?_;clear HF a;intro a HF
                refine wl_ne ?_
                refine wp_ret ?_
                refine bp_ret2 HF Tryz.results116 (HF.resBox rfl (HS.out.box 3 rfl) (by kernel_rfl)) (HF.res rfl) ?_
                have hrt : nodeB (⟨(n5 : Int), (n6 : Int), (n7 : Int), t⟩ : NodeD) = s := bytes_toList (by simpa using cc2)
                have hro : (⟨(n5 : Int), (n6 : Int), (n7 : Int), t⟩ : NodeD).ok = true := by
                    cases ho : (⟨(n5 : Int), (n6 : Int), (n7 : Int), t⟩ : NodeD).ok with
                    | true => rfl
                    | false =>
                      rw [nodeB_no ho] at hrt
                      have := hrec.is
                      rw [← hrt] at this
                      exact absurd (by rw [this]; rfl) (recB_ne y0 [y1, y2, y3, y4, y5, y6])
                exact .inl ⟨_, hro, hrt, rfl, HS.out.bel⟩
            · skip
              refine ⟨_, rfl, ?_⟩; replace HS := Bx.mk (HS.out.later hb);clear hb HF a;intro a HF
              refine zr 3 HF rfl ?_;clear HF a;intro a HF
              refine zy HF (yfa 3 rfl (HF.ev rfl)) ?_;clear HF a;intro a HF
              refine wl_storeSub rfl rfl rfl (HF.ev rfl) (HF.ev rfl) HS.out 1 rfl (by kernel_rfl) rfl (by kernel_rfl) (rs := [.int .i64 (n5 : Int), .int .i64 (n6 : Int), .int .i64 (n7 : Int), .int .i64 t.fRoot.fAt, .int .i64 t.fRoot.fBirth, .int .i64 t.fRoot.fSize, .int .i64 t.fRoot.fSum, .int .i64 t.fRoot.fLevel, .int .i64 t.fDepth, .int .i64 t.fMany]) rfl ?_; clear HS; intro w17 HS; replace HS := Bx.mk HS
              try dsimp only [List.set] at HS
              refine za HF ?_;clear HF a;intro a HF
              refine wl_ne ?_
              refine wp_seq ?_
              refine wp_sr ?_
              refine zr 8 HF rfl ?_;clear HF a;intro a HF
              refine wl_ne ?_
              refine wc_true HF rfl ?_
              refine wp_sr ?_
              refine zy HF (yl_build HF rfl (ps := []) rfl (cs := #[.int .i64 0, .int .i64 0, .int .i64 0, .int .i64 0, .int .i64 0, .int .i64 0, .int .i64 0, .int .i64 0, .int .i64 0, .int .i64 0]) (by kernel_rfl)) ?_;clear HF a;intro a HF
              refine wl_storeBox rfl HF rfl rfl (HF.ev rfl) (HF.ev rfl) HS.out 3 rfl (cells_lit [.int .i64 0, .int .i64 0, .int .i64 0, .int .i64 0, .int .i64 0, .int .i64 0, .int .i64 0, .int .i64 0, .int .i64 0, .int .i64 0] rfl rfl) (by kernel_rfl) ?_; clear HS; intro w18 HS; replace HS := Bx.mk HS
              try dsimp only [List.set] at HS
              refine za HF ?_;clear HF a;intro a HF
              refine wl_ne ?_
              refine wp_ret ?_
              refine ex_then_ret ?_
              refine bp_ret2 HF Tryz.results116 (HF.resBox rfl (HS.out.box 3 rfl) (by kernel_rfl)) (HF.res rfl) ?_
              refine .inr ⟨fun x hx hxs => ?_, rfl, HS.out.bel⟩
              have hl6 := node_rec hx; rw [hxs] at hl6; have hx2 := nodeB_size x; rw [hxs] at hx2; have hsm := (node_five hx).1; have k1 := hsm.links; have k2 := hsm.size; have k3 := hsm.many; have k4 := hsm.depth; have k5 := hsm.kind; have hel := eachN_le x.fKind
              have hone := hrec.one hl6
              simp only [nodeL, List.cons.injEq, and_true] at hone; obtain ⟨z0, z1, z2, z3, z4, z5, _⟩ := hone
              have hxt := node_tree hx; rw [← z3, ← z4, ← z5] at hxt
              exact htn _ hxt
          · skip
            refine ⟨_, rfl, ?_⟩; replace HS := Bx.mk (HS.out.later hb);clear hb HF a;intro a HF
            refine zr 4 HF rfl ?_;clear HF a;intro a HF
            refine wl_storeF rfl rfl rfl (HF.ev rfl) (HF.ev rfl) (by kernel_rfl) HS.out 1 rfl rfl rfl ?_; clear HS; intro w19 HS; replace HS := Bx.mk HS
            try dsimp only [List.set] at HS
            refine za HF ?_;clear HF a;intro a HF
            refine wl_ne ?_
            refine wp_sr ?_
            refine zr 2 HF rfl ?_;clear HF a;intro a HF
            refine wl_ne ?_
            refine wc_true HF rfl ?_
            refine wp_sr ?_
            refine zy HF (yl_build HF rfl (ps := []) rfl (cs := #[.int .i64 0, .int .i64 0, .int .i64 0, .int .i64 0, .int .i64 0, .int .i64 0, .int .i64 0, .int .i64 0, .int .i64 0, .int .i64 0]) (by kernel_rfl)) ?_;clear HF a;intro a HF
            refine wl_storeBox rfl HF rfl rfl (HF.ev rfl) (HF.ev rfl) HS.out 3 rfl (cells_lit [.int .i64 0, .int .i64 0, .int .i64 0, .int .i64 0, .int .i64 0, .int .i64 0, .int .i64 0, .int .i64 0, .int .i64 0, .int .i64 0] rfl rfl) (by kernel_rfl) ?_; clear HS; intro w20 HS; replace HS := Bx.mk HS
            try dsimp only [List.set] at HS
            refine za HF ?_;clear HF a;intro a HF
            refine wl_ne ?_
            refine wp_ret ?_
            refine ex_block_ret ?_
            refine ex_then_ret ?_
            refine ex_then_ret ?_
            refine ex_block_ret ?_
            refine ex_then_ret ?_
            refine bp_ret2 HF Tryz.results116 (HF.resBox rfl (HS.out.box 3 rfl) (by kernel_rfl)) (HF.res rfl) ?_
            refine .inr ⟨fun x hx hxs => ?_, rfl, HS.out.bel⟩
            have hl6 := node_rec hx; rw [hxs] at hl6; have hx2 := nodeB_size x; rw [hxs] at hx2; have hsm := (node_five hx).1; have k1 := hsm.links; have k2 := hsm.size; have k3 := hsm.many; have k4 := hsm.depth; have k5 := hsm.kind; have hel := eachN_le x.fKind
            have hone := hrec.one hl6
            simp only [nodeL, List.cons.injEq, and_true] at hone; obtain ⟨z0, z1, z2, z3, z4, z5, _⟩ := hone
            exact no_num (n := x.fSize) ⟨by omega, by omega, z2.symm⟩ hg7
        · skip
          refine ⟨_, rfl, ?_⟩; replace HS := Bx.mk (HS.out.later hb);clear hb HF a;intro a HF
          refine zr 4 HF rfl ?_;clear HF a;intro a HF
          refine wl_storeF rfl rfl rfl (HF.ev rfl) (HF.ev rfl) (by kernel_rfl) HS.out 1 rfl rfl rfl ?_; clear HS; intro w21 HS; replace HS := Bx.mk HS
          try dsimp only [List.set] at HS
          refine za HF ?_;clear HF a;intro a HF
          refine wl_ne ?_
          refine wp_sr ?_
          refine zr 2 HF rfl ?_;clear HF a;intro a HF
          refine wl_ne ?_
          refine wc_true HF rfl ?_
          refine wp_sr ?_
          refine zy HF (yl_build HF rfl (ps := []) rfl (cs := #[.int .i64 0, .int .i64 0, .int .i64 0, .int .i64 0, .int .i64 0, .int .i64 0, .int .i64 0, .int .i64 0, .int .i64 0, .int .i64 0]) (by kernel_rfl)) ?_;clear HF a;intro a HF
          refine wl_storeBox rfl HF rfl rfl (HF.ev rfl) (HF.ev rfl) HS.out 3 rfl (cells_lit [.int .i64 0, .int .i64 0, .int .i64 0, .int .i64 0, .int .i64 0, .int .i64 0, .int .i64 0, .int .i64 0, .int .i64 0, .int .i64 0] rfl rfl) (by kernel_rfl) ?_; clear HS; intro w22 HS; replace HS := Bx.mk HS
          try dsimp only [List.set] at HS
          refine za HF ?_;clear HF a;intro a HF
          refine wl_ne ?_
          refine wp_ret ?_
          refine ex_block_ret ?_
          refine ex_then_ret ?_
          refine ex_then_ret ?_
          refine ex_block_ret ?_
          refine ex_then_ret ?_
          refine bp_ret2 HF Tryz.results116 (HF.resBox rfl (HS.out.box 3 rfl) (by kernel_rfl)) (HF.res rfl) ?_
          refine .inr ⟨fun x hx hxs => ?_, rfl, HS.out.bel⟩
          have hl6 := node_rec hx; rw [hxs] at hl6; have hx2 := nodeB_size x; rw [hxs] at hx2; have hsm := (node_five hx).1; have k1 := hsm.links; have k2 := hsm.size; have k3 := hsm.many; have k4 := hsm.depth; have k5 := hsm.kind; have hel := eachN_le x.fKind
          have hone := hrec.one hl6
          simp only [nodeL, List.cons.injEq, and_true] at hone; obtain ⟨z0, z1, z2, z3, z4, z5, _⟩ := hone
          exact no_num (n := x.fLinks) ⟨by omega, by omega, z1.symm⟩ hg6
      · skip
        refine ⟨_, rfl, ?_⟩; replace HS := Bx.mk (HS.out.later hb);clear hb HF a;intro a HF
        refine zr 4 HF rfl ?_;clear HF a;intro a HF
        refine wl_storeF rfl rfl rfl (HF.ev rfl) (HF.ev rfl) (by kernel_rfl) HS.out 1 rfl rfl rfl ?_; clear HS; intro w23 HS; replace HS := Bx.mk HS
        try dsimp only [List.set] at HS
        refine za HF ?_;clear HF a;intro a HF
        refine wl_ne ?_
        refine wp_sr ?_
        refine zr 2 HF rfl ?_;clear HF a;intro a HF
        refine wl_ne ?_
        refine wc_true HF rfl ?_
        refine wp_sr ?_
        refine zy HF (yl_build HF rfl (ps := []) rfl (cs := #[.int .i64 0, .int .i64 0, .int .i64 0, .int .i64 0, .int .i64 0, .int .i64 0, .int .i64 0, .int .i64 0, .int .i64 0, .int .i64 0]) (by kernel_rfl)) ?_;clear HF a;intro a HF
        refine wl_storeBox rfl HF rfl rfl (HF.ev rfl) (HF.ev rfl) HS.out 3 rfl (cells_lit [.int .i64 0, .int .i64 0, .int .i64 0, .int .i64 0, .int .i64 0, .int .i64 0, .int .i64 0, .int .i64 0, .int .i64 0, .int .i64 0] rfl rfl) (by kernel_rfl) ?_; clear HS; intro w24 HS; replace HS := Bx.mk HS
        try dsimp only [List.set] at HS
        refine za HF ?_;clear HF a;intro a HF
        refine wl_ne ?_
        refine wp_ret ?_
        refine ex_block_ret ?_
        refine ex_then_ret ?_
        refine ex_then_ret ?_
        refine ex_block_ret ?_
        refine ex_then_ret ?_
        refine bp_ret2 HF Tryz.results116 (HF.resBox rfl (HS.out.box 3 rfl) (by kernel_rfl)) (HF.res rfl) ?_
        refine .inr ⟨fun x hx hxs => ?_, rfl, HS.out.bel⟩
        have hl6 := node_rec hx; rw [hxs] at hl6; have hx2 := nodeB_size x; rw [hxs] at hx2; have hsm := (node_five hx).1; have k1 := hsm.links; have k2 := hsm.size; have k3 := hsm.many; have k4 := hsm.depth; have k5 := hsm.kind; have hel := eachN_le x.fKind
        have hone := hrec.one hl6
        simp only [nodeL, List.cons.injEq, and_true] at hone; obtain ⟨z0, z1, z2, z3, z4, z5, _⟩ := hone
        exact no_num (n := x.fKind) ⟨by omega, by omega, z0.symm⟩ hg5
  · skip
    refine ⟨_, rfl, ?_⟩; replace HS := Bx.mk (HS.out.later hb);clear hb HF a;intro a HF
    refine zr 5 HF rfl ?_;clear HF a;intro a HF
    refine wl_ne ?_
    refine wp_seq ?_
    refine wp_sr ?_
    refine zr 7 HF rfl ?_;clear HF a;intro a HF
    refine wl_ne ?_
    refine wc_true HF rfl ?_
    refine wp_sr ?_
    refine zy HF (yl_build HF rfl (ps := []) rfl (cs := #[.int .i64 0, .int .i64 0, .int .i64 0, .int .i64 0, .int .i64 0, .int .i64 0, .int .i64 0, .int .i64 0, .int .i64 0, .int .i64 0]) (by kernel_rfl)) ?_;clear HF a;intro a HF
    refine wl_storeBox rfl HF rfl rfl (HF.ev rfl) (HF.ev rfl) HS.out 0 rfl (cells_lit [.int .i64 0, .int .i64 0, .int .i64 0, .int .i64 0, .int .i64 0, .int .i64 0, .int .i64 0, .int .i64 0, .int .i64 0, .int .i64 0] rfl rfl) (by kernel_rfl) ?_; clear HS; intro w25 HS; replace HS := Bx.mk HS
    try dsimp only [List.set] at HS
    refine za HF ?_;clear HF a;intro a HF
    refine wl_ne ?_
    refine wp_ret ?_
    refine ex_then_ret ?_
    refine bp_ret2 HF Tryz.results116 (HF.resBox rfl (HS.out.box 0 rfl) (by kernel_rfl)) (HF.res rfl) ?_
    refine .inr ⟨fun x hx hxs => ?_, rfl, HS.out.bel⟩
    have hl6 := node_rec hx; rw [hxs] at hl6; have hx2 := nodeB_size x; rw [hxs] at hx2; have hsm := (node_five hx).1; have k1 := hsm.links; have k2 := hsm.size; have k3 := hsm.many; have k4 := hsm.depth; have k5 := hsm.kind; have hel := eachN_le x.fKind
    exact hno _ hl6 (by omega)

def numZ (y : ByteArray) : Int := match numG y with | some n => (n : Int) | none => 0
theorem specNumGet_z (y : ByteArray) (w0 : World) (hs : y.size ≤ 1000000) : Calls Tryz.prog 111 #[.string y] w0 fun e w' => e = .returned (.tuple #[.int .i64 (numZ y), .bool (numG y).isSome]) ∧ Below w0.heap.size w0 w' := by
  refine (specNumGet_any y w0 (by omega)).mono ?_
  rintro e w' (⟨n, hg, rfl, hb⟩ | ⟨hg, rfl, hb⟩)
  · exact ⟨by unfold numZ; rw [hg]; rfl, hb⟩
  · exact ⟨by unfold numZ; rw [hg]; rfl, hb⟩
theorem numZ_num {n : Int} (h : 0 ≤ n ∧ n ≤ 999999999) : numZ (numB n) = n := by
  unfold numZ
  rw [numG_num h]
  show ((n.toNat : Nat) : Int) = n
  omega
open Classical in
noncomputable def ptrG (s : ByteArray) : Option PtrD := if h : ∃ p : PtrD, p.ok = true ∧ ptrB p = s then some h.choose else none
theorem ptrG_yes {s : ByteArray} {p : PtrD} (hp : p.ok = true) (h : ptrB p = s) : ptrG s = some p := by
  have he : ∃ p : PtrD, p.ok = true ∧ ptrB p = s := ⟨p, hp, h⟩
  unfold ptrG
  rw [dif_pos he]
  have hc := he.choose_spec
  rw [ptrB_inj hc.1 hp (hc.2.trans h.symm)]
theorem ptrG_no {s : ByteArray} (h : ∀ p : PtrD, p.ok = true → ptrB p = s → False) : ptrG s = none := by
  unfold ptrG
  rw [dif_neg fun ⟨p, hp, hs⟩ => h p hp hs]
noncomputable def ptrZ (y : ByteArray) : PtrD := (ptrG y).getD PtrD.zero
theorem specPtrGet_z (y : ByteArray) (w0 : World) (hs : y.size ≤ 1000000) : Calls Tryz.prog 112 #[.string y] w0 fun e w' => e = .returned (.tuple #[.agg #[.int .i64 ((ptrZ y).fAt), .int .i64 ((ptrZ y).fBirth), .int .i64 ((ptrZ y).fSize), .int .i64 ((ptrZ y).fSum), .int .i64 ((ptrZ y).fLevel)], .bool (ptrG y).isSome]) ∧ Below w0.heap.size w0 w' := by
  refine (specPtrGet_any y w0 hs).mono ?_
  rintro e w' (⟨p, hp, ht, rfl, hb⟩ | ⟨hn, rfl, hb⟩)
  · exact ⟨by unfold ptrZ; rw [ptrG_yes hp ht]; rfl, hb⟩
  · exact ⟨by unfold ptrZ; rw [ptrG_no hn]; rfl, hb⟩

theorem specNodeGet_any (s : ByteArray) (w0 : World) (hs : s.size ≤ 1000000) : Calls Tryz.prog 87 #[.string s] w0 fun e w' => (∃ n : NodeD, n.ok = true ∧ nodeB n = s ∧ e = .returned (.tuple #[nV n, .bool true]) ∧ Below w0.heap.size w0 w') ∨ ((∀ n : NodeD, n.ok = true → nodeB n = s → False) ∧ e = .returned (.tuple #[.agg #[.int .i64 0, .int .i64 0, .int .i64 0, .int .i64 0, .int .i64 0, .int .i64 0, .int .i64 0, .int .i64 0, .int .i64 0, .int .i64 0], .bool false]) ∧ Below w0.heap.size w0 w') := by
 have HS := Bx.mk (St.start w0)
 refine wc_enter Tryz.func87 rfl Tryz.ntmps87 [(0, .string s)] ⟨rfl, trivial⟩ rfl ?_; intro a HF
 refine wp_sr ?_
 refine wl_alloc rfl HF rfl rfl rfl (Z := [.int .i64 0, .int .i64 0, .int .i64 0, .int .i64 0, .int .i64 0, .int .i64 0, .int .i64 0, .int .i64 0, .int .i64 0, .int .i64 0]) (by kernel_rfl) rfl HS.out ?_; clear HF HS a; intro a w1 b1 HF HS; replace HS := Bx.mk HS
 refine za HF ?_;clear HF a;intro a HF
 refine wl_ne ?_
 refine wp_sr ?_
 refine zm HF ?_;clear HF a;intro a HF
 refine wl_call rfl HF rfl (enter_of Tryz.func110 (by kernel_rfl) rfl) (args := #[.string s]) rfl (specFieldsGet_any s _ (by omega)) rfl rfl ?_
 rintro _ w2 (⟨xs, hrec, hsz, ao, cp, rfl, hs1⟩ | ⟨hno, ae, rfl, hb⟩)
 ·skip
  refine ⟨_, rfl, ?_⟩; replace HS := Bx.mk (HS.out.add hs1);clear hs1 HF a;intro a HF
  try dsimp only [List.eraseIdx] at HS
  refine zr 5 HF rfl ?_;clear HF a;intro a HF
  refine wl_ne ?_
  refine wp_seq ?_
  refine wp_sr ?_
  refine zr 4 HF rfl ?_;clear HF a;intro a HF
  refine zg HF (yl_lenL (e := 9) (size := 1) rfl (HF.ev rfl) (by kernel_rfl)) ?_;clear HF a;intro a HF
  refine zr 2 HF rfl ?_;clear HF a;intro a HF
  refine wl_ne ?_
  refine HF.cases 18 rfl (fun cc1 _ => ?_) fun cc1 _ => ?_
  ·clear HF;rename_i HF
   have dcc1 := bne_iff_ne.1 cc1
   refine wc_true HF rfl ?_
   refine wp_sr ?_
   refine zy HF (yl_build HF rfl (ps := []) rfl (cs := #[.int .i64 0, .int .i64 0, .int .i64 0, .int .i64 0, .int .i64 0, .int .i64 0, .int .i64 0, .int .i64 0, .int .i64 0, .int .i64 0]) (by kernel_rfl)) ?_;clear HF a;intro a HF
   refine wl_storeBox rfl HF rfl rfl (HF.ev rfl) (HF.ev rfl) HS.out 1 rfl (cells_lit [.int .i64 0, .int .i64 0, .int .i64 0, .int .i64 0, .int .i64 0, .int .i64 0, .int .i64 0, .int .i64 0, .int .i64 0, .int .i64 0] rfl rfl) (by kernel_rfl) ?_; clear HS; intro w3 HS; replace HS := Bx.mk HS
   try dsimp only [List.set] at HS
   refine za HF ?_;clear HF a;intro a HF
   refine wl_ne ?_
   refine wp_ret ?_
   refine ex_then_ret ?_
   refine bp_ret2 HF Tryz.results87 (HF.resBox rfl (HS.out.box 1 rfl) (by kernel_rfl)) (HF.res rfl) ?_
   refine .inr ⟨fun x hx hxs => ?_, rfl, HS.out.bel⟩
   have hl6 := node_rec hx; rw [hxs] at hl6; have hx2 := nodeB_size x; rw [hxs] at hx2; have hsm := (node_five hx).1; have k1 := hsm.links; have k2 := hsm.size; have k3 := hsm.many; have k4 := hsm.depth; have k5 := hsm.kind; have hel := eachN_le x.fKind
   have hone := hrec.one hl6
   rw [hone] at dcc1; exact dcc1 rfl
  ·clear HF;rename_i HF
   have dcc1 := bne_eq_false_iff_eq.1 cc1
   refine wc_false HF rfl ?_
   refine wp_skip ?_
   refine ex_then ?_
   refine wp_seq ?_
   obtain ⟨y0, y1, y2, y3, y4, y5, y6, rfl⟩ := lenS7 (l := xs) (by omega)
   replace HF : Fr 83 a [(0, .string s), (2, .pointer (some ⟨b1, 0, none⟩)), (3, .bool false), (8, .string s), (10, .slice ao 7 cp), (11, .bool true), (4, .slice ao 7 cp), (5, .bool true), (12, .bool true), (13, .bool false), (14, .bool false), (15, .slice ao 7 cp), (18, .bool false)] := HF.less _ ⟨rfl, rfl, rfl, rfl, rfl, rfl, rfl, rfl, rfl, rfl, rfl, rfl, rfl, trivial⟩
   try dsimp only [List.eraseIdx] at HS
   obtain ⟨g2, rfl, _, _, _, _⟩ := HS.out.rowOpen 0 rfl (Nat.succ_pos _)
   have hcap := HS.out.capLe 0 rfl
   have hy0 : y0.size ≤ 2048 := by have := recB_elem [y0, y1, y2, y3, y4, y5, y6] (k := 0) (by simp only [List.length_cons, List.length_nil]; omega); rw [hrec.is] at this; have e : ([y0, y1, y2, y3, y4, y5, y6] : List ByteArray).getD 0 ByteArray.empty = y0 := rfl; rw [e] at this; omega
   have hy1 : y1.size ≤ 2048 := by have := recB_elem [y0, y1, y2, y3, y4, y5, y6] (k := 1) (by simp only [List.length_cons, List.length_nil]; omega); rw [hrec.is] at this; have e : ([y0, y1, y2, y3, y4, y5, y6] : List ByteArray).getD 1 ByteArray.empty = y1 := rfl; rw [e] at this; omega
   have hy2 : y2.size ≤ 2048 := by have := recB_elem [y0, y1, y2, y3, y4, y5, y6] (k := 2) (by simp only [List.length_cons, List.length_nil]; omega); rw [hrec.is] at this; have e : ([y0, y1, y2, y3, y4, y5, y6] : List ByteArray).getD 2 ByteArray.empty = y2 := rfl; rw [e] at this; omega
   have hy3 : y3.size ≤ 2048 := by have := recB_elem [y0, y1, y2, y3, y4, y5, y6] (k := 3) (by simp only [List.length_cons, List.length_nil]; omega); rw [hrec.is] at this; have e : ([y0, y1, y2, y3, y4, y5, y6] : List ByteArray).getD 3 ByteArray.empty = y3 := rfl; rw [e] at this; omega
   have hy4 : y4.size ≤ 2048 := by have := recB_elem [y0, y1, y2, y3, y4, y5, y6] (k := 4) (by simp only [List.length_cons, List.length_nil]; omega); rw [hrec.is] at this; have e : ([y0, y1, y2, y3, y4, y5, y6] : List ByteArray).getD 4 ByteArray.empty = y4 := rfl; rw [e] at this; omega
   have hy5 : y5.size ≤ 2048 := by have := recB_elem [y0, y1, y2, y3, y4, y5, y6] (k := 5) (by simp only [List.length_cons, List.length_nil]; omega); rw [hrec.is] at this; have e : ([y0, y1, y2, y3, y4, y5, y6] : List ByteArray).getD 5 ByteArray.empty = y5 := rfl; rw [e] at this; omega
   have hy6 : y6.size ≤ 2048 := by have := recB_elem [y0, y1, y2, y3, y4, y5, y6] (k := 6) (by simp only [List.length_cons, List.length_nil]; omega); rw [hrec.is] at this; have e : ([y0, y1, y2, y3, y4, y5, y6] : List ByteArray).getD 6 ByteArray.empty = y6 := rfl; rw [e] at this; omega
   refine wp_region_lit ?_
   refine zy HF (yl_build HF rfl (ps := []) rfl (cs := #[.int .i64 0, .int .i64 0, .int .i64 0, .int .i64 0, .int .i64 0, .int .i64 0, .int .i64 0, .int .i64 0, .int .i64 0, .int .i64 0]) (by kernel_rfl)) ?_;clear HF a;intro a HF
   refine wl_alloc rfl HF rfl rfl rfl (Z := [.int .i64 0, .int .i64 0, .int .i64 0, .int .i64 0, .int .i64 0, .int .i64 0, .int .i64 0, .int .i64 0, .int .i64 0, .int .i64 0]) (by kernel_rfl) rfl HS.out ?_; clear HF HS a; intro a w4 b3 HF HS; replace HS := Bx.mk HS
   refine wl_storeBox rfl HF rfl rfl (HF.ev rfl) (HF.ev rfl) HS.out 0 rfl (cells_lit [.int .i64 0, .int .i64 0, .int .i64 0, .int .i64 0, .int .i64 0, .int .i64 0, .int .i64 0, .int .i64 0, .int .i64 0, .int .i64 0] rfl rfl) (by kernel_rfl) ?_; clear HS; intro w5 HS; replace HS := Bx.mk HS
   try dsimp only [List.set] at HS
   refine wl_ne ?_
   refine wp_sr ?_
   refine zm HF ?_;clear HF a;intro a HF
   refine zy HF (yl_indexAddr (e := 9) (i := 0) (size := 1) rfl (HF.ev rfl) (HF.ev rfl) (by kernel_rfl) rfl (by omega)) ?_;clear HF a;intro a HF
   refine zy HF (ylo (v := .string y0) rfl (HF.ev rfl) (HS.out.elem1 encS_len 1 rfl (show ([y0, y1, y2, y3, y4, y5, y6] : List ByteArray)[0]? = some _ from rfl) rfl)) ?_;clear HF a;intro a HF
   refine wl_callB rfl HF rfl (enter_of Tryz.func111 (by kernel_rfl) rfl) (args := #[.string y0]) rfl (v := .tuple #[.int .i64 (numZ y0), .bool ((numG y0).isSome)]) (specNumGet_z y0 _ (by omega)) rfl rfl HS.out ?_; clear HF HS a; intro w6 a HS HF; replace HS := Bx.mk HS
   refine zr 3 HF rfl ?_;clear HF a;intro a HF
   refine zy HF (yfa 0 rfl (HF.ev rfl)) ?_;clear HF a;intro a HF
   refine wl_storeF rfl rfl rfl (HF.ev rfl) (HF.ev rfl) (by kernel_rfl) HS.out 0 rfl rfl rfl ?_; clear HS; intro w7 HS; replace HS := Bx.mk HS
   try dsimp only [List.set] at HS
   refine wl_ne ?_
   refine wp_sr ?_
   refine zm HF ?_;clear HF a;intro a HF
   refine zy HF (yl_indexAddr (e := 9) (i := 1) (size := 1) rfl (HF.ev rfl) (HF.ev rfl) (by kernel_rfl) rfl (by omega)) ?_;clear HF a;intro a HF
   refine zy HF (ylo (v := .string y1) rfl (HF.ev rfl) (HS.out.elem1 encS_len 1 rfl (show ([y0, y1, y2, y3, y4, y5, y6] : List ByteArray)[1]? = some _ from rfl) rfl)) ?_;clear HF a;intro a HF
   refine wl_callB rfl HF rfl (enter_of Tryz.func111 (by kernel_rfl) rfl) (args := #[.string y1]) rfl (v := .tuple #[.int .i64 (numZ y1), .bool ((numG y1).isSome)]) (specNumGet_z y1 _ (by omega)) rfl rfl HS.out ?_; clear HF HS a; intro w8 a HS HF; replace HS := Bx.mk HS
   refine zr 3 HF rfl ?_;clear HF a;intro a HF
   refine zy HF (yfa 1 rfl (HF.ev rfl)) ?_;clear HF a;intro a HF
   refine wl_storeF rfl rfl rfl (HF.ev rfl) (HF.ev rfl) (by kernel_rfl) HS.out 0 rfl rfl rfl ?_; clear HS; intro w9 HS; replace HS := Bx.mk HS
   try dsimp only [List.set] at HS
   refine wl_ne ?_
   refine wp_sr ?_
   refine zm HF ?_;clear HF a;intro a HF
   refine zy HF (yl_indexAddr (e := 9) (i := 2) (size := 1) rfl (HF.ev rfl) (HF.ev rfl) (by kernel_rfl) rfl (by omega)) ?_;clear HF a;intro a HF
   refine zy HF (ylo (v := .string y2) rfl (HF.ev rfl) (HS.out.elem1 encS_len 1 rfl (show ([y0, y1, y2, y3, y4, y5, y6] : List ByteArray)[2]? = some _ from rfl) rfl)) ?_;clear HF a;intro a HF
   refine wl_callB rfl HF rfl (enter_of Tryz.func111 (by kernel_rfl) rfl) (args := #[.string y2]) rfl (v := .tuple #[.int .i64 (numZ y2), .bool ((numG y2).isSome)]) (specNumGet_z y2 _ (by omega)) rfl rfl HS.out ?_; clear HF HS a; intro w10 a HS HF; replace HS := Bx.mk HS
   refine zr 3 HF rfl ?_;clear HF a;intro a HF
   refine zy HF (yfa 2 rfl (HF.ev rfl)) ?_;clear HF a;intro a HF
   refine wl_storeF rfl rfl rfl (HF.ev rfl) (HF.ev rfl) (by kernel_rfl) HS.out 0 rfl rfl rfl ?_; clear HS; intro w11 HS; replace HS := Bx.mk HS
   try dsimp only [List.set] at HS
   refine wl_ne ?_
   refine wp_sr ?_
   refine zm HF ?_;clear HF a;intro a HF
   refine zy HF (yl_indexAddr (e := 9) (i := 3) (size := 1) rfl (HF.ev rfl) (HF.ev rfl) (by kernel_rfl) rfl (by omega)) ?_;clear HF a;intro a HF
   refine zy HF (ylo (v := .string y3) rfl (HF.ev rfl) (HS.out.elem1 encS_len 1 rfl (show ([y0, y1, y2, y3, y4, y5, y6] : List ByteArray)[3]? = some _ from rfl) rfl)) ?_;clear HF a;intro a HF
   refine wl_callB rfl HF rfl (enter_of Tryz.func112 (by kernel_rfl) rfl) (args := #[.string y3]) rfl (v := .tuple #[pV (ptrZ y3), .bool ((ptrG y3).isSome)]) (specPtrGet_z y3 _ (by omega)) rfl rfl HS.out ?_; clear HF HS a; intro w12 a HS HF; replace HS := Bx.mk HS
   refine zr 3 HF rfl ?_;clear HF a;intro a HF
   refine zy HF (yfa 3 rfl (HF.ev rfl)) ?_;clear HF a;intro a HF
   refine zy HF (yfa 0 rfl (HF.ev rfl)) ?_;clear HF a;intro a HF
   refine wl_storeSub rfl rfl rfl (HF.ev rfl) (HF.ev rfl) HS.out 0 rfl (by kernel_rfl) rfl (by kernel_rfl) (rs := [.int .i64 (numZ y0), .int .i64 (numZ y1), .int .i64 (numZ y2), .int .i64 ((ptrZ y3).fAt), .int .i64 ((ptrZ y3).fBirth), .int .i64 ((ptrZ y3).fSize), .int .i64 ((ptrZ y3).fSum), .int .i64 ((ptrZ y3).fLevel), .int .i64 0, .int .i64 0]) rfl ?_; clear HS; intro w13 HS; replace HS := Bx.mk HS
   try dsimp only [List.set] at HS
   refine wl_ne ?_
   refine wp_sr ?_
   refine zm HF ?_;clear HF a;intro a HF
   refine zy HF (yl_indexAddr (e := 9) (i := 4) (size := 1) rfl (HF.ev rfl) (HF.ev rfl) (by kernel_rfl) rfl (by omega)) ?_;clear HF a;intro a HF
   refine zy HF (ylo (v := .string y4) rfl (HF.ev rfl) (HS.out.elem1 encS_len 1 rfl (show ([y0, y1, y2, y3, y4, y5, y6] : List ByteArray)[4]? = some _ from rfl) rfl)) ?_;clear HF a;intro a HF
   refine wl_callB rfl HF rfl (enter_of Tryz.func111 (by kernel_rfl) rfl) (args := #[.string y4]) rfl (v := .tuple #[.int .i64 (numZ y4), .bool ((numG y4).isSome)]) (specNumGet_z y4 _ (by omega)) rfl rfl HS.out ?_; clear HF HS a; intro w14 a HS HF; replace HS := Bx.mk HS
   refine zr 3 HF rfl ?_;clear HF a;intro a HF
   refine zy HF (yfa 3 rfl (HF.ev rfl)) ?_;clear HF a;intro a HF
   refine zy HF (yfa 5 rfl (HF.ev rfl)) ?_;clear HF a;intro a HF
   refine wl_storeF rfl rfl rfl (HF.ev rfl) (HF.ev rfl) (by kernel_rfl) HS.out 0 rfl rfl rfl ?_; clear HS; intro w15 HS; replace HS := Bx.mk HS
   try dsimp only [List.set] at HS
   refine wl_ne ?_
   refine wp_sr ?_
   refine zm HF ?_;clear HF a;intro a HF
   refine zy HF (yl_indexAddr (e := 9) (i := 5) (size := 1) rfl (HF.ev rfl) (HF.ev rfl) (by kernel_rfl) rfl (by omega)) ?_;clear HF a;intro a HF
   refine zy HF (ylo (v := .string y5) rfl (HF.ev rfl) (HS.out.elem1 encS_len 1 rfl (show ([y0, y1, y2, y3, y4, y5, y6] : List ByteArray)[5]? = some _ from rfl) rfl)) ?_;clear HF a;intro a HF
   refine wl_callB rfl HF rfl (enter_of Tryz.func111 (by kernel_rfl) rfl) (args := #[.string y5]) rfl (v := .tuple #[.int .i64 (numZ y5), .bool ((numG y5).isSome)]) (specNumGet_z y5 _ (by omega)) rfl rfl HS.out ?_; clear HF HS a; intro w16 a HS HF; replace HS := Bx.mk HS
   refine zr 3 HF rfl ?_;clear HF a;intro a HF
   refine zy HF (yfa 3 rfl (HF.ev rfl)) ?_;clear HF a;intro a HF
   refine zy HF (yfa 6 rfl (HF.ev rfl)) ?_;clear HF a;intro a HF
   refine wl_storeF rfl rfl rfl (HF.ev rfl) (HF.ev rfl) (by kernel_rfl) HS.out 0 rfl rfl rfl ?_; clear HS; intro w17 HS; replace HS := Bx.mk HS
   try dsimp only [List.set] at HS
   refine wl_ne ?_
   refine wp_seq ?_
   refine wp_sr ?_
   refine zy HF (ylr (cs := [.int .i64 (numZ y0), .int .i64 (numZ y1), .int .i64 (numZ y2), .int .i64 ((ptrZ y3).fAt), .int .i64 ((ptrZ y3).fBirth), .int .i64 ((ptrZ y3).fSize), .int .i64 ((ptrZ y3).fSum), .int .i64 ((ptrZ y3).fLevel), .int .i64 (numZ y4), .int .i64 (numZ y5)]) rfl (HF.ev rfl) ((HS.out.box 0 rfl).sub 0 10)) ?_;clear HF a;intro a HF
   refine wl_callB rfl HF rfl (enter_of Tryz.func75 (by kernel_rfl) rfl) (args := #[.agg #[.int .i64 (numZ y0), .int .i64 (numZ y1), .int .i64 (numZ y2), .int .i64 ((ptrZ y3).fAt), .int .i64 ((ptrZ y3).fBirth), .int .i64 ((ptrZ y3).fSize), .int .i64 ((ptrZ y3).fSum), .int .i64 ((ptrZ y3).fLevel), .int .i64 (numZ y4), .int .i64 (numZ y5)]]) rfl (v := .bool ((⟨numZ y0, numZ y1, numZ y2, ⟨ptrZ y3, numZ y4, numZ y5⟩⟩ : NodeD).ok)) (specNodeOk_any (⟨numZ y0, numZ y1, numZ y2, ⟨ptrZ y3, numZ y4, numZ y5⟩⟩ : NodeD) _) rfl rfl HS.out ?_; clear HF HS a; intro w18 a HS HF; replace HS := Bx.mk HS
   refine zr 2 HF rfl ?_;clear HF a;intro a HF
   refine HF.cases 75 rfl (fun cc2 _ => ?_) fun cc2 _ => ?_
   ·clear HF;rename_i HF
    refine zr 5 HF rfl ?_;clear HF a;intro a HF
    refine wl_ne ?_
    refine wc_true HF rfl ?_
    refine wp_sr ?_
    refine zy HF (yl_build HF rfl (ps := []) rfl (cs := #[.int .i64 0, .int .i64 0, .int .i64 0, .int .i64 0, .int .i64 0, .int .i64 0, .int .i64 0, .int .i64 0, .int .i64 0, .int .i64 0]) (by kernel_rfl)) ?_;clear HF a;intro a HF
    refine wl_storeBox rfl HF rfl rfl (HF.ev rfl) (HF.ev rfl) HS.out 2 rfl (cells_lit [.int .i64 0, .int .i64 0, .int .i64 0, .int .i64 0, .int .i64 0, .int .i64 0, .int .i64 0, .int .i64 0, .int .i64 0, .int .i64 0] rfl rfl) (by kernel_rfl) ?_; clear HS; intro w19 HS; replace HS := Bx.mk HS
    try dsimp only [List.set] at HS
    refine za HF ?_;clear HF a;intro a HF
    refine wl_ne ?_
    refine wp_ret ?_
    refine ex_then_ret ?_
    refine bp_ret2 HF Tryz.results87 (HF.resBox rfl (HS.out.box 2 rfl) (by kernel_rfl)) (HF.res rfl) ?_
    refine .inr ⟨fun x hx hxs => ?_, rfl, HS.out.bel⟩
    have hl6 := node_rec hx; rw [hxs] at hl6; have hx2 := nodeB_size x; rw [hxs] at hx2; have hsm := (node_five hx).1; have k1 := hsm.links; have k2 := hsm.size; have k3 := hsm.many; have k4 := hsm.depth; have k5 := hsm.kind; have hel := eachN_le x.fKind
    have hone := hrec.one hl6
    simp only [nodeL, List.cons.injEq, and_true] at hone; obtain ⟨z0, z1, z2, z3, z4, z5, _⟩ := hone
    have e3 : (⟨numZ y0, numZ y1, numZ y2, ⟨ptrZ y3, numZ y4, numZ y5⟩⟩ : NodeD) = x := by rw [z0, z1, z2, z3, z4, z5, numZ_num (by omega), numZ_num (by omega), numZ_num (by omega), numZ_num (by omega), numZ_num (by omega), show ptrZ (ptrB x.fTree.fRoot) = x.fTree.fRoot from by unfold ptrZ; rw [ptrG_yes (NodeD.ok_is hx).root rfl]; rfl]
    rw [e3] at cc2; simp [hx] at cc2
   ·clear HF;rename_i HF
    refine zg HF (ylr (cs := [.int .i64 (numZ y0), .int .i64 (numZ y1), .int .i64 (numZ y2), .int .i64 ((ptrZ y3).fAt), .int .i64 ((ptrZ y3).fBirth), .int .i64 ((ptrZ y3).fSize), .int .i64 ((ptrZ y3).fSum), .int .i64 ((ptrZ y3).fLevel), .int .i64 (numZ y4), .int .i64 (numZ y5)]) rfl (HF.ev rfl) ((HS.out.box 0 rfl).sub 0 10)) ?_;clear HF a;intro a HF
    refine wl_callBg HF rfl rfl rfl rfl (enter_of Tryz.func113 (by kernel_rfl) rfl) (args := #[.agg #[.int .i64 (numZ y0), .int .i64 (numZ y1), .int .i64 (numZ y2), .int .i64 ((ptrZ y3).fAt), .int .i64 ((ptrZ y3).fBirth), .int .i64 ((ptrZ y3).fSize), .int .i64 ((ptrZ y3).fSum), .int .i64 ((ptrZ y3).fLevel), .int .i64 (numZ y4), .int .i64 (numZ y5)]]) rfl (v := .string (nodeB (⟨numZ y0, numZ y1, numZ y2, ⟨ptrZ y3, numZ y4, numZ y5⟩⟩ : NodeD))) (specNodePut_any (⟨numZ y0, numZ y1, numZ y2, ⟨ptrZ y3, numZ y4, numZ y5⟩⟩ : NodeD) _) rfl rfl HS.out ?_; clear HF HS a; intro w20 a HS HF; replace HS := Bx.mk HS
    refine zg HF (yl_move rfl (HF.ev rfl)) ?_;clear HF a;intro a HF
    refine zg HF (yl_neqS rfl (HF.ev rfl) (HF.ev rfl)) ?_;clear HF a;intro a HF
    refine zy HF (yl_pick_f rfl (HF.ev rfl) (HF.ev rfl)) ?_;clear HF a;intro a HF
    refine wl_ne ?_
    refine HF.cases 80 rfl (fun cc3 _ => ?_) fun cc3 _ => ?_
    ·clear HF;rename_i HF
     refine wc_true HF rfl ?_
     refine wp_sr ?_
     refine zy HF (yl_build HF rfl (ps := []) rfl (cs := #[.int .i64 0, .int .i64 0, .int .i64 0, .int .i64 0, .int .i64 0, .int .i64 0, .int .i64 0, .int .i64 0, .int .i64 0, .int .i64 0]) (by kernel_rfl)) ?_;clear HF a;intro a HF
     refine wl_storeBox rfl HF rfl rfl (HF.ev rfl) (HF.ev rfl) HS.out 2 rfl (cells_lit [.int .i64 0, .int .i64 0, .int .i64 0, .int .i64 0, .int .i64 0, .int .i64 0, .int .i64 0, .int .i64 0, .int .i64 0, .int .i64 0] rfl rfl) (by kernel_rfl) ?_; clear HS; intro w21 HS; replace HS := Bx.mk HS
     try dsimp only [List.set] at HS
     refine za HF ?_;clear HF a;intro a HF
     refine wl_ne ?_
     refine wp_ret ?_
     refine ex_then_ret ?_
     refine bp_ret2 HF Tryz.results87 (HF.resBox rfl (HS.out.box 2 rfl) (by kernel_rfl)) (HF.res rfl) ?_
     refine .inr ⟨fun x hx hxs => ?_, rfl, HS.out.bel⟩
     have hl6 := node_rec hx; rw [hxs] at hl6; have hx2 := nodeB_size x; rw [hxs] at hx2; have hsm := (node_five hx).1; have k1 := hsm.links; have k2 := hsm.size; have k3 := hsm.many; have k4 := hsm.depth; have k5 := hsm.kind; have hel := eachN_le x.fKind
     have hone := hrec.one hl6
     simp only [nodeL, List.cons.injEq, and_true] at hone; obtain ⟨z0, z1, z2, z3, z4, z5, _⟩ := hone
     have e3 : (⟨numZ y0, numZ y1, numZ y2, ⟨ptrZ y3, numZ y4, numZ y5⟩⟩ : NodeD) = x := by rw [z0, z1, z2, z3, z4, z5, numZ_num (by omega), numZ_num (by omega), numZ_num (by omega), numZ_num (by omega), numZ_num (by omega), show ptrZ (ptrB x.fTree.fRoot) = x.fTree.fRoot from by unfold ptrZ; rw [ptrG_yes (NodeD.ok_is hx).root rfl]; rfl]
     rw [e3, hxs] at cc3; simp [hx] at cc3
    ·clear HF;rename_i HF
     refine wc_false HF rfl ?_
     refine wp_skip ?_
     refine ex_then ?_
     refine wp_sr ?_
     refine zy HF (ylr (cs := [.int .i64 (numZ y0), .int .i64 (numZ y1), .int .i64 (numZ y2), .int .i64 ((ptrZ y3).fAt), .int .i64 ((ptrZ y3).fBirth), .int .i64 ((ptrZ y3).fSize), .int .i64 ((ptrZ y3).fSum), .int .i64 ((ptrZ y3).fLevel), .int .i64 (numZ y4), .int .i64 (numZ y5)]) rfl (HF.ev rfl) ((HS.out.box 0 rfl).sub 0 10)) ?_;clear HF a;intro a HF
     refine wl_storeBox rfl HF rfl rfl (HF.ev rfl) (HF.ev rfl) HS.out 2 rfl (cells_lit [.int .i64 (numZ y0), .int .i64 (numZ y1), .int .i64 (numZ y2), .int .i64 ((ptrZ y3).fAt), .int .i64 ((ptrZ y3).fBirth), .int .i64 ((ptrZ y3).fSize), .int .i64 ((ptrZ y3).fSum), .int .i64 ((ptrZ y3).fLevel), .int .i64 (numZ y4), .int .i64 (numZ y5)] rfl rfl) (by kernel_rfl) ?_; clear HS; intro w22 HS; replace HS := Bx.mk HS
     try dsimp only [List.set] at HS
     refine za HF ?_;clear HF a;intro a HF
     refine wl_ne ?_
     refine wp_ret ?_
     refine bp_ret2 HF Tryz.results87 (HF.resBox rfl (HS.out.box 2 rfl) (by kernel_rfl)) (HF.res rfl) ?_
     exact .inl ⟨(⟨numZ y0, numZ y1, numZ y2, ⟨ptrZ y3, numZ y4, numZ y5⟩⟩ : NodeD), by simpa using cc2, bytes_toList (by simpa using cc3), rfl, HS.out.bel⟩
 ·skip
  refine ⟨_, rfl, ?_⟩; replace HS := Bx.mk (HS.out.later hb);clear hb HF a;intro a HF
  refine zr 5 HF rfl ?_;clear HF a;intro a HF
  refine wl_ne ?_
  refine wp_seq ?_
  refine wp_sr ?_
  refine zr 7 HF rfl ?_;clear HF a;intro a HF
  refine wl_ne ?_
  refine wc_true HF rfl ?_
  refine wp_sr ?_
  refine zy HF (yl_build HF rfl (ps := []) rfl (cs := #[.int .i64 0, .int .i64 0, .int .i64 0, .int .i64 0, .int .i64 0, .int .i64 0, .int .i64 0, .int .i64 0, .int .i64 0, .int .i64 0]) (by kernel_rfl)) ?_;clear HF a;intro a HF
  refine wl_storeBox rfl HF rfl rfl (HF.ev rfl) (HF.ev rfl) HS.out 0 rfl (cells_lit [.int .i64 0, .int .i64 0, .int .i64 0, .int .i64 0, .int .i64 0, .int .i64 0, .int .i64 0, .int .i64 0, .int .i64 0, .int .i64 0] rfl rfl) (by kernel_rfl) ?_; clear HS; intro w23 HS; replace HS := Bx.mk HS
  try dsimp only [List.set] at HS
  refine za HF ?_;clear HF a;intro a HF
  refine wl_ne ?_
  refine wp_ret ?_
  refine ex_then_ret ?_
  refine bp_ret2 HF Tryz.results87 (HF.resBox rfl (HS.out.box 0 rfl) (by kernel_rfl)) (HF.res rfl) ?_
  refine .inr ⟨fun x hx hxs => ?_, rfl, HS.out.bel⟩
  have hl6 := node_rec hx; rw [hxs] at hl6; have hx2 := nodeB_size x; rw [hxs] at hx2; have hsm := (node_five hx).1; have k1 := hsm.links; have k2 := hsm.size; have k3 := hsm.many; have k4 := hsm.depth; have k5 := hsm.kind; have hel := eachN_le x.fKind
  exact hno _ hl6 (by omega)

end Go.Proofs.YtgaodbdadncfhaaGreatDoor

/- Trees asked whether they are valid: walked. -/
namespace Go.Proofs.YtgaodbdadncfhaaGreatDoor
set_option linter.unusedVariables false
set_option linter.unusedSimpArgs false
set_option maxHeartbeats 1000000
set_option maxRecDepth 100000
open Go.RowKit

theorem leafB_read {st : StoreD} {many : Int} {i : Nat} {p : PtrD} (h : readB st p = false) : leafB st many i p = false := by
  unfold leafB
  cases hh : p.hole with
  | true => rw [readB_hole hh] at h; cases h
  | false => rw [h]; rfl
theorem leafB_level {st : StoreD} {many : Int} {i : Nat} {p : PtrD} (h : (p.fLevel == 0) = false) : leafB st many i p = false := by
  unfold leafB
  cases hh : p.hole with
  | true => rw [h]; rfl
  | false => rw [h]; simp
theorem leafB_out {st : StoreD} {many : Int} {i : Nat} {p : PtrD} (hh : p.hole = false) (h : ¬ (i : Int) < many) : leafB st many i p = false := by
  unfold leafB
  rw [hh, decide_eq_false h]; simp
theorem leafB_yes {st : StoreD} {many : Int} {i : Nat} {p : PtrD} (h1 : readB st p = true) (h2 : (p.fLevel == 0) = true) (h3 : p.hole = true ∨ (i : Int) < many) : leafB st many i p = true := by
  unfold leafB
  cases hh : p.hole with
  | true => exact h2
  | false =>
    rcases h3 with h3 | h3
    · rw [hh] at h3; cases h3
    · rw [h1, h2, decide_eq_true h3]; rfl
theorem reads_rows {w : World} {a0 : Option Addr} {c0 : Nat} {a1 : Option Addr} {c1 : Nat} {a2 : Option Addr} {c2 : Nat} {a4 : Option Addr} {c4 : Nat} {a6 : Option Addr} {c6 : Nat} {st : StoreD} (h : StoreD.Reads w (.agg #[.slice a0 st.fRows.length c0, .slice a1 st.fSpace.fRefs.length c1, .slice a2 st.fSpace.fLast.length c2, .int .i64 st.fTxg, .slice a4 st.fGone.length c4, .int .i64 st.fKeep, .slice a6 st.fDead.length c6, .bool st.fSame]) st) : Rd encS 1 w a0 st.fRows.length st.fRows := by
  obtain ⟨b0, d0, b1, d1, b2, d2, b4, d4, b6, d6, e, r, _⟩ := h
  simp only [Value.agg.injEq, Array.mk.injEq, List.cons.injEq, Value.slice.injEq] at e
  rw [e.1.1]; exact r
theorem ok_rows {st : StoreD} (h : st.ok = true) : RowsOk st := by
  have ho := StoreD.ok_spec h
  refine ⟨ho.rows, fun i => ?_⟩
  by_cases hi : i < 64
  · have := rowsSt_le ho.each hi
    unfold rowSt at this
    rw [Bool.and_eq_true] at this
    have := of_decide_eq_true this.1
    omega
  · rw [List.getD_eq_getElem?_getD, List.getElem?_eq_none (by rw [ho.rows]; omega)]
    exact Nat.zero_le _
theorem leaves_any (a0 : Option Addr) (c0 : Nat) (a1 : Option Addr) (c1 : Nat) (a2 : Option Addr) (c2 : Nat) (a4 : Option Addr) (c4 : Nat) (a6 : Option Addr) (c6 : Nat) (st : StoreD) (t : TreeD) (b : Nat) (w0 : World) (hT : TabP w0) (hM : MaxP w0) (hE : ErrP w0) (hB : Box w0 b 8 41 (sV a0 c0 a1 c1 a2 c2 a4 c4 a6 c6 st)) (hR : Rd encS 1 w0 a0 st.fRows.length st.fRows) (hrow : RowsOk st) : Calls Tryz.prog 44 #[.pointer (some ⟨b, 0, none⟩), tV t] w0 fun e w' => (∃ l, leavesF st t = some l ∧ ∃ ao, e = .returned (.tuple #[.slice ao l.length l.length, .bool true]) ∧ St w0 [holdsA (fun w => Rd PtrD.cells 5 w ao l.length l)] w') ∨ (leavesF st t = none ∧ e = .returned (.tuple #[.slice none 0 0, .bool false]) ∧ Below w0.heap.size w0 w') := by
 have HT := Bx.mk hT; have HM := Bx.mk hM; have HE := Bx.mk hE; have HB := Bx.mk hB; have HR := Bx.mk hR; clear hT hM hE hR
 have HS := Bx.mk (St.start w0)
 refine wc_enter Tryz.func44 rfl Tryz.ntmps44 [(0, .pointer (some ⟨b, 0, none⟩)), (1, tV t)] ⟨rfl, rfl, trivial⟩ rfl ?_; intro a HF
 refine wp_sr ?_
 refine wl_box rfl HF rfl (HF.ev rfl) (Z := [.int .i64 t.fRoot.fAt, .int .i64 t.fRoot.fBirth, .int .i64 t.fRoot.fSize, .int .i64 t.fRoot.fSum, .int .i64 t.fRoot.fLevel, .int .i64 t.fDepth, .int .i64 t.fMany]) rfl rfl rfl rfl HS.out ?_; clear HF HS a; intro a w1 b1 HF HS; replace HS := Bx.mk HS
 refine zr 2 HF rfl ?_;clear HF a;intro a HF
 refine wl_ne ?_
 refine wp_seq ?_
 refine wp_seq ?_
 refine wr_quiet (by kernel_rfl) (by kernel_rfl) HS.out ?_
 refine zq HF (fun _ HS => (yfa 6 rfl (HF.ev rfl))) ?_;clear HF a;intro a HF
 refine zq HF (fun _ HS => (ylo (v := .int .i64 t.fMany) rfl (HF.ev rfl) (((HS.box 0 rfl).cell 6).trans rfl))) ?_;clear HF a;intro a HF
 refine wq_call rfl HF rfl (enter_of Tryz.func48 (by kernel_rfl) rfl) (args := #[.int .i64 t.fMany, .int .i64 0, .int .i64 16]) rfl (v := .bool (inB t.fMany 0 16)) (fun _ HS => ((within_any t.fMany 0 16 _).mono fun _ _ h => ⟨h.1, h.2 ▸ Below.refl _ _⟩)) rfl rfl ?_;clear HF a;intro a HF
 refine zrq 2 HF rfl ?_;clear HF a;intro a HF
 refine HF.cases 21 rfl (fun cc1 _ => ?_) fun cc1 _ => ?_
 ·clear HF;rename_i HF
  refine zrq 23 HF rfl ?_;clear HF a;intro a HF
  refine wpQuiet_nil ?_; intro w2 HS; replace HS := Bx.mk HS
  refine ex_then ?_
  refine wc_true HF rfl ?_
  refine wp_sr ?_
  refine zr 2 HF rfl ?_;clear HF a;intro a HF
  refine wl_ne ?_
  refine wp_ret ?_
  refine ex_then_ret ?_
  refine bp_ret2 HF Tryz.results44 (HF.res rfl) (HF.res rfl) ?_
  have htop : topB st t = false := by
   have h : inB t.fMany 0 16 = false := (by simpa using cc1); unfold topB; rw [h]; rfl
  exact .inr ⟨leavesF_top htop, rfl, HS.out.bel⟩
 ·clear HF;rename_i HF
  have inT : inB t.fMany 0 16 = true := by simpa using cc1
  refine zqg HF (fun _ HS => (yfa 5 rfl (HF.ev rfl))) ?_;clear HF a;intro a HF
  refine zqg HF (fun _ HS => (ylo (v := .int .i64 t.fDepth) rfl (HF.ev rfl) (((HS.box 0 rfl).cell 5).trans rfl))) ?_;clear HF a;intro a HF
  refine zqg HF (fun _ HS => (yfa 6 rfl (HF.ev rfl))) ?_;clear HF a;intro a HF
  refine zqg HF (fun _ HS => (ylo (v := .int .i64 t.fMany) rfl (HF.ev rfl) (((HS.box 0 rfl).cell 6).trans rfl))) ?_;clear HF a;intro a HF
  refine wq_callg HF rfl rfl rfl rfl (enter_of Tryz.func82 (by kernel_rfl) rfl) (args := #[.int .i64 t.fMany]) rfl (v := .int .i64 ((depthN t.fMany : Nat) : Int)) (fun _ HS => depthOf_any t.fMany _) rfl rfl ?_;clear HF a;intro a HF
  refine zrq 3 HF rfl ?_;clear HF a;intro a HF
  refine HF.cases 29 rfl (fun cc2 _ => ?_) fun cc2 _ => ?_
  ·clear HF;rename_i HF
   have dcc2 := bne_iff_ne.1 cc2
   refine zrq 15 HF rfl ?_;clear HF a;intro a HF
   refine wpQuiet_nil ?_; intro w3 HS; replace HS := Bx.mk HS
   refine ex_then ?_
   refine wc_true HF rfl ?_
   refine wp_sr ?_
   refine zr 2 HF rfl ?_;clear HF a;intro a HF
   refine wl_ne ?_
   refine wp_ret ?_
   refine ex_then_ret ?_
   refine bp_ret2 HF Tryz.results44 (HF.res rfl) (HF.res rfl) ?_
   have htop : topB st t = false := by
    have h : (t.fDepth == ((depthN t.fMany : Nat) : Int)) = false := (by simpa using dcc2); unfold topB; rw [h]; simp
   exact .inr ⟨leavesF_top htop, rfl, HS.out.bel⟩
  ·clear HF;rename_i HF
   have dcc2 := bne_eq_false_iff_eq.1 cc2
   have hdep : t.fDepth = ((depthN t.fMany : Nat) : Int) := dcc2
   refine zqg HF (fun _ HS => (yfa 0 rfl (HF.ev rfl))) ?_;clear HF a;intro a HF
   refine zqg HF (fun _ HS => (ylr (cs := [.int .i64 t.fRoot.fAt, .int .i64 t.fRoot.fBirth, .int .i64 t.fRoot.fSize, .int .i64 t.fRoot.fSum, .int .i64 t.fRoot.fLevel]) rfl (HF.ev rfl) ((HS.box 0 rfl).sub 0 5))) ?_;clear HF a;intro a HF
   refine wq_callg HF rfl rfl rfl rfl (enter_of Tryz.func64 (by kernel_rfl) rfl) (args := #[pV t.fRoot]) rfl (v := .bool t.fRoot.ok) (fun _ HS => implPtrOk_any t.fRoot _) rfl rfl ?_;clear HF a;intro a HF
   refine zrq 3 HF rfl ?_;clear HF a;intro a HF
   refine HF.cases 35 rfl (fun cc3 _ => ?_) fun cc3 _ => ?_
   ·clear HF;rename_i HF
    refine zrq 9 HF rfl ?_;clear HF a;intro a HF
    refine wpQuiet_nil ?_; intro w4 HS; replace HS := Bx.mk HS
    refine ex_then ?_
    refine wc_true HF rfl ?_
    refine wp_sr ?_
    refine zr 2 HF rfl ?_;clear HF a;intro a HF
    refine wl_ne ?_
    refine wp_ret ?_
    refine ex_then_ret ?_
    refine bp_ret2 HF Tryz.results44 (HF.res rfl) (HF.res rfl) ?_
    have htop : topB st t = false := by
     have h : t.fRoot.ok = false := (by simpa using cc3); unfold topB; rw [h]; simp
    exact .inr ⟨leavesF_top htop, rfl, HS.out.bel⟩
   ·clear HF;rename_i HF
    have hok : t.fRoot.ok = true := by simpa using cc3
    refine zqg HF (fun _ HS => (yfa 0 rfl (HF.ev rfl))) ?_;clear HF a;intro a HF
    refine zqg HF (fun _ HS => (yfa 1 rfl (HF.ev rfl))) ?_;clear HF a;intro a HF
    refine zqg HF (fun _ HS => (ylo (v := .int .i64 t.fRoot.fBirth) rfl (HF.ev rfl) (((HS.box 0 rfl).cell 1).trans rfl))) ?_;clear HF a;intro a HF
    refine zrq 2 HF rfl ?_;clear HF a;intro a HF
    refine zqg HF (fun _ HS => (yfa 3 rfl (HF.ev rfl))) ?_;clear HF a;intro a HF
    refine zqg HF (fun _ HS => (ylo (v := .int .i64 st.fTxg) rfl (HF.ev rfl) (((HB.out.below HS.bel (Nat.le_refl _)).cell 3).trans rfl))) ?_;clear HF a;intro a HF
    refine zrq 2 HF rfl ?_;clear HF a;intro a HF
    refine wpQuiet_nil ?_; intro w5 HS; replace HS := Bx.mk HS
    refine ex_then ?_
    refine HF.cases 44 rfl (fun cc4 _ => ?_) fun cc4 _ => ?_
    ·clear HF;rename_i HF
     have dcc4 := of_decide_eq_true cc4
     refine wc_true HF rfl ?_
     refine wp_sr ?_
     refine zr 2 HF rfl ?_;clear HF a;intro a HF
     refine wl_ne ?_
     refine wp_ret ?_
     refine ex_then_ret ?_
     refine bp_ret2 HF Tryz.results44 (HF.res rfl) (HF.res rfl) ?_
     have htop : topB st t = false := by
      unfold topB; rw [decide_eq_false (show ¬ t.fRoot.fBirth ≤ st.fTxg by omega)]; simp
     exact .inr ⟨leavesF_top htop, rfl, HS.out.bel⟩
    ·clear HF;rename_i HF
     have dcc4 := of_decide_eq_false cc4
     have htop : topB st t = true := (by unfold topB; rw [hok, inT, beq_iff_eq.2 hdep, decide_eq_true (show t.fRoot.fBirth ≤ st.fTxg by omega)]; rfl); have hin := inB_true inT
     refine wc_false HF rfl ?_
     refine wp_skip ?_
     refine ex_then ?_
     refine wp_sr ?_
     refine zy HF (yfa 0 rfl (HF.ev rfl)) ?_;clear HF a;intro a HF
     refine zy HF (ylr (cs := [.int .i64 t.fRoot.fAt, .int .i64 t.fRoot.fBirth, .int .i64 t.fRoot.fSize, .int .i64 t.fRoot.fSum, .int .i64 t.fRoot.fLevel]) rfl (HF.ev rfl) ((HS.out.box 0 rfl).sub 0 5)) ?_;clear HF a;intro a HF
     refine wl_buildS (enc := PtrD.cells) (e := 43) (size := 5) rfl HF rfl rfl rfl (ps := [(0, pV t.fRoot)]) rfl (cells := [.int .i64 t.fRoot.fAt, .int .i64 t.fRoot.fBirth, .int .i64 t.fRoot.fSize, .int .i64 t.fRoot.fSum, .int .i64 t.fRoot.fLevel]) (by kernel_rfl) [t.fRoot] rfl rfl (by unfold maxLen; omega) rfl HS.out ?_; clear HF HS a; intro b2 a w6 HF HS; replace HS := Bx.mk HS
     refine za HF ?_;clear HF a;intro a HF
     refine wl_ne ?_
     refine wp_seq ?_
     refine wp_sr ?_
     refine zy HF (yfa 5 rfl (HF.ev rfl)) ?_;clear HF a;intro a HF
     refine zy HF (ylo (v := .int .i64 t.fDepth) rfl (HF.ev rfl) (((HS.out.box 1 rfl).cell 5).trans rfl)) ?_;clear HF a;intro a HF
     refine za HF ?_;clear HF a;intro a HF
     refine wl_ne ?_
     refine wp_block ?_
     replace HS:=Bx.mk (HS.out.pick 0 rfl)
     refine wc_loop (ι := Nat) (fun n a w => ∃ (ao : Option Addr) (cp : Nat) (xs : List PtrD), (downL (kids st) (depthN t.fMany) [t.fRoot] = downL (kids st) n xs ∧ xs.length * 4 ^ n ≤ 16 ∧ (∀ p ∈ xs, p.ok = true) ∧ n ≤ 2) ∧ Fr 112 a [(0, .pointer (some ⟨b, 0, none⟩)), (1, tV t), (3, .pointer (some ⟨b1, 0, none⟩)), (4, .slice none 0 0), (5, .bool false), (6, .slice ao xs.length cp), (7, .int .i64 (n : Int))] ∧ St w0 ([rowA PtrD.cells 5 43 (.slice ao xs.length cp) xs, boxA b1 7 45 (tV t)]) w) (fun n => n) (depthN t.fMany) ⟨_, _, [t.fRoot], ⟨rfl, by simpa using pow4 (depthN_le t.fMany), (fun p hp => by rw [List.mem_singleton.1 hp]; exact hok), depthN_le _⟩, HF.less _ ⟨rfl, rfl, rfl, rfl, rfl, rfl, (by show some (Value.int .i64 _) = some (Value.int .i64 _); exact congrArg (fun z => some (Value.int .i64 z)) hdep), trivial⟩, HS.out⟩ ?_
     clear HF HS; clear a
     rintro n a w7 ⟨ao, cp, xs, ⟨hd, hp4, hoks, hn2⟩, HF, HS⟩
     replace HS := Bx.mk HS
     have hx16 := pow4_le hp4
     refine wp_seq ?_
     refine wp_sr ?_
     refine zr 2 HF rfl ?_;clear HF a;intro a HF
     refine wl_ne ?_
     refine HF.cases 51 rfl (fun cc5 _ => ?_) fun cc5 _ => ?_
     ·clear HF;rename_i HF
      have dcc5 := of_decide_eq_true cc5
      obtain ⟨n, rfl⟩ : ∃ m, n = m + 1 := ⟨n - 1, by omega⟩
      refine wc_true HF rfl ?_
      refine wp_skip ?_
      refine ex_then ?_
      refine wp_seq ?_
      refine wp_block ?_
      refine wp_sr ?_
      refine za HF ?_;clear HF a;intro a HF
      refine wl_ne ?_
      refine wp_seq ?_
      refine wp_sr ?_
      refine zm HF ?_;clear HF a;intro a HF
      refine zy HF (yl_lenL (e := 43) (size := 5) rfl (HF.ev rfl) (by kernel_rfl)) ?_;clear HF a;intro a HF
      refine zm HF ?_;clear HF a;intro a HF
      refine wl_ne ?_
      refine wp_block ?_
      replace HS := Bx.mk (HS.out.nilRow PtrD.cells 5 43 none)
      refine wc_loop (ι := Nat) (fun i a w => ∃ (ay : Option Addr) (cy : Nat) (ys : List PtrD), (i ≤ xs.length ∧ nextL (fun p => kids st p ((n + 1 : Nat) : Int)) xs = (nextL (fun p => kids st p ((n + 1 : Nat) : Int)) (xs.drop i)).map (ys ++ ·) ∧ ys.length = 4 * i ∧ ∀ p ∈ ys, p.ok = true) ∧ Fr 112 a [(0, .pointer (some ⟨b, 0, none⟩)), (1, tV t), (3, .pointer (some ⟨b1, 0, none⟩)), (4, .slice none 0 0), (5, .bool false), (6, .slice ao xs.length cp), (7, .int .i64 ((n + 1 : Nat) : Int)), (54, .slice ao xs.length cp), (55, .int .i64 (xs.length : Int)), (8, .slice ay ys.length cy), (56, .int .i64 (i : Int))] ∧ St w0 ([rowA PtrD.cells 5 43 (.slice ay ys.length cy) ys, rowA PtrD.cells 5 43 (.slice ao xs.length cp) xs, boxA b1 7 45 (tV t)]) w) (fun i => xs.length - i) 0 ⟨_, _, [], ⟨Nat.zero_le _, next_begin, rfl, (fun p hp => nomatch hp)⟩, HF.less _ ⟨rfl, rfl, rfl, rfl, rfl, rfl, rfl, rfl, rfl, rfl, rfl, trivial⟩, HS.out⟩ ?_
      clear HF HS; clear a
      rintro i a w8 ⟨ay, cy, ys, ⟨hi, hnx, hyl, hoky⟩, HF, HS⟩
      replace HS := Bx.mk HS
      refine wp_sr ?_
      refine zy HF (yl_lssI rfl (HF.ev rfl) (HF.ev rfl)) ?_;clear HF a;intro a HF
      refine wl_ne ?_
      refine wp_seq ?_
      refine HF.cases 57 rfl (fun cc6 _ => ?_) fun cc6 _ => ?_
      ·clear HF;rename_i HF
       have dcc6 := of_decide_eq_true cc6
       refine wc_true HF rfl ?_
       refine wp_skip ?_
       refine ex_then ?_
       refine wp_seq ?_
       refine wp_block ?_
       refine wp_seq ?_
       obtain ⟨g3, rfl, _, _, _, _⟩ := HS.out.rowOpen 1 rfl (by omega)
       refine wp_region_lit ?_
       refine zy HF (yl_indexAddr (e := 43) (i := i) (size := 5) rfl (HF.ev rfl) (HF.ev rfl) (by kernel_rfl) rfl (by omega)) ?_;clear HF a;intro a HF
       refine zy HF (ylr (cs := [.int .i64 ((xs.getD i PtrD.zero).fAt), .int .i64 ((xs.getD i PtrD.zero).fBirth), .int .i64 ((xs.getD i PtrD.zero).fSize), .int .i64 ((xs.getD i PtrD.zero).fSum), .int .i64 ((xs.getD i PtrD.zero).fLevel)]) rfl (HF.ev rfl) (HS.out.elem PtrD.cells_len 1 rfl (get_getD (xs := xs) (j := i) (d := PtrD.zero) (by omega)))) ?_;clear HF a;intro a HF
       refine wl_alloc rfl HF rfl rfl rfl (Z := [.int .i64 0, .int .i64 0, .int .i64 0, .int .i64 0, .int .i64 0]) (by kernel_rfl) rfl HS.out ?_; clear HF HS a; intro a w9 b4 HF HS; replace HS := Bx.mk HS
       refine wl_storeBox rfl HF rfl rfl (HF.ev rfl) (HF.ev rfl) HS.out 0 rfl (cells_lit [.int .i64 ((xs.getD i PtrD.zero).fAt), .int .i64 ((xs.getD i PtrD.zero).fBirth), .int .i64 ((xs.getD i PtrD.zero).fSize), .int .i64 ((xs.getD i PtrD.zero).fSum), .int .i64 ((xs.getD i PtrD.zero).fLevel)] rfl rfl) (by kernel_rfl) ?_; clear HS; intro w10 HS; replace HS := Bx.mk HS
       try dsimp only [List.set] at HS
       refine wl_ne ?_
       refine wp_sr ?_
       refine zm HF ?_;clear HF a;intro a HF
       refine zy HF (ylr (cs := [.int .i64 ((xs.getD i PtrD.zero).fAt), .int .i64 ((xs.getD i PtrD.zero).fBirth), .int .i64 ((xs.getD i PtrD.zero).fSize), .int .i64 ((xs.getD i PtrD.zero).fSum), .int .i64 ((xs.getD i PtrD.zero).fLevel)]) rfl (HF.ev rfl) ((HS.out.box 0 rfl).sub 0 5)) ?_;clear HF a;intro a HF
       refine zm HF ?_;clear HF a;intro a HF
       refine wl_call rfl HF rfl (enter_of Tryz.func83 (by kernel_rfl) rfl) (args := #[.pointer (some ⟨b, 0, none⟩), pV (xs.getD i PtrD.zero), .int .i64 ((n + 1 : Nat) : Int)]) rfl (fanOf_any a0 c0 a1 c1 a2 c2 a4 c4 a6 c6 st (xs.getD i PtrD.zero) ((n + 1 : Nat) : Int) b _ (HT.out.below HS.out.bel) (HM.out.below HS.out.bel) (HE.out.below HS.out.bel) (HB.out.below HS.out.bel (Nat.le_refl _)) (HR.out.below HS.out.bel) hrow (hoks _ (getD_mem (by omega)))) rfl rfl ?_
       rintro _ w11 (⟨l5, hk5, ao5, cp5, rfl, hs1⟩ | ⟨hk5, ao5, nn5, cp5, rfl, hb⟩)
       ·skip
        have hll5 := kids_len hk5
        refine ⟨_, rfl, ?_⟩; replace HS := Bx.mk (HS.out.add hs1);clear hs1 HF a;intro a HF
        try dsimp only [List.eraseIdx] at HS
        refine zr 5 HF rfl ?_;clear HF a;intro a HF
        refine wl_ne ?_
        refine wp_seq ?_
        refine wp_sr ?_
        refine zr 2 HF rfl ?_;clear HF a;intro a HF
        refine wl_ne ?_
        refine wc_false HF rfl ?_
        refine wp_skip ?_
        refine ex_then ?_
        refine wp_region_lit ?_
        refine zr 2 HF rfl ?_;clear HF a;intro a HF
        refine wl_appL rfl HF rfl rfl rfl (HF.ev rfl) (HF.ev rfl) elemQ PtrD.cells_len HS.out 2 (xs := ys) rfl (ys := l5) (St.rdOf HS.out PtrD.cells_len 0 rfl) (cells_one_Q _) (by unfold maxLen; (try simp only [List.length_append, List.length_cons, List.length_nil, List.nil_append, List.length_map]); omega) (by (try simp only [List.length_append, List.length_cons, List.length_nil, List.nil_append, List.length_map]); omega) ?_; clear HF HS a; intro ao6 cp7 w12 a HF HS; replace HS := Bx.mk HS
        try dsimp only [List.eraseIdx] at HS
        refine za HF ?_;clear HF a;intro a HF
        refine wpList_nil ?_
        refine ex_block ?_
        refine ex_then ?_
        refine wp_region_lit ?_
        refine zy HF (yl_addI rfl (HF.ev rfl) (HF.ev rfl) (i64w (by omega))) ?_;clear HF a;intro a HF
        refine zm HF ?_;clear HF a;intro a HF
        refine wl_ne ?_
        have hz : ys.length + l5.length = (ys ++ l5).length := (List.length_append ..).symm
        rw [hz] at HS HF
        have hl4 := kids_len hk5; have hyl2 : (ys ++ l5).length = 4 * (i + 1) := by rw [List.length_append]; omega
        have hoky2 : ∀ p ∈ ys ++ l5, p.ok = true := fun p hp => (List.mem_append.1 hp).elim (hoky p) ((kids_are hk5).2.1 p)
        replace HS:=Bx.mk (((HS.out.pick 4 rfl).pick 4 rfl).pick 4 rfl)
        exact ⟨i + 1, ⟨_, _, ys ++ l5, ⟨by omega, next_step hnx (by omega) hk5, hyl2, hoky2⟩, HF.less _ ⟨rfl, rfl, rfl, rfl, rfl, rfl, rfl, rfl, rfl, rfl, rfl, trivial⟩, ((HS.out.erase 4).erase 3)⟩, (by omega)⟩
       ·skip
        refine ⟨_, rfl, ?_⟩; replace HS := Bx.mk (HS.out.later hb);clear hb HF a;intro a HF
        refine zr 5 HF rfl ?_;clear HF a;intro a HF
        refine wl_ne ?_
        refine wp_seq ?_
        refine wp_sr ?_
        refine zr 2 HF rfl ?_;clear HF a;intro a HF
        refine wl_ne ?_
        refine wc_true HF rfl ?_
        refine wp_sr ?_
        refine zr 2 HF rfl ?_;clear HF a;intro a HF
        refine wl_ne ?_
        refine wp_ret ?_
        refine ex_then_ret ?_
        refine ex_block_ret ?_
        refine ex_then_ret ?_
        refine ex_then_ret ?_
        refine ex_block_ret ?_
        refine ex_then_ret ?_
        refine ex_block_ret ?_
        refine ex_then_ret ?_
        refine ex_then_ret ?_
        refine ex_block_ret ?_
        refine ex_then_ret ?_
        refine bp_ret2 HF Tryz.results44 (HF.res rfl) (HF.res rfl) ?_
        exact .inr ⟨leavesF_down (hd.trans (downL_no (next_stop hnx (by omega) hk5))), rfl, HS.out.bel⟩
      ·clear HF;rename_i HF
       have dcc6 := of_decide_eq_false cc6
       refine wc_false HF rfl ?_
       refine wp_exit ?_
       refine ex_then_exit ?_
       refine ex_then_exit ?_
       refine ex_block_hit ?_
       refine ex_then ?_
       refine wp_region_lit ?_
       refine zr 2 HF rfl ?_;clear HF a;intro a HF
       refine wpList_nil ?_
       refine ex_block ?_
       refine ex_then ?_
       refine wp_region_lit ?_
       refine zm HF ?_;clear HF a;intro a HF
       refine zy HF (yl_subI (r := (n : Int)) rfl (HF.ev rfl) (HF.ev rfl) ((i64w (by omega)).trans (by omega))) ?_;clear HF a;intro a HF
       refine za HF ?_;clear HF a;intro a HF
       refine wl_ne ?_
       replace HS:=Bx.mk ((HS.out.pick 2 rfl).pick 1 rfl)
       exact ⟨n, ⟨_, _, ys, ⟨(hd.trans (downL_yes (next_end hnx (by omega)))), pow4_step hp4 hyl (by omega), hoky, by omega⟩, HF.less _ ⟨rfl, rfl, rfl, rfl, rfl, rfl, rfl, trivial⟩, (HS.out.erase 2)⟩, (Nat.lt_succ_self _)⟩
     ·clear HF;rename_i HF
      have dcc5 := of_decide_eq_false cc5
      obtain rfl : n = 0 := by omega
      refine wc_false HF rfl ?_
      refine wp_exit ?_
      refine ex_then_exit ?_
      refine ex_then_exit ?_
      refine ex_block_hit ?_
      refine ex_then ?_
      refine wp_seq ?_
      refine wp_sr ?_
      refine zm HF ?_;clear HF a;intro a HF
      refine zy HF (yl_lenL (e := 43) (size := 5) rfl (HF.ev rfl) (by kernel_rfl)) ?_;clear HF a;intro a HF
      refine zm HF ?_;clear HF a;intro a HF
      refine wl_ne ?_
      refine wp_block ?_
      refine wc_loop (ι := Nat) (fun i a w => (i ≤ xs.length ∧ leavesB st t.fMany 0 xs = leavesB st t.fMany i (xs.drop i)) ∧ Fr 112 a [(0, .pointer (some ⟨b, 0, none⟩)), (1, tV t), (3, .pointer (some ⟨b1, 0, none⟩)), (4, .slice none 0 0), (5, .bool false), (6, .slice ao xs.length cp), (74, .slice ao xs.length cp), (75, .int .i64 (xs.length : Int)), (76, .int .i64 (i : Int))] ∧ St w0 ([rowA PtrD.cells 5 43 (.slice ao xs.length cp) xs, boxA b1 7 45 (tV t)]) w) (fun i => xs.length - i) 0 ⟨⟨Nat.zero_le _, by rw [List.drop_zero]⟩, HF.less _ ⟨rfl, rfl, rfl, rfl, rfl, rfl, rfl, rfl, rfl, trivial⟩, HS.out⟩ ?_
      clear HF HS; clear a
      rintro i a w13 ⟨⟨hi, hlv⟩, HF, HS⟩
      replace HS := Bx.mk HS
      refine wp_sr ?_
      refine zy HF (yl_lssI rfl (HF.ev rfl) (HF.ev rfl)) ?_;clear HF a;intro a HF
      refine wl_ne ?_
      refine wp_seq ?_
      refine HF.cases 77 rfl (fun cc7 _ => ?_) fun cc7 _ => ?_
      ·clear HF;rename_i HF
       have dcc7 := of_decide_eq_true cc7
       refine wc_true HF rfl ?_
       refine wp_skip ?_
       refine ex_then ?_
       refine wp_seq ?_
       refine wp_block ?_
       refine wp_seq ?_
       obtain ⟨g8, rfl, _, _, _, _⟩ := HS.out.rowOpen 0 rfl (by omega)
       refine wp_region_lit ?_
       refine zm HF ?_;clear HF a;intro a HF
       refine zy HF (yl_indexAddr (e := 43) (i := i) (size := 5) rfl (HF.ev rfl) (HF.ev rfl) (by kernel_rfl) rfl (by omega)) ?_;clear HF a;intro a HF
       refine zy HF (ylr (cs := [.int .i64 ((xs.getD i PtrD.zero).fAt), .int .i64 ((xs.getD i PtrD.zero).fBirth), .int .i64 ((xs.getD i PtrD.zero).fSize), .int .i64 ((xs.getD i PtrD.zero).fSum), .int .i64 ((xs.getD i PtrD.zero).fLevel)]) rfl (HF.ev rfl) (HS.out.elem PtrD.cells_len 0 rfl (get_getD (xs := xs) (j := i) (d := PtrD.zero) (by omega)))) ?_;clear HF a;intro a HF
       refine wl_alloc rfl HF rfl rfl rfl (Z := [.int .i64 0, .int .i64 0, .int .i64 0, .int .i64 0, .int .i64 0]) (by kernel_rfl) rfl HS.out ?_; clear HF HS a; intro a w14 b9 HF HS; replace HS := Bx.mk HS
       refine za HF ?_;clear HF a;intro a HF
       refine wl_storeBox rfl HF rfl rfl (HF.ev rfl) (HF.ev rfl) HS.out 0 rfl (cells_lit [.int .i64 ((xs.getD i PtrD.zero).fAt), .int .i64 ((xs.getD i PtrD.zero).fBirth), .int .i64 ((xs.getD i PtrD.zero).fSize), .int .i64 ((xs.getD i PtrD.zero).fSum), .int .i64 ((xs.getD i PtrD.zero).fLevel)] rfl rfl) (by kernel_rfl) ?_; clear HS; intro w15 HS; replace HS := Bx.mk HS
       try dsimp only [List.set] at HS
       refine wl_ne ?_
       refine wp_sr ?_
       refine zm HF ?_;clear HF a;intro a HF
       refine zy HF (ylr (cs := [.int .i64 ((xs.getD i PtrD.zero).fAt), .int .i64 ((xs.getD i PtrD.zero).fBirth), .int .i64 ((xs.getD i PtrD.zero).fSize), .int .i64 ((xs.getD i PtrD.zero).fSum), .int .i64 ((xs.getD i PtrD.zero).fLevel)]) rfl (HF.ev rfl) ((HS.out.box 0 rfl).sub 0 5)) ?_;clear HF a;intro a HF
       refine wl_callB rfl HF rfl (enter_of Tryz.func66 (by kernel_rfl) rfl) (args := #[.pointer (some ⟨b, 0, none⟩), pV (xs.getD i PtrD.zero)]) rfl (v := .tuple #[.string (readT st (xs.getD i PtrD.zero)), .bool (readB st (xs.getD i PtrD.zero))]) ((stRead_any a0 c0 a1 c1 a2 c2 a4 c4 a6 c6 st (xs.getD i PtrD.zero) b _ (HB.out.below HS.out.bel (Nat.le_refl _)) (HR.out.below HS.out.bel) hrow (hoks _ (getD_mem (by omega))))) rfl rfl HS.out ?_; clear HF HS a; intro w16 a HS HF; replace HS := Bx.mk HS
       refine zr 5 HF rfl ?_;clear HF a;intro a HF
       refine wl_ne ?_
       refine wp_sr ?_
       refine zr 3 HF rfl ?_;clear HF a;intro a HF
       refine HF.cases 89 rfl (fun cc8 _ => ?_) fun cc8 _ => ?_
       ·clear HF;rename_i HF
        refine zr 15 HF rfl ?_;clear HF a;intro a HF
        refine wl_ne ?_
        refine wc_true HF rfl ?_
        refine wp_sr ?_
        refine zr 2 HF rfl ?_;clear HF a;intro a HF
        refine wl_ne ?_
        refine wp_ret ?_
        refine ex_block_ret ?_
        refine ex_then_ret ?_
        refine ex_then_ret ?_
        refine ex_block_ret ?_
        refine ex_then_ret ?_
        refine bp_ret2 HF Tryz.results44 (HF.res rfl) (HF.res rfl) ?_
        have hd0 : downL (kids st) (depthN t.fMany) [t.fRoot] = some xs := hd; have hst := leaves_step hlv (show i < xs.length by omega)
        rw [leafB_read (p := (xs.getD i PtrD.zero)) (by simpa using cc8)] at hst
        exact .inr ⟨leavesF_bad hd0 hst, rfl, HS.out.bel⟩
       ·clear HF;rename_i HF
        refine zg HF (yfa 4 rfl (HF.ev rfl)) ?_;clear HF a;intro a HF
        refine zg HF (ylo (v := .int .i64 ((xs.getD i PtrD.zero).fLevel)) rfl (HF.ev rfl) (((HS.out.box 0 rfl).cell 4).trans rfl)) ?_;clear HF a;intro a HF
        refine zr 3 HF rfl ?_;clear HF a;intro a HF
        refine HF.cases 94 rfl (fun cc9 _ => ?_) fun cc9 _ => ?_
        ·clear HF;rename_i HF
         have dcc9 := bne_iff_ne.1 cc9
         refine zr 10 HF rfl ?_;clear HF a;intro a HF
         refine wl_ne ?_
         refine wc_true HF rfl ?_
         refine wp_sr ?_
         refine zr 2 HF rfl ?_;clear HF a;intro a HF
         refine wl_ne ?_
         refine wp_ret ?_
         refine ex_block_ret ?_
         refine ex_then_ret ?_
         refine ex_then_ret ?_
         refine ex_block_ret ?_
         refine ex_then_ret ?_
         refine bp_ret2 HF Tryz.results44 (HF.res rfl) (HF.res rfl) ?_
         have hd0 : downL (kids st) (depthN t.fMany) [t.fRoot] = some xs := hd; have hst := leaves_step hlv (show i < xs.length by omega)
         rw [leafB_level (p := (xs.getD i PtrD.zero)) (by simpa using dcc9)] at hst
         exact .inr ⟨leavesF_bad hd0 hst, rfl, HS.out.bel⟩
        ·clear HF;rename_i HF
         have dcc9 := bne_eq_false_iff_eq.1 cc9
         refine zg HF (yl_move rfl (HF.ev rfl)) ?_;clear HF a;intro a HF
         refine zg HF (yfa 6 rfl (HF.ev rfl)) ?_;clear HF a;intro a HF
         refine zg HF (ylo (v := .int .i64 t.fMany) rfl (HF.ev rfl) (((HS.out.box 2 rfl).cell 6).trans rfl)) ?_;clear HF a;intro a HF
         refine zr 2 HF rfl ?_;clear HF a;intro a HF
         refine HF.cases 99 rfl (fun cc10 _ => ?_) fun cc10 _ => ?_
         ·clear HF;rename_i HF
          have dcc10 := of_decide_eq_true cc10
          refine zg HF (ylr (cs := [.int .i64 ((xs.getD i PtrD.zero).fAt), .int .i64 ((xs.getD i PtrD.zero).fBirth), .int .i64 ((xs.getD i PtrD.zero).fSize), .int .i64 ((xs.getD i PtrD.zero).fSum), .int .i64 ((xs.getD i PtrD.zero).fLevel)]) rfl (HF.ev rfl) ((HS.out.box 0 rfl).sub 0 5)) ?_;clear HF a;intro a HF
          refine wl_callBg HF rfl rfl rfl rfl (enter_of Tryz.func45 (by kernel_rfl) rfl) (args := #[pV (xs.getD i PtrD.zero)]) rfl (v := .bool ((xs.getD i PtrD.zero).hole)) (implHole_any (xs.getD i PtrD.zero) _) rfl rfl HS.out ?_; clear HF HS a; intro w17 a HS HF; replace HS := Bx.mk HS
          refine zr 3 HF rfl ?_;clear HF a;intro a HF
          refine wl_ne ?_
          refine HF.cases 104 rfl (fun cc11 _ => ?_) fun cc11 _ => ?_
          ·clear HF;rename_i HF
           refine wc_true HF rfl ?_
           refine wp_sr ?_
           refine zr 2 HF rfl ?_;clear HF a;intro a HF
           refine wl_ne ?_
           refine wp_ret ?_
           refine ex_block_ret ?_
           refine ex_then_ret ?_
           refine ex_then_ret ?_
           refine ex_block_ret ?_
           refine ex_then_ret ?_
           refine bp_ret2 HF Tryz.results44 (HF.res rfl) (HF.res rfl) ?_
           have hd0 : downL (kids st) (depthN t.fMany) [t.fRoot] = some xs := hd; have hst := leaves_step hlv (show i < xs.length by omega)
           rw [leafB_out (p := (xs.getD i PtrD.zero)) (by simpa using cc11) (by omega)] at hst
           exact .inr ⟨leavesF_bad hd0 hst, rfl, HS.out.bel⟩
          ·clear HF;rename_i HF
           refine wc_false HF rfl ?_
           refine wp_skip ?_
           refine ex_block ?_
           refine ex_then ?_
           refine wp_region_lit ?_
           refine zy HF (yl_addI rfl (HF.ev rfl) (HF.ev rfl) (i64w (by omega))) ?_;clear HF a;intro a HF
           refine zm HF ?_;clear HF a;intro a HF
           refine wl_ne ?_
           have hst := leaves_step hlv (show i < xs.length by omega)
           rw [leafB_yes (p := (xs.getD i PtrD.zero)) (by simpa using cc8) (by simpa using cc9) (.inl (by simpa using cc11)), Bool.true_and] at hst
           replace HS:=Bx.mk ((HS.out.pick 2 rfl).pick 2 rfl)
           exact ⟨i + 1, ⟨⟨by omega, hst⟩, HF.less _ ⟨rfl, rfl, rfl, rfl, rfl, rfl, rfl, rfl, rfl, trivial⟩, (HS.out.erase 2)⟩, (by omega)⟩
         ·clear HF;rename_i HF
          have dcc10 := of_decide_eq_false cc10
          refine zr 5 HF rfl ?_;clear HF a;intro a HF
          refine wl_ne ?_
          refine wc_false HF rfl ?_
          refine wp_skip ?_
          refine ex_block ?_
          refine ex_then ?_
          refine wp_region_lit ?_
          refine zy HF (yl_addI rfl (HF.ev rfl) (HF.ev rfl) (i64w (by omega))) ?_;clear HF a;intro a HF
          refine zm HF ?_;clear HF a;intro a HF
          refine wl_ne ?_
          have hst := leaves_step hlv (show i < xs.length by omega)
          rw [leafB_yes (p := (xs.getD i PtrD.zero)) (by simpa using cc8) (by simpa using cc9) (.inr (by omega)), Bool.true_and] at hst
          replace HS:=Bx.mk ((HS.out.pick 2 rfl).pick 2 rfl)
          exact ⟨i + 1, ⟨⟨by omega, hst⟩, HF.less _ ⟨rfl, rfl, rfl, rfl, rfl, rfl, rfl, rfl, rfl, trivial⟩, (HS.out.erase 2)⟩, (by omega)⟩
      ·clear HF;rename_i HF
       have dcc7 := of_decide_eq_false cc7
       refine wc_false HF rfl ?_
       refine wp_exit ?_
       refine ex_then_exit ?_
       refine ex_then_exit ?_
       refine ex_block_hit ?_
       refine ex_then ?_
       refine wp_seq ?_
       have hall := leaves_end hlv (by omega); have hd0 : downL (kids st) (depthN t.fMany) [t.fRoot] = some xs := hd; have hxl : xs.length = 4 ^ depthN t.fMany := by rw [downL_len (fun p n k => kids_len) hd0]; simp
       have hfan := depthN_fan hin.2; have htk : (xs.take t.fMany.toNat).length = t.fMany.toNat := by rw [List.length_take]; omega
       have hmle : t.fMany.toNat ≤ xs.length := by omega
       refine wp_region_lit ?_
       refine zm HF ?_;clear HF a;intro a HF
       refine zy HF (yfa 6 rfl (HF.ev rfl)) ?_;clear HF a;intro a HF
       refine zy HF (ylo (v := .int .i64 t.fMany) rfl (HF.ev rfl) (((HS.out.box 1 rfl).cell 6).trans rfl)) ?_;clear HF a;intro a HF
       refine zy HF (yfa 6 rfl (HF.ev rfl)) ?_;clear HF a;intro a HF
       refine zy HF (ylo (v := .int .i64 t.fMany) rfl (HF.ev rfl) (((HS.out.box 1 rfl).cell 6).trans rfl)) ?_;clear HF a;intro a HF
       refine zy HF (yl_sliceH3 (e := 43) (size := 5) (k := t.fMany.toNat) rfl (HF.ev rfl) (HF.ev rfl) (HF.ev rfl) (by kernel_rfl) (by omega) (by omega) (Nat.le_trans (by omega) (St.capLe HS.out 0 rfl))) ?_;clear HF a;intro a HF
       refine zr 2 HF rfl ?_;clear HF a;intro a HF
       refine wl_ne ?_
       refine wp_ret ?_
       refine bp_ret2 HF Tryz.results44 (HF.res rfl) (HF.res rfl) ?_
       replace HS:=Bx.mk (HS.out.pick 0 rfl)
       have hh := HS.out.hold (P := fun w => Rd PtrD.cells 5 w ao (xs.take t.fMany.toNat).length (xs.take t.fMany.toNat)) (fun w f h => by rw [htk]; exact (row_reads PtrD.cells_len h).take hmle)
       exact .inl ⟨xs.take t.fMany.toNat, leavesF_yes htop hd0 hall, ao, by rw [htk], (hh.erase 1)⟩

end Go.Proofs.YtgaodbdadncfhaaGreatDoor
