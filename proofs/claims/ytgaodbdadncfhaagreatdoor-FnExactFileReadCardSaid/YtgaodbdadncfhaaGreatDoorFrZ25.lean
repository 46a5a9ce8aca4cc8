/- A part of the proof in YtgaodbdadncfhaaGreatDoorFrZ29. -/
import Derived.Shelf.Strings.Prefix
import Derived.Shelf.Strings.Repeat
import Derived.Test.YtgaodbdadncfhaaGreatDoorFrZ24
/- HasSuffix and Repeat: laid at this dump. -/
namespace Go.Proofs.YtgaodbdadncfhaaGreatDoor
set_option linter.unusedVariables false
set_option linter.unusedSimpArgs false
set_option maxHeartbeats 1000000
set_option maxRecDepth 100000
open Go.Shelf

def layHs_ren : Go.Shelf.Ren := ⟨fun | 100 => 69 | 207 => 100 | n => n, fun | 3 => 3 | 4 => 4 | 9 => 9 | n => n, fun | n => n⟩
theorem layHasSuf : Go.Proofs.Lays.n100 Tryz.prog layHs_ren := {
  mixed := by kernel_rfl
  f100 := Tryz.func69.trans (congrArg some (by kernel_rfl))
  f207 := Tryz.func100.trans (congrArg some (by kernel_rfl))
  t3 := Tryz.underlying3
  a3 := Tryz.isAgg3
  z3 := Tryz.sizeOf3
  v3 := Tryz.zeroValue3
  t4 := Tryz.underlying4
  a4 := Tryz.isAgg4
  z4 := Tryz.sizeOf4
  v4 := Tryz.zeroValue4
  t9 := Tryz.underlying9
  a9 := Tryz.isAgg9
  z9 := Tryz.sizeOf9
  v9 := Tryz.zeroValue9 }
def layRp_ren : Go.Shelf.Ren := ⟨fun | 99 => 125 | 105 => 99 | 165 => 126 | 166 => 70 | 169 => 71 | 170 => 127 | 206 => 152 | 212 => 124 | 240 => 101 | 241 => 153 | 263 => 150 | 264 => 151 | 276 => 128 | 277 => 170 | n => n, fun | 0 => 0 | 3 => 3 | 4 => 4 | 5 => 5 | 9 => 9 | 20 => 20 | 37 => 94 | 46 => 156 | 51 => 182 | 53 => 185 | 70 => 93 | 72 => 96 | 75 => 102 | 76 => 103 | 80 => 105 | 109 => 157 | 127 => 128 | 146 => 183 | 148 => 186 | 164 => 161 | n => n, fun | n => n⟩
theorem layBXR : Go.Proofs.Builder.Extra Tryz.prog layRp_ren := {
  sizeBuilder := by kernel_rfl
  liesBuilder := by kernel_rfl
  t5 := Tryz.underlying5
  a5 := Tryz.isAgg5
  z5 := Tryz.sizeOf5
  v5 := Tryz.zeroValue5
  infoByte := by kernel_rfl
  cellsByte := by kernel_rfl
  sizeByte := by kernel_rfl
  neB5 := by decide }
theorem layRepeat : Go.Proofs.Lays.n105 Tryz.prog layRp_ren := {
  mixed := by kernel_rfl
  f99 := Tryz.func125.trans (congrArg some (by kernel_rfl))
  f105 := Tryz.func99.trans (congrArg some (by kernel_rfl))
  f165 := Tryz.func126.trans (congrArg some (by kernel_rfl))
  f166 := Tryz.func70.trans (congrArg some (by kernel_rfl))
  f169 := Tryz.func71.trans (congrArg some (by kernel_rfl))
  f170 := Tryz.func127.trans (congrArg some (by kernel_rfl))
  f206 := Tryz.func152.trans (congrArg some (by kernel_rfl))
  f212 := Tryz.func124.trans (congrArg some (by kernel_rfl))
  f240 := Tryz.func101.trans (congrArg some (by kernel_rfl))
  f241 := Tryz.func153.trans (congrArg some (by kernel_rfl))
  f263 := Tryz.func150.trans (congrArg some (by kernel_rfl))
  f264 := Tryz.func151.trans (congrArg some (by kernel_rfl))
  f276 := Tryz.func128.trans (congrArg some (by kernel_rfl))
  f277 := Tryz.func170.trans (congrArg some (by kernel_rfl))
  t0 := Tryz.underlying0
  a0 := Tryz.isAgg0
  z0 := Tryz.sizeOf0
  v0 := Tryz.zeroValue0
  t3 := Tryz.underlying3
  a3 := Tryz.isAgg3
  z3 := Tryz.sizeOf3
  v3 := Tryz.zeroValue3
  t4 := Tryz.underlying4
  a4 := Tryz.isAgg4
  z4 := Tryz.sizeOf4
  v4 := Tryz.zeroValue4
  t5 := Tryz.underlying5
  a5 := Tryz.isAgg5
  z5 := Tryz.sizeOf5
  v5 := Tryz.zeroValue5
  t9 := Tryz.underlying9
  a9 := Tryz.isAgg9
  z9 := Tryz.sizeOf9
  v9 := Tryz.zeroValue9
  t20 := Tryz.underlying20
  a20 := Tryz.isAgg20
  z20 := Tryz.sizeOf20
  v20 := Tryz.zeroValue20
  t37 := Tryz.underlying94
  a37 := Tryz.isAgg94
  z37 := Tryz.sizeOf94
  v37 := Tryz.zeroValue94
  t46 := Tryz.underlying156
  a46 := Tryz.isAgg156
  z46 := Tryz.sizeOf156
  v46 := Tryz.zeroValue156
  t51 := Tryz.underlying182
  a51 := Tryz.isAgg182
  z51 := Tryz.sizeOf182
  v51 := Tryz.zeroValue182
  t53 := Tryz.underlying185
  a53 := Tryz.isAgg185
  z53 := Tryz.sizeOf185
  v53 := Tryz.zeroValue185
  t70 := Tryz.underlying93
  a70 := Tryz.isAgg93
  z70 := Tryz.sizeOf93
  v70 := Tryz.zeroValue93
  t72 := Tryz.underlying96
  a72 := Tryz.isAgg96
  z72 := Tryz.sizeOf96
  v72 := Tryz.zeroValue96
  t75 := Tryz.underlying102
  a75 := Tryz.isAgg102
  z75 := Tryz.sizeOf102
  v75 := Tryz.zeroValue102
  t76 := Tryz.underlying103
  a76 := Tryz.isAgg103
  z76 := Tryz.sizeOf103
  v76 := Tryz.zeroValue103
  t109 := Tryz.underlying157
  a109 := Tryz.isAgg157
  z109 := Tryz.sizeOf157
  v109 := Tryz.zeroValue157
  t127 := Tryz.underlying128
  a127 := Tryz.isAgg128
  z127 := Tryz.sizeOf128
  v127 := Tryz.zeroValue128
  t146 := Tryz.underlying183
  a146 := Tryz.isAgg183
  z146 := Tryz.sizeOf183
  v146 := Tryz.zeroValue183
  t148 := Tryz.underlying186
  a148 := Tryz.isAgg186
  z148 := Tryz.sizeOf186
  v148 := Tryz.zeroValue186
  t164 := Tryz.underlying161
  a164 := Tryz.isAgg161
  z164 := Tryz.sizeOf161
  v164 := Tryz.zeroValue161 }
end Go.Proofs.YtgaodbdadncfhaaGreatDoor

/- Trees asked whether they are valid: walked. -/
namespace Go.Proofs.YtgaodbdadncfhaaGreatDoor
set_option linter.unusedVariables false
set_option linter.unusedSimpArgs false
set_option maxHeartbeats 1000000
set_option maxRecDepth 100000
open Go.RowKit

theorem leafB_read {st : StoreD} {many : Int} {i : Nat} {p : PtrD} (h : readB st p = false) : leafB st many i p = false := by
  unfold leafB
  cases hh : p.hole with
  | true => rw [readB_hole hh] at h; cases h
  | false => rw [h]; rfl
theorem leafB_level {st : StoreD} {many : Int} {i : Nat} {p : PtrD} (h : (p.fLevel == 0) = false) : leafB st many i p = false := by
  unfold leafB
  cases hh : p.hole with
  | true => rw [h]; rfl
  | false => rw [h]; simp
theorem leafB_out {st : StoreD} {many : Int} {i : Nat} {p : PtrD} (hh : p.hole = false) (h : ¬ (i : Int) < many) : leafB st many i p = false := by
  unfold leafB
  rw [hh, decide_eq_false h]; simp
theorem leafB_yes {st : StoreD} {many : Int} {i : Nat} {p : PtrD} (h1 : readB st p = true) (h2 : (p.fLevel == 0) = true) (h3 : p.hole = true ∨ (i : Int) < many) : leafB st many i p = true := by
  unfold leafB
  cases hh : p.hole with
  | true => exact h2
  | false =>
    rcases h3 with h3 | h3
    · rw [hh] at h3; cases h3
    · rw [h1, h2, decide_eq_true h3]; rfl
theorem reads_rows {w : World} {a0 : Option Addr} {c0 : Nat} {a1 : Option Addr} {c1 : Nat} {a2 : Option Addr} {c2 : Nat} {a4 : Option Addr} {c4 : Nat} {a6 : Option Addr} {c6 : Nat} {st : StoreD} (h : StoreD.Reads w (.agg #[.slice a0 st.fRows.length c0, .slice a1 st.fSpace.fRefs.length c1, .slice a2 st.fSpace.fLast.length c2, .int .i64 st.fTxg, .slice a4 st.fGone.length c4, .int .i64 st.fKeep, .slice a6 st.fDead.length c6, .bool st.fSame]) st) : Rd encS 1 w a0 st.fRows.length st.fRows := by
  obtain ⟨b0, d0, b1, d1, b2, d2, b4, d4, b6, d6, e, r, _⟩ := h
  simp only [Value.agg.injEq, Array.mk.injEq, List.cons.injEq, Value.slice.injEq] at e
  rw [e.1.1]; exact r
theorem ok_rows {st : StoreD} (h : st.ok = true) : RowsOk st := by
  have ho := StoreD.ok_spec h
  refine ⟨ho.rows, fun i => ?_⟩
  by_cases hi : i < 64
  · have := rowsSt_le ho.each hi
    unfold rowSt at this
    rw [Bool.and_eq_true] at this
    have := of_decide_eq_true this.1
    omega
  · rw [List.getD_eq_getElem?_getD, List.getElem?_eq_none (by rw [ho.rows]; omega)]
    exact Nat.zero_le _
theorem leaves_any (a0 : Option Addr) (c0 : Nat) (a1 : Option Addr) (c1 : Nat) (a2 : Option Addr) (c2 : Nat) (a4 : Option Addr) (c4 : Nat) (a6 : Option Addr) (c6 : Nat) (st : StoreD) (t : TreeD) (b : Nat) (w0 : World) (hT : TabP w0) (hM : MaxP w0) (hE : ErrP w0) (hB : Box w0 b 8 41 (sV a0 c0 a1 c1 a2 c2 a4 c4 a6 c6 st)) (hR : Rd encS 1 w0 a0 st.fRows.length st.fRows) (hrow : RowsOk st) : Calls Tryz.prog 44 #[.pointer (some ⟨b, 0, none⟩), tV t] w0 fun e w' => (∃ l, leavesF st t = some l ∧ ∃ ao, e = .returned (.tuple #[.slice ao l.length l.length, .bool true]) ∧ St w0 [holdsA (fun w => Rd PtrD.cells 5 w ao l.length l)] w') ∨ (leavesF st t = none ∧ e = .returned (.tuple #[.slice none 0 0, .bool false]) ∧ Below w0.heap.size w0 w') := by
 have HT := Bx.mk hT; have HM := Bx.mk hM; have HE := Bx.mk hE; have HB := Bx.mk hB; have HR := Bx.mk hR; clear hT hM hE hR
 have HS := Bx.mk (St.start w0)
 refine wc_enter Tryz.func44 rfl Tryz.ntmps44 [(0, .pointer (some ⟨b, 0, none⟩)), (1, tV t)] ⟨rfl, rfl, trivial⟩ rfl ?_; intro a HF
 refine wp_sr ?_
 refine wl_box rfl HF rfl (HF.ev rfl) (Z := [.int .i64 t.fRoot.fAt, .int .i64 t.fRoot.fBirth, .int .i64 t.fRoot.fSize, .int .i64 t.fRoot.fSum, .int .i64 t.fRoot.fLevel, .int .i64 t.fDepth, .int .i64 t.fMany]) rfl rfl rfl rfl HS.out ?_; clear HF HS a; intro a w1 b1 HF HS; replace HS := Bx.mk HS
 refine zr 2 HF rfl ?_;clear HF a;intro a HF
 refine wl_ne ?_
 refine wp_seq ?_
 refine wp_seq ?_
 refine wr_quiet (by kernel_rfl) (by kernel_rfl) HS.out ?_
 refine zq HF (fun _ HS => (yfa 6 rfl (HF.ev rfl))) ?_;clear HF a;intro a HF
 refine zq HF (fun _ HS => (ylo (v := .int .i64 t.fMany) rfl (HF.ev rfl) (((HS.box 0 rfl).cell 6).trans rfl))) ?_;clear HF a;intro a HF
 refine wq_call rfl HF rfl (enter_of Tryz.func48 (by kernel_rfl) rfl) (args := #[.int .i64 t.fMany, .int .i64 0, .int .i64 16]) rfl (v := .bool (inB t.fMany 0 16)) (fun _ HS => ((within_any t.fMany 0 16 _).mono fun _ _ h => ⟨h.1, h.2 ▸ Below.refl _ _⟩)) rfl rfl ?_;clear HF a;intro a HF
 refine zrq 2 HF rfl ?_;clear HF a;intro a HF
 refine HF.cases 21 rfl (fun cc1 _ => ?_) fun cc1 _ => ?_
 ·clear HF;rename_i HF
  refine zrq 23 HF rfl ?_;clear HF a;intro a HF
  refine wpQuiet_nil ?_; intro w2 HS; replace HS := Bx.mk HS
  refine ex_then ?_
  refine wc_true HF rfl ?_
  refine wp_sr ?_
  refine zr 2 HF rfl ?_;clear HF a;intro a HF
  refine wl_ne ?_
  refine wp_ret ?_
  refine ex_then_ret ?_
  refine bp_ret2 HF Tryz.results44 (HF.res rfl) (HF.res rfl) ?_
  have htop : topB st t = false := by
   have h : inB t.fMany 0 16 = false := (by simpa using cc1); unfold topB; rw [h]; rfl
  exact .inr ⟨leavesF_top htop, rfl, HS.out.bel⟩
 ·clear HF;rename_i HF
  have inT : inB t.fMany 0 16 = true := by simpa using cc1
  refine zqg HF (fun _ HS => (yfa 5 rfl (HF.ev rfl))) ?_;clear HF a;intro a HF
  refine zqg HF (fun _ HS => (ylo (v := .int .i64 t.fDepth) rfl (HF.ev rfl) (((HS.box 0 rfl).cell 5).trans rfl))) ?_;clear HF a;intro a HF
  refine zqg HF (fun _ HS => (yfa 6 rfl (HF.ev rfl))) ?_;clear HF a;intro a HF
  refine zqg HF (fun _ HS => (ylo (v := .int .i64 t.fMany) rfl (HF.ev rfl) (((HS.box 0 rfl).cell 6).trans rfl))) ?_;clear HF a;intro a HF
  refine wq_callg HF rfl rfl rfl rfl (enter_of Tryz.func82 (by kernel_rfl) rfl) (args := #[.int .i64 t.fMany]) rfl (v := .int .i64 ((depthN t.fMany : Nat) : Int)) (fun _ HS => depthOf_any t.fMany _) rfl rfl ?_;clear HF a;intro a HF
  refine zrq 3 HF rfl ?_;clear HF a;intro a HF
  refine HF.cases 29 rfl (fun cc2 _ => ?_) fun cc2 _ => ?_
  ·clear HF;rename_i HF
   have dcc2 := bne_iff_ne.1 cc2
   refine zrq 15 HF rfl ?_;clear HF a;intro a HF
   refine wpQuiet_nil ?_; intro w3 HS; replace HS := Bx.mk HS
   refine ex_then ?_
   refine wc_true HF rfl ?_
   refine wp_sr ?_
   refine zr 2 HF rfl ?_;clear HF a;intro a HF
   refine wl_ne ?_
   refine wp_ret ?_
   refine ex_then_ret ?_
   refine bp_ret2 HF Tryz.results44 (HF.res rfl) (HF.res rfl) ?_
   have htop : topB st t = false := by
    have h : (t.fDepth == ((depthN t.fMany : Nat) : Int)) = false := (by simpa using dcc2); unfold topB; rw [h]; simp
   exact .inr ⟨leavesF_top htop, rfl, HS.out.bel⟩
  ·clear HF;rename_i HF
   have dcc2 := bne_eq_false_iff_eq.1 cc2
   have hdep : t.fDepth = ((depthN t.fMany : Nat) : Int) := dcc2
   refine zqg HF (fun _ HS => (yfa 0 rfl (HF.ev rfl))) ?_;clear HF a;intro a HF
   refine zqg HF (fun _ HS => (ylr (cs := [.int .i64 t.fRoot.fAt, .int .i64 t.fRoot.fBirth, .int .i64 t.fRoot.fSize, .int .i64 t.fRoot.fSum, .int .i64 t.fRoot.fLevel]) rfl (HF.ev rfl) ((HS.box 0 rfl).sub 0 5))) ?_;clear HF a;intro a HF
   refine wq_callg HF rfl rfl rfl rfl (enter_of Tryz.func64 (by kernel_rfl) rfl) (args := #[pV t.fRoot]) rfl (v := .bool t.fRoot.ok) (fun _ HS => implPtrOk_any t.fRoot _) rfl rfl ?_;clear HF a;intro a HF
   refine zrq 3 HF rfl ?_;clear HF a;intro a HF
   refine HF.cases 35 rfl (fun cc3 _ => ?_) fun cc3 _ => ?_
   ·clear HF;rename_i HF
    refine zrq 9 HF rfl ?_;clear HF a;intro a HF
    refine wpQuiet_nil ?_; intro w4 HS; replace HS := Bx.mk HS
    refine ex_then ?_
    refine wc_true HF rfl ?_
    refine wp_sr ?_
    refine zr 2 HF rfl ?_;clear HF a;intro a HF
    refine wl_ne ?_
    refine wp_ret ?_
    refine ex_then_ret ?_
    refine bp_ret2 HF Tryz.results44 (HF.res rfl) (HF.res rfl) ?_
    have htop : topB st t = false := by
     have h : t.fRoot.ok = false := (by simpa using cc3); unfold topB; rw [h]; simp
    exact .inr ⟨leavesF_top htop, rfl, HS.out.bel⟩
   ·clear HF;rename_i HF
    have hok : t.fRoot.ok = true := by simpa using cc3
    refine zqg HF (fun _ HS => (yfa 0 rfl (HF.ev rfl))) ?_;clear HF a;intro a HF
    refine zqg HF (fun _ HS => (yfa 1 rfl (HF.ev rfl))) ?_;clear HF a;intro a HF
    refine zqg HF (fun _ HS => (ylo (v := .int .i64 t.fRoot.fBirth) rfl (HF.ev rfl) (((HS.box 0 rfl).cell 1).trans rfl))) ?_;clear HF a;intro a HF
    refine zrq 2 HF rfl ?_;clear HF a;intro a HF
    refine zqg HF (fun _ HS => (yfa 3 rfl (HF.ev rfl))) ?_;clear HF a;intro a HF
    refine zqg HF (fun _ HS => (ylo (v := .int .i64 st.fTxg) rfl (HF.ev rfl) (((HB.out.below HS.bel (Nat.le_refl _)).cell 3).trans rfl))) ?_;clear HF a;intro a HF
    refine zrq 2 HF rfl ?_;clear HF a;intro a HF
    refine wpQuiet_nil ?_; intro w5 HS; replace HS := Bx.mk HS
    refine ex_then ?_
    refine HF.cases 44 rfl (fun cc4 _ => ?_) fun cc4 _ => ?_
    ·clear HF;rename_i HF
     have dcc4 := of_decide_eq_true cc4
     refine wc_true HF rfl ?_
     refine wp_sr ?_
     refine zr 2 HF rfl ?_;clear HF a;intro a HF
     refine wl_ne ?_
     refine wp_ret ?_
     refine ex_then_ret ?_
     refine bp_ret2 HF Tryz.results44 (HF.res rfl) (HF.res rfl) ?_
     have htop : topB st t = false := by
      unfold topB; rw [decide_eq_false (show ¬ t.fRoot.fBirth ≤ st.fTxg by omega)]; simp
     exact .inr ⟨leavesF_top htop, rfl, HS.out.bel⟩
    ·clear HF;rename_i HF
     have dcc4 := of_decide_eq_false cc4
     have htop : topB st t = true := (by unfold topB; rw [hok, inT, beq_iff_eq.2 hdep, decide_eq_true (show t.fRoot.fBirth ≤ st.fTxg by omega)]; rfl); have hin := inB_true inT
     refine wc_false HF rfl ?_
     refine wp_skip ?_
     refine ex_then ?_
     refine wp_sr ?_
     refine zy HF (yfa 0 rfl (HF.ev rfl)) ?_;clear HF a;intro a HF
     refine zy HF (ylr (cs := [.int .i64 t.fRoot.fAt, .int .i64 t.fRoot.fBirth, .int .i64 t.fRoot.fSize, .int .i64 t.fRoot.fSum, .int .i64 t.fRoot.fLevel]) rfl (HF.ev rfl) ((HS.out.box 0 rfl).sub 0 5)) ?_;clear HF a;intro a HF
     refine wl_buildS (enc := PtrD.cells) (e := 43) (size := 5) rfl HF rfl rfl rfl (ps := [(0, pV t.fRoot)]) rfl (cells := [.int .i64 t.fRoot.fAt, .int .i64 t.fRoot.fBirth, .int .i64 t.fRoot.fSize, .int .i64 t.fRoot.fSum, .int .i64 t.fRoot.fLevel]) (by kernel_rfl) [t.fRoot] rfl rfl (by unfold maxLen; omega) rfl HS.out ?_; clear HF HS a; intro b2 a w6 HF HS; replace HS := Bx.mk HS
     refine za HF ?_;clear HF a;intro a HF
     refine wl_ne ?_
     refine wp_seq ?_
     refine wp_sr ?_
     refine zy HF (yfa 5 rfl (HF.ev rfl)) ?_;clear HF a;intro a HF
     refine zy HF (ylo (v := .int .i64 t.fDepth) rfl (HF.ev rfl) (((HS.out.box 1 rfl).cell 5).trans rfl)) ?_;clear HF a;intro a HF
     refine za HF ?_;clear HF a;intro a HF
     refine wl_ne ?_
     refine wp_block ?_
     replace HS:=Bx.mk (HS.out.pick 0 rfl)
     refine wc_loop (ι := Nat) (fun n a w => ∃ (ao : Option Addr) (cp : Nat) (xs : List PtrD), (downL (kids st) (depthN t.fMany) [t.fRoot] = downL (kids st) n xs ∧ xs.length * 4 ^ n ≤ 16 ∧ (∀ p ∈ xs, p.ok = true) ∧ n ≤ 2) ∧ Fr 112 a [(0, .pointer (some ⟨b, 0, none⟩)), (1, tV t), (3, .pointer (some ⟨b1, 0, none⟩)), (4, .slice none 0 0), (5, .bool false), (6, .slice ao xs.length cp), (7, .int .i64 (n : Int))] ∧ St w0 ([rowA PtrD.cells 5 43 (.slice ao xs.length cp) xs, boxA b1 7 45 (tV t)]) w) (fun n => n) (depthN t.fMany) ⟨_, _, [t.fRoot], ⟨rfl, by simpa using pow4 (depthN_le t.fMany), (fun p hp => by rw [List.mem_singleton.1 hp]; exact hok), depthN_le _⟩, HF.less _ ⟨rfl, rfl, rfl, rfl, rfl, rfl, (by show some (Value.int .i64 _) = some (Value.int .i64 _); exact congrArg (fun z => some (Value.int .i64 z)) hdep), trivial⟩, HS.out⟩ ?_
     clear HF HS; clear a
     rintro n a w7 ⟨ao, cp, xs, ⟨hd, hp4, hoks, hn2⟩, HF, HS⟩
     replace HS := Bx.mk HS
     have hx16 := pow4_le hp4
     refine wp_seq ?_
     refine wp_sr ?_
     refine zr 2 HF rfl ?_;clear HF a;intro a HF
     refine wl_ne ?_
     refine HF.cases 51 rfl (fun cc5 _ => ?_) fun cc5 _ => ?_
     ·clear HF;rename_i HF
      have dcc5 := of_decide_eq_true cc5
      obtain ⟨n, rfl⟩ : ∃ m, n = m + 1 := ⟨n - 1, by omega⟩
      refine wc_true HF rfl ?_
      refine wp_skip ?_
      refine ex_then ?_
      refine wp_seq ?_
      refine wp_block ?_
      refine wp_sr ?_
      refine za HF ?_;clear HF a;intro a HF
      refine wl_ne ?_
      refine wp_seq ?_
      refine wp_sr ?_
      refine zm HF ?_;clear HF a;intro a HF
      refine zy HF (yl_lenL (e := 43) (size := 5) rfl (HF.ev rfl) (by kernel_rfl)) ?_;clear HF a;intro a HF
      refine zm HF ?_;clear HF a;intro a HF
      refine wl_ne ?_
      refine wp_block ?_
      replace HS := Bx.mk (HS.out.nilRow PtrD.cells 5 43 none)
      refine wc_loop (ι := Nat) (fun i a w => ∃ (ay : Option Addr) (cy : Nat) (ys : List PtrD), (i ≤ xs.length ∧ nextL (fun p => kids st p ((n + 1 : Nat) : Int)) xs = (nextL (fun p => kids st p ((n + 1 : Nat) : Int)) (xs.drop i)).map (ys ++ ·) ∧ ys.length = 4 * i ∧ ∀ p ∈ ys, p.ok = true) ∧ Fr 112 a [(0, .pointer (some ⟨b, 0, none⟩)), (1, tV t), (3, .pointer (some ⟨b1, 0, none⟩)), (4, .slice none 0 0), (5, .bool false), (6, .slice ao xs.length cp), (7, .int .i64 ((n + 1 : Nat) : Int)), (54, .slice ao xs.length cp), (55, .int .i64 (xs.length : Int)), (8, .slice ay ys.length cy), (56, .int .i64 (i : Int))] ∧ St w0 ([rowA PtrD.cells 5 43 (.slice ay ys.length cy) ys, rowA PtrD.cells 5 43 (.slice ao xs.length cp) xs, boxA b1 7 45 (tV t)]) w) (fun i => xs.length - i) 0 ⟨_, _, [], ⟨Nat.zero_le _, next_begin, rfl, (fun p hp => nomatch hp)⟩, HF.less _ ⟨rfl, rfl, rfl, rfl, rfl, rfl, rfl, rfl, rfl, rfl, rfl, trivial⟩, HS.out⟩ ?_
      clear HF HS; clear a
      rintro i a w8 ⟨ay, cy, ys, ⟨hi, hnx, hyl, hoky⟩, HF, HS⟩
      replace HS := Bx.mk HS
      refine wp_sr ?_
      refine zy HF (yl_lssI rfl (HF.ev rfl) (HF.ev rfl)) ?_;clear HF a;intro a HF
      refine wl_ne ?_
      refine wp_seq ?_
      refine HF.cases 57 rfl (fun cc6 _ => ?_) fun cc6 _ => ?_
      ·clear HF;rename_i HF
       have dcc6 := of_decide_eq_true cc6
       refine wc_true HF rfl ?_
       refine wp_skip ?_
       refine ex_then ?_
       refine wp_seq ?_
       refine wp_block ?_
       refine wp_seq ?_
       obtain ⟨g3, rfl, _, _, _, _⟩ := HS.out.rowOpen 1 rfl (by omega)
       refine wp_region_lit ?_
       refine zy HF (yl_indexAddr (e := 43) (i := i) (size := 5) rfl (HF.ev rfl) (HF.ev rfl) (by kernel_rfl) rfl (by omega)) ?_;clear HF a;intro a HF
       refine zy HF (ylr (cs := [.int .i64 ((xs.getD i PtrD.zero).fAt), .int .i64 ((xs.getD i PtrD.zero).fBirth), .int .i64 ((xs.getD i PtrD.zero).fSize), .int .i64 ((xs.getD i PtrD.zero).fSum), .int .i64 ((xs.getD i PtrD.zero).fLevel)]) rfl (HF.ev rfl) (HS.out.elem PtrD.cells_len 1 rfl (get_getD (xs := xs) (j := i) (d := PtrD.zero) (by omega)))) ?_;clear HF a;intro a HF
       refine wl_alloc rfl HF rfl rfl rfl (Z := [.int .i64 0, .int .i64 0, .int .i64 0, .int .i64 0, .int .i64 0]) (by kernel_rfl) rfl HS.out ?_; clear HF HS a; intro a w9 b4 HF HS; replace HS := Bx.mk HS
       refine wl_storeBox rfl HF rfl rfl (HF.ev rfl) (HF.ev rfl) HS.out 0 rfl (cells_lit [.int .i64 ((xs.getD i PtrD.zero).fAt), .int .i64 ((xs.getD i PtrD.zero).fBirth), .int .i64 ((xs.getD i PtrD.zero).fSize), .int .i64 ((xs.getD i PtrD.zero).fSum), .int .i64 ((xs.getD i PtrD.zero).fLevel)] rfl rfl) (by kernel_rfl) ?_; clear HS; intro w10 HS; replace HS := Bx.mk HS
       try dsimp only [List.set] at HS
       refine wl_ne ?_
       refine wp_sr ?_
       refine zm HF ?_;clear HF a;intro a HF
       refine zy HF (ylr (cs := [.int .i64 ((xs.getD i PtrD.zero).fAt), .int .i64 ((xs.getD i PtrD.zero).fBirth), .int .i64 ((xs.getD i PtrD.zero).fSize), .int .i64 ((xs.getD i PtrD.zero).fSum), .int .i64 ((xs.getD i PtrD.zero).fLevel)]) rfl (HF.ev rfl) ((HS.out.box 0 rfl).sub 0 5)) ?_;clear HF a;intro a HF
       refine zm HF ?_;clear HF a;intro a HF
       refine wl_call rfl HF rfl (enter_of Tryz.func83 (by kernel_rfl) rfl) (args := #[.pointer (some ⟨b, 0, none⟩), pV (xs.getD i PtrD.zero), .int .i64 ((n + 1 : Nat) : Int)]) rfl (fanOf_any a0 c0 a1 c1 a2 c2 a4 c4 a6 c6 st (xs.getD i PtrD.zero) ((n + 1 : Nat) : Int) b _ (HT.out.below HS.out.bel) (HM.out.below HS.out.bel) (HE.out.below HS.out.bel) (HB.out.below HS.out.bel (Nat.le_refl _)) (HR.out.below HS.out.bel) hrow (hoks _ (getD_mem (by omega)))) rfl rfl ?_
       rintro _ w11 (⟨l5, hk5, ao5, cp5, rfl, hs1⟩ | ⟨hk5, ao5, nn5, cp5, rfl, hb⟩)
       ·skip
        have hll5 := kids_len hk5
        refine ⟨_, rfl, ?_⟩; replace HS := Bx.mk (HS.out.add hs1);clear hs1 HF a;intro a HF
        try dsimp only [List.eraseIdx] at HS
        refine zr 5 HF rfl ?_;clear HF a;intro a HF
        refine wl_ne ?_
        refine wp_seq ?_
        refine wp_sr ?_
        refine zr 2 HF rfl ?_;clear HF a;intro a HF
        refine wl_ne ?_
        refine wc_false HF rfl ?_
        refine wp_skip ?_
        refine ex_then ?_
        refine wp_region_lit ?_
        refine zr 2 HF rfl ?_;clear HF a;intro a HF
        refine wl_appL rfl HF rfl rfl rfl (HF.ev rfl) (HF.ev rfl) elemQ PtrD.cells_len HS.out 2 (xs := ys) rfl (ys := l5) (St.rdOf HS.out PtrD.cells_len 0 rfl) (cells_one_Q _) (by unfold maxLen; (try simp only [List.length_append, List.length_cons, List.length_nil, List.nil_append, List.length_map]); omega) (by (try simp only [List.length_append, List.length_cons, List.length_nil, List.nil_append, List.length_map]); omega) ?_; clear HF HS a; intro ao6 cp7 w12 a HF HS; replace HS := Bx.mk HS
        try dsimp only [List.eraseIdx] at HS
        refine za HF ?_;clear HF a;intro a HF
        refine wpList_nil ?_
        refine ex_block ?_
        refine ex_then ?_
        refine wp_region_lit ?_
        refine zy HF (yl_addI rfl (HF.ev rfl) (HF.ev rfl) (i64w (by omega))) ?_;clear HF a;intro a HF
        refine zm HF ?_;clear HF a;intro a HF
        refine wl_ne ?_
        have hz : ys.length + l5.length = (ys ++ l5).length := (List.length_append ..).symm
        rw [hz] at HS HF
        have hl4 := kids_len hk5; have hyl2 : (ys ++ l5).length = 4 * (i + 1) := by rw [List.length_append]; omega
        have hoky2 : ∀ p ∈ ys ++ l5, p.ok = true := fun p hp => (List.mem_append.1 hp).elim (hoky p) ((kids_are hk5).2.1 p)
        replace HS:=Bx.mk (((HS.out.pick 4 rfl).pick 4 rfl).pick 4 rfl)
        exact ⟨i + 1, ⟨_, _, ys ++ l5, ⟨by omega, next_step hnx (by omega) hk5, hyl2, hoky2⟩, HF.less _ ⟨rfl, rfl, rfl, rfl, rfl, rfl, rfl, rfl, rfl, rfl, rfl, trivial⟩, ((HS.out.erase 4).erase 3)⟩, (by omega)⟩
       ·skip
        refine ⟨_, rfl, ?_⟩; replace HS := Bx.mk (HS.out.later hb);clear hb HF a;intro a HF
        refine zr 5 HF rfl ?_;clear HF a;intro a HF
        refine wl_ne ?_
        refine wp_seq ?_
        refine wp_sr ?_
        refine zr 2 HF rfl ?_;clear HF a;intro a HF
        refine wl_ne ?_
        refine wc_true HF rfl ?_
        refine wp_sr ?_
        refine zr 2 HF rfl ?_;clear HF a;intro a HF
        refine wl_ne ?_
        refine wp_ret ?_
        refine ex_then_ret ?_
        refine ex_block_ret ?_
        refine ex_then_ret ?_
        refine ex_then_ret ?_
        refine ex_block_ret ?_
        refine ex_then_ret ?_
        refine ex_block_ret ?_
        refine ex_then_ret ?_
        refine ex_then_ret ?_
        refine ex_block_ret ?_
        refine ex_then_ret ?_
        refine bp_ret2 HF Tryz.results44 (HF.res rfl) (HF.res rfl) ?_
        exact .inr ⟨leavesF_down (hd.trans (downL_no (next_stop hnx (by omega) hk5))), rfl, HS.out.bel⟩
      ·clear HF;rename_i HF
       have dcc6 := of_decide_eq_false cc6
       refine wc_false HF rfl ?_
       refine wp_exit ?_
       refine ex_then_exit ?_
       refine ex_then_exit ?_
       refine ex_block_hit ?_
       refine ex_then ?_
       refine wp_region_lit ?_
       refine zr 2 HF rfl ?_;clear HF a;intro a HF
       refine wpList_nil ?_
       refine ex_block ?_
       refine ex_then ?_
       refine wp_region_lit ?_
       refine zm HF ?_;clear HF a;intro a HF
       refine zy HF (yl_subI (r := (n : Int)) rfl (HF.ev rfl) (HF.ev rfl) ((i64w (by omega)).trans (by omega))) ?_;clear HF a;intro a HF
       refine za HF ?_;clear HF a;intro a HF
       refine wl_ne ?_
       replace HS:=Bx.mk ((HS.out.pick 2 rfl).pick 1 rfl)
       exact ⟨n, ⟨_, _, ys, ⟨(hd.trans (downL_yes (next_end hnx (by omega)))), pow4_step hp4 hyl (by omega), hoky, by omega⟩, HF.less _ ⟨rfl, rfl, rfl, rfl, rfl, rfl, rfl, trivial⟩, (HS.out.erase 2)⟩, (Nat.lt_succ_self _)⟩
     ·clear HF;rename_i HF
      have dcc5 := of_decide_eq_false cc5
      obtain rfl : n = 0 := by omega
      refine wc_false HF rfl ?_
      refine wp_exit ?_
      refine ex_then_exit ?_
      refine ex_then_exit ?_
      refine ex_block_hit ?_
      refine ex_then ?_
      refine wp_seq ?_
      refine wp_sr ?_
      refine zm HF ?_;clear HF a;intro a HF
      refine zy HF (yl_lenL (e := 43) (size := 5) rfl (HF.ev rfl) (by kernel_rfl)) ?_;clear HF a;intro a HF
      refine zm HF ?_;clear HF a;intro a HF
      refine wl_ne ?_
      refine wp_block ?_
      refine wc_loop (ι := Nat) (fun i a w => (i ≤ xs.length ∧ leavesB st t.fMany 0 xs = leavesB st t.fMany i (xs.drop i)) ∧ Fr 112 a [(0, .pointer (some ⟨b, 0, none⟩)), (1, tV t), (3, .pointer (some ⟨b1, 0, none⟩)), (4, .slice none 0 0), (5, .bool false), (6, .slice ao xs.length cp), (74, .slice ao xs.length cp), (75, .int .i64 (xs.length : Int)), (76, .int .i64 (i : Int))] ∧ St w0 ([rowA PtrD.cells 5 43 (.slice ao xs.length cp) xs, boxA b1 7 45 (tV t)]) w) (fun i => xs.length - i) 0 ⟨⟨Nat.zero_le _, by rw [List.drop_zero]⟩, HF.less _ ⟨rfl, rfl, rfl, rfl, rfl, rfl, rfl, rfl, rfl, trivial⟩, HS.out⟩ ?_
      clear HF HS; clear a
      rintro i a w13 ⟨⟨hi, hlv⟩, HF, HS⟩
      replace HS := Bx.mk HS
      refine wp_sr ?_
      refine zy HF (yl_lssI rfl (HF.ev rfl) (HF.ev rfl)) ?_;clear HF a;intro a HF
      refine wl_ne ?_
      refine wp_seq ?_
      refine HF.cases 77 rfl (fun cc7 _ => ?_) fun cc7 _ => ?_
      ·clear HF;rename_i HF
       have dcc7 := of_decide_eq_true cc7
       refine wc_true HF rfl ?_
       refine wp_skip ?_
       refine ex_then ?_
       refine wp_seq ?_
       refine wp_block ?_
       refine wp_seq ?_
       obtain ⟨g8, rfl, _, _, _, _⟩ := HS.out.rowOpen 0 rfl (by omega)
       refine wp_region_lit ?_
       refine zm HF ?_;clear HF a;intro a HF
       refine zy HF (yl_indexAddr (e := 43) (i := i) (size := 5) rfl (HF.ev rfl) (HF.ev rfl) (by kernel_rfl) rfl (by omega)) ?_;clear HF a;intro a HF
       refine zy HF (ylr (cs := [.int .i64 ((xs.getD i PtrD.zero).fAt), .int .i64 ((xs.getD i PtrD.zero).fBirth), .int .i64 ((xs.getD i PtrD.zero).fSize), .int .i64 ((xs.getD i PtrD.zero).fSum), .int .i64 ((xs.getD i PtrD.zero).fLevel)]) rfl (HF.ev rfl) (HS.out.elem PtrD.cells_len 0 rfl (get_getD (xs := xs) (j := i) (d := PtrD.zero) (by omega)))) ?_;clear HF a;intro a HF
       refine wl_alloc rfl HF rfl rfl rfl (Z := [.int .i64 0, .int .i64 0, .int .i64 0, .int .i64 0, .int .i64 0]) (by kernel_rfl) rfl HS.out ?_; clear HF HS a; intro a w14 b9 HF HS; replace HS := Bx.mk HS
       refine za HF ?_;clear HF a;intro a HF
       refine wl_storeBox rfl HF rfl rfl (HF.ev rfl) (HF.ev rfl) HS.out 0 rfl (cells_lit [.int .i64 ((xs.getD i PtrD.zero).fAt), .int .i64 ((xs.getD i PtrD.zero).fBirth), .int .i64 ((xs.getD i PtrD.zero).fSize), .int .i64 ((xs.getD i PtrD.zero).fSum), .int .i64 ((xs.getD i PtrD.zero).fLevel)] rfl rfl) (by kernel_rfl) ?_; clear HS; intro w15 HS; replace HS := Bx.mk HS
       try dsimp only [List.set] at HS
       refine wl_ne ?_
       refine wp_sr ?_
       refine zm HF ?_;clear HF a;intro a HF
       refine zy HF (ylr (cs := [.int .i64 ((xs.getD i PtrD.zero).fAt), .int .i64 ((xs.getD i PtrD.zero).fBirth), .int .i64 ((xs.getD i PtrD.zero).fSize), .int .i64 ((xs.getD i PtrD.zero).fSum), .int .i64 ((xs.getD i PtrD.zero).fLevel)]) rfl (HF.ev rfl) ((HS.out.box 0 rfl).sub 0 5)) ?_;clear HF a;intro a HF
       refine wl_callB rfl HF rfl (enter_of Tryz.func66 (by kernel_rfl) rfl) (args := #[.pointer (some ⟨b, 0, none⟩), pV (xs.getD i PtrD.zero)]) rfl (v := .tuple #[.string (readT st (xs.getD i PtrD.zero)), .bool (readB st (xs.getD i PtrD.zero))]) ((stRead_any a0 c0 a1 c1 a2 c2 a4 c4 a6 c6 st (xs.getD i PtrD.zero) b _ (HB.out.below HS.out.bel (Nat.le_refl _)) (HR.out.below HS.out.bel) hrow (hoks _ (getD_mem (by omega))))) rfl rfl HS.out ?_; clear HF HS a; intro w16 a HS HF; replace HS := Bx.mk HS
       refine zr 5 HF rfl ?_;clear HF a;intro a HF
       refine wl_ne ?_
       refine wp_sr ?_
       refine zr 3 HF rfl ?_;clear HF a;intro a HF
       refine HF.cases 89 rfl (fun cc8 _ => ?_) fun cc8 _ => ?_
       ·clear HF;rename_i HF
        refine zr 15 HF rfl ?_;clear HF a;intro a HF
        refine wl_ne ?_
        refine wc_true HF rfl ?_
        refine wp_sr ?_
        refine zr 2 HF rfl ?_;clear HF a;intro a HF
        refine wl_ne ?_
        refine wp_ret ?_
        refine ex_block_ret ?_
        refine ex_then_ret ?_
        refine ex_then_ret ?_
        refine ex_block_ret ?_
        refine ex_then_ret ?_
        refine bp_ret2 HF Tryz.results44 (HF.res rfl) (HF.res rfl) ?_
        have hd0 : downL (kids st) (depthN t.fMany) [t.fRoot] = some xs := hd; have hst := leaves_step hlv (show i < xs.length by omega)
        rw [leafB_read (p := (xs.getD i PtrD.zero)) (by simpa using cc8)] at hst
        exact .inr ⟨leavesF_bad hd0 hst, rfl, HS.out.bel⟩
       ·clear HF;rename_i HF
        refine zg HF (yfa 4 rfl (HF.ev rfl)) ?_;clear HF a;intro a HF
        refine zg HF (ylo (v := .int .i64 ((xs.getD i PtrD.zero).fLevel)) rfl (HF.ev rfl) (((HS.out.box 0 rfl).cell 4).trans rfl)) ?_;clear HF a;intro a HF
        refine zr 3 HF rfl ?_;clear HF a;intro a HF
        refine HF.cases 94 rfl (fun cc9 _ => ?_) fun cc9 _ => ?_
        ·clear HF;rename_i HF
         have dcc9 := bne_iff_ne.1 cc9
         refine zr 10 HF rfl ?_;clear HF a;intro a HF
         refine wl_ne ?_
         refine wc_true HF rfl ?_
         refine wp_sr ?_
         refine zr 2 HF rfl ?_;clear HF a;intro a HF
         refine wl_ne ?_
         refine wp_ret ?_
         refine ex_block_ret ?_
         refine ex_then_ret ?_
         refine ex_then_ret ?_
         refine ex_block_ret ?_
         refine ex_then_ret ?_
         refine bp_ret2 HF Tryz.results44 (HF.res rfl) (HF.res rfl) ?_
         have hd0 : downL (kids st) (depthN t.fMany) [t.fRoot] = some xs := hd; have hst := leaves_step hlv (show i < xs.length by omega)
         rw [leafB_level (p := (xs.getD i PtrD.zero)) (by simpa using dcc9)] at hst
         exact .inr ⟨leavesF_bad hd0 hst, rfl, HS.out.bel⟩
        ·clear HF;rename_i HF
         have dcc9 := bne_eq_false_iff_eq.1 cc9
         refine zg HF (yl_move rfl (HF.ev rfl)) ?_;clear HF a;intro a HF
         refine zg HF (yfa 6 rfl (HF.ev rfl)) ?_;clear HF a;intro a HF
         refine zg HF (ylo (v := .int .i64 t.fMany) rfl (HF.ev rfl) (((HS.out.box 2 rfl).cell 6).trans rfl)) ?_;clear HF a;intro a HF
         refine zr 2 HF rfl ?_;clear HF a;intro a HF
         refine HF.cases 99 rfl (fun cc10 _ => ?_) fun cc10 _ => ?_
         ·clear HF;rename_i HF
          have dcc10 := of_decide_eq_true cc10
          refine zg HF (ylr (cs := [.int .i64 ((xs.getD i PtrD.zero).fAt), .int .i64 ((xs.getD i PtrD.zero).fBirth), .int .i64 ((xs.getD i PtrD.zero).fSize), .int .i64 ((xs.getD i PtrD.zero).fSum), .int .i64 ((xs.getD i PtrD.zero).fLevel)]) rfl (HF.ev rfl) ((HS.out.box 0 rfl).sub 0 5)) ?_;clear HF a;intro a HF
          refine wl_callBg HF rfl rfl rfl rfl (enter_of Tryz.func45 (by kernel_rfl) rfl) (args := #[pV (xs.getD i PtrD.zero)]) rfl (v := .bool ((xs.getD i PtrD.zero).hole)) (implHole_any (xs.getD i PtrD.zero) _) rfl rfl HS.out ?_; clear HF HS a; intro w17 a HS HF; replace HS := Bx.mk HS
          refine zr 3 HF rfl ?_;clear HF a;intro a HF
          refine wl_ne ?_
          refine HF.cases 104 rfl (fun cc11 _ => ?_) fun cc11 _ => ?_
          ·clear HF;rename_i HF
           refine wc_true HF rfl ?_
           refine wp_sr ?_
           refine zr 2 HF rfl ?_;clear HF a;intro a HF
           refine wl_ne ?_
           refine wp_ret ?_
           refine ex_block_ret ?_
           refine ex_then_ret ?_
           refine ex_then_ret ?_
           refine ex_block_ret ?_
           refine ex_then_ret ?_
           refine bp_ret2 HF Tryz.results44 (HF.res rfl) (HF.res rfl) ?_
           have hd0 : downL (kids st) (depthN t.fMany) [t.fRoot] = some xs := hd; have hst := leaves_step hlv (show i < xs.length by omega)
           rw [leafB_out (p := (xs.getD i PtrD.zero)) (by simpa using cc11) (by omega)] at hst
           exact .inr ⟨leavesF_bad hd0 hst, rfl, HS.out.bel⟩
          ·clear HF;rename_i HF
           refine wc_false HF rfl ?_
           refine wp_skip ?_
           refine ex_block ?_
           refine ex_then ?_
           refine wp_region_lit ?_
           refine zy HF (yl_addI rfl (HF.ev rfl) (HF.ev rfl) (i64w (by omega))) ?_;clear HF a;intro a HF
           refine zm HF ?_;clear HF a;intro a HF
           refine wl_ne ?_
           have hst := leaves_step hlv (show i < xs.length by omega)
           rw [leafB_yes (p := (xs.getD i PtrD.zero)) (by simpa using cc8) (by simpa using cc9) (.inl (by simpa using cc11)), Bool.true_and] at hst
           replace HS:=Bx.mk ((HS.out.pick 2 rfl).pick 2 rfl)
           exact ⟨i + 1, ⟨⟨by omega, hst⟩, HF.less _ ⟨rfl, rfl, rfl, rfl, rfl, rfl, rfl, rfl, rfl, trivial⟩, (HS.out.erase 2)⟩, (by omega)⟩
         ·clear HF;rename_i HF
          have dcc10 := of_decide_eq_false cc10
          refine zr 5 HF rfl ?_;clear HF a;intro a HF
          refine wl_ne ?_
          refine wc_false HF rfl ?_
          refine wp_skip ?_
          refine ex_block ?_
          refine ex_then ?_
          refine wp_region_lit ?_
          refine zy HF (yl_addI rfl (HF.ev rfl) (HF.ev rfl) (i64w (by omega))) ?_;clear HF a;intro a HF
          refine zm HF ?_;clear HF a;intro a HF
          refine wl_ne ?_
          have hst := leaves_step hlv (show i < xs.length by omega)
          rw [leafB_yes (p := (xs.getD i PtrD.zero)) (by simpa using cc8) (by simpa using cc9) (.inr (by omega)), Bool.true_and] at hst
          replace HS:=Bx.mk ((HS.out.pick 2 rfl).pick 2 rfl)
          exact ⟨i + 1, ⟨⟨by omega, hst⟩, HF.less _ ⟨rfl, rfl, rfl, rfl, rfl, rfl, rfl, rfl, rfl, trivial⟩, (HS.out.erase 2)⟩, (by omega)⟩
      ·clear HF;rename_i HF
       have dcc7 := of_decide_eq_false cc7
       refine wc_false HF rfl ?_
       refine wp_exit ?_
       refine ex_then_exit ?_
       refine ex_then_exit ?_
       refine ex_block_hit ?_
       refine ex_then ?_
       refine wp_seq ?_
       have hall := leaves_end hlv (by omega); have hd0 : downL (kids st) (depthN t.fMany) [t.fRoot] = some xs := hd; have hxl : xs.length = 4 ^ depthN t.fMany := by rw [downL_len (fun p n k => kids_len) hd0]; simp
       have hfan := depthN_fan hin.2; have htk : (xs.take t.fMany.toNat).length = t.fMany.toNat := by rw [List.length_take]; omega
       have hmle : t.fMany.toNat ≤ xs.length := by omega
       refine wp_region_lit ?_
       refine zm HF ?_;clear HF a;intro a HF
       refine zy HF (yfa 6 rfl (HF.ev rfl)) ?_;clear HF a;intro a HF
       refine zy HF (ylo (v := .int .i64 t.fMany) rfl (HF.ev rfl) (((HS.out.box 1 rfl).cell 6).trans rfl)) ?_;clear HF a;intro a HF
       refine zy HF (yfa 6 rfl (HF.ev rfl)) ?_;clear HF a;intro a HF
       refine zy HF (ylo (v := .int .i64 t.fMany) rfl (HF.ev rfl) (((HS.out.box 1 rfl).cell 6).trans rfl)) ?_;clear HF a;intro a HF
       refine zy HF (yl_sliceH3 (e := 43) (size := 5) (k := t.fMany.toNat) rfl (HF.ev rfl) (HF.ev rfl) (HF.ev rfl) (by kernel_rfl) (by omega) (by omega) (Nat.le_trans (by omega) (St.capLe HS.out 0 rfl))) ?_;clear HF a;intro a HF
       refine zr 2 HF rfl ?_;clear HF a;intro a HF
       refine wl_ne ?_
       refine wp_ret ?_
       refine bp_ret2 HF Tryz.results44 (HF.res rfl) (HF.res rfl) ?_
       replace HS:=Bx.mk (HS.out.pick 0 rfl)
       have hh := HS.out.hold (P := fun w => Rd PtrD.cells 5 w ao (xs.take t.fMany.toNat).length (xs.take t.fMany.toNat)) (fun w f h => by rw [htk]; exact (row_reads PtrD.cells_len h).take hmle)
       exact .inl ⟨xs.take t.fMany.toNat, leavesF_yes htop hd0 hall, ao, by rw [htk], (hh.erase 1)⟩

theorem leavesF_16 {st : StoreD} {t : TreeD} {l : List PtrD} (h : leavesF st t = some l) : l.length ≤ 16 := by
  obtain ⟨x, ht, hd, _, rfl, hx, hn⟩ := leavesF_is h
  unfold topB at ht
  rw [Bool.and_eq_true] at ht
  have := inB_true ht.1
  omega
end Go.Proofs.YtgaodbdadncfhaaGreatDoor

/- Pieces of files: walked. -/
namespace Go.Proofs.YtgaodbdadncfhaaGreatDoor
set_option linter.unusedVariables false
set_option linter.unusedSimpArgs false
set_option maxHeartbeats 1000000
set_option maxRecDepth 100000
open Go.RowKit

theorem hasZ_any (s : ByteArray) (w0 : World) (hs : s.size ≤ 1000000) : Calls Tryz.prog 69 #[.string s, .string ⟨#[0]⟩] w0 fun e w' => e = .returned (.bool (lastZ s)) ∧ Below w0.heap.size w0 w' := by
  refine (Go.Proofs.Any.strings_HasSuffix layHasSuf s ⟨#[0]⟩ w0 (by omega)).mono ?_
  rintro e w' ⟨rfl, rfl⟩
  exact ⟨by rw [← suffix_last s], Below.refl _ _⟩
theorem repZ_any (n : Nat) (w0 : World) (hn : n ≤ 1000000) : Calls Tryz.prog 99 #[.string ⟨#[0]⟩, .int .i64 (n : Int)] w0 fun e w' => e = .returned (.string (zerosB n)) ∧ Below w0.heap.size w0 w' := by
  refine (Go.Proofs.Any.strings_Repeat layRepeat layBXR ⟨#[0]⟩ n w0 (by omega) (by show 1 * n ≤ _; omega)).mono ?_
  rintro e w' ⟨rfl, hb⟩
  refine ⟨?_, hb⟩
  show Ending.returned (.string ⟨(Go.Lib.repeatL (List.replicate 1 (0 : UInt8)) n).toArray⟩) = _
  rw [Go.Lib.repeatL_replicate, Nat.mul_one]; rfl

theorem pieceSize_any (size : Int) (k : Nat) (w0 : World) (hk : k ≤ 16) (hs : 0 ≤ size ∧ size ≤ 1000000) : Calls Tryz.prog 68 #[.int .i64 size, .int .i64 (k : Int)] w0 fun e w' => e = .returned (.int .i64 (longN size k : Int)) ∧ Below w0.heap.size w0 w' := by
 have HS := Bx.mk (St.start w0)
 refine wc_enter Tryz.func68 rfl Tryz.ntmps68 [(0, .int .i64 size), (1, .int .i64 (k : Int))] ⟨rfl, rfl, trivial⟩ rfl ?_; intro a HF
 refine wp_sr ?_
 refine za HF ?_;clear HF a;intro a HF
 refine wl_ne ?_
 refine wp_sr ?_
 refine zr 2 HF rfl ?_;clear HF a;intro a HF
 refine zy HF (yl_mulI rfl (HF.ev rfl) (HF.ev rfl) (i64w (by omega))) ?_;clear HF a;intro a HF
 refine zy HF (yl_subI rfl (HF.ev rfl) (HF.ev rfl) (i64w (by omega))) ?_;clear HF a;intro a HF
 refine zy HF (yl_minI rfl (HF.ev rfl) (HF.ev rfl)) ?_;clear HF a;intro a HF
 refine zy HF (yl_maxI rfl (HF.ev rfl) (HF.ev rfl)) ?_;clear HF a;intro a HF
 refine za HF ?_;clear HF a;intro a HF
 refine wl_ne ?_
 refine wp_ret ?_
 refine bp_ret1 HF Tryz.results68 (HF.res rfl) ?_
 exact ⟨by show Ending.returned (.int .i64 _) = Ending.returned (.int .i64 _); unfold longN; congr 2; omega, HS.out.bel⟩

theorem pieceFill_any (s : ByteArray) (n : Nat) (w0 : World) (hn : n ≤ 12) (hs : s.size ≤ 1000000) : Calls Tryz.prog 67 #[.string s, .int .i64 (n : Int)] w0 fun e w' => (s.size ≤ n ∧ e = .returned (.tuple #[.string (padB s n), .bool true]) ∧ Below w0.heap.size w0 w') ∨ (¬ s.size ≤ n ∧ e = .returned (.tuple #[.string ByteArray.empty, .bool false]) ∧ Below w0.heap.size w0 w') := by
 have HS := Bx.mk (St.start w0)
 refine wc_enter Tryz.func67 rfl Tryz.ntmps67 [(0, .string s), (1, .int .i64 (n : Int))] ⟨rfl, rfl, trivial⟩ rfl ?_; intro a HF
 refine wp_sr ?_
 refine zr 2 HF rfl ?_;clear HF a;intro a HF
 refine wl_ne ?_
 refine wp_seq ?_
 refine wp_sr ?_
 refine zm HF ?_;clear HF a;intro a HF
 refine wl_callB rfl HF rfl (enter_of Tryz.func48 (by kernel_rfl) rfl) (args := #[.int .i64 (n : Int), .int .i64 0, .int .i64 12]) rfl (v := .bool (inB (n : Int) 0 12)) (((within_any (n : Int) 0 12 _).mono fun _ _ h => ⟨h.1, h.2 ▸ Below.refl _ _⟩)) rfl rfl HS.out ?_; clear HF HS a; intro w1 a HS HF; replace HS := Bx.mk HS
 refine zr 2 HF rfl ?_;clear HF a;intro a HF
 refine HF.cases 9 rfl (fun cc1 _ => ?_) fun cc1 _ => ?_
 ·clear HF;rename_i HF
  refine zr 5 HF rfl ?_;clear HF a;intro a HF
  refine wl_ne ?_
  refine wc_true HF rfl ?_
  refine wp_sr ?_
  refine zr 2 HF rfl ?_;clear HF a;intro a HF
  refine wl_ne ?_
  refine wp_ret ?_
  refine ex_then_ret ?_
  refine bp_ret2 HF Tryz.results67 (HF.res rfl) (HF.res rfl) ?_
  exact absurd (inB_mk (n := (n : Int)) (lo := 0) (hi := 12) (by omega) (by omega)) (by simpa using cc1)
 ·clear HF;rename_i HF
  refine zg HF (yl_move rfl (HF.ev rfl)) ?_;clear HF a;intro a HF
  refine zg HF (yl_lenS rfl (HF.ev rfl) (by kernel_rfl)) ?_;clear HF a;intro a HF
  refine zr 3 HF rfl ?_;clear HF a;intro a HF
  refine wl_ne ?_
  refine HF.cases 14 rfl (fun cc2 _ => ?_) fun cc2 _ => ?_
  ·clear HF;rename_i HF
   have dcc2 := of_decide_eq_true cc2
   refine wc_true HF rfl ?_
   refine wp_sr ?_
   refine zr 2 HF rfl ?_;clear HF a;intro a HF
   refine wl_ne ?_
   refine wp_ret ?_
   refine ex_then_ret ?_
   refine bp_ret2 HF Tryz.results67 (HF.res rfl) (HF.res rfl) ?_
   exact .inr ⟨by omega, rfl, HS.out.bel⟩
  ·clear HF;rename_i HF
   have dcc2 := of_decide_eq_false cc2
   refine wc_false HF rfl ?_
   refine wp_skip ?_
   refine ex_then ?_
   refine wp_seq ?_
   have hz := zerosB_size (n - s.size)
   refine wp_region_lit ?_
   refine zr 3 HF rfl ?_;clear HF a;intro a HF
   refine zy HF (yl_lenS rfl (HF.ev rfl) (by kernel_rfl)) ?_;clear HF a;intro a HF
   refine zy HF (yl_subI (r := ((n - s.size : Nat) : Int)) rfl (HF.ev rfl) (HF.ev rfl) ((i64w (by omega)).trans (by omega))) ?_;clear HF a;intro a HF
   refine wl_callB rfl HF rfl (enter_of Tryz.func99 (by kernel_rfl) rfl) (args := #[.string (⟨#[0]⟩ : ByteArray), .int .i64 ((n - s.size : Nat) : Int)]) rfl (v := .string (zerosB (n - s.size))) (repZ_any (n - s.size) _ (by omega)) rfl rfl HS.out ?_; clear HF HS a; intro w2 a HS HF; replace HS := Bx.mk HS
   refine zy HF (yl_addS rfl (HF.ev rfl) (HF.ev rfl) (by omega)) ?_;clear HF a;intro a HF
   refine zr 2 HF rfl ?_;clear HF a;intro a HF
   refine wl_ne ?_
   refine wp_ret ?_
   refine bp_ret2 HF Tryz.results67 (HF.res rfl) (HF.res rfl) ?_
   exact .inl ⟨by omega, rfl, HS.out.bel⟩

end Go.Proofs.YtgaodbdadncfhaaGreatDoor

/- What a file tells, by the program: walked. -/
namespace Go.Proofs.YtgaodbdadncfhaaGreatDoor
set_option linter.unusedVariables false
set_option linter.unusedSimpArgs false
set_option maxHeartbeats 1000000
set_option maxRecDepth 100000
open Go.RowKit

theorem downK_ok {st : StoreD} : ∀ {n : Nat} {l m : List PtrD}, (∀ p ∈ l, p.ok = true) → downL (kids st) n l = some m → ∀ p ∈ m, p.ok = true
  | 0, l, m, h, hd => by obtain rfl : l = m := Option.some.inj hd; exact h
  | n + 1, l, m, h, hd => by
    cases hn : nextL (fun p => kids st p ((n + 1 : Nat) : Int)) l with
    | none => rw [downL_no hn] at hd; cases hd
    | some x =>
      rw [downL_yes hn] at hd
      refine downK_ok (fun q hq => ?_) hd
      obtain ⟨p, _, k, hk, hq⟩ := (nextL_mem hn).2.1 q hq
      exact (kids_are hk).2.1 q hq
theorem leaves_oks {st : StoreD} {t : TreeD} {l : List PtrD} (h : leavesF st t = some l) (hr : t.fRoot.ok = true) : ∀ p ∈ l, p.ok = true := by
  obtain ⟨x, _, hd, _, rfl, _, _⟩ := leavesF_is h
  exact fun p hp => downK_ok (fun q hq => by rw [List.mem_singleton.1 hq]; exact hr) hd p (List.mem_of_mem_take hp)

theorem stText_any (a0 : Option Addr) (c0 : Nat) (a1 : Option Addr) (c1 : Nat) (a2 : Option Addr) (c2 : Nat) (a4 : Option Addr) (c4 : Nat) (a6 : Option Addr) (c6 : Nat) (st : StoreD) (n : NodeD) (b : Nat) (w0 : World) (hT : TabP w0) (hM : MaxP w0) (hE : ErrP w0) (hB : Box w0 b 8 41 (sV a0 c0 a1 c1 a2 c2 a4 c4 a6 c6 st)) (hR : Rd encS 1 w0 a0 st.fRows.length st.fRows) (hrow : RowsOk st) : Calls Tryz.prog 37 #[.pointer (some ⟨b, 0, none⟩), nV n] w0 fun e w' => (∃ t, fileF st n = some t ∧ e = .returned (.tuple #[.string t, .bool true]) ∧ Below w0.heap.size w0 w') ∨ (fileF st n = none ∧ e = .returned (.tuple #[.string ByteArray.empty, .bool false]) ∧ Below w0.heap.size w0 w') := by
 have HT := Bx.mk hT; have HM := Bx.mk hM; have HE := Bx.mk hE; have HB := Bx.mk hB; have HR := Bx.mk hR; clear hT hM hE hB hR
 have HS := Bx.mk (St.start w0)
 refine wc_enter Tryz.func37 rfl Tryz.ntmps37 [(0, .pointer (some ⟨b, 0, none⟩)), (1, nV n)] ⟨rfl, rfl, trivial⟩ rfl ?_; intro a HF
 refine wp_sr ?_
 refine wl_box rfl HF rfl (HF.ev rfl) (Z := [.int .i64 n.fKind, .int .i64 n.fLinks, .int .i64 n.fSize, .int .i64 n.fTree.fRoot.fAt, .int .i64 n.fTree.fRoot.fBirth, .int .i64 n.fTree.fRoot.fSize, .int .i64 n.fTree.fRoot.fSum, .int .i64 n.fTree.fRoot.fLevel, .int .i64 n.fTree.fDepth, .int .i64 n.fTree.fMany]) rfl rfl rfl rfl HS.out ?_; clear HF HS a; intro a w1 b1 HF HS; replace HS := Bx.mk HS
 refine zr 2 HF rfl ?_;clear HF a;intro a HF
 refine wl_ne ?_
 refine wp_seq ?_
 refine wp_sr ?_
 refine zy HF (ylr (cs := [.int .i64 n.fKind, .int .i64 n.fLinks, .int .i64 n.fSize, .int .i64 n.fTree.fRoot.fAt, .int .i64 n.fTree.fRoot.fBirth, .int .i64 n.fTree.fRoot.fSize, .int .i64 n.fTree.fRoot.fSum, .int .i64 n.fTree.fRoot.fLevel, .int .i64 n.fTree.fDepth, .int .i64 n.fTree.fMany]) rfl (HF.ev rfl) ((HS.out.box 0 rfl).sub 0 10)) ?_;clear HF a;intro a HF
 refine wl_callB rfl HF rfl (enter_of Tryz.func65 (by kernel_rfl) rfl) (args := #[nV n]) rfl (v := .bool n.ok) (implNodeOk_any n _) rfl rfl HS.out ?_; clear HF HS a; intro w2 a HS HF; replace HS := Bx.mk HS
 refine zr 2 HF rfl ?_;clear HF a;intro a HF
 refine HF.cases 18 rfl (fun cc1 _ => ?_) fun cc1 _ => ?_
 ·clear HF;rename_i HF
  refine zr 4 HF rfl ?_;clear HF a;intro a HF
  refine wl_ne ?_
  refine wc_true HF rfl ?_
  refine wp_sr ?_
  refine zr 2 HF rfl ?_;clear HF a;intro a HF
  refine wl_ne ?_
  refine wp_ret ?_
  refine ex_then_ret ?_
  refine bp_ret2 HF Tryz.results37 (HF.res rfl) (HF.res rfl) ?_
  have ho : n.ok = false := by simpa using cc1
  exact .inr ⟨fileF_no (by rw [ho]; rfl), rfl, HS.out.bel⟩
 ·clear HF;rename_i HF
  refine zg HF (yfa 0 rfl (HF.ev rfl)) ?_;clear HF a;intro a HF
  refine zg HF (ylo (v := .int .i64 n.fKind) rfl (HF.ev rfl) (((HS.out.box 0 rfl).cell 0).trans rfl)) ?_;clear HF a;intro a HF
  refine zr 2 HF rfl ?_;clear HF a;intro a HF
  refine wl_ne ?_
  refine HF.cases 22 rfl (fun cc2 _ => ?_) fun cc2 _ => ?_
  ·clear HF;rename_i HF
   have dcc2 := bne_iff_ne.1 cc2
   refine wc_true HF rfl ?_
   refine wp_sr ?_
   refine zr 2 HF rfl ?_;clear HF a;intro a HF
   refine wl_ne ?_
   refine wp_ret ?_
   refine ex_then_ret ?_
   refine bp_ret2 HF Tryz.results37 (HF.res rfl) (HF.res rfl) ?_
   have ho : (n.fKind == 1) = false := by simpa using cc2
   exact .inr ⟨fileF_no (by rw [ho, Bool.and_false]), rfl, HS.out.bel⟩
  ·clear HF;rename_i HF
   have dcc2 := bne_eq_false_iff_eq.1 cc2
   refine wc_false HF rfl ?_
   refine wp_skip ?_
   refine ex_then ?_
   refine wp_seq ?_
   have hok : n.ok = true := by simpa using cc1
   have hkd : (n.ok && (n.fKind == 1)) = true := by rw [hok, Bool.true_and]; simpa using cc2
   have hsm := (NodeD.ok_is hok).small; have k1 := hsm.links; have k2 := hsm.size; have k3 := hsm.many; have k4 := hsm.depth; have k5 := hsm.kind; have hel := eachN_le n.fKind
   refine wp_region_lit ?_
   refine zm HF ?_;clear HF a;intro a HF
   refine zy HF (yfa 3 rfl (HF.ev rfl)) ?_;clear HF a;intro a HF
   refine zy HF (ylr (cs := [.int .i64 n.fTree.fRoot.fAt, .int .i64 n.fTree.fRoot.fBirth, .int .i64 n.fTree.fRoot.fSize, .int .i64 n.fTree.fRoot.fSum, .int .i64 n.fTree.fRoot.fLevel, .int .i64 n.fTree.fDepth, .int .i64 n.fTree.fMany]) rfl (HF.ev rfl) ((HS.out.box 0 rfl).sub 3 7)) ?_;clear HF a;intro a HF
   refine wl_call rfl HF rfl (enter_of Tryz.func44 (by kernel_rfl) rfl) (args := #[.pointer (some ⟨b, 0, none⟩), tV n.fTree]) rfl (leaves_any a0 c0 a1 c1 a2 c2 a4 c4 a6 c6 st n.fTree b _ (HT.out.below HS.out.bel) (HM.out.below HS.out.bel) (HE.out.below HS.out.bel) (HB.out.below HS.out.bel (Nat.le_refl _)) (HR.out.below HS.out.bel) hrow) rfl rfl ?_
   rintro _ w3 (⟨l, hlf, ao, rfl, hs1⟩ | ⟨hlf, rfl, hb⟩)
   ·skip
    refine ⟨_, rfl, ?_⟩; replace HS := Bx.mk (HS.out.add hs1);clear hs1 HF a;intro a HF
    try dsimp only [List.eraseIdx] at HS
    refine zr 5 HF rfl ?_;clear HF a;intro a HF
    refine wl_ne ?_
    refine wp_seq ?_
    refine wp_sr ?_
    refine zr 2 HF rfl ?_;clear HF a;intro a HF
    refine wl_ne ?_
    refine wc_false HF rfl ?_
    refine wp_skip ?_
    refine ex_then ?_
    refine wp_seq ?_
    replace HS:=Bx.mk ((HS.out.pick 1 rfl).pick 1 rfl)
    have hl16 := leavesF_16 hlf; have hoks := leaves_oks hlf (NodeD.ok_is hok).root
    have HB9 := Bx.mk ((HS.out.erase 1).erase 0); have HL9 := Bx.mk (HS.out.holds 0 rfl); have HN := Bx.mk (HS.out.box 1 rfl)
    replace HT := Bx.mk (HT.out.below HS.out.bel); replace HM := Bx.mk (HM.out.below HS.out.bel); replace HE := Bx.mk (HE.out.below HS.out.bel); replace HB := Bx.mk (HB.out.below HS.out.bel (Nat.le_refl _)); replace HR := Bx.mk (HR.out.below HS.out.bel)
    clear HS; rename World => w0; have HS := Bx.mk (St.start w0); obtain ⟨g7, o7, r7⟩ := HL9.out.opn; have RL := Bx.mk r7; clear r7
    refine wp_region_lit ?_
    refine wl_alloc rfl HF rfl rfl rfl (Z := [.pointer none, .slice none 0 0]) (by kernel_rfl) rfl HS.out ?_; clear HF HS a; intro a w4 b2 HF HS; replace HS := Bx.mk HS
    refine wl_ne ?_
    refine wp_seq ?_
    refine wp_sr ?_
    refine zm HF ?_;clear HF a;intro a HF
    refine zy HF (yl_lenL (e := 43) (size := 5) rfl (HF.ev rfl) (by kernel_rfl)) ?_;clear HF a;intro a HF
    refine zm HF ?_;clear HF a;intro a HF
    refine wl_ne ?_
    refine wp_block ?_
    replace HS := Bx.mk HS.out.bldNew
    refine wc_loop (ι := Nat) (fun i a w => ∃ (tx : ByteArray), (i ≤ l.length ∧ tx.size ≤ 12 * i ∧ fileL st n.fSize 0 l = (fileL st n.fSize i (l.drop i)).map (tx ++ ·)) ∧ Fr 64 a [(0, .pointer (some ⟨b, 0, none⟩)), (3, .pointer (some ⟨b1, 0, none⟩)), (8, .pointer (some ⟨b2, 0, none⟩)), (32, .slice ao l.length l.length), (33, .int .i64 (l.length : Int)), (34, .int .i64 (i : Int))] ∧ St w0 ([bldA b2 tx.data.toList]) w) (fun i => l.length - i) 0 ⟨⟨#[]⟩, ⟨Nat.zero_le _, Nat.le_refl _, file_begin⟩, HF.less _ ⟨rfl, rfl, rfl, rfl, rfl, rfl, trivial⟩, HS.out⟩ ?_
    clear HF HS; clear a
    rintro i a w5 ⟨tx, ⟨hi, htx, hfl⟩, HF, HS⟩
    replace HS := Bx.mk HS
    refine wp_sr ?_
    refine zy HF (yl_lssI rfl (HF.ev rfl) (HF.ev rfl)) ?_;clear HF a;intro a HF
    refine wl_ne ?_
    refine wp_seq ?_
    refine HF.cases 35 rfl (fun cc3 _ => ?_) fun cc3 _ => ?_
    ·clear HF;rename_i HF
     have dcc3 := of_decide_eq_true cc3
     refine wc_true HF rfl ?_
     refine wp_skip ?_
     refine ex_then ?_
     refine wp_seq ?_
     refine wp_block ?_
     refine wp_sr ?_
     refine zm HF ?_;clear HF a;intro a HF
     refine zy HF (yl_indexAddrR (e := 43) (i := i) (size := 5) rfl (HF.ev rfl) (HF.ev rfl) (by kernel_rfl) rfl (by omega) (RL.out.ao i (by omega))) ?_;clear HF a;intro a HF
     refine zy HF (ylr (cs := [.int .i64 ((l.getD i PtrD.zero).fAt), .int .i64 ((l.getD i PtrD.zero).fBirth), .int .i64 ((l.getD i PtrD.zero).fSize), .int .i64 ((l.getD i PtrD.zero).fSum), .int .i64 ((l.getD i PtrD.zero).fLevel)]) rfl (HF.ev rfl) (RL.out.elem HS.out (get_getD (xs := l) (j := i) (d := PtrD.zero) (by omega)))) ?_;clear HF a;intro a HF
     refine wl_alloc rfl HF rfl rfl rfl (Z := [.int .i64 0, .int .i64 0, .int .i64 0, .int .i64 0, .int .i64 0]) (by kernel_rfl) rfl HS.out ?_; clear HF HS a; intro a w6 b3 HF HS; replace HS := Bx.mk HS
     refine za HF ?_;clear HF a;intro a HF
     refine wl_storeBox rfl HF rfl rfl (HF.ev rfl) (HF.ev rfl) HS.out 0 rfl (cells_lit [.int .i64 ((l.getD i PtrD.zero).fAt), .int .i64 ((l.getD i PtrD.zero).fBirth), .int .i64 ((l.getD i PtrD.zero).fSize), .int .i64 ((l.getD i PtrD.zero).fSum), .int .i64 ((l.getD i PtrD.zero).fLevel)] rfl rfl) (by kernel_rfl) ?_; clear HS; intro w7 HS; replace HS := Bx.mk HS
     try dsimp only [List.set] at HS
     refine wl_ne ?_
     refine wp_seq ?_
     have hrt := readT_le hrow (l.getD i PtrD.zero)
     refine wp_region_lit ?_
     refine zm HF ?_;clear HF a;intro a HF
     refine zy HF (ylr (cs := [.int .i64 ((l.getD i PtrD.zero).fAt), .int .i64 ((l.getD i PtrD.zero).fBirth), .int .i64 ((l.getD i PtrD.zero).fSize), .int .i64 ((l.getD i PtrD.zero).fSum), .int .i64 ((l.getD i PtrD.zero).fLevel)]) rfl (HF.ev rfl) ((HS.out.box 0 rfl).sub 0 5)) ?_;clear HF a;intro a HF
     refine wl_callB rfl HF rfl (enter_of Tryz.func66 (by kernel_rfl) rfl) (args := #[.pointer (some ⟨b, 0, none⟩), pV (l.getD i PtrD.zero)]) rfl (v := .tuple #[.string (readT st (l.getD i PtrD.zero)), .bool (readB st (l.getD i PtrD.zero))]) ((stRead_any a0 c0 a1 c1 a2 c2 a4 c4 a6 c6 st (l.getD i PtrD.zero) b _ (HB.out.below HS.out.bel (Nat.le_refl _)) (HR.out.below HS.out.bel) hrow (hoks _ (getD_mem (by omega))))) rfl rfl HS.out ?_; clear HF HS a; intro w8 a HS HF; replace HS := Bx.mk HS
     refine zr 5 HF rfl ?_;clear HF a;intro a HF
     refine wl_ne ?_
     refine wp_sr ?_
     refine zm HF ?_;clear HF a;intro a HF
     refine zy HF (yfa 2 rfl (HF.ev rfl)) ?_;clear HF a;intro a HF
     refine zy HF (ylo (v := .int .i64 n.fSize) rfl (HF.ev rfl) (((HN.out.below HS.out.bel (Nat.le_refl _)).cell 2).trans rfl)) ?_;clear HF a;intro a HF
     refine zm HF ?_;clear HF a;intro a HF
     refine wl_callB rfl HF rfl (enter_of Tryz.func68 (by kernel_rfl) rfl) (args := #[.int .i64 n.fSize, .int .i64 (i : Int)]) rfl (v := .int .i64 (longN n.fSize i : Int)) (pieceSize_any n.fSize i _ (by omega) (by omega)) rfl rfl HS.out ?_; clear HF HS a; intro w9 a HS HF; replace HS := Bx.mk HS
     refine wl_call rfl HF rfl (enter_of Tryz.func67 (by kernel_rfl) rfl) (args := #[.string (readT st (l.getD i PtrD.zero)), .int .i64 (longN n.fSize i : Int)]) rfl (pieceFill_any (readT st (l.getD i PtrD.zero)) (longN n.fSize i) _ (longN_le _ _) hrt) rfl rfl ?_
     rintro _ w10 (⟨hle, rfl, hb⟩ | ⟨hle, rfl, hb⟩)
     ·skip
      refine ⟨_, rfl, ?_⟩; replace HS := Bx.mk (HS.out.later hb);clear hb HF a;intro a HF
      refine zr 5 HF rfl ?_;clear HF a;intro a HF
      refine wl_ne ?_
      refine wp_seq ?_
      refine wp_sr ?_
      refine zr 4 HF rfl ?_;clear HF a;intro a HF
      refine wl_callBg HF rfl rfl rfl rfl (enter_of Tryz.func69 (by kernel_rfl) rfl) (args := #[.string (readT st (l.getD i PtrD.zero)), .string (⟨#[0]⟩ : ByteArray)]) rfl (v := .bool (lastZ (readT st (l.getD i PtrD.zero)))) (hasZ_any (readT st (l.getD i PtrD.zero)) _ hrt) rfl rfl HS.out ?_; clear HF HS a; intro w11 a HS HF; replace HS := Bx.mk HS
      refine zy HF (yl_pick_f rfl (HF.ev rfl) (HF.ev rfl)) ?_;clear HF a;intro a HF
      refine wl_ne ?_
      refine HF.cases 59 rfl (fun cc4 _ => ?_) fun cc4 _ => ?_
      ·clear HF;rename_i HF
       refine wc_true HF rfl ?_
       refine wp_sr ?_
       refine zr 2 HF rfl ?_;clear HF a;intro a HF
       refine wl_ne ?_
       refine wp_ret ?_
       refine ex_then_ret ?_
       refine ex_block_ret ?_
       refine ex_then_ret ?_
       refine ex_then_ret ?_
       refine ex_block_ret ?_
       refine ex_then_ret ?_
       refine bp_ret2 HF Tryz.results37 (HF.res rfl) (HF.res rfl) ?_
       exact .inr ⟨by rw [fileF_yes hkd hlf]; exact file_stop hfl (by omega) (pieceB_zero (by simpa using cc4)), rfl, (HB9.out.later HS.out.bel).bel⟩
      ·clear HF;rename_i HF
       refine wc_false HF rfl ?_
       refine wp_skip ?_
       refine ex_then ?_
       replace HS:=Bx.mk (HS.out.pick 1 rfl)
       replace HS := Bx.mk (HS.out.erase 1); have hps := padB_size hle; have hln := longN_le n.fSize i; have htl : tx.data.toList.length = tx.size := (size_list tx).symm
       refine wp_region_lit ?_
       refine zm HF ?_;clear HF a;intro a HF
       replace HS:=Bx.mk (HS.out.pick 0 rfl)
       refine wl_call rfl HF rfl (enter_of Tryz.func70 (by kernel_rfl) rfl) (args := #[.pointer (some ⟨b2, 0, none⟩), .string (padB (readT st (l.getD i PtrD.zero)) (longN n.fSize i))]) rfl (writeS_any w0 _ b2 tx.data.toList (padB (readT st (l.getD i PtrD.zero)) (longN n.fSize i)) (by simp only [List.length_append, List.length_cons, List.length_nil, ← size_list]; omega) HS.out) rfl rfl ?_
       rintro _ w12 ⟨rfl, hs1⟩
       refine ⟨_, rfl, ?_⟩; replace HS := Bx.mk hs1;clear hs1 HF a;intro a HF
       try dsimp only [List.eraseIdx] at HS
       refine wpList_nil ?_
       refine ex_block ?_
       refine ex_then ?_
       refine wp_region_lit ?_
       refine zy HF (yl_addI rfl (HF.ev rfl) (HF.ev rfl) (i64w (by omega))) ?_;clear HF a;intro a HF
       refine zm HF ?_;clear HF a;intro a HF
       refine wl_ne ?_
       replace HS : Bx (St w0 [bldA b2 (tx ++ padB (readT st (l.getD i PtrD.zero)) (longN n.fSize i)).data.toList] _) := ⟨by rw [list_append]; exact HS.out⟩
       have hpb : pieceB (readT st (l.getD i PtrD.zero)) (longN n.fSize i) = true := pieceB_yes hle (by simpa using cc4); have hps := padB_size hle; have hln := longN_le n.fSize i
       exact ⟨(i + 1), ⟨(tx ++ padB (readT st (l.getD i PtrD.zero)) (longN n.fSize i)), ⟨by omega, by rw [app_size, hps]; omega, file_step hfl (by omega) hpb⟩, HF.less _ ⟨rfl, rfl, rfl, rfl, rfl, rfl, trivial⟩, HS.out⟩, (by omega)⟩
     ·skip
      refine ⟨_, rfl, ?_⟩; replace HS := Bx.mk (HS.out.later hb);clear hb HF a;intro a HF
      refine zr 5 HF rfl ?_;clear HF a;intro a HF
      refine wl_ne ?_
      refine wp_seq ?_
      refine wp_sr ?_
      refine zr 6 HF rfl ?_;clear HF a;intro a HF
      refine wl_ne ?_
      refine wc_true HF rfl ?_
      refine wp_sr ?_
      refine zr 2 HF rfl ?_;clear HF a;intro a HF
      refine wl_ne ?_
      refine wp_ret ?_
      refine ex_then_ret ?_
      refine ex_block_ret ?_
      refine ex_then_ret ?_
      refine ex_then_ret ?_
      refine ex_block_ret ?_
      refine ex_then_ret ?_
      refine bp_ret2 HF Tryz.results37 (HF.res rfl) (HF.res rfl) ?_
      exact .inr ⟨by rw [fileF_yes hkd hlf]; exact file_stop hfl (by omega) (pieceB_long hle), rfl, (HB9.out.later HS.out.bel).bel⟩
    ·clear HF;rename_i HF
     have dcc3 := of_decide_eq_false cc3
     refine wc_false HF rfl ?_
     refine wp_exit ?_
     refine ex_then_exit ?_
     refine ex_then_exit ?_
     refine ex_block_hit ?_
     refine ex_then ?_
     refine wp_sr ?_
     replace HS:=Bx.mk (HS.out.pick 0 rfl)
     refine wl_call rfl HF rfl (enter_of Tryz.func71 (by kernel_rfl) rfl) (args := #[.pointer (some ⟨b2, 0, none⟩)]) rfl (bldStr_any w0 _ b2 tx.data.toList HS.out) rfl rfl ?_
     rintro _ w13 ⟨rfl, hs1⟩
     refine ⟨_, rfl, ?_⟩; replace HS := Bx.mk hs1;clear hs1 HF a;intro a HF
     try dsimp only [List.eraseIdx] at HS
     refine zr 2 HF rfl ?_;clear HF a;intro a HF
     refine wl_ne ?_
     refine wp_ret ?_
     refine bp_ret2 HF Tryz.results37 (HF.res rfl) (HF.res rfl) ?_
     exact .inl ⟨tx, by rw [fileF_yes hkd hlf]; exact file_end hfl (by omega), rfl, (HB9.out.later HS.out.bel).bel⟩
   ·skip
    refine ⟨_, rfl, ?_⟩; replace HS := Bx.mk (HS.out.later hb);clear hb HF a;intro a HF
    refine zr 5 HF rfl ?_;clear HF a;intro a HF
    refine wl_ne ?_
    refine wp_seq ?_
    refine wp_sr ?_
    refine zr 2 HF rfl ?_;clear HF a;intro a HF
    refine wl_ne ?_
    refine wc_true HF rfl ?_
    refine wp_sr ?_
    refine zr 2 HF rfl ?_;clear HF a;intro a HF
    refine wl_ne ?_
    refine wp_ret ?_
    refine ex_then_ret ?_
    refine bp_ret2 HF Tryz.results37 (HF.res rfl) (HF.res rfl) ?_
    exact .inr ⟨fileF_none hlf, rfl, HS.out.bel⟩

end Go.Proofs.YtgaodbdadncfhaaGreatDoor

/- FileText, FileRead, FileHoles of the program: walked. -/
namespace Go.Proofs.YtgaodbdadncfhaaGreatDoor
set_option linter.unusedVariables false
set_option linter.unusedSimpArgs false
set_option maxHeartbeats 1000000
set_option maxRecDepth 100000
open Go.RowKit

/-- All bytes of a file in a valid store. -/
noncomputable def fileT (st : StoreD) (n : NodeD) : Option ByteArray := bif st.ok then fileF st n else none
theorem fileT_ok {st : StoreD} {n : NodeD} (h : st.ok = true) : fileT st n = fileF st n := by unfold fileT; rw [h]; rfl
theorem fileT_no {st : StoreD} {n : NodeD} (h : st.ok = false) : fileT st n = none := by unfold fileT; rw [h]; rfl
theorem fileF_size {st : StoreD} {n : NodeD} {t : ByteArray} (h : fileF st n = some t) : t.size ≤ 192 := by
  cases hk : (n.ok && (n.fKind == 1)) with
  | false => rw [fileF_no hk] at h; cases h
  | true =>
    cases hl : leavesF st n.fTree with
    | none => rw [fileF_none hl] at h; cases h
    | some l =>
      rw [fileF_yes hk hl] at h
      have h1 := fileL_size h
      have h2 := leavesF_16 hl
      omega
theorem fileF_leaves {st : StoreD} {n : NodeD} {t : ByteArray} (h : fileF st n = some t) : ∃ l, leavesF st n.fTree = some l := by
  cases hl : leavesF st n.fTree with
  | none => rw [fileF_none hl] at h; cases h
  | some l => exact ⟨l, rfl⟩
theorem fileT_sok {st : StoreD} {n : NodeD} {t : ByteArray} (h : fileT st n = some t) : st.ok = true := by
  cases ho : st.ok with
  | true => rfl
  | false => rw [fileT_no ho] at h; cases h
theorem fileT_size {st : StoreD} {n : NodeD} {t : ByteArray} (h : fileT st n = some t) : t.size ≤ 192 := fileF_size ((fileT_ok (fileT_sok h)).symm.trans h)
/-- A part of a text. -/
def partB (t : ByteArray) (at_ many : Int) : ByteArray := (t.extract at_.toNat t.size).extract 0 (min many ((t.size : Int) - at_)).toNat
theorem partB_nat {t : ByteArray} {k q : Nat} (h : k ≤ t.size) : partB t (k : Int) (q : Int) = (t.extract k t.size).extract 0 (min q (t.size - k)) := by
  unfold partB
  rw [show (min (q : Int) ((t.size : Int) - (k : Int))).toNat = min q (t.size - k) from by omega]; rfl
def partF (o : Option ByteArray) (at_ many : Int) : Option ByteArray := match o with | none => none | some t => bif inB at_ 0 t.size && decide (0 ≤ many) then some (partB t at_ many) else none
theorem partF_yes {t : ByteArray} {a m : Int} (h : inB a 0 t.size = true) (hm : 0 ≤ m) : partF (some t) a m = some (partB t a m) := by show (bif _ && _ then _ else _) = _; rw [h, decide_eq_true hm]; rfl
theorem partF_out {t : ByteArray} {a m : Int} (h : inB a 0 t.size = false) : partF (some t) a m = none := by show (bif _ && _ then _ else _) = _; rw [h]; rfl
theorem partF_neg {t : ByteArray} {a m : Int} (h : ¬ 0 ≤ m) : partF (some t) a m = none := by show (bif _ && _ then _ else _) = _; rw [decide_eq_false h, Bool.and_false]; rfl
theorem implFileText_any (a0 : Option Addr) (c0 : Nat) (a1 : Option Addr) (c1 : Nat) (a2 : Option Addr) (c2 : Nat) (a4 : Option Addr) (c4 : Nat) (a6 : Option Addr) (c6 : Nat) (st : StoreD) (n : NodeD) (w0 : World) (hT : TabP w0) (hM : MaxP w0) (hE : ErrP w0) (hV0 : StoreD.Reads w0 (sV a0 c0 a1 c1 a2 c2 a4 c4 a6 c6 st) st) (hf : st.Fit) : Calls Tryz.prog 13 #[sV a0 c0 a1 c1 a2 c2 a4 c4 a6 c6 st, nV n] w0 fun e w' => (∃ t, fileT st n = some t ∧ e = .returned (.tuple #[.string t, .bool true]) ∧ Below w0.heap.size w0 w') ∨ (fileT st n = none ∧ e = .returned (.tuple #[.string ByteArray.empty, .bool false]) ∧ Below w0.heap.size w0 w') := by
 have HT := Bx.mk hT; have HM := Bx.mk hM; have HE := Bx.mk hE; have hV := Bx.mk hV0; clear hT hM hE hV0
 have HS := Bx.mk (St.start w0)
 refine wc_enter Tryz.func13 rfl Tryz.ntmps13 [(0, sV a0 c0 a1 c1 a2 c2 a4 c4 a6 c6 st), (1, nV n)] ⟨rfl, rfl, trivial⟩ rfl ?_; intro a HF
 refine wp_sr ?_
 refine wl_box rfl HF rfl (HF.ev rfl) (Z := [.slice a0 st.fRows.length c0, .slice a1 st.fSpace.fRefs.length c1, .slice a2 st.fSpace.fLast.length c2, .int .i64 st.fTxg, .slice a4 st.fGone.length c4, .int .i64 st.fKeep, .slice a6 st.fDead.length c6, .bool st.fSame]) rfl rfl rfl rfl HS.out ?_; clear HF HS a; intro a w1 b1 HF HS; replace HS := Bx.mk HS
 refine wl_box rfl HF rfl (HF.ev rfl) (Z := [.int .i64 n.fKind, .int .i64 n.fLinks, .int .i64 n.fSize, .int .i64 n.fTree.fRoot.fAt, .int .i64 n.fTree.fRoot.fBirth, .int .i64 n.fTree.fRoot.fSize, .int .i64 n.fTree.fRoot.fSum, .int .i64 n.fTree.fRoot.fLevel, .int .i64 n.fTree.fDepth, .int .i64 n.fTree.fMany]) rfl rfl rfl rfl HS.out ?_; clear HF HS a; intro a w2 b2 HF HS; replace HS := Bx.mk HS
 refine zr 2 HF rfl ?_;clear HF a;intro a HF
 refine wl_ne ?_
 refine wp_seq ?_
 refine wp_sr ?_
 refine zy HF (ylr (cs := [.slice a0 st.fRows.length c0, .slice a1 st.fSpace.fRefs.length c1, .slice a2 st.fSpace.fLast.length c2, .int .i64 st.fTxg, .slice a4 st.fGone.length c4, .int .i64 st.fKeep, .slice a6 st.fDead.length c6, .bool st.fSame]) rfl (HF.ev rfl) ((HS.out.box 1 rfl).sub 0 8)) ?_;clear HF a;intro a HF
 refine wl_callB rfl HF rfl (enter_of Tryz.func36 (by kernel_rfl) rfl) (args := #[sV a0 c0 a1 c1 a2 c2 a4 c4 a6 c6 st]) rfl (v := .bool st.ok) (implStoreOk_any _ st _ (hV.out.below HS.out.bel) hf) rfl rfl HS.out ?_; clear HF HS a; intro w3 a HS HF; replace HS := Bx.mk HS
 refine zy HF (yl_not rfl (HF.ev rfl)) ?_;clear HF a;intro a HF
 refine wl_ne ?_
 refine HF.cases 8 rfl (fun cc1 _ => ?_) fun cc1 _ => ?_
 ·clear HF;rename_i HF
  have hsok : st.ok = false := by simpa using cc1
  refine wc_true HF rfl ?_
  refine wp_sr ?_
  refine zr 2 HF rfl ?_;clear HF a;intro a HF
  refine wl_ne ?_
  refine wp_ret ?_
  refine ex_then_ret ?_
  refine bp_ret2 HF Tryz.results13 (HF.res rfl) (HF.res rfl) ?_
  exact .inr ⟨fileT_no hsok, rfl, HS.out.bel⟩
 ·clear HF;rename_i HF
  have hsok : st.ok = true := by simpa using cc1
  refine wc_false HF rfl ?_
  refine wp_skip ?_
  refine ex_then ?_
  refine wp_sr ?_
  refine zy HF (ylr (cs := [.int .i64 n.fKind, .int .i64 n.fLinks, .int .i64 n.fSize, .int .i64 n.fTree.fRoot.fAt, .int .i64 n.fTree.fRoot.fBirth, .int .i64 n.fTree.fRoot.fSize, .int .i64 n.fTree.fRoot.fSum, .int .i64 n.fTree.fRoot.fLevel, .int .i64 n.fTree.fDepth, .int .i64 n.fTree.fMany]) rfl (HF.ev rfl) ((HS.out.box 0 rfl).sub 0 10)) ?_;clear HF a;intro a HF
  refine wl_call rfl HF rfl (enter_of Tryz.func37 (by kernel_rfl) rfl) (args := #[.pointer (some ⟨b1, 0, none⟩), nV n]) rfl (stText_any a0 c0 a1 c1 a2 c2 a4 c4 a6 c6 st n b1 _ (HT.out.below HS.out.bel) (HM.out.below HS.out.bel) (HE.out.below HS.out.bel) (HS.out.box 1 rfl) ((reads_rows hV.out).below HS.out.bel) (ok_rows hsok)) rfl rfl ?_
  rintro _ w4 (⟨t, hft, rfl, hb⟩ | ⟨hft, rfl, hb⟩)
  ·skip
   refine ⟨_, rfl, ?_⟩; replace HS := Bx.mk (HS.out.later hb);clear hb HF a;intro a HF
   refine zr 4 HF rfl ?_;clear HF a;intro a HF
   refine wl_ne ?_
   refine wp_ret ?_
   refine bp_ret2 HF Tryz.results13 (HF.res rfl) (HF.res rfl) ?_
   exact .inl ⟨t, (fileT_ok hsok).trans hft, rfl, HS.out.bel⟩
  ·skip
   refine ⟨_, rfl, ?_⟩; replace HS := Bx.mk (HS.out.later hb);clear hb HF a;intro a HF
   refine zr 4 HF rfl ?_;clear HF a;intro a HF
   refine wl_ne ?_
   refine wp_ret ?_
   refine bp_ret2 HF Tryz.results13 (HF.res rfl) (HF.res rfl) ?_
   exact .inr ⟨(fileT_ok hsok).trans hft, rfl, HS.out.bel⟩

theorem implFileRead_any (a0 : Option Addr) (c0 : Nat) (a1 : Option Addr) (c1 : Nat) (a2 : Option Addr) (c2 : Nat) (a4 : Option Addr) (c4 : Nat) (a6 : Option Addr) (c6 : Nat) (st : StoreD) (n : NodeD) (x m : Int) (w0 : World) (hT : TabP w0) (hM : MaxP w0) (hE : ErrP w0) (hV0 : StoreD.Reads w0 (sV a0 c0 a1 c1 a2 c2 a4 c4 a6 c6 st) st) (hf : st.Fit) : Calls Tryz.prog 18 #[sV a0 c0 a1 c1 a2 c2 a4 c4 a6 c6 st, nV n, .int .i64 x, .int .i64 m] w0 fun e w' => (∃ t, partF (fileT st n) x m = some t ∧ e = .returned (.tuple #[.string t, .bool true]) ∧ Below w0.heap.size w0 w') ∨ (partF (fileT st n) x m = none ∧ e = .returned (.tuple #[.string ByteArray.empty, .bool false]) ∧ Below w0.heap.size w0 w') := by
 have HT := Bx.mk hT; have HM := Bx.mk hM; have HE := Bx.mk hE; have hV := Bx.mk hV0; clear hT hM hE hV0
 have HS := Bx.mk (St.start w0)
 refine wc_enter Tryz.func18 rfl Tryz.ntmps18 [(0, sV a0 c0 a1 c1 a2 c2 a4 c4 a6 c6 st), (1, nV n), (2, .int .i64 x), (3, .int .i64 m)] ⟨rfl, rfl, rfl, rfl, trivial⟩ rfl ?_; intro a HF
 refine wp_sr ?_
 refine wl_box rfl HF rfl (HF.ev rfl) (Z := [.slice a0 st.fRows.length c0, .slice a1 st.fSpace.fRefs.length c1, .slice a2 st.fSpace.fLast.length c2, .int .i64 st.fTxg, .slice a4 st.fGone.length c4, .int .i64 st.fKeep, .slice a6 st.fDead.length c6, .bool st.fSame]) rfl rfl rfl rfl HS.out ?_; clear HF HS a; intro a w1 b1 HF HS; replace HS := Bx.mk HS
 refine wl_box rfl HF rfl (HF.ev rfl) (Z := [.int .i64 n.fKind, .int .i64 n.fLinks, .int .i64 n.fSize, .int .i64 n.fTree.fRoot.fAt, .int .i64 n.fTree.fRoot.fBirth, .int .i64 n.fTree.fRoot.fSize, .int .i64 n.fTree.fRoot.fSum, .int .i64 n.fTree.fRoot.fLevel, .int .i64 n.fTree.fDepth, .int .i64 n.fTree.fMany]) rfl rfl rfl rfl HS.out ?_; clear HF HS a; intro a w2 b2 HF HS; replace HS := Bx.mk HS
 refine zr 2 HF rfl ?_;clear HF a;intro a HF
 refine wl_ne ?_
 refine wp_sr ?_
 refine zy HF (ylr (cs := [.slice a0 st.fRows.length c0, .slice a1 st.fSpace.fRefs.length c1, .slice a2 st.fSpace.fLast.length c2, .int .i64 st.fTxg, .slice a4 st.fGone.length c4, .int .i64 st.fKeep, .slice a6 st.fDead.length c6, .bool st.fSame]) rfl (HF.ev rfl) ((HS.out.box 1 rfl).sub 0 8)) ?_;clear HF a;intro a HF
 refine zy HF (ylr (cs := [.int .i64 n.fKind, .int .i64 n.fLinks, .int .i64 n.fSize, .int .i64 n.fTree.fRoot.fAt, .int .i64 n.fTree.fRoot.fBirth, .int .i64 n.fTree.fRoot.fSize, .int .i64 n.fTree.fRoot.fSum, .int .i64 n.fTree.fRoot.fLevel, .int .i64 n.fTree.fDepth, .int .i64 n.fTree.fMany]) rfl (HF.ev rfl) ((HS.out.box 0 rfl).sub 0 10)) ?_;clear HF a;intro a HF
 refine wl_call rfl HF rfl (enter_of Tryz.func13 (by kernel_rfl) rfl) (args := #[sV a0 c0 a1 c1 a2 c2 a4 c4 a6 c6 st, nV n]) rfl (implFileText_any a0 c0 a1 c1 a2 c2 a4 c4 a6 c6 st n _ (HT.out.below HS.out.bel) (HM.out.below HS.out.bel) (HE.out.below HS.out.bel) (hV.out.below HS.out.bel) hf) rfl rfl ?_
 rintro _ w3 (⟨t, hft, rfl, hb⟩ | ⟨hft, rfl, hb⟩)
 ·skip
  refine ⟨_, rfl, ?_⟩; replace HS := Bx.mk (HS.out.later hb);clear hb HF a;intro a HF
  refine zr 5 HF rfl ?_;clear HF a;intro a HF
  refine wl_ne ?_
  refine wp_seq ?_
  refine wp_seq ?_
  have htz := fileT_size hft
  refine wp_region_lit ?_
  refine zr 5 HF rfl ?_;clear HF a;intro a HF
  refine zg HF (yl_lenS rfl (HF.ev rfl) (by kernel_rfl)) ?_;clear HF a;intro a HF
  refine wl_callBg HF rfl rfl rfl rfl (enter_of Tryz.func48 (by kernel_rfl) rfl) (args := #[.int .i64 x, .int .i64 0, .int .i64 (t.size : Int)]) rfl (v := .bool (inB x 0 (t.size : Int))) (((within_any x 0 (t.size : Int) _).mono fun _ _ h => ⟨h.1, h.2 ▸ Below.refl _ _⟩)) rfl rfl HS.out ?_; clear HF HS a; intro w4 a HS HF; replace HS := Bx.mk HS
  refine zr 3 HF rfl ?_;clear HF a;intro a HF
  refine HF.cases 27 rfl (fun cc1 _ => ?_) fun cc1 _ => ?_
  ·clear HF;rename_i HF
   refine zr 3 HF rfl ?_;clear HF a;intro a HF
   refine wl_ne ?_
   refine wc_true HF rfl ?_
   refine wp_sr ?_
   refine zr 2 HF rfl ?_;clear HF a;intro a HF
   refine wl_ne ?_
   refine wp_ret ?_
   refine ex_then_ret ?_
   refine bp_ret2 HF Tryz.results18 (HF.res rfl) (HF.res rfl) ?_
   exact .inr ⟨by rw [hft]; exact partF_out (by simpa using cc1), rfl, HS.out.bel⟩
  ·clear HF;rename_i HF
   refine zr 3 HF rfl ?_;clear HF a;intro a HF
   refine wl_ne ?_
   refine HF.cases 30 rfl (fun cc2 _ => ?_) fun cc2 _ => ?_
   ·clear HF;rename_i HF
    have dcc2 := of_decide_eq_true cc2
    refine wc_true HF rfl ?_
    refine wp_sr ?_
    refine zr 2 HF rfl ?_;clear HF a;intro a HF
    refine wl_ne ?_
    refine wp_ret ?_
    refine ex_then_ret ?_
    refine bp_ret2 HF Tryz.results18 (HF.res rfl) (HF.res rfl) ?_
    exact .inr ⟨by rw [hft]; exact partF_neg (by omega), rfl, HS.out.bel⟩
   ·clear HF;rename_i HF
    have dcc2 := of_decide_eq_false cc2
    refine wc_false HF rfl ?_
    refine wp_skip ?_
    refine ex_then ?_
    refine wp_seq ?_
    have hinx : inB x 0 t.size = true := by simpa using cc1
    have hxx := inB_true hinx
    obtain ⟨k, rfl⟩ : ∃ k : Nat, x = (k : Int) := ⟨x.toNat, by omega⟩; obtain ⟨q, rfl⟩ : ∃ q : Nat, m = (q : Int) := ⟨m.toNat, by omega⟩
    have hes : (t.extract k t.size).size = t.size - k := by rw [ByteArray.size_extract]; omega
    refine wp_region_lit ?_
    refine zr 2 HF rfl ?_;clear HF a;intro a HF
    refine zy HF (yl_sliceSl (k := k) rfl (HF.ev rfl) (HF.ev rfl) (by kernel_rfl) (by omega) (by omega)) ?_;clear HF a;intro a HF
    refine zr 2 HF rfl ?_;clear HF a;intro a HF
    refine zy HF (yl_lenS rfl (HF.ev rfl) (by kernel_rfl)) ?_;clear HF a;intro a HF
    refine zm HF ?_;clear HF a;intro a HF
    refine zy HF (yl_subI (r := ((t.size - k : Nat) : Int)) rfl (HF.ev rfl) (HF.ev rfl) ((i64w (by omega)).trans (by omega))) ?_;clear HF a;intro a HF
    refine zy HF (yl_minI rfl (HF.ev rfl) (HF.ev rfl)) ?_;clear HF a;intro a HF
    refine zy HF (yl_sliceSh (k := (min q (t.size - k))) rfl (HF.ev rfl) (HF.ev rfl) (by kernel_rfl) (by omega) (by omega)) ?_;clear HF a;intro a HF
    refine zr 2 HF rfl ?_;clear HF a;intro a HF
    refine wl_ne ?_
    refine wp_ret ?_
    refine bp_ret2 HF Tryz.results18 (HF.res rfl) (HF.res rfl) ?_
    exact .inl ⟨_, by rw [hft]; exact partF_yes hinx (by omega), by rw [partB_nat (by omega)] <;> rfl, HS.out.bel⟩
 ·skip
  refine ⟨_, rfl, ?_⟩; replace HS := Bx.mk (HS.out.later hb);clear hb HF a;intro a HF
  refine zr 5 HF rfl ?_;clear HF a;intro a HF
  refine wl_ne ?_
  refine wp_seq ?_
  refine wp_sr ?_
  refine zr 13 HF rfl ?_;clear HF a;intro a HF
  refine wl_ne ?_
  refine wc_true HF rfl ?_
  refine wp_sr ?_
  refine zr 2 HF rfl ?_;clear HF a;intro a HF
  refine wl_ne ?_
  refine wp_ret ?_
  refine ex_then_ret ?_
  refine bp_ret2 HF Tryz.results18 (HF.res rfl) (HF.res rfl) ?_
  exact .inr ⟨by rw [hft]; rfl, rfl, HS.out.bel⟩

end Go.Proofs.YtgaodbdadncfhaaGreatDoor

/- Texts of a tree, by the reference: walked. -/
namespace Go.Proofs.YtgaodbdadncfhaaGreatDoor
set_option linter.unusedVariables false
set_option linter.unusedSimpArgs false
set_option maxHeartbeats 1000000
set_option maxRecDepth 100000
open Go.RowKit

/-- The places of a tree, with holes up to sixteen. -/
def wideL (x : List PtrD) : List PtrD := x ++ List.replicate (16 - x.length) PtrD.zero
theorem wideL_len {x : List PtrD} (h : x.length ≤ 16) : (wideL x).length = 16 := by unfold wideL; rw [List.length_append, List.length_replicate]; omega
theorem wideL_ok {x : List PtrD} (h : ∀ p ∈ x, p.ok = true) : ∀ p ∈ wideL x, p.ok = true := fun p hp => by
  rcases List.mem_append.1 hp with hp | hp
  · exact h p hp
  · rw [List.eq_of_mem_replicate hp]; rfl

theorem l8Leaves_some (a0 : Option Addr) (c0 : Nat) (a1 : Option Addr) (c1 : Nat) (a2 : Option Addr) (c2 : Nat) (a4 : Option Addr) (c4 : Nat) (a6 : Option Addr) (c6 : Nat) (st : StoreD) (t : TreeD) {x : List PtrD} (hx : downL (kidsS st) (depthN t.fMany) [t.fRoot] = some x) (hdep : t.fDepth = ((depthN t.fMany : Nat) : Int)) (hxl : x.length ≤ 16) (w0 : World) (hR : Rd encS 1 w0 a0 st.fRows.length st.fRows) (hrow : RowsOk st) : Calls Tryz.prog 80 #[.agg #[.slice a0 st.fRows.length c0, .slice a1 st.fSpace.fRefs.length c1, .slice a2 st.fSpace.fLast.length c2, .int .i64 st.fTxg, .slice a4 st.fGone.length c4, .int .i64 st.fKeep, .slice a6 st.fDead.length c6, .bool st.fSame], .agg #[.int .i64 t.fRoot.fAt, .int .i64 t.fRoot.fBirth, .int .i64 t.fRoot.fSize, .int .i64 t.fRoot.fSum, .int .i64 t.fRoot.fLevel, .int .i64 t.fDepth, .int .i64 t.fMany]] w0 fun e w' => ∃ ao cp, e = .returned (.tuple #[.slice ao x.length cp, .bool true]) ∧ St w0 [rowA PtrD.cells 5 43 (.slice ao x.length cp) x] w' := by
  refine (l8Leaves_any a0 c0 a1 c1 a2 c2 a4 c4 a6 c6 st t hdep w0 hR hrow).mono ?_
  rintro e w' (⟨l, h, ao, cp, he, hs⟩ | ⟨h, _⟩)
  · rw [hx] at h
    obtain rfl := Option.some.inj h
    exact ⟨ao, cp, he, hs⟩
  · rw [hx] at h; cases h

theorem l8Wide_any (a0 : Option Addr) (c0 : Nat) (a1 : Option Addr) (c1 : Nat) (a2 : Option Addr) (c2 : Nat) (a4 : Option Addr) (c4 : Nat) (a6 : Option Addr) (c6 : Nat) (st : StoreD) (t : TreeD) {x : List PtrD} (hx : downL (kidsS st) (depthN t.fMany) [t.fRoot] = some x) (hdep : t.fDepth = ((depthN t.fMany : Nat) : Int)) (hxl : x.length ≤ 16) (w0 : World) (hR : Rd encS 1 w0 a0 st.fRows.length st.fRows) (hrow : RowsOk st) : Calls Tryz.prog 42 #[sV a0 c0 a1 c1 a2 c2 a4 c4 a6 c6 st, tV t] w0 fun e w' => ∃ ao cp, e = .returned (.slice ao (wideL x).length cp) ∧ St w0 [rowA PtrD.cells 5 43 (.slice ao (wideL x).length cp) (wideL x)] w' := by
 have HR := Bx.mk hR; clear hR
 have HS := Bx.mk (St.start w0)
 refine wc_enter Tryz.func42 rfl Tryz.ntmps42 [(0, sV a0 c0 a1 c1 a2 c2 a4 c4 a6 c6 st), (1, tV t)] ⟨rfl, rfl, trivial⟩ rfl ?_; intro a HF
 refine wp_sr ?_
 refine wl_box rfl HF rfl (HF.ev rfl) (Z := [.slice a0 st.fRows.length c0, .slice a1 st.fSpace.fRefs.length c1, .slice a2 st.fSpace.fLast.length c2, .int .i64 st.fTxg, .slice a4 st.fGone.length c4, .int .i64 st.fKeep, .slice a6 st.fDead.length c6, .bool st.fSame]) rfl rfl rfl rfl HS.out ?_; clear HF HS a; intro a w1 b1 HF HS; replace HS := Bx.mk HS
 refine wl_box rfl HF rfl (HF.ev rfl) (Z := [.int .i64 t.fRoot.fAt, .int .i64 t.fRoot.fBirth, .int .i64 t.fRoot.fSize, .int .i64 t.fRoot.fSum, .int .i64 t.fRoot.fLevel, .int .i64 t.fDepth, .int .i64 t.fMany]) rfl rfl rfl rfl HS.out ?_; clear HF HS a; intro a w2 b2 HF HS; replace HS := Bx.mk HS
 refine za HF ?_;clear HF a;intro a HF
 refine wl_ne ?_
 refine wp_sr ?_
 refine zy HF (ylr (cs := [.slice a0 st.fRows.length c0, .slice a1 st.fSpace.fRefs.length c1, .slice a2 st.fSpace.fLast.length c2, .int .i64 st.fTxg, .slice a4 st.fGone.length c4, .int .i64 st.fKeep, .slice a6 st.fDead.length c6, .bool st.fSame]) rfl (HF.ev rfl) ((HS.out.box 1 rfl).sub 0 8)) ?_;clear HF a;intro a HF
 refine zy HF (ylr (cs := [.int .i64 t.fRoot.fAt, .int .i64 t.fRoot.fBirth, .int .i64 t.fRoot.fSize, .int .i64 t.fRoot.fSum, .int .i64 t.fRoot.fLevel, .int .i64 t.fDepth, .int .i64 t.fMany]) rfl (HF.ev rfl) ((HS.out.box 0 rfl).sub 0 7)) ?_;clear HF a;intro a HF
 refine wl_call rfl HF rfl (enter_of Tryz.func80 (by kernel_rfl) rfl) (args := #[sV a0 c0 a1 c1 a2 c2 a4 c4 a6 c6 st, tV t]) rfl (l8Leaves_some a0 c0 a1 c1 a2 c2 a4 c4 a6 c6 st t hx hdep hxl _ (HR.out.below HS.out.bel) hrow) rfl rfl ?_
 rintro _ w3 ⟨ao, cp, rfl, hs⟩
 refine ⟨_, rfl, ?_⟩; replace HS := Bx.mk (HS.out.add hs);clear hs HF a;intro a HF
 try dsimp only [List.eraseIdx] at HS
 refine zr 5 HF rfl ?_;clear HF a;intro a HF
 refine wl_ne ?_
 refine wp_sr ?_
 refine wl_empty (e := 43) (size := 5) rfl HF rfl rfl rfl (by kernel_rfl) HS.out ?_; clear HF HS a; intro a w4 b3 HF HS; replace HS := Bx.mk HS
 refine zm HF ?_;clear HF a;intro a HF
 replace HS := Bx.mk (HS.out.nilRow PtrD.cells 5 43 (some ⟨b3, 0, none⟩))
 refine wl_appL rfl HF rfl rfl rfl (HF.ev rfl) (HF.ev rfl) elemQ PtrD.cells_len HS.out 0 (xs := []) rfl (ys := x) (St.rdOf HS.out PtrD.cells_len 1 rfl) (cells_one_Q _) (by unfold maxLen; (try simp only [List.length_append, List.length_cons, List.length_nil, List.nil_append, List.length_map, List.length_replicate]); omega) (by (try simp only [List.length_append, List.length_cons, List.length_nil, List.nil_append, List.length_map, List.length_replicate]); omega) ?_; clear HF HS a; intro ao5 cp6 w5 a HF HS; replace HS := Bx.mk HS
 try dsimp only [List.eraseIdx] at HS
 refine zm HF ?_;clear HF a;intro a HF
 refine zy HF (yl_lenL (e := 43) (size := 5) rfl (HF.ev rfl) (by kernel_rfl)) ?_;clear HF a;intro a HF
 refine zy HF (yl_subI (r := ((16 - x.length : Nat) : Int)) rfl (HF.ev rfl) (HF.ev rfl) ((i64w (by omega)).trans (by omega))) ?_;clear HF a;intro a HF
 refine wl_call rfl HF rfl (enter_of Tryz.func81 (by kernel_rfl) rfl) (args := #[.int .i64 ((16 - x.length : Nat) : Int)]) rfl (l8Holes_any (16 - x.length) (by omega) _) rfl rfl ?_
 rintro _ w6 ⟨ao7, cp7, rfl, hs⟩
 refine ⟨_, rfl, ?_⟩
 replace HS := Bx.mk (HS.out.add hs);clear hs HF a;intro a HF
 try dsimp only [List.eraseIdx] at HS
 refine wl_appL rfl HF rfl rfl rfl (HF.ev rfl) (HF.ev rfl) elemQ PtrD.cells_len HS.out 1 (xs := ([]) ++ x) rfl (ys := List.replicate (16 - x.length) PtrD.zero) (St.rdN HS.out PtrD.cells_len 0 rfl) (cells_one_Q _) (by unfold maxLen; (try simp only [List.length_append, List.length_cons, List.length_nil, List.nil_append, List.length_map, List.length_replicate]); omega) (by (try simp only [List.length_append, List.length_cons, List.length_nil, List.nil_append, List.length_map, List.length_replicate]); omega) ?_; clear HF HS a; intro ao8 cp9 w7 a HF HS; replace HS := Bx.mk HS
 try dsimp only [List.eraseIdx] at HS
 refine za HF ?_;clear HF a;intro a HF
 refine wl_ne ?_
 refine wp_ret ?_
 refine bp_ret1 HF Tryz.results42 (HF.res rfl) ?_
 have hwl : ([] ++ x).length + (List.replicate (16 - x.length) PtrD.zero).length = (wideL x).length := (List.length_append ..).symm; rw [hwl] at HS ⊢
 exact ⟨_, _, rfl, ((((HS.out.erase 4).erase 3).erase 2).erase 0)⟩

theorem take_read_snoc {st : StoreD} {l : List PtrD} {k : Nat} (h : k < l.length) : (l.take k).map (readT st) ++ [readT st (l.getD k PtrD.zero)] = (l.take (k + 1)).map (readT st) := by
  rw [List.take_succ_eq_append_getElem h, List.map_append, List.getD_eq_getElem?_getD, List.getElem?_eq_getElem h]; rfl

def textsL (st : StoreD) (t : TreeD) (x : List PtrD) : List ByteArray := ((wideL x).take t.fMany.toNat).map (readT st)

theorem l8Texts_any (a0 : Option Addr) (c0 : Nat) (a1 : Option Addr) (c1 : Nat) (a2 : Option Addr) (c2 : Nat) (a4 : Option Addr) (c4 : Nat) (a6 : Option Addr) (c6 : Nat) (st : StoreD) (t : TreeD) {x : List PtrD} (hx : downL (kidsS st) (depthN t.fMany) [t.fRoot] = some x) (hdep : t.fDepth = ((depthN t.fMany : Nat) : Int)) (hxl : x.length ≤ 16) (hxok : ∀ p ∈ x, p.ok = true) (hm : 0 ≤ t.fMany ∧ t.fMany ≤ 16) (w0 : World) (hR : Rd encS 1 w0 a0 st.fRows.length st.fRows) (hrow : RowsOk st) : Calls Tryz.prog 77 #[sV a0 c0 a1 c1 a2 c2 a4 c4 a6 c6 st, tV t] w0 fun e w' => ∃ ao cp, e = .returned (.slice ao (textsL st t x).length cp) ∧ St w0 [rowA encS 1 9 (.slice ao (textsL st t x).length cp) (textsL st t x)] w' := by
 have HR := Bx.mk hR; clear hR
 have HS := Bx.mk (St.start w0)
 refine wc_enter Tryz.func77 rfl Tryz.ntmps77 [(0, sV a0 c0 a1 c1 a2 c2 a4 c4 a6 c6 st), (1, tV t)] ⟨rfl, rfl, trivial⟩ rfl ?_; intro a HF
 refine wp_sr ?_
 refine wl_box rfl HF rfl (HF.ev rfl) (Z := [.slice a0 st.fRows.length c0, .slice a1 st.fSpace.fRefs.length c1, .slice a2 st.fSpace.fLast.length c2, .int .i64 st.fTxg, .slice a4 st.fGone.length c4, .int .i64 st.fKeep, .slice a6 st.fDead.length c6, .bool st.fSame]) rfl rfl rfl rfl HS.out ?_; clear HF HS a; intro a w1 b1 HF HS; replace HS := Bx.mk HS
 refine wl_box rfl HF rfl (HF.ev rfl) (Z := [.int .i64 t.fRoot.fAt, .int .i64 t.fRoot.fBirth, .int .i64 t.fRoot.fSize, .int .i64 t.fRoot.fSum, .int .i64 t.fRoot.fLevel, .int .i64 t.fDepth, .int .i64 t.fMany]) rfl rfl rfl rfl HS.out ?_; clear HF HS a; intro a w2 b2 HF HS; replace HS := Bx.mk HS
 refine za HF ?_;clear HF a;intro a HF
 refine wl_ne ?_
 refine wp_sr ?_
 refine wl_empty (e := 9) (size := 1) rfl HF rfl rfl rfl (by kernel_rfl) HS.out ?_; clear HF HS a; intro a w3 b3 HF HS; replace HS := Bx.mk HS
 refine za HF ?_;clear HF a;intro a HF
 refine wl_ne ?_
 refine wp_sr ?_
 refine zy HF (ylr (cs := [.slice a0 st.fRows.length c0, .slice a1 st.fSpace.fRefs.length c1, .slice a2 st.fSpace.fLast.length c2, .int .i64 st.fTxg, .slice a4 st.fGone.length c4, .int .i64 st.fKeep, .slice a6 st.fDead.length c6, .bool st.fSame]) rfl (HF.ev rfl) ((HS.out.box 1 rfl).sub 0 8)) ?_;clear HF a;intro a HF
 refine zy HF (ylr (cs := [.int .i64 t.fRoot.fAt, .int .i64 t.fRoot.fBirth, .int .i64 t.fRoot.fSize, .int .i64 t.fRoot.fSum, .int .i64 t.fRoot.fLevel, .int .i64 t.fDepth, .int .i64 t.fMany]) rfl (HF.ev rfl) ((HS.out.box 0 rfl).sub 0 7)) ?_;clear HF a;intro a HF
 refine wl_call rfl HF rfl (enter_of Tryz.func42 (by kernel_rfl) rfl) (args := #[sV a0 c0 a1 c1 a2 c2 a4 c4 a6 c6 st, tV t]) rfl (l8Wide_any a0 c0 a1 c1 a2 c2 a4 c4 a6 c6 st t hx hdep hxl _ (HR.out.below HS.out.bel) hrow) rfl rfl ?_
 rintro _ w4 ⟨ao4, cp4, rfl, hs⟩
 refine ⟨_, rfl, ?_⟩
 replace HS := Bx.mk (HS.out.add hs);clear hs HF a;intro a HF
 try dsimp only [List.eraseIdx] at HS
 refine za HF ?_;clear HF a;intro a HF
 refine wl_ne ?_
 refine wp_seq ?_
 refine wp_seq ?_
 have hwl := wideL_len hxl; have hwok := wideL_ok hxok
 refine wp_region_lit ?_
 refine za HF ?_;clear HF a;intro a HF
 refine wl_ne ?_
 refine wp_block ?_
 replace HS := Bx.mk (HS.out.nilRow encS 1 9 (some ⟨b3, 0, none⟩))
 refine wc_loop (ι := Nat) (fun k a w => ∃ (ao : Option Addr) (cp : Nat) (xs : List ByteArray), (k ≤ t.fMany.toNat ∧ xs = ((wideL x).take k).map (readT st)) ∧ Fr 34 a [(2, .pointer (some ⟨b1, 0, none⟩)), (3, .pointer (some ⟨b2, 0, none⟩)), (6, .slice ao4 ((wideL x).length) cp4), (5, .slice ao xs.length cp), (7, .int .i64 (k : Int))] ∧ St w0 ([rowA encS 1 9 (.slice ao xs.length cp) xs, rowA PtrD.cells 5 43 (.slice ao4 ((wideL x).length) cp4) (wideL x), boxA b2 7 45 (tV t), boxA b1 8 41 (sV a0 c0 a1 c1 a2 c2 a4 c4 a6 c6 st)]) w) (fun k => t.fMany.toNat - k) 0 ⟨_, _, [], ⟨Nat.zero_le _, rfl⟩, HF.less _ ⟨rfl, rfl, rfl, rfl, rfl, trivial⟩, HS.out⟩ ?_
 clear HF HS; clear a
 rintro k a w5 ⟨ao, cp, xs, ⟨hk, hq⟩, HF, HS⟩
 replace HS := Bx.mk HS
 have hxl : xs.length = k := by rw [hq]; simp; omega
 refine wp_seq ?_
 refine wp_sr ?_
 refine zm HF ?_;clear HF a;intro a HF
 refine zy HF (yfa 6 rfl (HF.ev rfl)) ?_;clear HF a;intro a HF
 refine zy HF (ylo (v := .int .i64 t.fMany) rfl (HF.ev rfl) (((HS.out.box 2 rfl).cell 6).trans rfl)) ?_;clear HF a;intro a HF
 refine zy HF (yl_lssI rfl (HF.ev rfl) (HF.ev rfl)) ?_;clear HF a;intro a HF
 refine wl_ne ?_
 refine HF.cases 17 rfl (fun cc1 _ => ?_) fun cc1 _ => ?_
 ·clear HF;rename_i HF
  have dcc1 := of_decide_eq_true cc1
  refine wc_true HF rfl ?_
  refine wp_skip ?_
  refine ex_then ?_
  refine wp_seq ?_
  refine wp_block ?_
  refine wp_seq ?_
  obtain ⟨g5, rfl, _, _, _, _⟩ := HS.out.rowOpen 1 rfl (by omega)
  refine wr_quiet (by kernel_rfl) (by kernel_rfl) HS.out ?_
  refine zq HF (fun _ HS => (ylr (cs := [.slice a0 st.fRows.length c0, .slice a1 st.fSpace.fRefs.length c1, .slice a2 st.fSpace.fLast.length c2, .int .i64 st.fTxg, .slice a4 st.fGone.length c4, .int .i64 st.fKeep, .slice a6 st.fDead.length c6, .bool st.fSame]) rfl (HF.ev rfl) ((HS.box 3 rfl).sub 0 8))) ?_;clear HF a;intro a HF
  refine zrq 2 HF rfl ?_;clear HF a;intro a HF
  refine zq HF (fun _ HS => (yl_indexAddr (e := 43) (i := k) (size := 5) rfl (HF.ev rfl) (HF.ev rfl) (by kernel_rfl) rfl (by omega))) ?_;clear HF a;intro a HF
  refine zq HF (fun _ HS => (ylr (cs := [.int .i64 (((wideL x).getD k PtrD.zero).fAt), .int .i64 (((wideL x).getD k PtrD.zero).fBirth), .int .i64 (((wideL x).getD k PtrD.zero).fSize), .int .i64 (((wideL x).getD k PtrD.zero).fSum), .int .i64 (((wideL x).getD k PtrD.zero).fLevel)]) rfl (HF.ev rfl) (HS.elem PtrD.cells_len 1 rfl (get_getD (xs := wideL x) (j := k) (d := PtrD.zero) (by omega))))) ?_;clear HF a;intro a HF
  refine wq_call rfl HF rfl (enter_of Tryz.func105 (by kernel_rfl) rfl) (args := #[sV a0 c0 a1 c1 a2 c2 a4 c4 a6 c6 st, pV ((wideL x).getD k PtrD.zero)]) rfl (v := .tuple #[.string (readT st ((wideL x).getD k PtrD.zero)), .bool (readB st ((wideL x).getD k PtrD.zero))]) (fun _ HS => (l7Read_any a0 c0 a1 c1 a2 c2 a4 c4 a6 c6 st ((wideL x).getD k PtrD.zero) _ (HR.out.below HS.bel) hrow (hwok _ (getD_mem (by omega))))) rfl rfl ?_;clear HF a;intro a HF
  refine zrq 5 HF rfl ?_;clear HF a;intro a HF
  refine wpQuiet_nil ?_; intro w6 HS; replace HS := Bx.mk HS
  refine ex_then ?_
  refine wp_region_lit ?_
  refine zr 2 HF rfl ?_;clear HF a;intro a HF
  refine wl_buildS (enc := encS) (e := 9) (size := 1) rfl HF rfl rfl rfl (ps := [(0, .string (readT st ((wideL x).getD k PtrD.zero)))]) rfl (cells := [.string (readT st ((wideL x).getD k PtrD.zero))]) (by kernel_rfl) [readT st ((wideL x).getD k PtrD.zero)] rfl rfl (by unfold maxLen; omega) rfl HS.out ?_; clear HF HS a; intro b6 a w7 HF HS; replace HS := Bx.mk HS
  refine wl_appL rfl HF rfl rfl rfl (HF.ev rfl) (HF.ev rfl) elemS encS_len HS.out 1 (xs := xs) rfl (ys := [readT st ((wideL x).getD k PtrD.zero)]) (St.rdN HS.out encS_len 0 rfl) (cells_one_S _) (by unfold maxLen; (try simp only [List.length_append, List.length_cons, List.length_nil, List.nil_append, List.length_map]); omega) (by (try simp only [List.length_append, List.length_cons, List.length_nil, List.nil_append, List.length_map]); omega) ?_; clear HF HS a; intro ao7 cp8 w8 a HF HS; replace HS := Bx.mk HS
  try dsimp only [List.eraseIdx] at HS
  refine za HF ?_;clear HF a;intro a HF
  refine wpList_nil ?_
  refine ex_block ?_
  refine ex_then ?_
  refine wp_region_lit ?_
  refine zm HF ?_;clear HF a;intro a HF
  refine zy HF (yl_addI rfl (HF.ev rfl) (HF.ev rfl) (i64w (by omega))) ?_;clear HF a;intro a HF
  refine za HF ?_;clear HF a;intro a HF
  refine wl_ne ?_
  have hz : xs.length + ([readT st ((wideL x).getD k PtrD.zero)]).length = (xs ++ ([readT st ((wideL x).getD k PtrD.zero)])).length := (List.length_append ..).symm
  rw [hz] at HS HF
  have hnext : xs ++ ([readT st ((wideL x).getD k PtrD.zero)]) = ((wideL x).take (k + 1)).map (readT st) := by rw [hq]; exact take_read_snoc (by omega)
  replace HS:=Bx.mk ((((HS.out.pick 4 rfl).pick 4 rfl).pick 4 rfl).pick 4 rfl)
  exact ⟨k + 1, ⟨_, _, xs ++ ([readT st ((wideL x).getD k PtrD.zero)]), ⟨by omega, hnext⟩, HF.less _ ⟨rfl, rfl, rfl, rfl, rfl, trivial⟩, (HS.out.erase 4)⟩, (by omega)⟩
 ·clear HF;rename_i HF
  have dcc1 := of_decide_eq_false cc1
  refine wc_false HF rfl ?_
  refine wp_exit ?_
  refine ex_then_exit ?_
  refine ex_then_exit ?_
  refine ex_block_hit ?_
  refine ex_then ?_
  refine wp_sr ?_
  refine zr 2 HF rfl ?_;clear HF a;intro a HF
  refine wl_ne ?_
  refine wp_ret ?_
  refine bp_ret1 HF Tryz.results77 (HF.res rfl) ?_
  obtain rfl : k = t.fMany.toNat := by omega
  subst hq
  exact ⟨_, _, rfl, (((HS.out.erase 3).erase 2).erase 1)⟩

end Go.Proofs.YtgaodbdadncfhaaGreatDoor

/- Pieces of files, by the reference: walked. -/
namespace Go.Proofs.YtgaodbdadncfhaaGreatDoor
set_option linter.unusedVariables false
set_option linter.unusedSimpArgs false
set_option maxHeartbeats 1000000
set_option maxRecDepth 100000
open Go.RowKit

theorem l13Long_any (size : Int) (k : Nat) (w0 : World) (hk : k ≤ 16) (hs : 12 * (k : Int) ≤ size ∧ size ≤ 1000000) : Calls Tryz.prog 78 #[.int .i64 size, .int .i64 (k : Int)] w0 fun e w' => e = .returned (.int .i64 (longN size k : Int)) ∧ Below w0.heap.size w0 w' := by
 have HS := Bx.mk (St.start w0)
 refine wc_enter Tryz.func78 rfl Tryz.ntmps78 [(0, .int .i64 size), (1, .int .i64 (k : Int))] ⟨rfl, rfl, trivial⟩ rfl ?_; intro a HF
 refine wp_sr ?_
 refine za HF ?_;clear HF a;intro a HF
 refine wl_ne ?_
 refine wp_sr ?_
 refine zr 2 HF rfl ?_;clear HF a;intro a HF
 refine zy HF (yl_mulI rfl (HF.ev rfl) (HF.ev rfl) (i64w (by omega))) ?_;clear HF a;intro a HF
 refine zy HF (yl_subI rfl (HF.ev rfl) (HF.ev rfl) (i64w (by omega))) ?_;clear HF a;intro a HF
 refine zy HF (yl_minI rfl (HF.ev rfl) (HF.ev rfl)) ?_;clear HF a;intro a HF
 refine za HF ?_;clear HF a;intro a HF
 refine wl_ne ?_
 refine wp_ret ?_
 refine bp_ret1 HF Tryz.results78 (HF.res rfl) ?_
 exact ⟨by show Ending.returned (.int .i64 _) = Ending.returned (.int .i64 _); unfold longN; congr 2; omega, HS.out.bel⟩

theorem l10Zeros_any (n : Nat) (w0 : World) (hn : n ≤ 100) : Calls Tryz.prog 84 #[.int .i64 (n : Int)] w0 fun e w' => e = .returned (.string (zerosB n)) ∧ Below w0.heap.size w0 w' := by
 have HS := Bx.mk (St.start w0)
 refine wc_enter Tryz.func84 rfl Tryz.ntmps84 [(0, .int .i64 (n : Int))] ⟨rfl, trivial⟩ rfl ?_; intro a HF
 refine wp_sr ?_
 refine za HF ?_;clear HF a;intro a HF
 refine wl_ne ?_
 refine wp_sr ?_
 refine zm HF ?_;clear HF a;intro a HF
 refine zy HF (yl_maxI rfl (HF.ev rfl) (HF.ev rfl)) ?_;clear HF a;intro a HF
 refine wl_makeS (enc := encB) (n := n) rfl HF rfl rfl rfl elemB (HF.ev rfl) (HF.ev rfl) (by omega) (by omega) (by omega) (by unfold maxLen; omega) (0 : UInt8) (by kernel_rfl) rfl rfl HS.out ?_; clear HF HS a; intro b1 a w1 HF HS; replace HS := Bx.mk HS
 refine zy HF (yl_convBS (e1 := 5) rfl (HF.ev rfl) (by kernel_rfl) (by kernel_rfl) (by kernel_rfl) (xs := List.replicate n (0 : UInt8)) (St.rdN HS.out encB_len 0 rfl)) ?_;clear HF a;intro a HF
 refine za HF ?_;clear HF a;intro a HF
 refine wl_ne ?_
 refine wp_ret ?_
 refine bp_ret1 HF Tryz.results84 (HF.res rfl) ?_
 exact ⟨rfl, HS.out.bel⟩

theorem l10Cut_any (s : ByteArray) (w0 : World) (hs : s.size ≤ 1000000) : Calls Tryz.prog 79 #[.string s] w0 fun e w' => e = .returned (.string (cutZ s)) ∧ Below w0.heap.size w0 w' := by
 have HS := Bx.mk (St.start w0)
 refine wc_enter Tryz.func79 rfl Tryz.ntmps79 [(0, .string s)] ⟨rfl, trivial⟩ rfl ?_; intro a HF
 refine wp_sr ?_
 refine za HF ?_;clear HF a;intro a HF
 refine wl_ne ?_
 refine wp_seq ?_
 refine wp_block ?_
 refine wc_loop (ι := ByteArray) (fun r a w => (cutZ r = cutZ s ∧ r.size ≤ 1000000) ∧ Fr 20 a [(0, .string r)] ∧ St w0 ([]) w) (fun r => r.size) s ⟨⟨rfl, hs⟩, HF.less _ ⟨rfl, trivial⟩, HS.out⟩ ?_
 clear HF HS; clear a
 rintro r a w1 ⟨⟨hcz, hrs⟩, HF, HS⟩
 replace HS := Bx.mk HS
 refine wp_seq ?_
 refine wp_sr ?_
 refine zm HF ?_;clear HF a;intro a HF
 refine zy HF (yl_lenS rfl (HF.ev rfl) (by kernel_rfl)) ?_;clear HF a;intro a HF
 refine zr 2 HF rfl ?_;clear HF a;intro a HF
 refine HF.cases 6 rfl (fun cc1 _ => ?_) fun cc1 _ => ?_
 ·clear HF;rename_i HF
  have dcc1 := of_decide_eq_true cc1
  refine zr 2 HF rfl ?_;clear HF a;intro a HF
  refine zg HF (yl_lenS rfl (HF.ev rfl) (by kernel_rfl)) ?_;clear HF a;intro a HF
  refine zg HF (yl_subI (r := ((r.size - 1 : Nat) : Int)) rfl (HF.ev rfl) (HF.ev rfl) ((i64w (by omega)).trans (by omega))) ?_;clear HF a;intro a HF
  refine zg HF (yl_indexS (i := (r.size - 1)) rfl (HF.ev rfl) (HF.ev rfl) (by kernel_rfl) (by omega) (by omega)) ?_;clear HF a;intro a HF
  refine zr 2 HF rfl ?_;clear HF a;intro a HF
  refine wl_ne ?_
  refine HF.cases 13 rfl (fun cc2 _ => ?_) fun cc2 _ => ?_
  ·clear HF;rename_i HF
   have dcc2 := eq_of_beq cc2
   refine wc_true HF rfl ?_
   refine wp_skip ?_
   refine ex_then ?_
   refine wp_block ?_
   refine wp_region_lit ?_
   refine zr 2 HF rfl ?_;clear HF a;intro a HF
   refine zy HF (yl_lenS rfl (HF.ev rfl) (by kernel_rfl)) ?_;clear HF a;intro a HF
   refine zy HF (yl_subI (r := ((r.size - 1 : Nat) : Int)) rfl (HF.ev rfl) (HF.ev rfl) ((i64w (by omega)).trans (by omega))) ?_;clear HF a;intro a HF
   refine zy HF (yl_sliceSh (k := (r.size - 1)) rfl (HF.ev rfl) (HF.ev rfl) (by kernel_rfl) (by omega) (by omega)) ?_;clear HF a;intro a HF
   refine za HF ?_;clear HF a;intro a HF
   refine wpList_nil ?_
   refine ex_block ?_
   refine ex_then ?_
   have hlz : lastZ r = true := by rw [lastZ_get (by omega)]; exact cc2
   have hes : (r.extract 0 (r.size - 1)).size = r.size - 1 := by rw [ByteArray.size_extract]; omega
   exact ⟨(r.extract 0 (r.size - 1)), ⟨⟨(cutZ_step hlz).trans hcz, by omega⟩, HF.less _ ⟨rfl, trivial⟩, HS.out⟩, (by omega)⟩
  ·clear HF;rename_i HF
   have dcc2 := ne_of_beq_false cc2
   refine wc_false HF rfl ?_
   refine wp_exit ?_
   refine ex_then_exit ?_
   refine ex_then_exit ?_
   refine ex_block_hit ?_
   refine ex_then ?_
   refine wp_sr ?_
   refine zr 2 HF rfl ?_;clear HF a;intro a HF
   refine wl_ne ?_
   refine wp_ret ?_
   refine bp_ret1 HF Tryz.results79 (HF.res rfl) ?_
   have hlz : lastZ r = false := by rw [lastZ_get (by omega)]; exact cc2
   exact ⟨by rw [← hcz, cutZ_keep hlz], HS.out.bel⟩
 ·clear HF;rename_i HF
  have dcc1 := of_decide_eq_false cc1
  refine zr 7 HF rfl ?_;clear HF a;intro a HF
  refine wl_ne ?_
  refine wc_false HF rfl ?_
  refine wp_exit ?_
  refine ex_then_exit ?_
  refine ex_then_exit ?_
  refine ex_block_hit ?_
  refine ex_then ?_
  refine wp_sr ?_
  refine zr 2 HF rfl ?_;clear HF a;intro a HF
  refine wl_ne ?_
  refine wp_ret ?_
  refine bp_ret1 HF Tryz.results79 (HF.res rfl) ?_
  have hlz : lastZ r = false := lastZ_nil (by omega)
  exact ⟨by rw [← hcz, cutZ_keep hlz], HS.out.bel⟩

end Go.Proofs.YtgaodbdadncfhaaGreatDoor

/- What a file tells, by the reference: walked. -/
namespace Go.Proofs.YtgaodbdadncfhaaGreatDoor
set_option linter.unusedVariables false
set_option linter.unusedSimpArgs false
set_option maxHeartbeats 1000000
set_option maxRecDepth 100000
open Go.RowKit

/-- A valid tree, with its places. -/
structure TreeX (st : StoreD) (t : TreeD) (x l : List PtrD) : Prop where
  dn : downL (kidsS st) (depthN t.fMany) [t.fRoot] = some x
  dep : t.fDepth = ((depthN t.fMany : Nat) : Int)
  x16 : x.length ≤ 16
  xok : ∀ p ∈ x, p.ok = true
  lv : leavesF st t = some l
  len : l.length = t.fMany.toNat
  many : 0 ≤ t.fMany ∧ t.fMany ≤ 16
  tk : (wideL x).take t.fMany.toNat = l
theorem treeX {st : StoreD} {t : TreeD} {l : List PtrD} (h0 : 0 ≤ st.fTxg) (h : leavesF st t = some l) : ∃ x, TreeX st t x l := by
  obtain ⟨x, ht, hd, hlb, hlx, hxl, hl⟩ := leavesF_is h
  unfold topB at ht
  simp only [Bool.and_eq_true, beq_iff_eq, decide_eq_true_eq] at ht
  have hin := inB_true ht.1
  have hy := young_down (st := st) (n := depthN t.fMany) (l := [t.fRoot]) (fun p hp => by rw [List.mem_singleton.1 hp]; exact ht.2.2) h0
  have hp4 := pow4 (depthN_le t.fMany)
  have hx16 : x.length ≤ 16 := by rw [hxl]; exact hp4
  refine ⟨x, hy.1.trans hd, ht.2.1, hx16, fun p hp => (hy.2 x hd p hp).1, h, hl, hin, ?_⟩
  have hle : t.fMany.toNat ≤ x.length := by
    have := congrArg List.length hlx
    rw [hl, List.length_take] at this
    omega
  rw [hlx]
  unfold wideL
  rw [List.take_append_of_le_length hle]
theorem l8Texts_x (a0 : Option Addr) (c0 : Nat) (a1 : Option Addr) (c1 : Nat) (a2 : Option Addr) (c2 : Nat) (a4 : Option Addr) (c4 : Nat) (a6 : Option Addr) (c6 : Nat) (st : StoreD) (t : TreeD) {x l : List PtrD} (X : TreeX st t x l) (w0 : World) (hR : Rd encS 1 w0 a0 st.fRows.length st.fRows) (hrow : RowsOk st) : Calls Tryz.prog 77 #[.agg #[.slice a0 st.fRows.length c0, .slice a1 st.fSpace.fRefs.length c1, .slice a2 st.fSpace.fLast.length c2, .int .i64 st.fTxg, .slice a4 st.fGone.length c4, .int .i64 st.fKeep, .slice a6 st.fDead.length c6, .bool st.fSame], .agg #[.int .i64 t.fRoot.fAt, .int .i64 t.fRoot.fBirth, .int .i64 t.fRoot.fSize, .int .i64 t.fRoot.fSum, .int .i64 t.fRoot.fLevel, .int .i64 t.fDepth, .int .i64 t.fMany]] w0 fun e w' => ∃ ao cp, e = .returned (.slice ao (l.map (readT st)).length cp) ∧ St w0 [rowA encS 1 9 (.slice ao (l.map (readT st)).length cp) (l.map (readT st))] w' := by
  have h := l8Texts_any a0 c0 a1 c1 a2 c2 a4 c4 a6 c6 st t X.dn X.dep X.x16 X.xok X.many w0 hR hrow
  unfold textsL at h
  rw [X.tk] at h
  exact h
theorem map_get {st : StoreD} {l : List PtrD} {k : Nat} (h : k < l.length) : (l.map (readT st))[k]? = some (readT st (l.getD k PtrD.zero)) := by
  rw [List.getElem?_map, List.getD_eq_getElem?_getD, List.getElem?_eq_getElem h]; rfl

theorem okS_some {st : StoreD} {t : TreeD} (h0 : 0 ≤ st.fTxg) (h : okS st t = true) : ∃ l, leavesF st t = some l := by
  rw [okS_eq h0] at h
  exact Option.isSome_iff_exists.1 h
theorem okS_none {st : StoreD} {t : TreeD} (h0 : 0 ≤ st.fTxg) (h : okS st t = false) : leavesF st t = none := by
  rw [okS_eq h0] at h
  cases hl : leavesF st t with
  | none => rfl
  | some l => exfalso; have h2 : (leavesF st t).isSome = false := h; rw [hl] at h2; cases h2
/-- How a valid file's size and pieces go together. -/
theorem file_size1 {n : NodeD} (h : n.ok = true) (hk : (n.fKind == 1) = true) : 0 ≤ n.fSize ∧ n.fSize ≤ 192 ∧ n.fTree.fMany = (n.fSize + 11) / 12 := by
  have a := NodeD.ok_is h
  have s := a.small
  have k1 : n.fKind = 1 := beq_iff_eq.1 hk
  have hz := s.size; have hi := s.is; have hm := a.tmany
  rw [k1, eachN_file] at hz hi
  rw [k1] at hm
  omega

theorem l13Ok_any (a0 : Option Addr) (c0 : Nat) (a1 : Option Addr) (c1 : Nat) (a2 : Option Addr) (c2 : Nat) (a4 : Option Addr) (c4 : Nat) (a6 : Option Addr) (c6 : Nat) (st : StoreD) (n : NodeD) (w0 : World) (hR : Rd encS 1 w0 a0 st.fRows.length st.fRows) (hrow : RowsOk st) (h0 : 0 ≤ st.fTxg) : Calls Tryz.prog 41 #[sV a0 c0 a1 c1 a2 c2 a4 c4 a6 c6 st, nV n] w0 fun e w' => e = .returned (.bool (fileF st n).isSome) ∧ Below w0.heap.size w0 w' := by
 have HR := Bx.mk hR; clear hR
 have HS := Bx.mk (St.start w0)
 refine wc_enter Tryz.func41 rfl Tryz.ntmps41 [(0, sV a0 c0 a1 c1 a2 c2 a4 c4 a6 c6 st), (1, nV n)] ⟨rfl, rfl, trivial⟩ rfl ?_; intro a HF
 refine wp_sr ?_
 refine wl_box rfl HF rfl (HF.ev rfl) (Z := [.slice a0 st.fRows.length c0, .slice a1 st.fSpace.fRefs.length c1, .slice a2 st.fSpace.fLast.length c2, .int .i64 st.fTxg, .slice a4 st.fGone.length c4, .int .i64 st.fKeep, .slice a6 st.fDead.length c6, .bool st.fSame]) rfl rfl rfl rfl HS.out ?_; clear HF HS a; intro a w1 b1 HF HS; replace HS := Bx.mk HS
 refine wl_box rfl HF rfl (HF.ev rfl) (Z := [.int .i64 n.fKind, .int .i64 n.fLinks, .int .i64 n.fSize, .int .i64 n.fTree.fRoot.fAt, .int .i64 n.fTree.fRoot.fBirth, .int .i64 n.fTree.fRoot.fSize, .int .i64 n.fTree.fRoot.fSum, .int .i64 n.fTree.fRoot.fLevel, .int .i64 n.fTree.fDepth, .int .i64 n.fTree.fMany]) rfl rfl rfl rfl HS.out ?_; clear HF HS a; intro a w2 b2 HF HS; replace HS := Bx.mk HS
 refine za HF ?_;clear HF a;intro a HF
 refine wl_ne ?_
 refine wp_seq ?_
 refine wp_sr ?_
 refine zy HF (ylr (cs := [.int .i64 n.fKind, .int .i64 n.fLinks, .int .i64 n.fSize, .int .i64 n.fTree.fRoot.fAt, .int .i64 n.fTree.fRoot.fBirth, .int .i64 n.fTree.fRoot.fSize, .int .i64 n.fTree.fRoot.fSum, .int .i64 n.fTree.fRoot.fLevel, .int .i64 n.fTree.fDepth, .int .i64 n.fTree.fMany]) rfl (HF.ev rfl) ((HS.out.box 0 rfl).sub 0 10)) ?_;clear HF a;intro a HF
 refine wl_callB rfl HF rfl (enter_of Tryz.func75 (by kernel_rfl) rfl) (args := #[nV n]) rfl (v := .bool n.ok) (specNodeOk_any n _) rfl rfl HS.out ?_; clear HF HS a; intro w3 a HS HF; replace HS := Bx.mk HS
 refine zr 2 HF rfl ?_;clear HF a;intro a HF
 refine HF.cases 11 rfl (fun cc1 _ => ?_) fun cc1 _ => ?_
 ·clear HF;rename_i HF
  refine zr 11 HF rfl ?_;clear HF a;intro a HF
  refine wl_ne ?_
  refine wc_true HF rfl ?_
  refine wp_sr ?_
  refine za HF ?_;clear HF a;intro a HF
  refine wl_ne ?_
  refine wp_ret ?_
  refine ex_then_ret ?_
  refine bp_ret1 HF Tryz.results41 (HF.res rfl) ?_
  have ho : n.ok = false := by simpa using cc1
  exact ⟨by rw [fileF_no (by rw [ho]; rfl)]; rfl, HS.out.bel⟩
 ·clear HF;rename_i HF
  refine zg HF (yfa 0 rfl (HF.ev rfl)) ?_;clear HF a;intro a HF
  refine zg HF (ylo (v := .int .i64 n.fKind) rfl (HF.ev rfl) (((HS.out.box 0 rfl).cell 0).trans rfl)) ?_;clear HF a;intro a HF
  refine zr 3 HF rfl ?_;clear HF a;intro a HF
  refine HF.cases 16 rfl (fun cc2 _ => ?_) fun cc2 _ => ?_
  ·clear HF;rename_i HF
   have dcc2 := bne_iff_ne.1 cc2
   refine zr 6 HF rfl ?_;clear HF a;intro a HF
   refine wl_ne ?_
   refine wc_true HF rfl ?_
   refine wp_sr ?_
   refine za HF ?_;clear HF a;intro a HF
   refine wl_ne ?_
   refine wp_ret ?_
   refine ex_then_ret ?_
   refine bp_ret1 HF Tryz.results41 (HF.res rfl) ?_
   have ho : (n.fKind == 1) = false := by simpa using cc2
   exact ⟨by rw [fileF_no (by rw [ho, Bool.and_false])]; rfl, HS.out.bel⟩
  ·clear HF;rename_i HF
   have dcc2 := bne_eq_false_iff_eq.1 cc2
   refine zg HF (ylr (cs := [.slice a0 st.fRows.length c0, .slice a1 st.fSpace.fRefs.length c1, .slice a2 st.fSpace.fLast.length c2, .int .i64 st.fTxg, .slice a4 st.fGone.length c4, .int .i64 st.fKeep, .slice a6 st.fDead.length c6, .bool st.fSame]) rfl (HF.ev rfl) ((HS.out.box 1 rfl).sub 0 8)) ?_;clear HF a;intro a HF
   refine zg HF (yfa 3 rfl (HF.ev rfl)) ?_;clear HF a;intro a HF
   refine zg HF (ylr (cs := [.int .i64 n.fTree.fRoot.fAt, .int .i64 n.fTree.fRoot.fBirth, .int .i64 n.fTree.fRoot.fSize, .int .i64 n.fTree.fRoot.fSum, .int .i64 n.fTree.fRoot.fLevel, .int .i64 n.fTree.fDepth, .int .i64 n.fTree.fMany]) rfl (HF.ev rfl) ((HS.out.box 0 rfl).sub 3 7)) ?_;clear HF a;intro a HF
   refine wl_callBg HF rfl rfl rfl rfl (enter_of Tryz.func76 (by kernel_rfl) rfl) (args := #[sV a0 c0 a1 c1 a2 c2 a4 c4 a6 c6 st, tV n.fTree]) rfl (v := .bool (okS st n.fTree)) (l8Ok_any a0 c0 a1 c1 a2 c2 a4 c4 a6 c6 st n.fTree _ (HR.out.below HS.out.bel) hrow) rfl rfl HS.out ?_; clear HF HS a; intro w4 a HS HF; replace HS := Bx.mk HS
   refine zr 2 HF rfl ?_;clear HF a;intro a HF
   refine wl_ne ?_
   refine HF.cases 22 rfl (fun cc3 _ => ?_) fun cc3 _ => ?_
   ·clear HF;rename_i HF
    refine wc_true HF rfl ?_
    refine wp_sr ?_
    refine za HF ?_;clear HF a;intro a HF
    refine wl_ne ?_
    refine wp_ret ?_
    refine ex_then_ret ?_
    refine bp_ret1 HF Tryz.results41 (HF.res rfl) ?_
    exact ⟨by rw [fileF_none (okS_none h0 (by simpa using cc3))]; rfl, HS.out.bel⟩
   ·clear HF;rename_i HF
    refine wc_false HF rfl ?_
    refine wp_skip ?_
    refine ex_then ?_
    refine wp_seq ?_
    have hok : n.ok = true := by simpa using cc1
    have hkd : (n.ok && (n.fKind == 1)) = true := by rw [hok, Bool.true_and]; simpa using cc2
    have htk : okS st n.fTree = true := by simpa using cc3
    obtain ⟨l, hlf⟩ := okS_some h0 htk; obtain ⟨x, X⟩ := treeX h0 hlf; have hll := X.len; have hmm := X.many; have hlm : (l.map (readT st)).length = l.length := List.length_map ..
    have hfs := file_size1 hok (by simpa using cc2)
    refine wp_region_lit ?_
    refine zy HF (ylr (cs := [.slice a0 st.fRows.length c0, .slice a1 st.fSpace.fRefs.length c1, .slice a2 st.fSpace.fLast.length c2, .int .i64 st.fTxg, .slice a4 st.fGone.length c4, .int .i64 st.fKeep, .slice a6 st.fDead.length c6, .bool st.fSame]) rfl (HF.ev rfl) ((HS.out.box 1 rfl).sub 0 8)) ?_;clear HF a;intro a HF
    refine zy HF (yfa 3 rfl (HF.ev rfl)) ?_;clear HF a;intro a HF
    refine zy HF (ylr (cs := [.int .i64 n.fTree.fRoot.fAt, .int .i64 n.fTree.fRoot.fBirth, .int .i64 n.fTree.fRoot.fSize, .int .i64 n.fTree.fRoot.fSum, .int .i64 n.fTree.fRoot.fLevel, .int .i64 n.fTree.fDepth, .int .i64 n.fTree.fMany]) rfl (HF.ev rfl) ((HS.out.box 0 rfl).sub 3 7)) ?_;clear HF a;intro a HF
    refine wl_call rfl HF rfl (enter_of Tryz.func77 (by kernel_rfl) rfl) (args := #[sV a0 c0 a1 c1 a2 c2 a4 c4 a6 c6 st, tV n.fTree]) rfl (l8Texts_x a0 c0 a1 c1 a2 c2 a4 c4 a6 c6 st n.fTree X _ (HR.out.below HS.out.bel) hrow) rfl rfl ?_
    rintro _ w5 ⟨ao3, cp3, rfl, hs⟩
    refine ⟨_, rfl, ?_⟩
    replace HS := Bx.mk (HS.out.add hs);clear hs HF a;intro a HF
    try dsimp only [List.eraseIdx] at HS
    refine za HF ?_;clear HF a;intro a HF
    refine wl_ne ?_
    refine wp_seq ?_
    refine wp_sr ?_
    refine za HF ?_;clear HF a;intro a HF
    refine wl_ne ?_
    refine wp_block ?_
    refine wc_loop (ι := Nat) (fun k a w => ∃ (tx : ByteArray), (k ≤ l.length ∧ fileL st n.fSize 0 l = (fileL st n.fSize k (l.drop k)).map (tx ++ ·)) ∧ Fr 51 a [(2, .pointer (some ⟨b1, 0, none⟩)), (3, .pointer (some ⟨b2, 0, none⟩)), (4, .bool false), (5, .slice ao3 ((l.map (readT st)).length) cp3), (6, .int .i64 (k : Int))] ∧ St w0 ([rowA encS 1 9 (.slice ao3 ((l.map (readT st)).length) cp3) (l.map (readT st)), boxA b2 10 47 (nV n), boxA b1 8 41 (sV a0 c0 a1 c1 a2 c2 a4 c4 a6 c6 st)]) w) (fun k => l.length - k) 0 ⟨⟨#[]⟩, ⟨Nat.zero_le _, file_begin⟩, HF.less _ ⟨rfl, rfl, rfl, rfl, rfl, trivial⟩, HS.out⟩ ?_
    clear HF HS; clear a
    rintro k a w6 ⟨tx, ⟨hi, hfl⟩, HF, HS⟩
    replace HS := Bx.mk HS
    refine wp_seq ?_
    refine wp_sr ?_
    refine zm HF ?_;clear HF a;intro a HF
    refine zy HF (yfa 3 rfl (HF.ev rfl)) ?_;clear HF a;intro a HF
    refine zy HF (yfa 6 rfl (HF.ev rfl)) ?_;clear HF a;intro a HF
    refine zy HF (ylo (v := .int .i64 n.fTree.fMany) rfl (HF.ev rfl) (((HS.out.box 1 rfl).cell 9).trans rfl)) ?_;clear HF a;intro a HF
    refine zy HF (yl_lssI rfl (HF.ev rfl) (HF.ev rfl)) ?_;clear HF a;intro a HF
    refine wl_ne ?_
    refine HF.cases 31 rfl (fun cc4 _ => ?_) fun cc4 _ => ?_
    ·clear HF;rename_i HF
     have dcc4 := of_decide_eq_true cc4
     refine wc_true HF rfl ?_
     refine wp_skip ?_
     refine ex_then ?_
     refine wp_seq ?_
     refine wp_block ?_
     refine wp_seq ?_
     have hrt := readT_le hrow (l.getD k PtrD.zero)
     obtain ⟨g4, rfl, _, _, _, _⟩ := HS.out.rowOpen 0 rfl (by omega)
     refine wp_region_lit ?_
     refine zr 2 HF rfl ?_;clear HF a;intro a HF
     refine zy HF (yl_indexAddr (e := 9) (i := k) (size := 1) rfl (HF.ev rfl) (HF.ev rfl) (by kernel_rfl) rfl (by omega)) ?_;clear HF a;intro a HF
     refine zy HF (ylo (v := .string (readT st (l.getD k PtrD.zero))) rfl (HF.ev rfl) (HS.out.elem1 encS_len 0 rfl (map_get (by omega)) rfl)) ?_;clear HF a;intro a HF
     refine za HF ?_;clear HF a;intro a HF
     refine wl_ne ?_
     refine wp_sr ?_
     refine zm HF ?_;clear HF a;intro a HF
     refine zy HF (yl_lenS rfl (HF.ev rfl) (by kernel_rfl)) ?_;clear HF a;intro a HF
     refine zy HF (yfa 2 rfl (HF.ev rfl)) ?_;clear HF a;intro a HF
     refine zy HF (ylo (v := .int .i64 n.fSize) rfl (HF.ev rfl) (((HS.out.box 1 rfl).cell 2).trans rfl)) ?_;clear HF a;intro a HF
     refine zm HF ?_;clear HF a;intro a HF
     refine wl_callB rfl HF rfl (enter_of Tryz.func78 (by kernel_rfl) rfl) (args := #[.int .i64 n.fSize, .int .i64 (k : Int)]) rfl (v := .int .i64 (longN n.fSize k : Int)) (l13Long_any n.fSize k _ (by omega) (by omega)) rfl rfl HS.out ?_; clear HF HS a; intro w7 a HS HF; replace HS := Bx.mk HS
     refine zr 2 HF rfl ?_;clear HF a;intro a HF
     refine HF.cases 45 rfl (fun cc5 _ => ?_) fun cc5 _ => ?_
     ·clear HF;rename_i HF
      have dcc5 := of_decide_eq_true cc5
      refine zr 5 HF rfl ?_;clear HF a;intro a HF
      refine wl_ne ?_
      refine wc_true HF rfl ?_
      refine wp_sr ?_
      refine za HF ?_;clear HF a;intro a HF
      refine wl_ne ?_
      refine wp_ret ?_
      refine ex_block_ret ?_
      refine ex_then_ret ?_
      refine ex_then_ret ?_
      refine ex_block_ret ?_
      refine ex_then_ret ?_
      refine bp_ret1 HF Tryz.results41 (HF.res rfl) ?_
      exact ⟨by rw [fileF_yes hkd hlf, file_stop hfl (by omega) (pieceB_long (by omega))]; rfl, HS.out.bel⟩
     ·clear HF;rename_i HF
      have dcc5 := of_decide_eq_false cc5
      refine zg HF (yl_move rfl (HF.ev rfl)) ?_;clear HF a;intro a HF
      refine wl_callBg HF rfl rfl rfl rfl (enter_of Tryz.func79 (by kernel_rfl) rfl) (args := #[.string (readT st (l.getD k PtrD.zero))]) rfl (v := .string (cutZ (readT st (l.getD k PtrD.zero)))) (l10Cut_any (readT st (l.getD k PtrD.zero)) _ hrt) rfl rfl HS.out ?_; clear HF HS a; intro w8 a HS HF; replace HS := Bx.mk HS
      refine zg HF (yl_move rfl (HF.ev rfl)) ?_;clear HF a;intro a HF
      refine zg HF (yl_neqS rfl (HF.ev rfl) (HF.ev rfl)) ?_;clear HF a;intro a HF
      refine zy HF (yl_pick_f rfl (HF.ev rfl) (HF.ev rfl)) ?_;clear HF a;intro a HF
      refine wl_ne ?_
      refine HF.cases 50 rfl (fun cc6 _ => ?_) fun cc6 _ => ?_
      ·clear HF;rename_i HF
       refine wc_true HF rfl ?_
       refine wp_sr ?_
       refine za HF ?_;clear HF a;intro a HF
       refine wl_ne ?_
       refine wp_ret ?_
       refine ex_block_ret ?_
       refine ex_then_ret ?_
       refine ex_then_ret ?_
       refine ex_block_ret ?_
       refine ex_then_ret ?_
       refine bp_ret1 HF Tryz.results41 (HF.res rfl) ?_
       exact ⟨by rw [fileF_yes hkd hlf, file_stop hfl (by omega) (pieceB_zero (by have h := cc6; simp only [bne, cutZ_eq, Bool.not_not] at h; exact h))]; rfl, HS.out.bel⟩
      ·clear HF;rename_i HF
       refine wc_false HF rfl ?_
       refine wp_skip ?_
       refine ex_block ?_
       refine ex_then ?_
       refine wp_region_lit ?_
       refine zm HF ?_;clear HF a;intro a HF
       refine zy HF (yl_addI rfl (HF.ev rfl) (HF.ev rfl) (i64w (by omega))) ?_;clear HF a;intro a HF
       refine za HF ?_;clear HF a;intro a HF
       refine wl_ne ?_
       have hpb : pieceB (readT st (l.getD k PtrD.zero)) (longN n.fSize k) = true := pieceB_yes (by omega) (by have h := cc6; simp only [bne, cutZ_eq, Bool.not_not] at h; exact h)
       exact ⟨(k + 1), ⟨(tx ++ padB (readT st (l.getD k PtrD.zero)) (longN n.fSize k)), ⟨by omega, file_step hfl (by omega) hpb⟩, HF.less _ ⟨rfl, rfl, rfl, rfl, rfl, trivial⟩, HS.out⟩, (by omega)⟩
    ·clear HF;rename_i HF
     have dcc4 := of_decide_eq_false cc4
     refine wc_false HF rfl ?_
     refine wp_exit ?_
     refine ex_then_exit ?_
     refine ex_then_exit ?_
     refine ex_block_hit ?_
     refine ex_then ?_
     refine wp_sr ?_
     refine za HF ?_;clear HF a;intro a HF
     refine wl_ne ?_
     refine wp_ret ?_
     refine bp_ret1 HF Tryz.results41 (HF.res rfl) ?_
     exact ⟨by rw [fileF_yes hkd hlf, file_end hfl (by omega)]; rfl, HS.out.bel⟩

end Go.Proofs.YtgaodbdadncfhaaGreatDoor

/- FileRead, FileText of the reference: walked. -/
namespace Go.Proofs.YtgaodbdadncfhaaGreatDoor
set_option linter.unusedVariables false
set_option linter.unusedSimpArgs false
set_option maxHeartbeats 1000000
set_option maxRecDepth 100000
open Go.RowKit

theorem fileL_exact {st : StoreD} {size : Int} : ∀ {l : List PtrD} {k : Nat} {t : ByteArray}, fileL st size k l = some t → (t.size : Int) = max 0 (min (12 * (l.length : Int)) (size - 12 * (k : Int)))
  | [], k, t, h => by
    obtain rfl := Option.some.inj h
    have : (ByteArray.empty.size : Int) = 0 := rfl
    simp only [List.length_nil]
    omega
  | p :: r, k, t, h => by
    cases hp : pieceB (readT st p) (longN size k) with
    | false => rw [fileL_no hp] at h; cases h
    | true =>
      rw [fileL_yes hp] at h
      cases hr : fileL st size (k + 1) r with
      | none => rw [hr] at h; cases h
      | some u =>
        rw [hr] at h
        obtain rfl := Option.some.inj h
        have h2 := fileL_exact hr
        have h1 := padB_size (pieceB_is hp).1
        have h3 : (longN size k : Int) = max 0 (min 12 (size - (k : Int) * 12)) := by unfold longN; omega
        rw [app_size, h1, List.length_cons]
        omega
theorem fileF_kind {st : StoreD} {n : NodeD} {t : ByteArray} (h : fileF st n = some t) : (n.ok && (n.fKind == 1)) = true := by
  cases hk : (n.ok && (n.fKind == 1)) with
  | true => rfl
  | false => rw [fileF_no hk] at h; cases h
theorem fileF_exact {st : StoreD} {n : NodeD} {t : ByteArray} (h : fileF st n = some t) : (t.size : Int) = n.fSize := by
  have hk := fileF_kind h
  obtain ⟨l, hl⟩ := fileF_leaves h
  rw [fileF_yes hk hl] at h
  have h1 := fileL_exact h
  rw [Bool.and_eq_true] at hk
  have h2 := file_size1 hk.1 hk.2
  obtain ⟨x, _, _, _, _, _, h3⟩ := leavesF_is hl
  omega
theorem piece_yes {st : StoreD} {size : Int} {xs : List PtrD} {i : Nat} {b t : ByteArray} (h : fileL st size 0 xs = (fileL st size i (xs.drop i)).map (b ++ ·)) (hi : i < xs.length) (ht : fileL st size 0 xs = some t) : pieceB (readT st (xs.getD i PtrD.zero)) (longN size i) = true := by
  cases hp : pieceB (readT st (xs.getD i PtrD.zero)) (longN size i) with
  | true => rfl
  | false => rw [file_stop h hi hp] at ht; cases ht

theorem l13Text_any (a0 : Option Addr) (c0 : Nat) (a1 : Option Addr) (c1 : Nat) (a2 : Option Addr) (c2 : Nat) (a4 : Option Addr) (c4 : Nat) (a6 : Option Addr) (c6 : Nat) (st : StoreD) (n : NodeD) (t : ByteArray) (hF : fileF st n = some t) (w0 : World) (hR : Rd encS 1 w0 a0 st.fRows.length st.fRows) (hrow : RowsOk st) (h0 : 0 ≤ st.fTxg) : Calls Tryz.prog 47 #[sV a0 c0 a1 c1 a2 c2 a4 c4 a6 c6 st, nV n] w0 fun e w' => e = .returned (.string t) ∧ Below w0.heap.size w0 w' := by
 have HR := Bx.mk hR; clear hR
 have HS := Bx.mk (St.start w0)
 have hkd := fileF_kind hF; obtain ⟨l, hlf⟩ := fileF_leaves hF; obtain ⟨x, X⟩ := treeX h0 hlf; have hll := X.len; have hmm := X.many; have hlm : (l.map (readT st)).length = l.length := List.length_map ..
 have hFl := (fileF_yes hkd hlf).symm.trans hF
 have hkk := hkd; rw [Bool.and_eq_true] at hkk; have hfs := file_size1 hkk.1 hkk.2; clear hkk
 refine wc_enter Tryz.func47 rfl Tryz.ntmps47 [(0, sV a0 c0 a1 c1 a2 c2 a4 c4 a6 c6 st), (1, nV n)] ⟨rfl, rfl, trivial⟩ rfl ?_; intro a HF
 refine wp_sr ?_
 refine wl_box rfl HF rfl (HF.ev rfl) (Z := [.slice a0 st.fRows.length c0, .slice a1 st.fSpace.fRefs.length c1, .slice a2 st.fSpace.fLast.length c2, .int .i64 st.fTxg, .slice a4 st.fGone.length c4, .int .i64 st.fKeep, .slice a6 st.fDead.length c6, .bool st.fSame]) rfl rfl rfl rfl HS.out ?_; clear HF HS a; intro a w1 b1 HF HS; replace HS := Bx.mk HS
 refine wl_box rfl HF rfl (HF.ev rfl) (Z := [.int .i64 n.fKind, .int .i64 n.fLinks, .int .i64 n.fSize, .int .i64 n.fTree.fRoot.fAt, .int .i64 n.fTree.fRoot.fBirth, .int .i64 n.fTree.fRoot.fSize, .int .i64 n.fTree.fRoot.fSum, .int .i64 n.fTree.fRoot.fLevel, .int .i64 n.fTree.fDepth, .int .i64 n.fTree.fMany]) rfl rfl rfl rfl HS.out ?_; clear HF HS a; intro a w2 b2 HF HS; replace HS := Bx.mk HS
 refine za HF ?_;clear HF a;intro a HF
 refine wl_ne ?_
 refine wp_sr ?_
 refine za HF ?_;clear HF a;intro a HF
 refine wl_ne ?_
 refine wp_sr ?_
 refine zy HF (ylr (cs := [.slice a0 st.fRows.length c0, .slice a1 st.fSpace.fRefs.length c1, .slice a2 st.fSpace.fLast.length c2, .int .i64 st.fTxg, .slice a4 st.fGone.length c4, .int .i64 st.fKeep, .slice a6 st.fDead.length c6, .bool st.fSame]) rfl (HF.ev rfl) ((HS.out.box 1 rfl).sub 0 8)) ?_;clear HF a;intro a HF
 refine zy HF (yfa 3 rfl (HF.ev rfl)) ?_;clear HF a;intro a HF
 refine zy HF (ylr (cs := [.int .i64 n.fTree.fRoot.fAt, .int .i64 n.fTree.fRoot.fBirth, .int .i64 n.fTree.fRoot.fSize, .int .i64 n.fTree.fRoot.fSum, .int .i64 n.fTree.fRoot.fLevel, .int .i64 n.fTree.fDepth, .int .i64 n.fTree.fMany]) rfl (HF.ev rfl) ((HS.out.box 0 rfl).sub 3 7)) ?_;clear HF a;intro a HF
 refine wl_call rfl HF rfl (enter_of Tryz.func77 (by kernel_rfl) rfl) (args := #[sV a0 c0 a1 c1 a2 c2 a4 c4 a6 c6 st, tV n.fTree]) rfl (l8Texts_x a0 c0 a1 c1 a2 c2 a4 c4 a6 c6 st n.fTree X _ (HR.out.below HS.out.bel) hrow) rfl rfl ?_
 rintro _ w3 ⟨ao3, cp3, rfl, hs⟩
 refine ⟨_, rfl, ?_⟩
 replace HS := Bx.mk (HS.out.add hs);clear hs HF a;intro a HF
 try dsimp only [List.eraseIdx] at HS
 refine za HF ?_;clear HF a;intro a HF
 refine wl_ne ?_
 refine wp_seq ?_
 refine wp_sr ?_
 refine za HF ?_;clear HF a;intro a HF
 refine wl_ne ?_
 refine wp_block ?_
 refine wc_loop (ι := Nat) (fun k a w => ∃ (tx : ByteArray), (k ≤ l.length ∧ tx.size ≤ 12 * k ∧ fileL st n.fSize 0 l = (fileL st n.fSize k (l.drop k)).map (tx ++ ·)) ∧ Fr 37 a [(2, .pointer (some ⟨b1, 0, none⟩)), (3, .pointer (some ⟨b2, 0, none⟩)), (4, .string (⟨#[]⟩ : ByteArray)), (6, .slice ao3 ((l.map (readT st)).length) cp3), (5, .string tx), (7, .int .i64 (k : Int))] ∧ St w0 ([rowA encS 1 9 (.slice ao3 ((l.map (readT st)).length) cp3) (l.map (readT st)), boxA b2 10 47 (nV n), boxA b1 8 41 (sV a0 c0 a1 c1 a2 c2 a4 c4 a6 c6 st)]) w) (fun k => l.length - k) 0 ⟨⟨#[]⟩, ⟨Nat.zero_le _, Nat.le_refl _, file_begin⟩, HF.less _ ⟨rfl, rfl, rfl, rfl, rfl, rfl, trivial⟩, HS.out⟩ ?_
 clear HF HS; clear a
 rintro k a w4 ⟨tx, ⟨hi, htx, hfl⟩, HF, HS⟩
 replace HS := Bx.mk HS
 refine wp_seq ?_
 refine wp_sr ?_
 refine zm HF ?_;clear HF a;intro a HF
 refine zy HF (yfa 3 rfl (HF.ev rfl)) ?_;clear HF a;intro a HF
 refine zy HF (yfa 6 rfl (HF.ev rfl)) ?_;clear HF a;intro a HF
 refine zy HF (ylo (v := .int .i64 n.fTree.fMany) rfl (HF.ev rfl) (((HS.out.box 1 rfl).cell 9).trans rfl)) ?_;clear HF a;intro a HF
 refine zy HF (yl_lssI rfl (HF.ev rfl) (HF.ev rfl)) ?_;clear HF a;intro a HF
 refine wl_ne ?_
 refine HF.cases 17 rfl (fun cc1 _ => ?_) fun cc1 _ => ?_
 ·clear HF;rename_i HF
  have dcc1 := of_decide_eq_true cc1
  refine wc_true HF rfl ?_
  refine wp_skip ?_
  refine ex_then ?_
  refine wp_seq ?_
  refine wp_block ?_
  refine wp_seq ?_
  have hrt := readT_le hrow (l.getD k PtrD.zero); have hpb := piece_yes hfl (show k < l.length by omega) hFl; have hp2 := pieceB_is hpb; have hps := padB_size hp2.1; have hln := longN_le n.fSize k; have hzz := zerosB_size (longN n.fSize k - (readT st (l.getD k PtrD.zero)).size)
  obtain ⟨g4, rfl, _, _, _, _⟩ := HS.out.rowOpen 0 rfl (by omega)
  refine wp_region_lit ?_
  refine zr 2 HF rfl ?_;clear HF a;intro a HF
  refine zy HF (yl_indexAddr (e := 9) (i := k) (size := 1) rfl (HF.ev rfl) (HF.ev rfl) (by kernel_rfl) rfl (by omega)) ?_;clear HF a;intro a HF
  refine zy HF (ylo (v := .string (readT st (l.getD k PtrD.zero))) rfl (HF.ev rfl) (HS.out.elem1 encS_len 0 rfl (map_get (by omega)) rfl)) ?_;clear HF a;intro a HF
  refine za HF ?_;clear HF a;intro a HF
  refine wl_ne ?_
  have hap := app_size tx (readT st (l.getD k PtrD.zero))
  refine wp_region_lit ?_
  refine zr 2 HF rfl ?_;clear HF a;intro a HF
  refine zy HF (yl_addS rfl (HF.ev rfl) (HF.ev rfl) (by omega)) ?_;clear HF a;intro a HF
  refine zy HF (yfa 2 rfl (HF.ev rfl)) ?_;clear HF a;intro a HF
  refine zy HF (ylo (v := .int .i64 n.fSize) rfl (HF.ev rfl) (((HS.out.box 1 rfl).cell 2).trans rfl)) ?_;clear HF a;intro a HF
  refine zm HF ?_;clear HF a;intro a HF
  refine wl_callB rfl HF rfl (enter_of Tryz.func78 (by kernel_rfl) rfl) (args := #[.int .i64 n.fSize, .int .i64 (k : Int)]) rfl (v := .int .i64 (longN n.fSize k : Int)) (l13Long_any n.fSize k _ (by omega) (by omega)) rfl rfl HS.out ?_; clear HF HS a; intro w5 a HS HF; replace HS := Bx.mk HS
  refine zm HF ?_;clear HF a;intro a HF
  refine zy HF (yl_lenS rfl (HF.ev rfl) (by kernel_rfl)) ?_;clear HF a;intro a HF
  refine zy HF (yl_subI (r := ((longN n.fSize k - (readT st (l.getD k PtrD.zero)).size : Nat) : Int)) rfl (HF.ev rfl) (HF.ev rfl) ((i64w (by omega)).trans (by omega))) ?_;clear HF a;intro a HF
  refine wl_callB rfl HF rfl (enter_of Tryz.func84 (by kernel_rfl) rfl) (args := #[.int .i64 ((longN n.fSize k - (readT st (l.getD k PtrD.zero)).size : Nat) : Int)]) rfl (v := .string (zerosB (longN n.fSize k - (readT st (l.getD k PtrD.zero)).size))) (l10Zeros_any (longN n.fSize k - (readT st (l.getD k PtrD.zero)).size) _ (by omega)) rfl rfl HS.out ?_; clear HF HS a; intro w6 a HS HF; replace HS := Bx.mk HS
  refine zy HF (yl_addS rfl (HF.ev rfl) (HF.ev rfl) (by omega)) ?_;clear HF a;intro a HF
  refine za HF ?_;clear HF a;intro a HF
  refine wpList_nil ?_
  refine ex_block ?_
  refine ex_then ?_
  refine wp_region_lit ?_
  refine zm HF ?_;clear HF a;intro a HF
  refine zy HF (yl_addI rfl (HF.ev rfl) (HF.ev rfl) (i64w (by omega))) ?_;clear HF a;intro a HF
  refine za HF ?_;clear HF a;intro a HF
  refine wl_ne ?_
  exact ⟨(k + 1), ⟨(tx ++ padB (readT st (l.getD k PtrD.zero)) (longN n.fSize k)), ⟨by omega, by rw [app_size, hps]; omega, file_step hfl (by omega) hpb⟩, HF.less _ ⟨rfl, rfl, rfl, rfl, (by show some (Value.string _) = some (Value.string _); rw [app_assoc]; rfl), rfl, trivial⟩, HS.out⟩, (by omega)⟩
 ·clear HF;rename_i HF
  have dcc1 := of_decide_eq_false cc1
  refine wc_false HF rfl ?_
  refine wp_exit ?_
  refine ex_then_exit ?_
  refine ex_then_exit ?_
  refine ex_block_hit ?_
  refine ex_then ?_
  refine wp_sr ?_
  refine zr 2 HF rfl ?_;clear HF a;intro a HF
  refine wl_ne ?_
  refine wp_ret ?_
  refine bp_ret1 HF Tryz.results47 (HF.res rfl) ?_
  have he : tx = t := Option.some.inj ((file_end hfl (by omega)).symm.trans hFl)
  exact ⟨by rw [he], HS.out.bel⟩

theorem specFileRead_any (a0 : Option Addr) (c0 : Nat) (a1 : Option Addr) (c1 : Nat) (a2 : Option Addr) (c2 : Nat) (a4 : Option Addr) (c4 : Nat) (a6 : Option Addr) (c6 : Nat) (st : StoreD) (n : NodeD) (x m : Int) (w0 : World) (hV0 : StoreD.Reads w0 (sV a0 c0 a1 c1 a2 c2 a4 c4 a6 c6 st) st) (hf : st.Fit) (hi : -9223372036854775808 ≤ st.fTxg) : Calls Tryz.prog 17 #[sV a0 c0 a1 c1 a2 c2 a4 c4 a6 c6 st, nV n, .int .i64 x, .int .i64 m] w0 fun e w' => (∃ t, partF (fileT st n) x m = some t ∧ e = .returned (.tuple #[.string t, .bool true]) ∧ Below w0.heap.size w0 w') ∨ (partF (fileT st n) x m = none ∧ e = .returned (.tuple #[.string ByteArray.empty, .bool false]) ∧ Below w0.heap.size w0 w') := by
 have hV := Bx.mk hV0; clear hV0
 have HS := Bx.mk (St.start w0)
 refine wc_enter Tryz.func17 rfl Tryz.ntmps17 [(0, sV a0 c0 a1 c1 a2 c2 a4 c4 a6 c6 st), (1, nV n), (2, .int .i64 x), (3, .int .i64 m)] ⟨rfl, rfl, rfl, rfl, trivial⟩ rfl ?_; intro a HF
 refine wp_sr ?_
 refine wl_box rfl HF rfl (HF.ev rfl) (Z := [.slice a0 st.fRows.length c0, .slice a1 st.fSpace.fRefs.length c1, .slice a2 st.fSpace.fLast.length c2, .int .i64 st.fTxg, .slice a4 st.fGone.length c4, .int .i64 st.fKeep, .slice a6 st.fDead.length c6, .bool st.fSame]) rfl rfl rfl rfl HS.out ?_; clear HF HS a; intro a w1 b1 HF HS; replace HS := Bx.mk HS
 refine wl_box rfl HF rfl (HF.ev rfl) (Z := [.int .i64 n.fKind, .int .i64 n.fLinks, .int .i64 n.fSize, .int .i64 n.fTree.fRoot.fAt, .int .i64 n.fTree.fRoot.fBirth, .int .i64 n.fTree.fRoot.fSize, .int .i64 n.fTree.fRoot.fSum, .int .i64 n.fTree.fRoot.fLevel, .int .i64 n.fTree.fDepth, .int .i64 n.fTree.fMany]) rfl rfl rfl rfl HS.out ?_; clear HF HS a; intro a w2 b2 HF HS; replace HS := Bx.mk HS
 refine zr 2 HF rfl ?_;clear HF a;intro a HF
 refine wl_ne ?_
 refine wp_seq ?_
 refine wp_sr ?_
 refine zy HF (ylr (cs := [.slice a0 st.fRows.length c0, .slice a1 st.fSpace.fRefs.length c1, .slice a2 st.fSpace.fLast.length c2, .int .i64 st.fTxg, .slice a4 st.fGone.length c4, .int .i64 st.fKeep, .slice a6 st.fDead.length c6, .bool st.fSame]) rfl (HF.ev rfl) ((HS.out.box 1 rfl).sub 0 8)) ?_;clear HF a;intro a HF
 refine wl_callB rfl HF rfl (enter_of Tryz.func40 (by kernel_rfl) rfl) (args := #[sV a0 c0 a1 c1 a2 c2 a4 c4 a6 c6 st]) rfl (v := .bool st.ok) (specStoreOk_any _ st _ (hV.out.below HS.out.bel) hf hi) rfl rfl HS.out ?_; clear HF HS a; intro w3 a HS HF; replace HS := Bx.mk HS
 refine zr 2 HF rfl ?_;clear HF a;intro a HF
 refine HF.cases 14 rfl (fun cc1 _ => ?_) fun cc1 _ => ?_
 ·clear HF;rename_i HF
  have hsok : st.ok = false := by simpa using cc1
  refine zr 16 HF rfl ?_;clear HF a;intro a HF
  refine wl_ne ?_
  refine wc_true HF rfl ?_
  refine wp_sr ?_
  refine zr 2 HF rfl ?_;clear HF a;intro a HF
  refine wl_ne ?_
  refine wp_ret ?_
  refine ex_then_ret ?_
  refine bp_ret2 HF Tryz.results17 (HF.res rfl) (HF.res rfl) ?_
  exact .inr ⟨by rw [fileT_no hsok] <;> rfl, rfl, HS.out.bel⟩
 ·clear HF;rename_i HF
  have hsok : st.ok = true := by simpa using cc1
  have h0 : 0 ≤ st.fTxg := by have := (StoreD.ok_spec hsok).txg; omega
  refine zg HF (ylr (cs := [.slice a0 st.fRows.length c0, .slice a1 st.fSpace.fRefs.length c1, .slice a2 st.fSpace.fLast.length c2, .int .i64 st.fTxg, .slice a4 st.fGone.length c4, .int .i64 st.fKeep, .slice a6 st.fDead.length c6, .bool st.fSame]) rfl (HF.ev rfl) ((HS.out.box 1 rfl).sub 0 8)) ?_;clear HF a;intro a HF
  refine zg HF (ylr (cs := [.int .i64 n.fKind, .int .i64 n.fLinks, .int .i64 n.fSize, .int .i64 n.fTree.fRoot.fAt, .int .i64 n.fTree.fRoot.fBirth, .int .i64 n.fTree.fRoot.fSize, .int .i64 n.fTree.fRoot.fSum, .int .i64 n.fTree.fRoot.fLevel, .int .i64 n.fTree.fDepth, .int .i64 n.fTree.fMany]) rfl (HF.ev rfl) ((HS.out.box 0 rfl).sub 0 10)) ?_;clear HF a;intro a HF
  refine wl_callBg HF rfl rfl rfl rfl (enter_of Tryz.func41 (by kernel_rfl) rfl) (args := #[sV a0 c0 a1 c1 a2 c2 a4 c4 a6 c6 st, nV n]) rfl (v := .bool ((fileF st n).isSome)) (l13Ok_any a0 c0 a1 c1 a2 c2 a4 c4 a6 c6 st n _ ((reads_rows hV.out).below HS.out.bel) (ok_rows hsok) h0) rfl rfl HS.out ?_; clear HF HS a; intro w4 a HS HF; replace HS := Bx.mk HS
  refine zr 3 HF rfl ?_;clear HF a;intro a HF
  refine HF.cases 20 rfl (fun cc2 _ => ?_) fun cc2 _ => ?_
  ·clear HF;rename_i HF
   refine zr 10 HF rfl ?_;clear HF a;intro a HF
   refine wl_ne ?_
   refine wc_true HF rfl ?_
   refine wp_sr ?_
   refine zr 2 HF rfl ?_;clear HF a;intro a HF
   refine wl_ne ?_
   refine wp_ret ?_
   refine ex_then_ret ?_
   refine bp_ret2 HF Tryz.results17 (HF.res rfl) (HF.res rfl) ?_
   have hn : fileF st n = none := Option.isSome_eq_false_iff.1 (by simpa using cc2) |> Option.isNone_iff_eq_none.1
   exact .inr ⟨by rw [fileT_ok hsok, hn] <;> rfl, rfl, HS.out.bel⟩
  ·clear HF;rename_i HF
   refine zg HF (yl_move rfl (HF.ev rfl)) ?_;clear HF a;intro a HF
   refine zg HF (yfa 2 rfl (HF.ev rfl)) ?_;clear HF a;intro a HF
   refine zg HF (ylo (v := .int .i64 n.fSize) rfl (HF.ev rfl) (((HS.out.box 0 rfl).cell 2).trans rfl)) ?_;clear HF a;intro a HF
   refine wl_callBg HF rfl rfl rfl rfl (enter_of Tryz.func46 (by kernel_rfl) rfl) (args := #[.int .i64 x, .int .i64 0, .int .i64 n.fSize]) rfl (v := .bool (inB x 0 n.fSize)) (((l6In_any x 0 n.fSize _).mono fun _ _ h => ⟨h.1, h.2 ▸ Below.refl _ _⟩)) rfl rfl HS.out ?_; clear HF HS a; intro w5 a HS HF; replace HS := Bx.mk HS
   refine zr 3 HF rfl ?_;clear HF a;intro a HF
   refine HF.cases 27 rfl (fun cc3 _ => ?_) fun cc3 _ => ?_
   ·clear HF;rename_i HF
    refine zr 3 HF rfl ?_;clear HF a;intro a HF
    refine wl_ne ?_
    refine wc_true HF rfl ?_
    refine wp_sr ?_
    refine zr 2 HF rfl ?_;clear HF a;intro a HF
    refine wl_ne ?_
    refine wp_ret ?_
    refine ex_then_ret ?_
    refine bp_ret2 HF Tryz.results17 (HF.res rfl) (HF.res rfl) ?_
    obtain ⟨t, hF⟩ : ∃ t, fileF st n = some t := Option.isSome_iff_exists.1 (by simpa using cc2); have hFT := (fileT_ok hsok).trans hF; have hex := fileF_exact hF
    exact .inr ⟨by rw [hFT]; exact partF_out (by rw [hex]; simpa using cc3), rfl, HS.out.bel⟩
   ·clear HF;rename_i HF
    refine zr 3 HF rfl ?_;clear HF a;intro a HF
    refine wl_ne ?_
    refine HF.cases 30 rfl (fun cc4 _ => ?_) fun cc4 _ => ?_
    ·clear HF;rename_i HF
     have dcc4 := of_decide_eq_true cc4
     refine wc_true HF rfl ?_
     refine wp_sr ?_
     refine zr 2 HF rfl ?_;clear HF a;intro a HF
     refine wl_ne ?_
     refine wp_ret ?_
     refine ex_then_ret ?_
     refine bp_ret2 HF Tryz.results17 (HF.res rfl) (HF.res rfl) ?_
     obtain ⟨t, hF⟩ : ∃ t, fileF st n = some t := Option.isSome_iff_exists.1 (by simpa using cc2); have hFT := (fileT_ok hsok).trans hF; have hex := fileF_exact hF
     exact .inr ⟨by rw [hFT]; exact partF_neg (by omega), rfl, HS.out.bel⟩
    ·clear HF;rename_i HF
     have dcc4 := of_decide_eq_false cc4
     refine wc_false HF rfl ?_
     refine wp_skip ?_
     refine ex_then ?_
     refine wp_seq ?_
     obtain ⟨t, hF⟩ : ∃ t, fileF st n = some t := Option.isSome_iff_exists.1 (by simpa using cc2); have hFT := (fileT_ok hsok).trans hF; have htz := fileT_size hFT; have hex := fileF_exact hF
     have hinx : inB x 0 t.size = true := by rw [hex]; simpa using cc3
     have hxx := inB_true hinx
     obtain ⟨k, rfl⟩ : ∃ k : Nat, x = (k : Int) := ⟨x.toNat, by omega⟩; obtain ⟨q, rfl⟩ : ∃ q : Nat, m = (q : Int) := ⟨m.toNat, by omega⟩
     have hes : (t.extract k t.size).size = t.size - k := by rw [ByteArray.size_extract]; omega
     refine wp_region_lit ?_
     refine zy HF (ylr (cs := [.slice a0 st.fRows.length c0, .slice a1 st.fSpace.fRefs.length c1, .slice a2 st.fSpace.fLast.length c2, .int .i64 st.fTxg, .slice a4 st.fGone.length c4, .int .i64 st.fKeep, .slice a6 st.fDead.length c6, .bool st.fSame]) rfl (HF.ev rfl) ((HS.out.box 1 rfl).sub 0 8)) ?_;clear HF a;intro a HF
     refine zy HF (ylr (cs := [.int .i64 n.fKind, .int .i64 n.fLinks, .int .i64 n.fSize, .int .i64 n.fTree.fRoot.fAt, .int .i64 n.fTree.fRoot.fBirth, .int .i64 n.fTree.fRoot.fSize, .int .i64 n.fTree.fRoot.fSum, .int .i64 n.fTree.fRoot.fLevel, .int .i64 n.fTree.fDepth, .int .i64 n.fTree.fMany]) rfl (HF.ev rfl) ((HS.out.box 0 rfl).sub 0 10)) ?_;clear HF a;intro a HF
     refine wl_callB rfl HF rfl (enter_of Tryz.func47 (by kernel_rfl) rfl) (args := #[sV a0 c0 a1 c1 a2 c2 a4 c4 a6 c6 st, nV n]) rfl (v := .string t) (l13Text_any a0 c0 a1 c1 a2 c2 a4 c4 a6 c6 st n t hF _ ((reads_rows hV.out).below HS.out.bel) (ok_rows hsok) h0) rfl rfl HS.out ?_; clear HF HS a; intro w6 a HS HF; replace HS := Bx.mk HS
     refine zm HF ?_;clear HF a;intro a HF
     refine zy HF (yl_sliceSl (k := k) rfl (HF.ev rfl) (HF.ev rfl) (by kernel_rfl) (by omega) (by omega)) ?_;clear HF a;intro a HF
     refine za HF ?_;clear HF a;intro a HF
     refine wl_ne ?_
     refine wp_sr ?_
     refine zr 3 HF rfl ?_;clear HF a;intro a HF
     refine zy HF (yl_lenS rfl (HF.ev rfl) (by kernel_rfl)) ?_;clear HF a;intro a HF
     refine zy HF (yl_minI rfl (HF.ev rfl) (HF.ev rfl)) ?_;clear HF a;intro a HF
     refine zy HF (yl_sliceSh (k := (min q (t.size - k))) rfl (HF.ev rfl) (HF.ev rfl) (by kernel_rfl) (by omega) (by omega)) ?_;clear HF a;intro a HF
     refine zr 2 HF rfl ?_;clear HF a;intro a HF
     refine wl_ne ?_
     refine wp_ret ?_
     refine bp_ret2 HF Tryz.results17 (HF.res rfl) (HF.res rfl) ?_
     exact .inl ⟨_, by rw [hFT]; exact partF_yes hinx (by omega), by rw [partB_nat (by omega)] <;> rfl, HS.out.bel⟩

end Go.Proofs.YtgaodbdadncfhaaGreatDoor

/- All pointers of a tree: walked. -/
namespace Go.Proofs.YtgaodbdadncfhaaGreatDoor
set_option linter.unusedVariables false
set_option linter.unusedSimpArgs false
set_option maxHeartbeats 1000000
set_option maxRecDepth 100000
open Go.RowKit

/-- How many pointers there are at most at a level and below. -/
def wg : Nat → Nat
  | 0 => 1
  | n + 1 => 1 + 4 * wg n
end Go.Proofs.YtgaodbdadncfhaaGreatDoor

/- All pointers of a tree, by the reference: walked. -/
namespace Go.Proofs.YtgaodbdadncfhaaGreatDoor
set_option linter.unusedVariables false
set_option linter.unusedSimpArgs false
set_option maxHeartbeats 1000000
set_option maxRecDepth 100000
open Go.RowKit

/-- All below a pointer, by its own level. -/
noncomputable def allO (st : StoreD) (p : PtrD) : List PtrD := allL st p.fLevel.toNat p
theorem allO_wf {st : StoreD} {n : Nat} {p : PtrD} (h : Wf st n p) : allO st p = allL st n p := by
  unfold allO
  cases hh : p.hole with
  | true => rw [allL_hole hh, allL_hole hh]
  | false => rw [h.level hh]; rfl
def mz : List PtrD → Nat
  | [] => 0
  | p :: r => (bif p.hole then 1 else wg p.fLevel.toNat) + mz r
theorem wg_pos : ∀ n, 1 ≤ wg n
  | 0 => Nat.le_refl _
  | n + 1 => by show 1 ≤ 1 + 4 * wg n; omega
theorem mz_kids {st : StoreD} {n : Nat} : ∀ {l : List PtrD}, (∀ q ∈ l, Wf st n q) → mz l ≤ l.length * wg n
  | [], _ => Nat.zero_le _
  | p :: r, h => by
    have ih := mz_kids fun q hq => h q (List.mem_cons_of_mem _ hq)
    have hw := h p (List.mem_cons_self ..)
    have h1 : (bif p.hole then 1 else wg p.fLevel.toNat) ≤ wg n := by
      cases hh : p.hole with
      | true => exact wg_pos n
      | false => rw [hw.level hh]; exact Nat.le_refl _
    show (bif p.hole then 1 else wg p.fLevel.toNat) + mz r ≤ (r.length + 1) * wg n
    rw [Nat.succ_mul]; omega
/-- What is told, and what is to do. -/
structure AllTo (st : StoreD) (A os ts : List PtrD) : Prop where
  sum : os ++ ts.flatMap (allO st) = A
  wf : ∀ p ∈ ts, ∃ n, n ≤ 2 ∧ Wf st n p
  room : os.length + mz ts ≤ 21
theorem AllTo.start {st : StoreD} {n : Nat} {p : PtrD} (hn : n ≤ 2) (h : Wf st n p) : AllTo st (allL st n p) [] [p] := by
  refine ⟨?_, fun q hq => ⟨n, hn, by rw [List.mem_singleton.1 hq]; exact h⟩, ?_⟩
  · rw [List.nil_append, List.flatMap_cons, List.flatMap_nil, List.append_nil, allO_wf h]
  · have h1 := mz_kids (l := [p]) (n := n) fun q hq => by rw [List.mem_singleton.1 hq]; exact h
    have h2 : wg n ≤ 21 := by rcases (by omega : n = 0 ∨ n = 1 ∨ n = 2) with e | e | e <;> rw [e] <;> decide
    rw [List.length_singleton, Nat.one_mul] at h1
    show 0 + mz [p] ≤ 21
    omega
section
variable {st : StoreD} {A os r : List PtrD} {p : PtrD}
theorem AllTo.tail (h : AllTo st A os (p :: r)) : ∀ q ∈ ([] ++ r : List PtrD), ∃ n, n ≤ 2 ∧ Wf st n q := fun q hq => h.wf q (List.mem_cons_of_mem _ (by simpa using hq))
theorem AllTo.hole (h : AllTo st A os (p :: r)) (hh : p.hole = true) : AllTo st A os ([] ++ r) ∧ mz ([] ++ r) < mz (p :: r) := by
  have h1 := h.sum
  have h2 := h.room
  have e : mz (p :: r) = 1 + mz r := by show (bif p.hole then 1 else wg p.fLevel.toNat) + mz r = _; rw [hh]; rfl
  refine ⟨⟨?_, h.tail, ?_⟩, ?_⟩
  · rw [List.nil_append, ← h1, List.flatMap_cons, show allO st p = [] from allL_hole hh _, List.nil_append]
  · rw [List.nil_append]; omega
  · rw [List.nil_append]; omega
theorem AllTo.below (h : AllTo st A os (p :: r)) (hh : p.hole = false) (hl : 0 < p.fLevel) : ∃ n l, n + 1 ≤ 2 ∧ p.fLevel = ((n + 1 : Nat) : Int) ∧ kidsS st p p.fLevel = some l ∧ kids st p ((n + 1 : Nat) : Int) = some l ∧ ∀ q ∈ l, Wf st n q := by
  obtain ⟨n, hn, hw⟩ := h.wf p (List.mem_cons_self ..)
  have hl2 := hw.level hh
  match n, hw, hl2, hn with
  | 0, _, hl2, _ => omega
  | n + 1, hw, hl2, hn =>
    obtain ⟨hp, hb, l, hk, hq⟩ := hw
    exact ⟨n, l, hn, hl2, by rw [kidsS_eq hp hb, hl2]; exact hk, hk, hq⟩
end

end Go.Proofs.YtgaodbdadncfhaaGreatDoor

/- Trees handed in; TreeAll over stores handed in. -/
namespace Go.Proofs.YtgaodbdadncfhaaGreatDoor
set_option linter.unusedVariables false
set_option linter.unusedSimpArgs false
set_option maxHeartbeats 1000000
set_option maxRecDepth 100000
open Go.RowKit

theorem toTree2_any (t : TreeD) (w0 : World) : Calls Tryz.prog 20 #[tV t] w0 fun e w' => e = .returned (tV t) ∧ Below w0.heap.size w0 w' := by
 have HS := Bx.mk (St.start w0)
 refine wc_enter Tryz.func20 rfl Tryz.ntmps20 [(0, tV t)] ⟨rfl, trivial⟩ rfl ?_; intro a HF
 refine wp_sr ?_
 refine wl_box rfl HF rfl (HF.ev rfl) (Z := [.int .i64 t.fRoot.fAt, .int .i64 t.fRoot.fBirth, .int .i64 t.fRoot.fSize, .int .i64 t.fRoot.fSum, .int .i64 t.fRoot.fLevel, .int .i64 t.fDepth, .int .i64 t.fMany]) rfl rfl rfl rfl HS.out ?_; clear HF HS a; intro a w1 b1 HF HS; replace HS := Bx.mk HS
 refine wl_alloc rfl HF rfl rfl rfl (Z := [.int .i64 0, .int .i64 0, .int .i64 0, .int .i64 0, .int .i64 0, .int .i64 0, .int .i64 0]) (by kernel_rfl) rfl HS.out ?_; clear HF HS a; intro a w2 b2 HF HS; replace HS := Bx.mk HS
 refine wl_ne ?_
 refine wp_sr ?_
 refine wl_alloc rfl HF rfl rfl rfl (Z := [.int .i64 0, .int .i64 0, .int .i64 0, .int .i64 0, .int .i64 0, .int .i64 0, .int .i64 0]) (by kernel_rfl) rfl HS.out ?_; clear HF HS a; intro a w3 b3 HF HS; replace HS := Bx.mk HS
 refine wl_ne ?_
 refine wp_sr ?_
 refine zy HF (yfa 0 rfl (HF.ev rfl)) ?_;clear HF a;intro a HF
 refine zy HF (ylr (cs := [.int .i64 t.fRoot.fAt, .int .i64 t.fRoot.fBirth, .int .i64 t.fRoot.fSize, .int .i64 t.fRoot.fSum, .int .i64 t.fRoot.fLevel]) rfl (HF.ev rfl) ((HS.out.box 2 rfl).sub 0 5)) ?_;clear HF a;intro a HF
 refine wl_callB rfl HF rfl (enter_of Tryz.func51 (by kernel_rfl) rfl) (args := #[pV t.fRoot]) rfl (v := pV t.fRoot) (toPtr_any t.fRoot _) rfl rfl HS.out ?_; clear HF HS a; intro w4 a HS HF; replace HS := Bx.mk HS
 refine zy HF (yfa 0 rfl (HF.ev rfl)) ?_;clear HF a;intro a HF
 refine wl_storeSub rfl rfl rfl (HF.ev rfl) (HF.ev rfl) HS.out 0 rfl (by kernel_rfl) rfl (by kernel_rfl) (rs := [.int .i64 t.fRoot.fAt, .int .i64 t.fRoot.fBirth, .int .i64 t.fRoot.fSize, .int .i64 t.fRoot.fSum, .int .i64 t.fRoot.fLevel, .int .i64 0, .int .i64 0]) rfl ?_; clear HS; intro w5 HS; replace HS := Bx.mk HS
 try dsimp only [List.set] at HS
 refine wl_ne ?_
 refine wp_sr ?_
 refine zy HF (yfa 5 rfl (HF.ev rfl)) ?_;clear HF a;intro a HF
 refine zy HF (ylo (v := .int .i64 t.fDepth) rfl (HF.ev rfl) (((HS.out.box 2 rfl).cell 5).trans rfl)) ?_;clear HF a;intro a HF
 refine zy HF (yfa 5 rfl (HF.ev rfl)) ?_;clear HF a;intro a HF
 refine wl_storeF rfl rfl rfl (HF.ev rfl) (HF.ev rfl) (by kernel_rfl) HS.out 0 rfl rfl rfl ?_; clear HS; intro w6 HS; replace HS := Bx.mk HS
 try dsimp only [List.set] at HS
 refine wl_ne ?_
 refine wp_sr ?_
 refine zy HF (yfa 6 rfl (HF.ev rfl)) ?_;clear HF a;intro a HF
 refine zy HF (ylo (v := .int .i64 t.fMany) rfl (HF.ev rfl) (((HS.out.box 2 rfl).cell 6).trans rfl)) ?_;clear HF a;intro a HF
 refine zy HF (yfa 6 rfl (HF.ev rfl)) ?_;clear HF a;intro a HF
 refine wl_storeF rfl rfl rfl (HF.ev rfl) (HF.ev rfl) (by kernel_rfl) HS.out 0 rfl rfl rfl ?_; clear HS; intro w7 HS; replace HS := Bx.mk HS
 try dsimp only [List.set] at HS
 refine wl_ne ?_
 refine wp_sr ?_
 refine zy HF (ylr (cs := [.int .i64 t.fRoot.fAt, .int .i64 t.fRoot.fBirth, .int .i64 t.fRoot.fSize, .int .i64 t.fRoot.fSum, .int .i64 t.fRoot.fLevel, .int .i64 t.fDepth, .int .i64 t.fMany]) rfl (HF.ev rfl) ((HS.out.box 0 rfl).sub 0 7)) ?_;clear HF a;intro a HF
 refine wl_storeBox rfl HF rfl rfl (HF.ev rfl) (HF.ev rfl) HS.out 1 rfl (cells_lit [.int .i64 t.fRoot.fAt, .int .i64 t.fRoot.fBirth, .int .i64 t.fRoot.fSize, .int .i64 t.fRoot.fSum, .int .i64 t.fRoot.fLevel, .int .i64 t.fDepth, .int .i64 t.fMany] rfl rfl) (by kernel_rfl) ?_; clear HS; intro w8 HS; replace HS := Bx.mk HS
 try dsimp only [List.set] at HS
 refine wl_ne ?_
 refine wp_ret ?_
 refine bp_ret1 HF Tryz.results20 (HF.resBox rfl (HS.out.box 1 rfl) (by kernel_rfl)) ?_
 exact ⟨rfl, HS.out.bel⟩

end Go.Proofs.YtgaodbdadncfhaaGreatDoor

/- Nodes handed in; what files tell over stores handed in. -/
namespace Go.Proofs.YtgaodbdadncfhaaGreatDoor
set_option linter.unusedVariables false
set_option linter.unusedSimpArgs false
set_option maxHeartbeats 1000000
set_option maxRecDepth 100000
open Go.RowKit

theorem toNode_any (n : NodeD) (w0 : World) : Calls Tryz.prog 12 #[nV n] w0 fun e w' => e = .returned (nV n) ∧ Below w0.heap.size w0 w' := by
 have HS := Bx.mk (St.start w0)
 refine wc_enter Tryz.func12 rfl Tryz.ntmps12 [(0, nV n)] ⟨rfl, trivial⟩ rfl ?_; intro a HF
 refine wp_sr ?_
 refine wl_box rfl HF rfl (HF.ev rfl) (Z := [.int .i64 n.fKind, .int .i64 n.fLinks, .int .i64 n.fSize, .int .i64 n.fTree.fRoot.fAt, .int .i64 n.fTree.fRoot.fBirth, .int .i64 n.fTree.fRoot.fSize, .int .i64 n.fTree.fRoot.fSum, .int .i64 n.fTree.fRoot.fLevel, .int .i64 n.fTree.fDepth, .int .i64 n.fTree.fMany]) rfl rfl rfl rfl HS.out ?_; clear HF HS a; intro a w1 b1 HF HS; replace HS := Bx.mk HS
 refine wl_alloc rfl HF rfl rfl rfl (Z := [.int .i64 0, .int .i64 0, .int .i64 0, .int .i64 0, .int .i64 0, .int .i64 0, .int .i64 0, .int .i64 0, .int .i64 0, .int .i64 0]) (by kernel_rfl) rfl HS.out ?_; clear HF HS a; intro a w2 b2 HF HS; replace HS := Bx.mk HS
 refine wl_ne ?_
 refine wp_sr ?_
 refine wl_alloc rfl HF rfl rfl rfl (Z := [.int .i64 0, .int .i64 0, .int .i64 0, .int .i64 0, .int .i64 0, .int .i64 0, .int .i64 0, .int .i64 0, .int .i64 0, .int .i64 0]) (by kernel_rfl) rfl HS.out ?_; clear HF HS a; intro a w3 b3 HF HS; replace HS := Bx.mk HS
 refine wl_ne ?_
 refine wp_sr ?_
 refine zy HF (yfa 0 rfl (HF.ev rfl)) ?_;clear HF a;intro a HF
 refine zy HF (ylo (v := .int .i64 n.fKind) rfl (HF.ev rfl) (((HS.out.box 2 rfl).cell 0).trans rfl)) ?_;clear HF a;intro a HF
 refine zy HF (yfa 0 rfl (HF.ev rfl)) ?_;clear HF a;intro a HF
 refine wl_storeF rfl rfl rfl (HF.ev rfl) (HF.ev rfl) (by kernel_rfl) HS.out 0 rfl rfl rfl ?_; clear HS; intro w4 HS; replace HS := Bx.mk HS
 try dsimp only [List.set] at HS
 refine wl_ne ?_
 refine wp_sr ?_
 refine zy HF (yfa 1 rfl (HF.ev rfl)) ?_;clear HF a;intro a HF
 refine zy HF (ylo (v := .int .i64 n.fLinks) rfl (HF.ev rfl) (((HS.out.box 2 rfl).cell 1).trans rfl)) ?_;clear HF a;intro a HF
 refine zy HF (yfa 1 rfl (HF.ev rfl)) ?_;clear HF a;intro a HF
 refine wl_storeF rfl rfl rfl (HF.ev rfl) (HF.ev rfl) (by kernel_rfl) HS.out 0 rfl rfl rfl ?_; clear HS; intro w5 HS; replace HS := Bx.mk HS
 try dsimp only [List.set] at HS
 refine wl_ne ?_
 refine wp_sr ?_
 refine zy HF (yfa 2 rfl (HF.ev rfl)) ?_;clear HF a;intro a HF
 refine zy HF (ylo (v := .int .i64 n.fSize) rfl (HF.ev rfl) (((HS.out.box 2 rfl).cell 2).trans rfl)) ?_;clear HF a;intro a HF
 refine zy HF (yfa 2 rfl (HF.ev rfl)) ?_;clear HF a;intro a HF
 refine wl_storeF rfl rfl rfl (HF.ev rfl) (HF.ev rfl) (by kernel_rfl) HS.out 0 rfl rfl rfl ?_; clear HS; intro w6 HS; replace HS := Bx.mk HS
 try dsimp only [List.set] at HS
 refine wl_ne ?_
 refine wp_sr ?_
 refine zy HF (yfa 3 rfl (HF.ev rfl)) ?_;clear HF a;intro a HF
 refine zy HF (ylr (cs := [.int .i64 n.fTree.fRoot.fAt, .int .i64 n.fTree.fRoot.fBirth, .int .i64 n.fTree.fRoot.fSize, .int .i64 n.fTree.fRoot.fSum, .int .i64 n.fTree.fRoot.fLevel, .int .i64 n.fTree.fDepth, .int .i64 n.fTree.fMany]) rfl (HF.ev rfl) ((HS.out.box 2 rfl).sub 3 7)) ?_;clear HF a;intro a HF
 refine wl_callB rfl HF rfl (enter_of Tryz.func20 (by kernel_rfl) rfl) (args := #[tV n.fTree]) rfl (v := tV n.fTree) (toTree2_any n.fTree _) rfl rfl HS.out ?_; clear HF HS a; intro w7 a HS HF; replace HS := Bx.mk HS
 refine zy HF (yfa 3 rfl (HF.ev rfl)) ?_;clear HF a;intro a HF
 refine wl_storeSub rfl rfl rfl (HF.ev rfl) (HF.ev rfl) HS.out 0 rfl (by kernel_rfl) rfl (by kernel_rfl) (rs := [.int .i64 n.fKind, .int .i64 n.fLinks, .int .i64 n.fSize, .int .i64 n.fTree.fRoot.fAt, .int .i64 n.fTree.fRoot.fBirth, .int .i64 n.fTree.fRoot.fSize, .int .i64 n.fTree.fRoot.fSum, .int .i64 n.fTree.fRoot.fLevel, .int .i64 n.fTree.fDepth, .int .i64 n.fTree.fMany]) rfl ?_; clear HS; intro w8 HS; replace HS := Bx.mk HS
 try dsimp only [List.set] at HS
 refine wl_ne ?_
 refine wp_sr ?_
 refine zy HF (ylr (cs := [.int .i64 n.fKind, .int .i64 n.fLinks, .int .i64 n.fSize, .int .i64 n.fTree.fRoot.fAt, .int .i64 n.fTree.fRoot.fBirth, .int .i64 n.fTree.fRoot.fSize, .int .i64 n.fTree.fRoot.fSum, .int .i64 n.fTree.fRoot.fLevel, .int .i64 n.fTree.fDepth, .int .i64 n.fTree.fMany]) rfl (HF.ev rfl) ((HS.out.box 0 rfl).sub 0 10)) ?_;clear HF a;intro a HF
 refine wl_storeBox rfl HF rfl rfl (HF.ev rfl) (HF.ev rfl) HS.out 1 rfl (cells_lit [.int .i64 n.fKind, .int .i64 n.fLinks, .int .i64 n.fSize, .int .i64 n.fTree.fRoot.fAt, .int .i64 n.fTree.fRoot.fBirth, .int .i64 n.fTree.fRoot.fSize, .int .i64 n.fTree.fRoot.fSum, .int .i64 n.fTree.fRoot.fLevel, .int .i64 n.fTree.fDepth, .int .i64 n.fTree.fMany] rfl rfl) (by kernel_rfl) ?_; clear HS; intro w9 HS; replace HS := Bx.mk HS
 try dsimp only [List.set] at HS
 refine wl_ne ?_
 refine wp_ret ?_
 refine bp_ret1 HF Tryz.results12 (HF.resBox rfl (HS.out.box 1 rfl) (by kernel_rfl)) ?_
 exact ⟨rfl, HS.out.bel⟩

def tellV (o : Option ByteArray) : ByteArray := o.getD ByteArray.empty

theorem implFileRead_v (v : Value) (st : StoreD) (n : NodeD) (x m : Int) (w0 : World) (hT : TabP w0) (hM : MaxP w0) (hE : ErrP w0) (hr : StoreD.Reads w0 v st) (hf : st.Fit) : Calls Tryz.prog 18 #[v, .agg #[.int .i64 n.fKind, .int .i64 n.fLinks, .int .i64 n.fSize, .int .i64 n.fTree.fRoot.fAt, .int .i64 n.fTree.fRoot.fBirth, .int .i64 n.fTree.fRoot.fSize, .int .i64 n.fTree.fRoot.fSum, .int .i64 n.fTree.fRoot.fLevel, .int .i64 n.fTree.fDepth, .int .i64 n.fTree.fMany], .int .i64 x, .int .i64 m] w0 fun e w' => e = .returned (.tuple #[.string (tellV (partF (fileT st n) x m)), .bool (partF (fileT st n) x m).isSome]) ∧ Below w0.heap.size w0 w' := by
  have hr2 := hr
  obtain ⟨a0, c0, a1, c1, a2, c2, a4, c4, a6, c6, rfl, _⟩ := hr
  refine (implFileRead_any a0 c0 a1 c1 a2 c2 a4 c4 a6 c6 st n x m w0 hT hM hE hr2 hf).mono ?_
  rintro e w' (⟨t, h, rfl, hb⟩ | ⟨h, rfl, hb⟩)
  · exact ⟨by rw [h]; rfl, hb⟩
  · exact ⟨by rw [h]; rfl, hb⟩

theorem specFileRead_v (v : Value) (st : StoreD) (n : NodeD) (x m : Int) (w0 : World) (hr : StoreD.Reads w0 v st) (hf : st.Fit) (hi : -9223372036854775808 ≤ st.fTxg) : Calls Tryz.prog 17 #[v, .agg #[.int .i64 n.fKind, .int .i64 n.fLinks, .int .i64 n.fSize, .int .i64 n.fTree.fRoot.fAt, .int .i64 n.fTree.fRoot.fBirth, .int .i64 n.fTree.fRoot.fSize, .int .i64 n.fTree.fRoot.fSum, .int .i64 n.fTree.fRoot.fLevel, .int .i64 n.fTree.fDepth, .int .i64 n.fTree.fMany], .int .i64 x, .int .i64 m] w0 fun e w' => e = .returned (.tuple #[.string (tellV (partF (fileT st n) x m)), .bool (partF (fileT st n) x m).isSome]) ∧ Below w0.heap.size w0 w' := by
  have hr2 := hr
  obtain ⟨a0, c0, a1, c1, a2, c2, a4, c4, a6, c6, rfl, _⟩ := hr
  refine (specFileRead_any a0 c0 a1 c1 a2 c2 a4 c4 a6 c6 st n x m w0 hr2 hf hi).mono ?_
  rintro e w' (⟨t, h, rfl, hb⟩ | ⟨h, rfl, hb⟩)
  · exact ⟨by rw [h]; rfl, hb⟩
  · exact ⟨by rw [h]; rfl, hb⟩

end Go.Proofs.YtgaodbdadncfhaaGreatDoor

/- StoreD: how it is owned, thing by thing. -/
namespace Go.Proofs.YtgaodbdadncfhaaGreatDoor
set_option linter.unusedVariables false
set_option linter.unusedSimpArgs false
set_option maxHeartbeats 1000000
set_option maxRecDepth 100000
open Go.RowKit

theorem StoreD.Own.loc (w w' : World) (B B1 : Nat) (v : Value) (x : StoreD) (hb : ∀ b, B ≤ b → b < B1 → w'.heap[b]? = w.heap[b]?) (h : StoreD.Own w B B1 v x) : StoreD.Own w' B B1 v x := by
  obtain ⟨a0, c0, a1, c1, a2, c2, a4, c4, a6, c6, rfl, r0, r1, r2, r4, r6, p0_1, p0_2, p0_4, p0_6, p1_2, p1_4, p1_6, p2_4, p2_6, p4_6⟩ := h
  exact ⟨a0, c0, a1, c1, a2, c2, a4, c4, a6, c6, rfl, r0.loc hb, r1.loc hb, r2.loc hb, r4.loc hb, r6.loc hb, p0_1, p0_2, p0_4, p0_6, p1_2, p1_4, p1_6, p2_4, p2_6, p4_6⟩
end Go.Proofs.YtgaodbdadncfhaaGreatDoor

/- FnExactFileText, FileHoles, FileRead: the laws' walks. -/
namespace Go.Proofs.YtgaodbdadncfhaaGreatDoor
set_option linter.unusedVariables false
set_option linter.unusedSimpArgs false
set_option maxHeartbeats 1000000
set_option maxRecDepth 100000
open Go.RowKit

set_option maxHeartbeats 4000000 in
theorem lawFileRead_any (va : Value) (st : StoreD) (n : NodeD) (x m : Int) (w0 : World) (hT : TabP w0) (hM : MaxP w0) (hE : ErrP w0) (hr : StoreD.Reads w0 va st) (hsm : st.Small) (hi : -9223372036854775808 ≤ st.fTxg) : Calls Tryz.prog 5 #[va, nV n, .int .i64 x, .int .i64 m] w0 fun e w' => e = .returned (.bool true) ∧ Below w0.heap.size w0 w' := by
 have HT := Bx.mk hT; have HM := Bx.mk hM; have HE := Bx.mk hE; clear hT hM hE
 have HR := Bx.mk hr
 obtain ⟨a0, c0, a1, c1, a2, c2, a4, c4, a6, c6, rfl, _⟩ := hr
 have HS := Bx.mk (St.start w0)
 refine wc_enter Tryz.func5 rfl Tryz.ntmps5 [(0, sV a0 c0 a1 c1 a2 c2 a4 c4 a6 c6 st), (1, nV n), (2, .int .i64 x), (3, .int .i64 m)] ⟨rfl, rfl, rfl, rfl, trivial⟩ rfl ?_; intro a HF
 refine wp_sr ?_
 refine wl_box rfl HF rfl (HF.ev rfl) (Z := [.slice a0 st.fRows.length c0, .slice a1 st.fSpace.fRefs.length c1, .slice a2 st.fSpace.fLast.length c2, .int .i64 st.fTxg, .slice a4 st.fGone.length c4, .int .i64 st.fKeep, .slice a6 st.fDead.length c6, .bool st.fSame]) rfl rfl rfl rfl HS.out ?_; clear HF HS a; intro a w1 b1 HF HS; replace HS := Bx.mk HS
 refine wl_box rfl HF rfl (HF.ev rfl) (Z := [.int .i64 n.fKind, .int .i64 n.fLinks, .int .i64 n.fSize, .int .i64 n.fTree.fRoot.fAt, .int .i64 n.fTree.fRoot.fBirth, .int .i64 n.fTree.fRoot.fSize, .int .i64 n.fTree.fRoot.fSum, .int .i64 n.fTree.fRoot.fLevel, .int .i64 n.fTree.fDepth, .int .i64 n.fTree.fMany]) rfl rfl rfl rfl HS.out ?_; clear HF HS a; intro a w2 b2 HF HS; replace HS := Bx.mk HS
 refine za HF ?_;clear HF a;intro a HF
 refine wl_ne ?_
 refine wp_sr ?_
 refine za HF ?_;clear HF a;intro a HF
 refine wl_ne ?_
 refine wp_sr ?_
 refine zy HF (ylr (cs := [.slice a0 st.fRows.length c0, .slice a1 st.fSpace.fRefs.length c1, .slice a2 st.fSpace.fLast.length c2, .int .i64 st.fTxg, .slice a4 st.fGone.length c4, .int .i64 st.fKeep, .slice a6 st.fDead.length c6, .bool st.fSame]) rfl (HF.ev rfl) ((HS.out.box 1 rfl).sub 0 8)) ?_;clear HF a;intro a HF
 refine zm HF ?_;clear HF a;intro a HF
 refine wl_callB rfl HF rfl (enter_of Tryz.func9 (by kernel_rfl) rfl) (args := #[sV a0 c0 a1 c1 a2 c2 a4 c4 a6 c6 st, .int .i64 1048576]) rfl (v := .int .i64 (leftOf 1048576 st.bulk)) (szStore_any _ st 1048576 _ (by omega) (by omega) (HR.out.below HS.out.bel) hsm) rfl rfl HS.out ?_; clear HF HS a; intro w3 a HS HF; replace HS := Bx.mk HS
 refine za HF ?_;clear HF a;intro a HF
 refine wl_ne ?_
 refine wp_seq ?_
 refine wp_sr ?_
 refine zr 2 HF rfl ?_;clear HF a;intro a HF
 refine wl_ne ?_
 refine HF.cases 19 rfl (fun cc1 _ => ?_) fun cc1 _ => ?_
 ·clear HF;rename_i HF
  refine wc_true HF rfl ?_
  refine wp_sr ?_
  refine za HF ?_;clear HF a;intro a HF
  refine wl_ne ?_
  refine wp_ret ?_
  refine ex_then_ret ?_
  refine bp_ret1 HF Tryz.results5 (HF.res rfl) ?_
  exact ⟨rfl, HS.out.bel⟩
 ·clear HF;rename_i HF
  have hbk : st.bulk ≤ 1048576 := by have := of_decide_eq_false cc1; unfold leftOf at this; split at this <;> omega
  have hf := StoreD.fit hbk
  refine wc_false HF rfl ?_
  refine wp_skip ?_
  refine ex_then ?_
  refine wp_seq ?_
  refine wr_heldS (s := [boxA b2 10 34 (nV n), boxA b1 8 28 (sV a0 c0 a1 c1 a2 c2 a4 c4 a6 c6 st)]) (by kernel_rfl) (St.drew (HS.out)) ?_
  have HS2 := Bx.mk HS.out.drew; replace HS := Bx.mk (show St w0 ([boxA b2 10 34 (nV n), boxA b1 8 28 (sV a0 c0 a1 c1 a2 c2 a4 c4 a6 c6 st)]) _ from HS.out.drew)
  generalize World.drew _ = w4 at HS HS2 ⊢
  refine zh 0 rfl HF (fun _ HS => (ylr (cs := [.slice a0 st.fRows.length c0, .slice a1 st.fSpace.fRefs.length c1, .slice a2 st.fSpace.fLast.length c2, .int .i64 st.fTxg, .slice a4 st.fGone.length c4, .int .i64 st.fKeep, .slice a6 st.fDead.length c6, .bool st.fSame]) rfl (HF.ev rfl) ((HS.box 1 rfl).sub 0 8))) HS.out ?_;clear HF a;intro a HF
  refine zh 2 rfl HF (fun _ HS => (ylr (cs := [.int .i64 n.fKind, .int .i64 n.fLinks, .int .i64 n.fSize, .int .i64 n.fTree.fRoot.fAt, .int .i64 n.fTree.fRoot.fBirth, .int .i64 n.fTree.fRoot.fSize, .int .i64 n.fTree.fRoot.fSum, .int .i64 n.fTree.fRoot.fLevel, .int .i64 n.fTree.fDepth, .int .i64 n.fTree.fMany]) rfl (HF.ev rfl) ((HS.box 0 rfl).sub 0 10))) HS.out ?_;clear HF a;intro a HF
  refine zh 4 rfl HF (fun _ HS => (yl_move rfl (HF.ev rfl))) HS.out ?_;clear HF a;intro a HF
  refine zh 5 rfl HF (fun _ HS => (yl_move rfl (HF.ev rfl))) HS.out ?_;clear HF a;intro a HF
  refine wh_one 1 (by kernel_rfl) ?_
  refine wo_call rfl rfl HF rfl (enter_of Tryz.func11 (by kernel_rfl) rfl) (args := #[sV a0 c0 a1 c1 a2 c2 a4 c4 a6 c6 st]) rfl (toStore_any _ st _ hf (HR.out.below HS.out.bel)) rfl rfl ?_
  rintro _ w6 ⟨u3, rfl, ho, hb⟩
  refine ⟨_, rfl, ?_⟩; replace HS := Bx.mk (HS.out.later hb); replace HS2 := Bx.mk (HS2.out.add (St.ivNew (loc := StoreD.Own.loc) ho hb)); clear ho hb HF; clear a; intro a HF; refine ⟨HS.out, ?_⟩
  obtain ⟨B4, C5, hh⟩ : ∃ B B1, St w0 ([ivA StoreD.Own StoreD.Own.loc B B1 u3 st, boxA b2 10 34 (nV n), boxA b1 8 28 (sV a0 c0 a1 c1 a2 c2 a4 c4 a6 c6 st)]) w6 := ⟨_, _, HS2.out⟩; replace HS2 := Bx.mk hh; clear hh
  refine wh_one 3 (by kernel_rfl) ?_
  refine wo_callB rfl rfl HF rfl (enter_of Tryz.func12 (by kernel_rfl) rfl) (args := #[nV n]) rfl (v := nV n) (toNode_any n _) rfl rfl ?_
  intro w7 hb; replace HS := Bx.mk (HS.out.later hb); replace HS2 := Bx.mk (HS2.out.later hb);clear hb HF a;intro a HF; refine ⟨HS.out, ?_⟩
  refine wh_one 6 (by kernel_rfl) ?_
  refine wo_callB rfl rfl HF rfl (enter_of Tryz.func17 (by kernel_rfl) rfl) (args := #[u3, nV n, .int .i64 x, .int .i64 m]) rfl (v := .tuple #[.string (tellV (partF (fileT st n) x m)), .bool ((partF (fileT st n) x m).isSome)]) (specFileRead_v _ st n x m _ (StoreD.Own.rd (HS2.out.iv 0 rfl)) hf hi) rfl rfl ?_
  intro w8 hb; replace HS := Bx.mk (HS.out.later hb); replace HS2 := Bx.mk (HS2.out.later hb);clear hb HF a;intro a HF; refine ⟨HS.out, ?_⟩
  refine zh 7 rfl HF (fun _ HS => (yl_move rfl (HF.ev rfl))) HS.out ?_;clear HF a;intro a HF
  refine zh 8 rfl HF (fun _ HS => (yl_extract rfl (HF.ev rfl) rfl)) HS.out ?_;clear HF a;intro a HF
  refine zh 9 rfl HF (fun _ HS => (yl_extract rfl (HF.ev rfl) rfl)) HS.out ?_;clear HF a;intro a HF
  refine zh 10 rfl HF (fun _ HS => (yl_assign rfl (HF.ev rfl))) HS.out ?_;clear HF a;intro a HF
  refine zh 11 rfl HF (fun _ HS => (yl_assign rfl (HF.ev rfl))) HS.out ?_;clear HF a;intro a HF
  refine wh_done (by kernel_rfl) ?_
  replace HS := HS2; clear HS2
  refine ex_then ?_
  refine wp_sr ?_
  refine zy HF (ylr (cs := [.slice a0 st.fRows.length c0, .slice a1 st.fSpace.fRefs.length c1, .slice a2 st.fSpace.fLast.length c2, .int .i64 st.fTxg, .slice a4 st.fGone.length c4, .int .i64 st.fKeep, .slice a6 st.fDead.length c6, .bool st.fSame]) rfl (HF.ev rfl) ((HS.out.box 2 rfl).sub 0 8)) ?_;clear HF a;intro a HF
  refine wl_call rfl HF rfl (enter_of Tryz.func11 (by kernel_rfl) rfl) (args := #[sV a0 c0 a1 c1 a2 c2 a4 c4 a6 c6 st]) rfl (toStore_any _ st _ hf (HR.out.below HS.out.bel)) rfl rfl ?_
  rintro _ w9 ⟨u6, rfl, ho, hb⟩
  refine ⟨_, rfl, ?_⟩; replace HS := Bx.mk (HS.out.add (St.ivNew (loc := StoreD.Own.loc) ho hb)); clear ho hb HF; clear a; intro a HF
  obtain ⟨B7, C8, hh⟩ : ∃ B B1, St w0 ([ivA StoreD.Own StoreD.Own.loc B B1 u6 st, ivA StoreD.Own StoreD.Own.loc B4 C5 u3 st, boxA b2 10 34 (nV n), boxA b1 8 28 (sV a0 c0 a1 c1 a2 c2 a4 c4 a6 c6 st)]) w9 := ⟨_, _, HS.out⟩; replace HS := Bx.mk hh; clear hh
  refine wl_alloc rfl HF rfl rfl rfl (Z := [.slice none 0 0, .slice none 0 0, .slice none 0 0, .int .i64 0, .slice none 0 0, .int .i64 0, .slice none 0 0, .bool false]) (by kernel_rfl) rfl HS.out ?_; clear HF HS a; intro a w10 b9 HF HS; replace HS := Bx.mk HS
  refine wl_storeBox rfl HF rfl rfl (HF.ev rfl) (HF.ev rfl) HS.out 0 rfl (StoreD.Own.cells (HS.out.iv 1 rfl)) (by kernel_rfl) ?_; clear HS; intro w11 HS; replace HS := Bx.mk HS
  try dsimp only [List.set] at HS
  refine wl_ne ?_
  refine wp_seq ?_
  refine wr_quiet (by kernel_rfl) (by kernel_rfl) HS.out ?_
  refine zq HF (fun _ HS => (yl_loadB (v := u6) rfl (HF.ev rfl) (HS.box 0 rfl) (by kernel_rfl))) ?_;clear HF a;intro a HF
  refine zq HF (fun _ HS => (ylr (cs := [.int .i64 n.fKind, .int .i64 n.fLinks, .int .i64 n.fSize, .int .i64 n.fTree.fRoot.fAt, .int .i64 n.fTree.fRoot.fBirth, .int .i64 n.fTree.fRoot.fSize, .int .i64 n.fTree.fRoot.fSum, .int .i64 n.fTree.fRoot.fLevel, .int .i64 n.fTree.fDepth, .int .i64 n.fTree.fMany]) rfl (HF.ev rfl) ((HS.box 3 rfl).sub 0 10))) ?_;clear HF a;intro a HF
  refine wq_call rfl HF rfl (enter_of Tryz.func12 (by kernel_rfl) rfl) (args := #[nV n]) rfl (v := nV n) (fun _ HS => toNode_any n _) rfl rfl ?_;clear HF a;intro a HF
  refine zrq 2 HF rfl ?_;clear HF a;intro a HF
  refine wq_call rfl HF rfl (enter_of Tryz.func18 (by kernel_rfl) rfl) (args := #[u6, nV n, .int .i64 x, .int .i64 m]) rfl (v := .tuple #[.string (tellV (partF (fileT st n) x m)), .bool ((partF (fileT st n) x m).isSome)]) (fun _ HS => implFileRead_v _ st n x m _ (HT.out.below HS.bel) (HM.out.below HS.bel) (HE.out.below HS.bel) (StoreD.Own.rd (HS.iv 1 rfl)) hf) rfl rfl ?_;clear HF a;intro a HF
  refine zrq 5 HF rfl ?_;clear HF a;intro a HF
  refine wpQuiet_nil ?_; intro w12 HS; replace HS := Bx.mk HS
  refine ex_then ?_
  refine wp_seq ?_
  refine wp_sr ?_
  refine zr 2 HF rfl ?_;clear HF a;intro a HF
  refine zy HF (yl_neqS rfl (HF.ev rfl) (HF.ev rfl)) ?_;clear HF a;intro a HF
  refine zm HF ?_;clear HF a;intro a HF
  refine HF.cases 44 rfl (fun cc2 _ => ?_) fun cc2 _ => ?_
  ·clear HF;rename_i HF
   simp at cc2
  ·clear HF;rename_i HF
   refine zr 2 HF rfl ?_;clear HF a;intro a HF
   refine zg HF (yl_neqBs rfl (HF.ev rfl) (HF.ev rfl) (by kernel_rfl)) ?_;clear HF a;intro a HF
   refine zy HF (yl_pick_f rfl (HF.ev rfl) (HF.ev rfl)) ?_;clear HF a;intro a HF
   refine wl_ne ?_
   refine wc_false HF rfl ?_
   refine wp_skip ?_
   refine ex_then ?_
   refine wp_seq ?_
   refine wp_seq ?_
   refine wr_heldS (s := [boxA b9 8 41 u6, ivA StoreD.Own StoreD.Own.loc B7 C8 u6 st, ivA StoreD.Own StoreD.Own.loc B4 C5 u3 st, boxA b2 10 34 (nV n), boxA b1 8 28 (sV a0 c0 a1 c1 a2 c2 a4 c4 a6 c6 st)]) (by kernel_rfl) (St.drew (HS.out)) ?_
   have HS2 := Bx.mk HS.out.drew; replace HS := Bx.mk (show St w0 ([boxA b9 8 41 u6, ivA StoreD.Own StoreD.Own.loc B7 C8 u6 st, ivA StoreD.Own StoreD.Own.loc B4 C5 u3 st, boxA b2 10 34 (nV n), boxA b1 8 28 (sV a0 c0 a1 c1 a2 c2 a4 c4 a6 c6 st)]) _ from HS.out.drew)
   generalize World.drew _ = w13 at HS HS2 ⊢
   refine zh 0 rfl HF (fun _ HS => (yl_loadB (v := u6) rfl (HF.ev rfl) (HS.box 0 rfl) (by kernel_rfl))) HS.out ?_;clear HF a;intro a HF
   refine zh 1 rfl HF (fun _ HS => (ylr (cs := [.slice a0 st.fRows.length c0, .slice a1 st.fSpace.fRefs.length c1, .slice a2 st.fSpace.fLast.length c2, .int .i64 st.fTxg, .slice a4 st.fGone.length c4, .int .i64 st.fKeep, .slice a6 st.fDead.length c6, .bool st.fSame]) rfl (HF.ev rfl) ((HS.box 4 rfl).sub 0 8))) HS.out ?_;clear HF a;intro a HF
   refine wh_one 2 (by kernel_rfl) ?_
   refine wo_call rfl rfl HF rfl (enter_of Tryz.func11 (by kernel_rfl) rfl) (args := #[sV a0 c0 a1 c1 a2 c2 a4 c4 a6 c6 st]) rfl (toStore_any _ st _ hf (HR.out.below HS.out.bel)) rfl rfl ?_
   rintro _ w15 ⟨u10, rfl, ho, hb⟩
   refine ⟨_, rfl, ?_⟩; replace HS := Bx.mk (HS.out.later hb); replace HS2 := Bx.mk (HS2.out.add (St.ivNew (loc := StoreD.Own.loc) ho hb)); clear ho hb HF; clear a; intro a HF; refine ⟨HS.out, ?_⟩
   obtain ⟨B11, C12, hh⟩ : ∃ B B1, St w0 ([ivA StoreD.Own StoreD.Own.loc B B1 u10 st, boxA b9 8 41 u6, ivA StoreD.Own StoreD.Own.loc B7 C8 u6 st, ivA StoreD.Own StoreD.Own.loc B4 C5 u3 st, boxA b2 10 34 (nV n), boxA b1 8 28 (sV a0 c0 a1 c1 a2 c2 a4 c4 a6 c6 st)]) w15 := ⟨_, _, HS2.out⟩; replace HS2 := Bx.mk hh; clear hh
   refine wh_one 3 (by kernel_rfl) ?_
   refine wo_callB rfl rfl HF rfl (enter_of Tryz.func14 (by kernel_rfl) rfl) (args := #[u6, u10]) rfl (v := .bool true) (eqStore_yes _ _ st _ hf (StoreD.Own.rd (HS2.out.iv 2 rfl)) (StoreD.Own.rd (HS2.out.iv 0 rfl))) rfl rfl ?_
   intro w16 hb; replace HS := Bx.mk (HS.out.later hb); replace HS2 := Bx.mk (HS2.out.later hb);clear hb HF a;intro a HF; refine ⟨HS.out, ?_⟩
   refine zh 4 rfl HF (fun _ HS => (yl_not rfl (HF.ev rfl))) HS.out ?_;clear HF a;intro a HF
   refine wh_done (by kernel_rfl) ?_
   replace HS := HS2; clear HS2
   refine ex_then ?_
   refine wc_false HF rfl ?_
   refine wp_skip ?_
   refine ex_then ?_
   refine wp_sr ?_
   refine za HF ?_;clear HF a;intro a HF
   refine wl_ne ?_
   refine wp_ret ?_
   refine bp_ret1 HF Tryz.results5 (HF.res rfl) ?_
   exact ⟨rfl, HS.out.bel⟩
end Go.Proofs.YtgaodbdadncfhaaGreatDoor
