/- A part of the proof in YtigjfacaofgjjaaGreatDoorWrZ33. -/
import Derived.Shelf.Strings.Prefix
import Derived.Shelf.Strings.Repeat
import Derived.Test.YtigjfacaofgjjaaGreatDoorWrZ23
namespace Go.Proofs.YtigjfacaofgjjaaGreatDoor
set_option linter.unusedVariables false
set_option linter.unusedSimpArgs false
set_option maxHeartbeats 1000000
set_option maxRecDepth 100000
open Go.Shelf
def Zj6 : Go.Shelf.Ren := ⟨fun | 100 => 125 | 207 => 177 | n => n, fun | 3 => 3 | 4 => 4 | 9 => 9 | n => n, fun | n => n⟩
theorem Zj7 : Go.Proofs.Lays.n100 Tryz.prog Zj6 := {
  mixed := by kernel_rfl
  f100 := Tryz.func125.trans (congrArg some (by kernel_rfl))
  f207 := Tryz.func177.trans (congrArg some (by kernel_rfl))
  t3 := Tryz.underlying3
  a3 := Tryz.isAgg3
  z3 := Tryz.sizeOf3
  v3 := Tryz.zeroValue3
  t4 := Tryz.underlying4
  a4 := Tryz.isAgg4
  z4 := Tryz.sizeOf4
  v4 := Tryz.zeroValue4
  t9 := Tryz.underlying9
  a9 := Tryz.isAgg9
  z9 := Tryz.sizeOf9
  v9 := Tryz.zeroValue9 }
def ZfH : Go.Shelf.Ren := ⟨fun | 99 => 227 | 105 => 176 | 165 => 211 | 166 => 126 | 169 => 127 | 170 => 199 | 206 => 255 | 212 => 226 | 240 => 178 | 241 => 254 | 263 => 265 | 264 => 266 | 276 => 228 | 277 => 280 | n => n, fun | 0 => 0 | 3 => 3 | 4 => 4 | 5 => 5 | 9 => 9 | 20 => 20 | 37 => 153 | 46 => 240 | 51 => 268 | 53 => 271 | 70 => 164 | 72 => 166 | 75 => 171 | 76 => 172 | 80 => 174 | 109 => 241 | 127 => 210 | 146 => 269 | 148 => 272 | 164 => 243 | n => n, fun | n => n⟩
theorem ZnE : Go.Proofs.Builder.Extra Tryz.prog ZfH := {
  sizeBuilder := by kernel_rfl
  liesBuilder := by kernel_rfl
  t5 := Tryz.underlying5
  a5 := Tryz.isAgg5
  z5 := Tryz.sizeOf5
  v5 := Tryz.zeroValue5
  infoByte := by kernel_rfl
  cellsByte := by kernel_rfl
  sizeByte := by kernel_rfl
  neB5 := by decide }
theorem Zj8 : Go.Proofs.Lays.n105 Tryz.prog ZfH := {
  mixed := by kernel_rfl
  f99 := Tryz.func227.trans (congrArg some (by kernel_rfl))
  f105 := Tryz.func176.trans (congrArg some (by kernel_rfl))
  f165 := Tryz.func211.trans (congrArg some (by kernel_rfl))
  f166 := Tryz.func126.trans (congrArg some (by kernel_rfl))
  f169 := Tryz.func127.trans (congrArg some (by kernel_rfl))
  f170 := Tryz.func199.trans (congrArg some (by kernel_rfl))
  f206 := Tryz.func255.trans (congrArg some (by kernel_rfl))
  f212 := Tryz.func226.trans (congrArg some (by kernel_rfl))
  f240 := Tryz.func178.trans (congrArg some (by kernel_rfl))
  f241 := Tryz.func254.trans (congrArg some (by kernel_rfl))
  f263 := Tryz.func265.trans (congrArg some (by kernel_rfl))
  f264 := Tryz.func266.trans (congrArg some (by kernel_rfl))
  f276 := Tryz.func228.trans (congrArg some (by kernel_rfl))
  f277 := Tryz.func280.trans (congrArg some (by kernel_rfl))
  t0 := Tryz.underlying0
  a0 := Tryz.isAgg0
  z0 := Tryz.sizeOf0
  v0 := Tryz.zeroValue0
  t3 := Tryz.underlying3
  a3 := Tryz.isAgg3
  z3 := Tryz.sizeOf3
  v3 := Tryz.zeroValue3
  t4 := Tryz.underlying4
  a4 := Tryz.isAgg4
  z4 := Tryz.sizeOf4
  v4 := Tryz.zeroValue4
  t5 := Tryz.underlying5
  a5 := Tryz.isAgg5
  z5 := Tryz.sizeOf5
  v5 := Tryz.zeroValue5
  t9 := Tryz.underlying9
  a9 := Tryz.isAgg9
  z9 := Tryz.sizeOf9
  v9 := Tryz.zeroValue9
  t20 := Tryz.underlying20
  a20 := Tryz.isAgg20
  z20 := Tryz.sizeOf20
  v20 := Tryz.zeroValue20
  t37 := Tryz.underlying153
  a37 := Tryz.isAgg153
  z37 := Tryz.sizeOf153
  v37 := Tryz.zeroValue153
  t46 := Tryz.underlying240
  a46 := Tryz.isAgg240
  z46 := Tryz.sizeOf240
  v46 := Tryz.zeroValue240
  t51 := Tryz.underlying268
  a51 := Tryz.isAgg268
  z51 := Tryz.sizeOf268
  v51 := Tryz.zeroValue268
  t53 := Tryz.underlying271
  a53 := Tryz.isAgg271
  z53 := Tryz.sizeOf271
  v53 := Tryz.zeroValue271
  t70 := Tryz.underlying164
  a70 := Tryz.isAgg164
  z70 := Tryz.sizeOf164
  v70 := Tryz.zeroValue164
  t72 := Tryz.underlying166
  a72 := Tryz.isAgg166
  z72 := Tryz.sizeOf166
  v72 := Tryz.zeroValue166
  t75 := Tryz.underlying171
  a75 := Tryz.isAgg171
  z75 := Tryz.sizeOf171
  v75 := Tryz.zeroValue171
  t76 := Tryz.underlying172
  a76 := Tryz.isAgg172
  z76 := Tryz.sizeOf172
  v76 := Tryz.zeroValue172
  t109 := Tryz.underlying241
  a109 := Tryz.isAgg241
  z109 := Tryz.sizeOf241
  v109 := Tryz.zeroValue241
  t127 := Tryz.underlying210
  a127 := Tryz.isAgg210
  z127 := Tryz.sizeOf210
  v127 := Tryz.zeroValue210
  t146 := Tryz.underlying269
  a146 := Tryz.isAgg269
  z146 := Tryz.sizeOf269
  v146 := Tryz.zeroValue269
  t148 := Tryz.underlying272
  a148 := Tryz.isAgg272
  z148 := Tryz.sizeOf272
  v148 := Tryz.zeroValue272
  t164 := Tryz.underlying243
  a164 := Tryz.isAgg243
  z164 := Tryz.sizeOf243
  v164 := Tryz.zeroValue243 }
open Go.RowKit
theorem Ziv {st : Zb} {many : Int} {i : Nat} {p : PtrD} (h : Xu st p = false) : JY st many i p = false := by
  unfold JY
  cases hh : p.hole with
  | true => rw [UI hh] at h; cases h
  | false => rw [h]; rfl
theorem ZhC {st : Zb} {many : Int} {i : Nat} {p : PtrD} (h : (p.fLevel == 0) = false) : JY st many i p = false := by
  unfold JY
  cases hh : p.hole with
  | true => rw [h]; rfl
  | false => rw [h]; simp
theorem Zj9 {st : Zb} {many : Int} {i : Nat} {p : PtrD} (hh : p.hole = false) (h : ¬ (i : Int) < many) : JY st many i p = false := by
  unfold JY;rw [hh, decide_eq_false h]; simp
theorem ZfI {st : Zb} {many : Int} {i : Nat} {p : PtrD} (h1 : Xu st p = true) (h2 : (p.fLevel == 0) = true) (h3 : p.hole = true ∨ (i : Int) < many) : JY st many i p = true := by
  unfold JY
  cases hh : p.hole with
  | true => exact h2
  | false =>
    rcases h3 with h3 | h3
    · rw [hh] at h3; cases h3
    · rw [h1, h2, decide_eq_true h3]; rfl
theorem ZaC {w : World} {a0 : Option Addr} {c0 : Nat} {a1 : Option Addr} {c1 : Nat} {a2 : Option Addr} {c2 : Nat} {a4 : Option Addr} {c4 : Nat} {a6 : Option Addr} {c6 : Nat} {st : Zb} (h : Zb.Reads w (.agg #[.slice a0 st.fRows.length c0, .slice a1 st.fSpace.fRefs.length c1, .slice a2 st.fSpace.fLast.length c2, .int .i64 st.fTxg, .slice a4 st.fGone.length c4, .int .i64 st.fKeep, .slice a6 st.fDead.length c6, .bool st.fSame]) st) : Rd Zl 1 w a0 st.fRows.length st.fRows := by
  obtain ⟨b0, d0, b1, d1, b2, d2, b4, d4, b6, d6, e, r, _⟩ := h;simp only [Value.agg.injEq, Array.mk.injEq, List.cons.injEq, Value.slice.injEq] at e;rw [e.1.1]; exact r
theorem Zgs {st : Zb} (h : st.ok = true) : Yq st := by
  have ho := Zb.ok_spec h;refine ⟨ho.rows, fun i => ?_⟩
  by_cases hi : i < 64
  · have := ZbG ho.each hi
    unfold Xl at this;rw [Bool.and_eq_true] at this;have := of_decide_eq_true this.1
    omega
  · rw [List.getD_eq_getElem?_getD, List.getElem?_eq_none (by rw [ho.rows]; omega)]
    exact Nat.zero_le _
theorem UR (a0 : Option Addr) (c0 : Nat) (a1 : Option Addr) (c1 : Nat) (a2 : Option Addr) (c2 : Nat) (a4 : Option Addr) (c4 : Nat) (a6 : Option Addr) (c6 : Nat) (st : Zb) (t : ZL) (b : Nat) (w0 : World) (hT : Qg w0) (hM : Je w0) (hE : Jn w0) (hB : Box w0 b 8 40 (sV a0 c0 a1 c1 a2 c2 a4 c4 a6 c6 st)) (hR : Rd Zl 1 w0 a0 st.fRows.length st.fRows) (hrow : Yq st) : Calls Tryz.prog 121 #[.pointer (some ⟨b, 0, none⟩), tV t] w0 fun e w' => (∃ l, leavesF st t = some l ∧ ∃ ao, e = .returned (.tuple #[.slice ao l.length l.length, .bool true]) ∧ St w0 [holdsA (fun w => Rd PtrD.cells 5 w ao l.length l)] w') ∨ (leavesF st t = none ∧ e = .returned (.tuple #[.slice none 0 0, .bool false]) ∧ Below w0.heap.size w0 w') := by
 have HT := Bx.mk hT; have HM := Bx.mk hM; have HE := Bx.mk hE; have HB := Bx.mk hB; have HR := Bx.mk hR; clear hT hM hE hR;have HS := Bx.mk (St.start w0);refine Zk Tryz.func121 rfl Tryz.ntmps121 [(0, .pointer (some ⟨b, 0, none⟩)), (1, tV t)] ⟨rfl, rfl, trivial⟩ rfl ?_;refine xsr ?_;intro a HF;refine ybx HF HS ?_;clear HF HS a;intro a w1 b1 HF HS;revert a;refine xr 2 rfl<|xne<|xsq<|xsq ?_;intro a HF;refine ZU (by kernel_rfl) (by kernel_rfl) HS.out ?_;revert a;refine xq rfl (fun HS=>vf 6 rfl)<|xq rfl (fun HS=>vc HS 0 rfl rfl) ?_;intro a HF;refine yq (fun _ HS => ((Z2 t.fMany 0 16 _).mono fun _ _ h => ⟨h.1, h.2 ▸ Below.refl _ _⟩)) HF Tryz.func86 ?_; clear HF a;refine xqr 2 rfl<|xcs 21 rfl (fun cc1=>?_) fun cc1=>?_;refine xqr 23 rfl ?_;intro a HF;refine wpQuiet_nil ?_; intro w2 HS; replace HS := Bx.mk HS;revert a;refine xet<|xct rfl<|xsr<|xr 2 rfl<|xne<|xre<|xtr<|xb2 Tryz.results121 rfl rfl ?_;have htop : topB st t = false := by
   have h : inB t.fMany 0 16 = false := (by simpa using cc1); unfold topB; rw [h]; rfl
 exact .inr ⟨XS htop, rfl, HS.out.bel⟩;have inT : inB t.fMany 0 16 = true := by simpa using cc1
 refine xq rfl (fun HS=>vf 5 rfl)<|xq rfl (fun HS=>vc HS 0 rfl rfl)<|xq rfl (fun HS=>vf 6 rfl)<|xq rfl (fun HS=>vc HS 0 rfl rfl) ?_;intro a HF;refine yqg (fun _ HS => Vr t.fMany _) HF Tryz.func141 ?_; clear HF a;refine xqr 3 rfl<|xcs 29 rfl (fun cc2=>?_) fun cc2=>?_;have dcc2 := bne_iff_ne.1 cc2;refine xqr 15 rfl ?_;intro a HF;refine wpQuiet_nil ?_; intro w3 HS; replace HS := Bx.mk HS;revert a;refine xet<|xct rfl<|xsr<|xr 2 rfl<|xne<|xre<|xtr<|xb2 Tryz.results121 rfl rfl ?_;have htop : topB st t = false := by
   have h : (t.fDepth == ((depthN t.fMany : Nat) : Int)) = false := (by simpa using dcc2); unfold topB; rw [h]; simp
 exact .inr ⟨XS htop, rfl, HS.out.bel⟩;have dcc2 := bne_eq_false_iff_eq.1 cc2;have hdep : t.fDepth = ((depthN t.fMany : Nat) : Int) := dcc2;refine xq rfl (fun HS=>vf 0 rfl)<|xq rfl (fun HS=>vw HS 0 5 rfl rfl) ?_;intro a HF;refine yqg (fun _ HS => Y6 t.fRoot _) HF Tryz.func142 ?_; clear HF a;refine xqr 3 rfl<|xcs 35 rfl (fun cc3=>?_) fun cc3=>?_;refine xqr 9 rfl ?_;intro a HF;refine wpQuiet_nil ?_; intro w4 HS; replace HS := Bx.mk HS;revert a;refine xet<|xct rfl<|xsr<|xr 2 rfl<|xne<|xre<|xtr<|xb2 Tryz.results121 rfl rfl ?_;have htop : topB st t = false := by
   have h : t.fRoot.ok = false := (by simpa using cc3); unfold topB; rw [h]; simp
 exact .inr ⟨XS htop, rfl, HS.out.bel⟩;have hok : t.fRoot.ok = true := by simpa using cc3
 refine xq rfl (fun HS=>vf 0 rfl)<|xq rfl (fun HS=>vf 1 rfl)<|xq rfl (fun HS=>vc HS 0 rfl rfl)<|xqr 2 rfl<|xq rfl (fun HS=>vf 3 rfl)<|xq rfl (fun HS a HF=>ylo (v := .int .i64 st.fTxg) rfl (HF.ev rfl) (((HB.out.below HS.bel (Nat.le_refl _)).cell 3).trans rfl))<|xqr 2 rfl ?_;intro a HF;refine wpQuiet_nil ?_; intro w5 HS; replace HS := Bx.mk HS;revert a;refine xet<|xcs 44 rfl (fun cc4=>?_) fun cc4=>?_
 have dcc4 := of_decide_eq_true cc4;refine xct rfl<|xsr<|xr 2 rfl<|xne<|xre<|xtr<|xb2 Tryz.results121 rfl rfl ?_;have htop : topB st t = false := by
   unfold topB; rw [decide_eq_false (show ¬ t.fRoot.fBirth ≤ st.fTxg by omega)]; simp
 exact .inr ⟨XS htop, rfl, HS.out.bel⟩;have dcc4 := of_decide_eq_false cc4;have htop : topB st t = true := (by unfold topB; rw [hok, inT, beq_iff_eq.2 hdep, decide_eq_true (show t.fRoot.fBirth ≤ st.fTxg by omega)]; rfl); have hin := ZB inT;refine xcf rfl<|xsk<|xet<|xsr<|xy rfl (vf 0 rfl)<|xy rfl (vw HS.out 0 5 rfl rfl) ?_;intro a HF;refine ybs PtrD.cells 42 5 [t.fRoot] HF HS ?_;clear HF HS a;intro b2 a w6 HF HS;revert a;refine xr 1 rfl<|xne<|xsq<|xsr<|xy rfl (vf 5 rfl)<|xy rfl (vc HS.out 1 rfl rfl)<|xr 1 rfl<|xne<|xbl ?_;replace HS:=Bx.mk (HS.out.pick 0 rfl);intro a HF;refine ZN (ι := Nat) (fun n a w => ∃ (ao : Option Addr) (cp : Nat) (xs : List PtrD), (downL (kids st) (depthN t.fMany) [t.fRoot] = downL (kids st) n xs ∧ xs.length * 4 ^ n ≤ 16 ∧ (∀ p ∈ xs, p.ok = true) ∧ n ≤ 2) ∧ Fr 112 a [(0, .pointer (some ⟨b, 0, none⟩)), (1, tV t), (3, .pointer (some ⟨b1, 0, none⟩)), (4, .slice none 0 0), (5, .bool false), (6, .slice ao xs.length cp), (7, .int .i64 (n : Int))] ∧ St w0 ([Zg PtrD.cells 5 42 (.slice ao xs.length cp) xs, Zn b1 7 44 (tV t)]) w) (fun n => n) (depthN t.fMany) ⟨_, _, [t.fRoot], ⟨rfl, by simpa using ZmH (QX t.fMany), (fun p hp => by rw [List.mem_singleton.1 hp]; exact hok), QX _⟩, HF.less _ ⟨rfl, rfl, rfl, rfl, rfl, rfl, (by show some (Value.int .i64 _) = some (Value.int .i64 _); exact congrArg (fun z => some (Value.int .i64 z)) hdep), trivial⟩, HS.out⟩ ?_;clear HF HS; clear a;rintro n a w7 ⟨ao, cp, xs, ⟨hd, hp4, hoks, hn2⟩, HF, HS⟩;replace HS := Bx.mk HS;have hx16 := Zjh hp4;revert a;refine xsq<|xsr<|xr 2 rfl<|xne<|xcs 51 rfl (fun cc5=>?_) fun cc5=>?_
 have dcc5 := of_decide_eq_true cc5;obtain ⟨n, rfl⟩ : ∃ m, n = m + 1 := ⟨n - 1, by omega⟩;refine xct rfl<|xsk<|xet<|xsq<|xbl<|xsr<|xr 1 rfl<|xne<|xsq<|xsr<|xr 1 rfl<|xy rfl (vn 42 5 rfl)<|xr 1 rfl<|xne<|xbl ?_;replace HS := Bx.mk (HS.out.nilRow PtrD.cells 5 42 none);intro a HF;refine ZN (ι := Nat) (fun i a w => ∃ (ay : Option Addr) (cy : Nat) (ys : List PtrD), (i ≤ xs.length ∧ YB (fun p => kids st p ((n + 1 : Nat) : Int)) xs = (YB (fun p => kids st p ((n + 1 : Nat) : Int)) (xs.drop i)).map (ys ++ ·) ∧ ys.length = 4 * i ∧ ∀ p ∈ ys, p.ok = true) ∧ Fr 112 a [(0, .pointer (some ⟨b, 0, none⟩)), (1, tV t), (3, .pointer (some ⟨b1, 0, none⟩)), (4, .slice none 0 0), (5, .bool false), (6, .slice ao xs.length cp), (7, .int .i64 ((n + 1 : Nat) : Int)), (54, .slice ao xs.length cp), (55, .int .i64 (xs.length : Int)), (8, .slice ay ys.length cy), (56, .int .i64 (i : Int))] ∧ St w0 ([Zg PtrD.cells 5 42 (.slice ay ys.length cy) ys, Zg PtrD.cells 5 42 (.slice ao xs.length cp) xs, Zn b1 7 44 (tV t)]) w) (fun i => xs.length - i) 0 ⟨_, _, [], ⟨Nat.zero_le _, Zej, rfl, (fun p hp => nomatch hp)⟩, HF.less _ ⟨rfl, rfl, rfl, rfl, rfl, rfl, rfl, rfl, rfl, rfl, rfl, trivial⟩, HS.out⟩ ?_;clear HF HS; clear a;rintro i a w8 ⟨ay, cy, ys, ⟨hi, hnx, hyl, hoky⟩, HF, HS⟩;replace HS := Bx.mk HS;revert a;refine xsr<|xr 1 rfl<|xne<|xsq<|xcs 57 rfl (fun cc6=>?_) fun cc6=>?_
 have dcc6 := of_decide_eq_true cc6;refine xct rfl<|xsk<|xet<|xsq<|xbl<|xsq ?_;obtain ⟨g3, rfl, _, _, _, _⟩ := HS.out.rowOpen 1 rfl (by omega);refine xrl<|xy rfl (vx 42 i 5 rfl)<|xy rfl (fun a HF=>ylr (cs := pL (xs.getD i PtrD.zero)) rfl (HF.ev rfl) (HS.out.elem PtrD.cells_len 1 rfl (Zx (xs := xs) (j := i) (d := PtrD.zero) (by omega)))) ?_;intro a HF;refine yal z5 HF HS ?_;clear HF HS a;intro a w9 b4 HF HS;refine yst HF HS 0 ?_;clear HS;intro w10 HS
 try dsimp only [List.set] at HS
 revert a;refine xne<|xsr<|xr 1 rfl<|xy rfl (vw HS.out 0 5 rfl rfl)<|xr 1 rfl ?_;intro a HF;refine yc (Zj3 a0 c0 a1 c1 a2 c2 a4 c4 a6 c6 st (xs.getD i PtrD.zero) ((n + 1 : Nat) : Int) b _ (HT.out.below HS.out.bel) (HM.out.below HS.out.bel) (HE.out.below HS.out.bel) (HB.out.below HS.out.bel (Nat.le_refl _)) (HR.out.below HS.out.bel) hrow (hoks _ (Ji (by omega)))) HF Tryz.func174 ?_;rintro _ w11 (⟨l5, hk5, ao5, cp5, rfl, hs1⟩ | ⟨hk5, ao5, nn5, cp5, rfl, hb⟩);have hll5 := Vl hk5;refine ⟨_, rfl, ?_⟩; replace HS := Bx.mk (HS.out.add hs1);clear hs1 HF a;intro a HF
 try dsimp only [List.eraseIdx] at HS
 revert a;refine xr 5 rfl<|xne<|xsq<|xsr<|xr 2 rfl<|xne<|xcf rfl<|xsk<|xet<|xrl<|xr 2 rfl ?_;intro a HF;refine yap Zbn PtrD.cells_len HS 2 HF (St.rdOf HS.out PtrD.cells_len 0 rfl) (XW _) ?_;clear HF HS a;intro ao6 cp7 w12 a HF HS
 try dsimp only [List.eraseIdx] at HS
 revert a;refine xr 1 rfl<|xni<|xeb<|xet<|xrl<|xy rfl (vad rfl)<|xr 1 rfl<|xne ?_;have hz : ys.length + l5.length = (ys ++ l5).length := (List.length_append ..).symm;intro a HF;rw [hz] at HS HF;have hl4 := Vl hk5; have hyl2 : (ys ++ l5).length = 4 * (i + 1) := by rw [List.length_append]; omega
 have hoky2 : ∀ p ∈ ys ++ l5, p.ok = true := fun p hp => (List.mem_append.1 hp).elim (hoky p) ((Ul hk5).2.1 p)
 replace HS:=Bx.mk (((HS.out.pick 4 rfl).pick 4 rfl).pick 4 rfl);exact ⟨i + 1, ⟨_, _, ys ++ l5, ⟨by omega, ZfD hnx (by omega) hk5, hyl2, hoky2⟩, HF.less _ ⟨rfl, rfl, rfl, rfl, rfl, rfl, rfl, rfl, rfl, rfl, rfl, trivial⟩, ((HS.out.erase 4).erase 3)⟩, (by omega)⟩;refine ⟨_, rfl, ?_⟩; replace HS := Bx.mk (HS.out.later hb);clear hb HF a;refine xr 5 rfl<|xne<|xsq<|xsr<|xr 2 rfl<|xne<|xct rfl<|xsr<|xr 2 rfl<|xne<|xre<|xtr<|xbr<|xtr<|xtr<|xbr<|xtr<|xbr<|xtr<|xtr<|xbr<|xtr<|xb2 Tryz.results121 rfl rfl ?_;exact .inr ⟨UJ (hd.trans (Jf (ZfE hnx (by omega) hk5))), rfl, HS.out.bel⟩;have dcc6 := of_decide_eq_false cc6;refine xcf rfl<|xex<|xtx<|xtx<|xbh<|xet<|xrl<|xr 2 rfl<|xni<|xeb<|xet<|xrl<|xr 1 rfl<|xy rfl (fun a HF=>YN (r := (n : Int)) rfl (HF.ev rfl) (HF.ev rfl) ((QQ (by omega)).trans (by omega)))<|xr 1 rfl<|xne ?_;replace HS:=Bx.mk ((HS.out.pick 2 rfl).pick 1 rfl);intro a HF;exact ⟨n, ⟨_, _, ys, ⟨(hd.trans (QW (Zhx hnx (by omega)))), ZfF hp4 hyl (by omega), hoky, by omega⟩, HF.less _ ⟨rfl, rfl, rfl, rfl, rfl, rfl, rfl, trivial⟩, (HS.out.erase 2)⟩, (Nat.lt_succ_self _)⟩;have dcc5 := of_decide_eq_false cc5;obtain rfl : n = 0 := by omega
 refine xcf rfl<|xex<|xtx<|xtx<|xbh<|xet<|xsq<|xsr<|xr 1 rfl<|xy rfl (vn 42 5 rfl)<|xr 1 rfl<|xne<|xbl ?_;intro a HF;refine ZN (ι := Nat) (fun i a w => (i ≤ xs.length ∧ YP st t.fMany 0 xs = YP st t.fMany i (xs.drop i)) ∧ Fr 112 a [(0, .pointer (some ⟨b, 0, none⟩)), (1, tV t), (3, .pointer (some ⟨b1, 0, none⟩)), (4, .slice none 0 0), (5, .bool false), (6, .slice ao xs.length cp), (74, .slice ao xs.length cp), (75, .int .i64 (xs.length : Int)), (76, .int .i64 (i : Int))] ∧ St w0 ([Zg PtrD.cells 5 42 (.slice ao xs.length cp) xs, Zn b1 7 44 (tV t)]) w) (fun i => xs.length - i) 0 ⟨⟨Nat.zero_le _, by rw [List.drop_zero]⟩, HF.less _ ⟨rfl, rfl, rfl, rfl, rfl, rfl, rfl, rfl, rfl, trivial⟩, HS.out⟩ ?_;clear HF HS; clear a;rintro i a w13 ⟨⟨hi, hlv⟩, HF, HS⟩;replace HS := Bx.mk HS;revert a;refine xsr<|xr 1 rfl<|xne<|xsq<|xcs 77 rfl (fun cc7=>?_) fun cc7=>?_
 have dcc7 := of_decide_eq_true cc7;refine xct rfl<|xsk<|xet<|xsq<|xbl<|xsq ?_;obtain ⟨g8, rfl, _, _, _, _⟩ := HS.out.rowOpen 0 rfl (by omega);refine xrl<|xr 1 rfl<|xy rfl (vx 42 i 5 rfl)<|xy rfl (fun a HF=>ylr (cs := pL (xs.getD i PtrD.zero)) rfl (HF.ev rfl) (HS.out.elem PtrD.cells_len 0 rfl (Zx (xs := xs) (j := i) (d := PtrD.zero) (by omega)))) ?_;intro a HF;refine yal z5 HF HS ?_;clear HF HS a;intro a w14 b9 HF HS;revert a;refine xr 1 rfl ?_;intro a HF;refine yst HF HS 0 ?_;clear HS;intro w15 HS
 try dsimp only [List.set] at HS
 revert a;refine xne<|xsr<|xr 1 rfl<|xy rfl (vw HS.out 0 5 rfl rfl) ?_;intro a HF;refine ycB (JK a0 c0 a1 c1 a2 c2 a4 c4 a6 c6 st (xs.getD i PtrD.zero) b _ (HB.out.below HS.out.bel (Nat.le_refl _)) (HR.out.below HS.out.bel) hrow (hoks _ (Ji (by omega)))) HF Tryz.func122 HS ?_; clear HF HS a; intro w16 a HS HF;revert a;refine xr 5 rfl<|xne<|xsr<|xr 3 rfl<|xcs 89 rfl (fun cc8=>?_) fun cc8=>?_
 refine xr 15 rfl<|xne<|xct rfl<|xsr<|xr 2 rfl<|xne<|xre<|xbr<|xtr<|xtr<|xbr<|xtr<|xb2 Tryz.results121 rfl rfl ?_;have hd0 : downL (kids st) (depthN t.fMany) [t.fRoot] = some xs := hd; have hst := Jm hlv (show i < xs.length by omega);rw [Ziv (p := (xs.getD i PtrD.zero)) (by simpa using cc8)] at hst;exact .inr ⟨Jg hd0 hst, rfl, HS.out.bel⟩;refine xy rfl (vf 4 rfl)<|xy rfl (vc HS.out 0 rfl rfl)<|xr 3 rfl<|xcs 94 rfl (fun cc9=>?_) fun cc9=>?_;have dcc9 := bne_iff_ne.1 cc9;refine xr 10 rfl<|xne<|xct rfl<|xsr<|xr 2 rfl<|xne<|xre<|xbr<|xtr<|xtr<|xbr<|xtr<|xb2 Tryz.results121 rfl rfl ?_;have hd0 : downL (kids st) (depthN t.fMany) [t.fRoot] = some xs := hd; have hst := Jm hlv (show i < xs.length by omega);rw [ZhC (p := (xs.getD i PtrD.zero)) (by simpa using dcc9)] at hst;exact .inr ⟨Jg hd0 hst, rfl, HS.out.bel⟩;have dcc9 := bne_eq_false_iff_eq.1 cc9;refine xr 1 rfl<|xy rfl (vf 6 rfl)<|xy rfl (vc HS.out 2 rfl rfl)<|xr 2 rfl<|xcs 99 rfl (fun cc10=>?_) fun cc10=>?_;have dcc10 := of_decide_eq_true cc10;refine xy rfl (vw HS.out 0 5 rfl rfl) ?_;intro a HF;refine JO (Ys (xs.getD i PtrD.zero) _) HF Tryz.func143 HS ?_; clear HF HS a; intro w17 a HS HF;revert a;refine xr 3 rfl<|xne<|xcs 104 rfl (fun cc11=>?_) fun cc11=>?_
 refine xct rfl<|xsr<|xr 2 rfl<|xne<|xre<|xbr<|xtr<|xtr<|xbr<|xtr<|xb2 Tryz.results121 rfl rfl ?_;have hd0 : downL (kids st) (depthN t.fMany) [t.fRoot] = some xs := hd; have hst := Jm hlv (show i < xs.length by omega);rw [Zj9 (p := (xs.getD i PtrD.zero)) (by simpa using cc11) (by omega)] at hst;exact .inr ⟨Jg hd0 hst, rfl, HS.out.bel⟩;refine xcf rfl<|xsk<|xeb<|xet<|xrl<|xy rfl (vad rfl)<|xr 1 rfl<|xne ?_;have hst := Jm hlv (show i < xs.length by omega);rw [ZfI (p := (xs.getD i PtrD.zero)) (by simpa using cc8) (by simpa using cc9) (.inl (by simpa using cc11)), Bool.true_and] at hst;replace HS:=Bx.mk ((HS.out.pick 2 rfl).pick 2 rfl);intro a HF;exact ⟨i + 1, ⟨⟨by omega, hst⟩, HF.less _ ⟨rfl, rfl, rfl, rfl, rfl, rfl, rfl, rfl, rfl, trivial⟩, (HS.out.erase 2)⟩, (by omega)⟩;have dcc10 := of_decide_eq_false cc10;refine xr 5 rfl<|xne<|xcf rfl<|xsk<|xeb<|xet<|xrl<|xy rfl (vad rfl)<|xr 1 rfl<|xne ?_;have hst := Jm hlv (show i < xs.length by omega);rw [ZfI (p := (xs.getD i PtrD.zero)) (by simpa using cc8) (by simpa using cc9) (.inr (by omega)), Bool.true_and] at hst;replace HS:=Bx.mk ((HS.out.pick 2 rfl).pick 2 rfl);intro a HF;exact ⟨i + 1, ⟨⟨by omega, hst⟩, HF.less _ ⟨rfl, rfl, rfl, rfl, rfl, rfl, rfl, rfl, rfl, trivial⟩, (HS.out.erase 2)⟩, (by omega)⟩;have dcc7 := of_decide_eq_false cc7;refine xcf rfl<|xex<|xtx<|xtx<|xbh<|xet<|xsq ?_;have hall := Zit hlv (by omega); have hd0 : downL (kids st) (depthN t.fMany) [t.fRoot] = some xs := hd; have hxl : xs.length = 4 ^ depthN t.fMany := by rw [VP (fun p n k => Vl) hd0]; simp
 have hfan := ZdQ hin.2; have htk : (xs.take t.fMany.toNat).length = t.fMany.toNat := by rw [List.length_take]; omega
 have hmle : t.fMany.toNat ≤ xs.length := by omega
 refine xrl<|xr 1 rfl<|xy rfl (vf 6 rfl)<|xy rfl (vc HS.out 1 rfl rfl)<|xy rfl (vf 6 rfl)<|xy rfl (vc HS.out 1 rfl rfl)<|xy rfl (fun a HF=>Zir (e := 42) (size := 5) (k := t.fMany.toNat) rfl (HF.ev rfl) (HF.ev rfl) (HF.ev rfl) (by kernel_rfl) (by omega) (by omega) (Nat.le_trans (by omega) (St.capLe HS.out 0 rfl)))<|xr 2 rfl<|xne<|xre<|xb2 Tryz.results121 rfl rfl ?_;replace HS:=Bx.mk (HS.out.pick 0 rfl);have hh := HS.out.hold (P := fun w => Rd PtrD.cells 5 w ao (xs.take t.fMany.toNat).length (xs.take t.fMany.toNat)) (fun w f h => by rw [htk]; exact (ZbP PtrD.cells_len h).take hmle);exact .inl ⟨xs.take t.fMany.toNat, Vk htop hd0 hall, ao, by rw [htk], (hh.erase 1)⟩
theorem Ziw {st : Zb} {t : ZL} {l : List PtrD} (h : leavesF st t = some l) : l.length ≤ 16 := by
  obtain ⟨x, ht, hd, _, rfl, hx, hn⟩ := QY h;unfold topB at ht;rw [Bool.and_eq_true] at ht;have := ZB ht.1
  omega
open Go.RowKit
theorem ZlE (s : ByteArray) (w0 : World) (hs : s.size ≤ 1000000) : Calls Tryz.prog 125 #[.string s, .string ⟨#[0]⟩] w0 fun e w' => e = .returned (.bool (QB s)) ∧ Below w0.heap.size w0 w' := by
  refine (Go.Proofs.Any.strings_HasSuffix Zj7 s ⟨#[0]⟩ w0 (by omega)).mono ?_;rintro e w' ⟨rfl, rfl⟩;exact ⟨by rw [← Zg8 s], Below.refl _ _⟩
theorem ZlF (n : Nat) (w0 : World) (hn : n ≤ 1000000) : Calls Tryz.prog 176 #[.string ⟨#[0]⟩, .int .i64 (n : Int)] w0 fun e w' => e = .returned (.string (Zgk n)) ∧ Below w0.heap.size w0 w' := by
  refine (Go.Proofs.Any.strings_Repeat Zj8 ZnE ⟨#[0]⟩ n w0 (by omega) (by show 1 * n ≤ _; omega)).mono ?_;rintro e w' ⟨rfl, hb⟩;refine ⟨?_, hb⟩;show Ending.returned (.string ⟨(Go.Lib.repeatL (List.replicate 1 (0 : UInt8)) n).toArray⟩) = _;rw [Go.Lib.repeatL_replicate, Nat.mul_one]; rfl
theorem ZeW (size : Int) (k : Nat) (w0 : World) (hk : k ≤ 16) (hs : 0 ≤ size ∧ size ≤ 1000000) : Calls Tryz.prog 124 #[.int .i64 size, .int .i64 (k : Int)] w0 fun e w' => e = .returned (.int .i64 (longN size k : Int)) ∧ Below w0.heap.size w0 w' := by
 have HS := Bx.mk (St.start w0);refine Zk Tryz.func124 rfl Tryz.ntmps124 [(0, .int .i64 size), (1, .int .i64 (k : Int))] ⟨rfl, rfl, trivial⟩ rfl ?_;refine xsr<|xr 1 rfl<|xne<|xsr<|xr 2 rfl<|xy rfl (fun a HF=>JS rfl (HF.ev rfl) (HF.ev rfl) (QQ (by omega)))<|xy rfl (fun a HF=>YN rfl (HF.ev rfl) (HF.ev rfl) (QQ (by omega)))<|xy rfl (fun a HF=>Zi0 rfl (HF.ev rfl) (HF.ev rfl))<|xy rfl (fun a HF=>Zmi rfl (HF.ev rfl) (HF.ev rfl))<|xr 1 rfl<|xne<|xre<|xb1 Tryz.results124 rfl ?_;exact ⟨by show Ending.returned (.int .i64 _) = Ending.returned (.int .i64 _); unfold longN; congr 2; omega, HS.out.bel⟩
theorem ZeX (s : ByteArray) (n : Nat) (w0 : World) (hn : n ≤ 12) (hs : s.size ≤ 1000000) : Calls Tryz.prog 123 #[.string s, .int .i64 (n : Int)] w0 fun e w' => (s.size ≤ n ∧ e = .returned (.tuple #[.string (ZeN s n), .bool true]) ∧ Below w0.heap.size w0 w') ∨ (¬ s.size ≤ n ∧ e = .returned (.tuple #[.string ByteArray.empty, .bool false]) ∧ Below w0.heap.size w0 w') := by
 have HS := Bx.mk (St.start w0);refine Zk Tryz.func123 rfl Tryz.ntmps123 [(0, .string s), (1, .int .i64 (n : Int))] ⟨rfl, rfl, trivial⟩ rfl ?_;refine xsr<|xr 2 rfl<|xne<|xsq<|xsr<|xr 1 rfl ?_;intro a HF;refine ycB ((Z2 (n : Int) 0 12 _).mono fun _ _ h => ⟨h.1, h.2 ▸ Below.refl _ _⟩) HF Tryz.func86 HS ?_; clear HF HS a; intro w1 a HS HF;revert a;refine xr 2 rfl<|xcs 9 rfl (fun cc1=>?_) fun cc1=>?_
 refine xr 5 rfl<|xne<|xct rfl<|xsr<|xr 2 rfl<|xne<|xre<|xtr<|xb2 Tryz.results123 rfl rfl ?_;exact absurd (ZkA (n := (n : Int)) (lo := 0) (hi := 12) (by omega) (by omega)) (by simpa using cc1);refine xr 1 rfl<|xy rfl (fun a HF=>Z6 rfl (HF.ev rfl) (by kernel_rfl))<|xr 3 rfl<|xne<|xcs 14 rfl (fun cc2=>?_) fun cc2=>?_;have dcc2 := of_decide_eq_true cc2;refine xct rfl<|xsr<|xr 2 rfl<|xne<|xre<|xtr<|xb2 Tryz.results123 rfl rfl ?_;exact .inr ⟨by omega, rfl, HS.out.bel⟩;have dcc2 := of_decide_eq_false cc2;refine xcf rfl<|xsk<|xet<|xsq ?_;have hz := Zcv (n - s.size);refine xrl<|xr 3 rfl<|xy rfl (fun a HF=>Z6 rfl (HF.ev rfl) (by kernel_rfl))<|xy rfl (fun a HF=>YN (r := ((n - s.size : Nat) : Int)) rfl (HF.ev rfl) (HF.ev rfl) ((QQ (by omega)).trans (by omega))) ?_;intro a HF;refine ycB (ZlF (n - s.size) _ (by omega)) HF Tryz.func176 HS ?_; clear HF HS a; intro w2 a HS HF;revert a;refine xy rfl (fun a HF=>Ye rfl (HF.ev rfl) (HF.ev rfl) (by omega))<|xr 2 rfl<|xne<|xre<|xb2 Tryz.results123 rfl rfl ?_;exact .inl ⟨by omega, rfl, HS.out.bel⟩
open Go.RowKit
theorem ZhD {st : Zb} : ∀ {n : Nat} {l m : List PtrD}, (∀ p ∈ l, p.ok = true) → downL (kids st) n l = some m → ∀ p ∈ m, p.ok = true
  | 0, l, m, h, hd => by obtain rfl : l = m := Option.some.inj hd; exact h
  | n + 1, l, m, h, hd => by
    cases hn : YB (fun p => kids st p ((n + 1 : Nat) : Int)) l with
    | none => rw [Jf hn] at hd; cases hd
    | some x =>
      rw [QW hn] at hd;refine ZhD (fun q hq => ?_) hd;obtain ⟨p, _, k, hk, hq⟩ := (VO hn).2.1 q hq;exact (Ul hk).2.1 q hq
theorem ZaD {st : Zb} {t : ZL} {l : List PtrD} (h : leavesF st t = some l) (hr : t.fRoot.ok = true) : ∀ p ∈ l, p.ok = true := by
  obtain ⟨x, _, hd, _, rfl, _, _⟩ := QY h;exact fun p hp => ZhD (fun q hq => by rw [List.mem_singleton.1 hq]; exact hr) hd p (List.mem_of_mem_take hp)
theorem Zix (a0 : Option Addr) (c0 : Nat) (a1 : Option Addr) (c1 : Nat) (a2 : Option Addr) (c2 : Nat) (a4 : Option Addr) (c4 : Nat) (a6 : Option Addr) (c6 : Nat) (st : Zb) (n : Zd) (b : Nat) (w0 : World) (hT : Qg w0) (hM : Je w0) (hE : Jn w0) (hB : Box w0 b 8 40 (sV a0 c0 a1 c1 a2 c2 a4 c4 a6 c6 st)) (hR : Rd Zl 1 w0 a0 st.fRows.length st.fRows) (hrow : Yq st) : Calls Tryz.prog 70 #[.pointer (some ⟨b, 0, none⟩), nV n] w0 fun e w' => (∃ t, fileF st n = some t ∧ e = .returned (.tuple #[.string t, .bool true]) ∧ Below w0.heap.size w0 w') ∨ (fileF st n = none ∧ e = .returned (.tuple #[.string ByteArray.empty, .bool false]) ∧ Below w0.heap.size w0 w') := by
 have HT := Bx.mk hT; have HM := Bx.mk hM; have HE := Bx.mk hE; have HB := Bx.mk hB; have HR := Bx.mk hR; clear hT hM hE hB hR;have HS := Bx.mk (St.start w0);refine Zk Tryz.func70 rfl Tryz.ntmps70 [(0, .pointer (some ⟨b, 0, none⟩)), (1, nV n)] ⟨rfl, rfl, trivial⟩ rfl ?_;refine xsr ?_;intro a HF;refine ybx HF HS ?_;clear HF HS a;intro a w1 b1 HF HS;revert a;refine xr 2 rfl<|xne<|xsq<|xsr<|xy rfl (vw HS.out 0 10 rfl rfl) ?_;intro a HF;refine ycB (Vu n _) HF Tryz.func87 HS ?_; clear HF HS a; intro w2 a HS HF;revert a;refine xr 2 rfl<|xcs 18 rfl (fun cc1=>?_) fun cc1=>?_
 refine xr 4 rfl<|xne<|xct rfl<|xsr<|xr 2 rfl<|xne<|xre<|xtr<|xb2 Tryz.results70 rfl rfl ?_;have ho : n.ok = false := by simpa using cc1
 exact .inr ⟨Zbd (by rw [ho]; rfl), rfl, HS.out.bel⟩;refine xy rfl (vf 0 rfl)<|xy rfl (vc HS.out 0 rfl rfl)<|xr 2 rfl<|xne<|xcs 22 rfl (fun cc2=>?_) fun cc2=>?_;have dcc2 := bne_iff_ne.1 cc2;refine xct rfl<|xsr<|xr 2 rfl<|xne<|xre<|xtr<|xb2 Tryz.results70 rfl rfl ?_;have ho : (n.fKind == 1) = false := by simpa using cc2
 exact .inr ⟨Zbd (by rw [ho, Bool.and_false]), rfl, HS.out.bel⟩;have dcc2 := bne_eq_false_iff_eq.1 cc2;refine xcf rfl<|xsk<|xet<|xsq ?_;have hok : n.ok = true := by simpa using cc1
 have hkd : (n.ok && (n.fKind == 1)) = true := by rw [hok, Bool.true_and]; simpa using cc2
 have hsm := (Zd.ok_is hok).small; have k1 := hsm.links; have k2 := hsm.size; have k3 := hsm.many; have k4 := hsm.depth; have k5 := hsm.kind; have hel := YF n.fKind;refine xrl<|xr 1 rfl<|xy rfl (vf 3 rfl)<|xy rfl (vw HS.out 0 7 rfl rfl) ?_;intro a HF;refine yc (UR a0 c0 a1 c1 a2 c2 a4 c4 a6 c6 st n.fTree b _ (HT.out.below HS.out.bel) (HM.out.below HS.out.bel) (HE.out.below HS.out.bel) (HB.out.below HS.out.bel (Nat.le_refl _)) (HR.out.below HS.out.bel) hrow) HF Tryz.func121 ?_;rintro _ w3 (⟨l, hlf, ao, rfl, hs1⟩ | ⟨hlf, rfl, hb⟩);refine ⟨_, rfl, ?_⟩; replace HS := Bx.mk (HS.out.add hs1);clear hs1 HF a;intro a HF
 try dsimp only [List.eraseIdx] at HS
 revert a;refine xr 5 rfl<|xne<|xsq<|xsr<|xr 2 rfl<|xne<|xcf rfl<|xsk<|xet<|xsq ?_;replace HS:=Bx.mk ((HS.out.pick 1 rfl).pick 1 rfl);have hl16 := Ziw hlf; have hoks := ZaD hlf (Zd.ok_is hok).root;have HB9 := Bx.mk ((HS.out.erase 1).erase 0); have HL9 := Bx.mk (HS.out.holds 0 rfl); have HN := Bx.mk (HS.out.box 1 rfl);intro a HF;replace HT := Bx.mk (HT.out.below HS.out.bel); replace HM := Bx.mk (HM.out.below HS.out.bel); replace HE := Bx.mk (HE.out.below HS.out.bel); replace HB := Bx.mk (HB.out.below HS.out.bel (Nat.le_refl _)); replace HR := Bx.mk (HR.out.below HS.out.bel);clear HS; rename World => w0; have HS := Bx.mk (St.start w0); obtain ⟨g7, o7, r7⟩ := HL9.out.opn; have RL := Bx.mk r7; clear r7
 refine wp_region_lit ?_;refine yal [.pointer none, .slice none 0 0] HF HS ?_;clear HF HS a;intro a w4 b2 HF HS;revert a;refine xne<|xsq<|xsr<|xr 1 rfl<|xy rfl (vn 42 5 rfl)<|xr 1 rfl<|xne<|xbl ?_;replace HS := Bx.mk HS.out.bldNew;intro a HF;refine ZN (ι := Nat) (fun i a w => ∃ (tx : ByteArray), (i ≤ l.length ∧ tx.size ≤ 12 * i ∧ XU st n.fSize 0 l = (XU st n.fSize i (l.drop i)).map (tx ++ ·)) ∧ Fr 64 a [(0, .pointer (some ⟨b, 0, none⟩)), (3, .pointer (some ⟨b1, 0, none⟩)), (8, .pointer (some ⟨b2, 0, none⟩)), (32, .slice ao l.length l.length), (33, .int .i64 (l.length : Int)), (34, .int .i64 (i : Int))] ∧ St w0 ([bldA b2 tx.data.toList]) w) (fun i => l.length - i) 0 ⟨⟨#[]⟩, ⟨Nat.zero_le _, Nat.le_refl _, ZdX⟩, HF.less _ ⟨rfl, rfl, rfl, rfl, rfl, rfl, trivial⟩, HS.out⟩ ?_;clear HF HS; clear a;rintro i a w5 ⟨tx, ⟨hi, htx, hfl⟩, HF, HS⟩;replace HS := Bx.mk HS;revert a;refine xsr<|xr 1 rfl<|xne<|xsq<|xcs 35 rfl (fun cc3=>?_) fun cc3=>?_
 have dcc3 := of_decide_eq_true cc3;refine xct rfl<|xsk<|xet<|xsq<|xbl<|xsr<|xr 1 rfl<|xy rfl (vxr 42 i 5 rfl (RL.out.ao i (by omega)))<|xy rfl (fun a HF=>ylr (cs := pL (l.getD i PtrD.zero)) rfl (HF.ev rfl) (RL.out.elem HS.out (Zx (xs := l) (j := i) (d := PtrD.zero) (by omega)))) ?_;intro a HF;refine yal z5 HF HS ?_;clear HF HS a;intro a w6 b3 HF HS;revert a;refine xr 1 rfl ?_;intro a HF;refine yst HF HS 0 ?_;clear HS;intro w7 HS
 try dsimp only [List.set] at HS
 refine Qf<|wp_seq ?_;have hrt := Jl hrow (l.getD i PtrD.zero);revert a;refine xrl<|xr 1 rfl<|xy rfl (vw HS.out 0 5 rfl rfl) ?_;intro a HF;refine ycB (JK a0 c0 a1 c1 a2 c2 a4 c4 a6 c6 st (l.getD i PtrD.zero) b _ (HB.out.below HS.out.bel (Nat.le_refl _)) (HR.out.below HS.out.bel) hrow (hoks _ (Ji (by omega)))) HF Tryz.func122 HS ?_; clear HF HS a; intro w8 a HS HF;revert a;refine xr 5 rfl<|xne<|xsr<|xr 1 rfl<|xy rfl (vf 2 rfl)<|xy rfl (fun a HF=>ylo (v := .int .i64 n.fSize) rfl (HF.ev rfl) (((HN.out.below HS.out.bel (Nat.le_refl _)).cell 2).trans rfl))<|xr 1 rfl ?_;intro a HF;refine ycB (ZeW n.fSize i _ (by omega) (by omega)) HF Tryz.func124 HS ?_; clear HF HS a; intro w9 a HS HF;refine yc (ZeX (Zr st (l.getD i PtrD.zero)) (longN n.fSize i) _ (ZdU _ _) hrt) HF Tryz.func123 ?_;rintro _ w10 (⟨hle, rfl, hb⟩ | ⟨hle, rfl, hb⟩);refine ⟨_, rfl, ?_⟩; replace HS := Bx.mk (HS.out.later hb);clear hb HF a;refine xr 5 rfl<|xne<|xsq<|xsr<|xr 4 rfl ?_;intro a HF;refine JO (ZlE (Zr st (l.getD i PtrD.zero)) _ hrt) HF Tryz.func125 HS ?_; clear HF HS a; intro w11 a HS HF;revert a;refine xr 1 rfl<|xne<|xcs 59 rfl (fun cc4=>?_) fun cc4=>?_
 refine xct rfl<|xsr<|xr 2 rfl<|xne<|xre<|xtr<|xbr<|xtr<|xtr<|xbr<|xtr<|xb2 Tryz.results70 rfl rfl ?_;exact .inr ⟨by rw [Jz hkd hlf]; exact VQ hfl (by omega) (Zcx (by simpa using cc4)), rfl, (HB9.out.later HS.out.bel).bel⟩;refine xcf rfl<|xsk<|xet ?_;replace HS:=Bx.mk (HS.out.pick 1 rfl);replace HS := Bx.mk (HS.out.erase 1); have hps := Zfp hle; have hln := ZdU n.fSize i; have htl : tx.data.toList.length = tx.size := (Zj tx).symm;refine xrl<|xr 1 rfl ?_;replace HS:=Bx.mk (HS.out.pick 0 rfl);intro a HF;refine yc (Zaf w0 _ b2 tx.data.toList (ZeN (Zr st (l.getD i PtrD.zero)) (longN n.fSize i)) (by simp only [List.length_append, List.length_cons, List.length_nil, ← Zj]; omega) HS.out) HF Tryz.func126 ?_;rintro _ w12 ⟨rfl, hs1⟩;refine ⟨_, rfl, ?_⟩; replace HS := Bx.mk hs1;clear hs1 HF a;intro a HF
 try dsimp only [List.eraseIdx] at HS
 revert a;refine xni<|xeb<|xet<|xrl<|xy rfl (vad rfl)<|xr 1 rfl<|xne ?_;replace HS : Bx (St w0 [bldA b2 (tx ++ ZeN (Zr st (l.getD i PtrD.zero)) (longN n.fSize i)).data.toList] _) := ⟨by rw [ZO]; exact HS.out⟩;have hpb : QZ (Zr st (l.getD i PtrD.zero)) (longN n.fSize i) = true := ZdV hle (by simpa using cc4); have hps := Zfp hle; have hln := ZdU n.fSize i;intro a HF;exact ⟨(i + 1), ⟨(tx ++ ZeN (Zr st (l.getD i PtrD.zero)) (longN n.fSize i)), ⟨by omega, by rw [ZC, hps]; omega, Zfq hfl (by omega) hpb⟩, HF.less _ ⟨rfl, rfl, rfl, rfl, rfl, rfl, trivial⟩, HS.out⟩, (by omega)⟩;refine ⟨_, rfl, ?_⟩; replace HS := Bx.mk (HS.out.later hb);clear hb HF a;refine xr 5 rfl<|xne<|xsq<|xsr<|xr 6 rfl<|xne<|xct rfl<|xsr<|xr 2 rfl<|xne<|xre<|xtr<|xbr<|xtr<|xtr<|xbr<|xtr<|xb2 Tryz.results70 rfl rfl ?_;exact .inr ⟨by rw [Jz hkd hlf]; exact VQ hfl (by omega) (Zcw hle), rfl, (HB9.out.later HS.out.bel).bel⟩;have dcc3 := of_decide_eq_false cc3;refine xcf rfl<|xex<|xtx<|xtx<|xbh<|xet<|xsr ?_;replace HS:=Bx.mk (HS.out.pick 0 rfl);intro a HF;refine yc (Zdy w0 _ b2 tx.data.toList HS.out) HF Tryz.func127 ?_;rintro _ w13 ⟨rfl, hs1⟩;refine ⟨_, rfl, ?_⟩; replace HS := Bx.mk hs1;clear hs1 HF a;intro a HF
 try dsimp only [List.eraseIdx] at HS
 revert a;refine xr 2 rfl<|xne<|xre<|xb2 Tryz.results70 rfl rfl ?_;exact .inl ⟨tx, by rw [Jz hkd hlf]; exact Zg7 hfl (by omega), rfl, (HB9.out.later HS.out.bel).bel⟩;refine ⟨_, rfl, ?_⟩; replace HS := Bx.mk (HS.out.later hb);clear hb HF a;refine xr 5 rfl<|xne<|xsq<|xsr<|xr 2 rfl<|xne<|xct rfl<|xsr<|xr 2 rfl<|xne<|xre<|xtr<|xb2 Tryz.results70 rfl rfl ?_;exact .inr ⟨ZdW hlf, rfl, HS.out.bel⟩
open Go.RowKit
theorem Zok : Uf Tryz.prog 110 108 1 8 := by
  obtain ⟨i0, hi, hz0, hz1, hz2⟩ := info_parts (P := Tryz.prog) (e := 108) (z := .pointer none) (size := 1) (bytes := 8) (by kernel_rfl);exact ⟨Tryz.underlying110, ⟨i0, _, hi, hz0, hz1, hz2, rfl⟩, by decide⟩
def Zd.val (n : Zd) : Value := .agg #[.int .i64 n.fKind, .int .i64 n.fLinks, .int .i64 n.fSize, .int .i64 n.fTree.fRoot.fAt, .int .i64 n.fTree.fRoot.fBirth, .int .i64 n.fTree.fRoot.fSize, .int .i64 n.fTree.fRoot.fSum, .int .i64 n.fTree.fRoot.fLevel, .int .i64 n.fTree.fDepth, .int .i64 n.fTree.fMany]
def U1 : Option Addr × Option Zd → Asr
  | (none, none) => pureA True
  | (some p, some n) => ⟨fun w f => p = ⟨p.block, 0, none⟩ ∧ (Zn p.block 10 69 n.val).P w f, fun w w' f hs hb h => ⟨h.1, (Zn p.block 10 69 n.val).loc w w' f hs hb h.2⟩⟩
  | _ => pureA False
def ZlG (w : World) : Option Addr × Option Zd → Prop
  | (none, none) => True
  | (some p, some n) => p = ⟨p.block, 0, none⟩ ∧ Box w p.block 10 69 n.val
  | _ => False
theorem ZmJ {w : World} {f : List Nat} : ∀ {q : Option Addr × Option Zd}, (U1 q).P w f → ZlG w q
  | (none, none), _ => trivial
  | (some p, some n), h => ⟨h.1, h.2.2⟩
  | (none, some _), h => h.1.elim
  | (some _, none), h => h.1.elim
theorem ZhE {w : World} : ∀ {qs : List (Option Addr × Option Zd)} {f : List Nat}, (sepA (qs.map U1)).P w f → ∀ q ∈ qs, ZlG w q
  | [], _, _, q, hq => by cases hq
  | x :: r, f, h, q, hq => by
    obtain ⟨f1, f2, _, h1, h2⟩ := h;rcases List.mem_cons.1 hq with rfl | hq
    · exact ZmJ h1
    · exact ZhE (f := f2) h2 q hq
def Z7 (ao : Option Addr) (ns : List (Option Zd)) (w : World) : Prop := ∃ qs : List (Option Addr × Option Zd), qs.map Prod.snd = ns ∧ Rd encA 1 w ao ns.length (qs.map Prod.fst) ∧ ∀ q ∈ qs, ZlG w q
theorem Z7.below {ao : Option Addr} {ns : List (Option Zd)} {w w' : World} (h : Z7 ao ns w) (hb : Below w.heap.size w w') : Z7 ao ns w' := by
  obtain ⟨qs, h1, h2, h3⟩ := h;refine ⟨qs, h1, h2.below hb, fun q hq => ?_⟩;have := h3 q hq
  match q, this with
  | (none, none), _ => exact trivial
  | (some p, some n), h => exact ⟨h.1, h.2.below hb (Nat.le_refl _)⟩
theorem Z7.look {ao : Option Addr} {ns : List (Option Zd)} {w : World} (h : Z7 ao ns w) : ∃ g o av, Rg encA 1 w ao ns.length g o av ∧ av.length = ns.length ∧ ∀ k, k < ns.length → (ns.getD k none = none ∧ av[k]? = some none) ∨ ∃ n b, ns.getD k none = some n ∧ av[k]? = some (some ⟨b, 0, none⟩) ∧ Box w b 10 69 n.val := by
  obtain ⟨qs, rfl, h2, h3⟩ := h;obtain ⟨g, o, r⟩ := h2.opn;refine ⟨g, o, _, r, by rw [List.length_map, List.length_map], fun k hk => ?_⟩;rw [List.length_map] at hk;have hq := h3 qs[k] (List.getElem_mem hk);have e1 : (qs.map Prod.snd).getD k none = qs[k].2 := by rw [List.getD_eq_getElem?_getD, List.getElem?_map, List.getElem?_eq_getElem hk]; rfl
  have e2 : (qs.map Prod.fst)[k]? = some qs[k].1 := by rw [List.getElem?_map, List.getElem?_eq_getElem hk]; rfl
  rw [e1, e2];generalize qs[k] = q at hq
  match q, hq with
  | (none, none), _ => exact .inl ⟨rfl, rfl⟩
  | (some p, some n), h => exact .inr ⟨n, p.block, rfl, by rw [← h.1], h.2⟩
abbrev nd0 : Option Addr × Option Zd := (none, none)
abbrev nd1 (b : Nat) (n : Zd) : Option Addr × Option Zd := (some ⟨b, 0, none⟩, some n)
theorem St.nodeNil {W w : World} {qs : List (Option Addr × Option Zd)} {F : List Asr} (h : St W (sepA (qs.map U1) :: F) w) : St W (sepA ((qs ++ [nd0]).map U1) :: F) w := by
  have h1 := St.join.2 h;have h2 : St W (pureA True :: (qs.map U1 ++ F)) w := St.pure.2 ⟨trivial, h1⟩;rw [List.map_append];refine St.join.1 (h2.perm ?_);rw [List.append_assoc];exact List.perm_middle.symm
theorem St.nodeSnoc {W w : World} {b : Nat} {n : Zd} {qs : List (Option Addr × Option Zd)} {F : List Asr} (h : St W (Zn b 10 69 n.val :: sepA (qs.map U1) :: F) w) : St W (sepA ((qs ++ [nd1 b n]).map U1) :: F) w := by
  have h1 : St W (U1 (some ⟨b, 0, none⟩, some n) :: sepA (qs.map U1) :: F) w := h.imp fun f hf _ _ => (⟨rfl, hf⟩ : (⟨b, 0, none⟩ : Addr) = ⟨b, 0, none⟩ ∧ (Zn b 10 69 n.val).P w f)
  have h2 := St.join.2 (h1.perm (List.Perm.swap _ _ _));rw [List.map_append];refine St.join.1 (h2.perm ?_);rw [List.append_assoc];exact List.Perm.refl _
theorem ZlH {α : Type} {av qs : List (Option α)} {m : Nat} (h : av = qs ++ List.replicate m none) (hm : 0 < m) (x : Option α) : av.set qs.length x = (qs ++ [x]) ++ List.replicate (m - 1) none := by
  obtain ⟨m, rfl⟩ : ∃ j, m = j + 1 := ⟨m - 1, by omega⟩;subst h;rw [List.set_append_right _ _ (Nat.le_refl _), Nat.sub_self, List.replicate_succ, List.set_cons_zero, List.append_assoc]; rfl
theorem ZmK {α : Type} {av qs : List (Option α)} {m : Nat} (h : av = qs ++ List.replicate m none) (hm : 0 < m) : av = (qs ++ [none]) ++ List.replicate (m - 1) none := by
  obtain ⟨m, rfl⟩ : ∃ j, m = j + 1 := ⟨m - 1, by omega⟩;rw [h, List.replicate_succ, List.append_assoc]; rfl
theorem Zka {W w : World} {ao : Option Addr} {c : Nat} {T : TypeId} {qs : List (Option Addr × Option Zd)} {F : List Asr} (h : St W (Zg encA 1 T (.slice ao (qs.map Prod.fst).length c) (qs.map Prod.fst) :: sepA (qs.map U1) :: F) w) : St W (holdsA (Z7 ao (qs.map Prod.snd)) :: F) w := by
  have h1 := (St.join (r := [_, _])).1 h;refine h1.hold fun w f hf => ?_;obtain ⟨f1, _, _, k1, f3, _, _, k2, _⟩ := hf;have := ZbP YX k1;rw [List.length_map] at this;exact ⟨qs, rfl, by rw [List.length_map]; exact this, ZhE k2⟩
theorem ZcC {st : Zb} {t : ZL} {l : List PtrD} (h : leavesF st t = some l) : t.fRoot.ok = true := by
  obtain ⟨x, ht, _⟩ := QY h;unfold topB at ht;simp only [Bool.and_eq_true] at ht;exact ht.2.2.1
theorem Zkb (a0 : Option Addr) (c0 : Nat) (a1 : Option Addr) (c1 : Nat) (a2 : Option Addr) (c2 : Nat) (a4 : Option Addr) (c4 : Nat) (a6 : Option Addr) (c6 : Nat) (st : Zb) (t : ZL) (b : Nat) (w0 : World) (hT : Qg w0) (hM : Je w0) (hE : Jn w0) (hB : Box w0 b 8 40 (sV a0 c0 a1 c1 a2 c2 a4 c4 a6 c6 st)) (hR : Rd Zl 1 w0 a0 st.fRows.length st.fRows) (hrow : Yq st) : Calls Tryz.prog 155 #[.pointer (some ⟨b, 0, none⟩), tV t] w0 fun e w' => (∃ ns, tabF st t = some ns ∧ ∃ ao, e = .returned (.tuple #[.slice ao ns.length ns.length, .bool true]) ∧ St w0 [holdsA (Z7 ao ns)] w') ∨ (tabF st t = none ∧ e = .returned (.tuple #[.slice none 0 0, .bool false]) ∧ Below w0.heap.size w0 w') := by
 have HT := Bx.mk hT; have HM := Bx.mk hM; have HE := Bx.mk hE; have HB := Bx.mk hB; have HR := Bx.mk hR; clear hT hM hE hB hR;have HS := Bx.mk (St.start w0);refine Zk Tryz.func155 rfl Tryz.ntmps155 [(0, .pointer (some ⟨b, 0, none⟩)), (1, tV t)] ⟨rfl, rfl, trivial⟩ rfl ?_;refine xsr ?_;intro a HF;refine ybx HF HS ?_;clear HF HS a;intro a w1 b1 HF HS;revert a;refine xr 2 rfl<|xne<|xsr<|xr 1 rfl<|xy rfl (vw HS.out 0 7 rfl rfl) ?_;intro a HF;refine yc (UR a0 c0 a1 c1 a2 c2 a4 c4 a6 c6 st t b _ (HT.out.below HS.out.bel) (HM.out.below HS.out.bel) (HE.out.below HS.out.bel) (HB.out.below HS.out.bel (Nat.le_refl _)) (HR.out.below HS.out.bel) hrow) HF Tryz.func121 ?_;rintro _ w2 (⟨l, hlf, ao, rfl, hs1⟩ | ⟨hlf, rfl, hb⟩);refine ⟨_, rfl, ?_⟩; replace HS := Bx.mk (HS.out.add hs1);clear hs1 HF a;intro a HF
 try dsimp only [List.eraseIdx] at HS
 revert a;refine xr 5 rfl<|xne<|xsq<|xsr<|xr 2 rfl<|xne<|xcf rfl<|xsk<|xet<|xsq ?_;have hl16 := Qt hlf; have hoks := ZaD hlf (ZcC hlf);refine xrl<|xr 1 rfl<|xy rfl (vn 42 5 rfl) ?_;intro a HF;refine Za3 (enc := encA) (n := l.length) rfl HF rfl rfl rfl Zok (HF.ev rfl) (HF.ev rfl) (by omega) (by omega) (by omega) (by unfold maxLen; omega) (none : Option Addr) (u := .pointer none) (by kernel_rfl) rfl rfl HS.out ?_; clear HF HS a; intro b2 a w3 HF HS; replace HS := Bx.mk HS;revert a;refine xr 1 rfl<|xne<|xsq<|xsr<|xr 1 rfl<|xy rfl (vn 42 5 rfl)<|xr 1 rfl<|xne<|xbl ?_;replace HS := Bx.mk (St.pure.2 ⟨trivial, HS.out⟩); replace HS : Bx (St w0 (sepA (([] : List (Option Addr × Option Zd)).map U1) :: [Zg encA 1 108 (.slice (some ⟨b2, 0, none⟩) l.length l.length) (List.replicate l.length (none : Option Addr)), holdsA (fun w => Rd PtrD.cells 5 w ao l.length l), Zn b1 7 44 (tV t)]) _) := ⟨(St.join (r := [])).1 (St.pure.1 HS.out).2⟩;obtain ⟨av, has⟩ : ∃ av : List (Option Addr), av = List.replicate l.length none := ⟨_, rfl⟩; rw [← has] at HS;have hal : av.length = l.length := by rw [has]; exact List.length_replicate ..
 intro a HF;refine ZN (ι := Nat) (fun k a w => ∃ (qs : List (Option Addr × Option Zd)) (av : List (Option Addr)), (k ≤ l.length ∧ qs.length = k ∧ av = qs.map Prod.fst ++ List.replicate (l.length - k) none ∧ av.length = l.length ∧ X5 st l = (X5 st (l.drop k)).map (qs.map Prod.snd ++ ·)) ∧ Fr 64 a [(0, .pointer (some ⟨b, 0, none⟩)), (8, .slice (some ⟨b2, 0, none⟩) l.length l.length), (28, .slice ao l.length l.length), (29, .int .i64 (l.length : Int)), (30, .int .i64 (k : Int))] ∧ St w0 ([sepA (qs.map U1), Zg encA 1 108 (.slice (some ⟨b2, 0, none⟩) l.length l.length) av, holdsA (fun w => Rd PtrD.cells 5 w ao l.length l), Zn b1 7 44 (tV t)]) w) (fun k => l.length - k) 0 ⟨[], av, ⟨Nat.zero_le _, rfl, has, hal, Zg9⟩, HF.less _ ⟨rfl, rfl, rfl, rfl, rfl, trivial⟩, HS.out⟩ ?_;clear HF HS; clear a;rintro k a w4 ⟨qs, av, ⟨hk, hql, has, hal, htl⟩, HF, HS⟩;replace HS := Bx.mk HS;revert a;refine xsr<|xr 1 rfl<|xne<|xsq<|xcs 31 rfl (fun cc1=>?_) fun cc1=>?_
 have dcc1 := of_decide_eq_true cc1;refine xct rfl<|xsk<|xet<|xsq<|xbl<|xsq ?_;obtain ⟨g7, o7, r7⟩ := (HS.out.holds 2 rfl).opn; have RL := Bx.mk r7; clear r7; have hrt := Jl hrow (l.getD k PtrD.zero);refine xrl<|xr 1 rfl<|xy rfl (vxr 42 k 5 rfl (RL.out.ao k (by omega)))<|xy rfl (fun a HF=>ylr (cs := pL (l.getD k PtrD.zero)) rfl (HF.ev rfl) (RL.out.elem (St.start _) (Zx (xs := l) (j := k) (d := PtrD.zero) (by omega)))) ?_;intro a HF;refine yal z5 HF HS ?_;clear HF HS a;intro a w5 b3 HF HS;revert a;refine xr 1 rfl ?_;intro a HF;refine yst HF HS 0 ?_;clear HS;intro w6 HS
 try dsimp only [List.set] at HS
 revert a;refine xne<|xsq<|xsr<|xy rfl (vw HS.out 0 5 rfl rfl) ?_;intro a HF;refine ycB (Ys (l.getD k PtrD.zero) _) HF Tryz.func143 HS ?_; clear HF HS a; intro w7 a HS HF;revert a;refine xne<|xcs 36 rfl (fun cc2=>?_) fun cc2=>?_
 refine xct rfl<|xex<|xtx<|xbh<|xet<|xrl<|xy rfl (vad rfl)<|xr 1 rfl<|xne ?_;replace HS:=Bx.mk (HS.out.pick 1 rfl);replace HS := Bx.mk HS.out.nodeNil;have hstep := Zbh htl (show k < l.length by omega) (VR cc2);have hrep : av = ((qs ++ [nd0]).map Prod.fst) ++ List.replicate (l.length - (k + 1)) none := by have := ZmK has (by omega); rw [List.map_append, Nat.sub_add_eq]; exact this
 try dsimp only [List.eraseIdx] at HS
 replace HS:=Bx.mk ((((HS.out.pick 4 rfl).pick 4 rfl).pick 4 rfl).pick 3 rfl);intro a HF;exact ⟨(k + 1), ⟨qs ++ [nd0], av, ⟨by omega, by rw [List.length_append, hql]; rfl, hrep, hal, by rw [List.map_append]; exact hstep⟩, HF.less _ ⟨rfl, rfl, rfl, rfl, rfl, trivial⟩, (HS.out.erase 4)⟩, (by omega)⟩;refine xcf rfl<|xsk<|xet<|xsr<|xr 1 rfl<|xy rfl (vw HS.out 0 5 rfl rfl) ?_;intro a HF;refine ycB (JK a0 c0 a1 c1 a2 c2 a4 c4 a6 c6 st (l.getD k PtrD.zero) b _ (HB.out.below HS.out.bel (Nat.le_refl _)) (HR.out.below HS.out.bel) hrow (hoks _ (Ji (by omega)))) HF Tryz.func122 HS ?_; clear HF HS a; intro w8 a HS HF;revert a;refine xr 5 rfl<|xne<|xsr<|xr 1 rfl ?_;intro a HF;refine yc (ZcW (Zr st (l.getD k PtrD.zero)) _ (HT.out.below HS.out.bel) (HM.out.below HS.out.bel) (HE.out.below HS.out.bel) hrt) HF Tryz.func204 ?_;rintro _ w9 (⟨n, hno, hnb, rfl, hb⟩ | ⟨hnn, rfl, hb⟩);refine ⟨_, rfl, ?_⟩; replace HS := Bx.mk (HS.out.later hb);clear hb HF a;refine xr 3 rfl ?_;intro a HF;refine yal z10 HF HS ?_;clear HF HS a;intro a w10 b4 HF HS;refine yst HF HS 0 ?_;clear HS;intro w11 HS
 try dsimp only [List.set] at HS
 revert a;refine xr 1 rfl<|xne<|xsq<|xsr<|xr 2 rfl<|xne<|xcf rfl<|xsk<|xet<|xsq<|xsr<|xr 1 rfl<|xy rfl (vf 3 rfl)<|xy rfl (vw HS.out 0 7 rfl rfl) ?_;intro a HF;refine yc (UR a0 c0 a1 c1 a2 c2 a4 c4 a6 c6 st n.fTree b _ (HT.out.below HS.out.bel) (HM.out.below HS.out.bel) (HE.out.below HS.out.bel) (HB.out.below HS.out.bel (Nat.le_refl _)) (HR.out.below HS.out.bel) hrow) HF Tryz.func121 ?_;rintro _ w12 (⟨l2, hlf2, ao2, rfl, hs1⟩ | ⟨hlf2, rfl, hb⟩);refine ⟨_, rfl, ?_⟩; replace HS := Bx.mk (HS.out.add hs1);clear hs1 HF a;intro a HF
 try dsimp only [List.eraseIdx] at HS
 revert a;refine xr 5 rfl<|xne<|xsr<|xr 2 rfl<|xne<|xcf rfl<|xsk<|xet<|xrl<|xr 2 rfl<|xy rfl (vx 108 k 1 rfl) ?_;intro a HF;refine ZbK YX rfl rfl rfl (HF.ev rfl) (HF.ev rfl) (by kernel_rfl) HS.out 4 rfl (by omega) (z := (some ⟨b4, 0, none⟩)) rfl rfl ?_; clear HS; intro w13 HS; replace HS := Bx.mk HS;revert a;refine xni<|xeb<|xet<|xrl<|xy rfl (vad rfl)<|xr 1 rfl<|xne ?_;replace HS:=Bx.mk ((HS.out.pick 3 rfl).pick 2 rfl);replace HS := Bx.mk (St.nodeSnoc (n := n) HS.out);have hstep := Zbh htl (show k < l.length by omega) (Zbf cc2 (Uo hno hnb) (Zik hlf2));obtain ⟨as2, has2⟩ : ∃ as2 : List (Option Addr), as2 = av.set k (some ⟨b4, 0, none⟩) := ⟨_, rfl⟩; rw [← has2] at HS;have hrep : as2 = ((qs ++ [nd1 b4 n]).map Prod.fst) ++ List.replicate (l.length - (k + 1)) none := by have := ZlH has (by omega) (some ⟨b4, 0, none⟩); rw [List.length_map, hql] at this; rw [has2, List.map_append, Nat.sub_add_eq]; exact this
 have hal2 : as2.length = l.length := by rw [has2, List.length_set]; exact hal
 try dsimp only [List.eraseIdx] at HS
 replace HS:=Bx.mk ((((HS.out.pick 5 rfl).pick 5 rfl).pick 5 rfl).pick 3 rfl);intro a HF;exact ⟨(k + 1), ⟨qs ++ [nd1 b4 n], as2, ⟨by omega, by rw [List.length_append, hql]; rfl, hrep, hal2, by rw [List.map_append]; exact hstep⟩, HF.less _ ⟨rfl, rfl, rfl, rfl, rfl, trivial⟩, ((HS.out.erase 5).erase 4)⟩, (by omega)⟩;refine ⟨_, rfl, ?_⟩; replace HS := Bx.mk (HS.out.later hb);clear hb HF a;refine xr 5 rfl<|xne<|xsr<|xr 2 rfl<|xne<|xct rfl<|xsr<|xr 2 rfl<|xne<|xre<|xtr<|xbr<|xtr<|xtr<|xbr<|xtr<|xb2 Tryz.results155 rfl rfl ?_;exact .inr ⟨by rw [Q0 hlf]; exact Zbg htl (show k < l.length by omega) (VS cc2 (Uo hno hnb) (ZjZ hlf2)), rfl, HS.out.bel⟩;refine ⟨_, rfl, ?_⟩; replace HS := Bx.mk (HS.out.later hb);clear hb HF a;refine xr 3 rfl ?_;intro a HF;refine yal z10 HF HS ?_;clear HF HS a;intro a w14 b5 HF HS;refine yst HF HS 0 ?_;clear HS;intro w15 HS
 try dsimp only [List.set] at HS
 revert a;refine xr 1 rfl<|xne<|xsq<|xsr<|xr 2 rfl<|xne<|xct rfl<|xsr<|xr 2 rfl<|xne<|xre<|xtr<|xbr<|xtr<|xtr<|xbr<|xtr<|xb2 Tryz.results155 rfl rfl ?_;exact .inr ⟨by rw [Q0 hlf]; exact Zbg htl (show k < l.length by omega) (Zbe cc2 (Zg4 hnn)), rfl, HS.out.bel⟩;have dcc1 := of_decide_eq_false cc1;refine xcf rfl<|xex<|xtx<|xtx<|xbh<|xet<|xsr<|xr 3 rfl<|xne<|xre<|xb2 Tryz.results155 rfl rfl ?_;obtain rfl : k = l.length := by omega
 have hns := Zja htl (Nat.lt_irrefl _);rw [Nat.sub_self, List.replicate_zero, List.append_nil] at has; subst has;replace HS:=Bx.mk ((HS.out.pick 0 rfl).pick 1 rfl);have hq1 : l.length = (qs.map Prod.fst).length := by rw [List.length_map]; exact hql.symm
 have hq2 : l.length = (qs.map Prod.snd).length := by rw [List.length_map]; exact hql.symm
 have HS9 := Zka (ao := some ⟨b2, 0, none⟩) (c := l.length) (qs := qs) (by have h := HS.out; rw [← hq1]; exact h);refine .inl ⟨qs.map Prod.snd, by rw [Q0 hlf]; exact hns, some ⟨b2, 0, none⟩, by rw [← hq2], ((HS9.erase 2).erase 1)⟩;refine ⟨_, rfl, ?_⟩; replace HS := Bx.mk (HS.out.later hb);clear hb HF a;refine xr 5 rfl<|xne<|xsq<|xsr<|xr 2 rfl<|xne<|xct rfl<|xsr<|xr 2 rfl<|xne<|xre<|xtr<|xb2 Tryz.results155 rfl rfl ?_;exact .inr ⟨ZbW hlf, rfl, HS.out.bel⟩
open Go.RowKit
def wg : Nat → Nat
  | 0 => 1
  | n + 1 => 1 + 4 * wg n
open Go.RowKit
noncomputable def ZmL (st : Zb) (p : PtrD) : List PtrD := allL st p.fLevel.toNat p
theorem ZmM {st : Zb} {n : Nat} {p : PtrD} (h : Wf st n p) : ZmL st p = allL st n p := by
  unfold ZmL
  cases hh : p.hole with
  | true => rw [ZbT hh, ZbT hh]
  | false => rw [h.level hh]; rfl
def mz : List PtrD → Nat
  | [] => 0
  | p :: r => (bif p.hole then 1 else wg p.fLevel.toNat) + mz r
theorem ZnF : ∀ n, 1 ≤ wg n
  | 0 => Nat.le_refl _
  | n + 1 => by show 1 ≤ 1 + 4 * wg n; omega
theorem Zji {st : Zb} {n : Nat} : ∀ {l : List PtrD}, (∀ q ∈ l, Wf st n q) → mz l ≤ l.length * wg n
  | [], _ => Nat.zero_le _
  | p :: r, h => by
    have ih := Zji fun q hq => h q (List.mem_cons_of_mem _ hq)
    have hw := h p (List.mem_cons_self ..);have h1 : (bif p.hole then 1 else wg p.fLevel.toNat) ≤ wg n := by
      cases hh : p.hole with
      | true => exact ZnF n
      | false => rw [hw.level hh]; exact Nat.le_refl _
    show (bif p.hole then 1 else wg p.fLevel.toNat) + mz r ≤ (r.length + 1) * wg n;rw [Nat.succ_mul]; omega
structure Zbr (st : Zb) (A os ts : List PtrD) : Prop where
  sum : os ++ ts.flatMap (ZmL st) = A
  wf : ∀ p ∈ ts, ∃ n, n ≤ 2 ∧ Wf st n p
  room : os.length + mz ts ≤ 21
theorem Zbr.start {st : Zb} {n : Nat} {p : PtrD} (hn : n ≤ 2) (h : Wf st n p) : Zbr st (allL st n p) [] [p] := by
  refine ⟨?_, fun q hq => ⟨n, hn, by rw [List.mem_singleton.1 hq]; exact h⟩, ?_⟩
  · rw [List.nil_append, List.flatMap_cons, List.flatMap_nil, List.append_nil, ZmM h]
  · have h1 := Zji (l := [p]) (n := n) fun q hq => by rw [List.mem_singleton.1 hq]; exact h
    have h2 : wg n ≤ 21 := by rcases (by omega : n = 0 ∨ n = 1 ∨ n = 2) with e | e | e <;> rw [e] <;> decide
    rw [List.length_singleton, Nat.one_mul] at h1;show 0 + mz [p] ≤ 21
    omega
section
variable {st : Zb} {A os r : List PtrD} {p : PtrD}
theorem Zbr.tail (h : Zbr st A os (p :: r)) : ∀ q ∈ ([] ++ r : List PtrD), ∃ n, n ≤ 2 ∧ Wf st n q := fun q hq => h.wf q (List.mem_cons_of_mem _ (by simpa using hq))
theorem Zbr.hole (h : Zbr st A os (p :: r)) (hh : p.hole = true) : Zbr st A os ([] ++ r) ∧ mz ([] ++ r) < mz (p :: r) := by
  have h1 := h.sum;have h2 := h.room;have e : mz (p :: r) = 1 + mz r := by show (bif p.hole then 1 else wg p.fLevel.toNat) + mz r = _; rw [hh]; rfl
  refine ⟨⟨?_, h.tail, ?_⟩, ?_⟩
  · rw [List.nil_append, ← h1, List.flatMap_cons, show ZmL st p = [] from ZbT hh _, List.nil_append]
  · rw [List.nil_append]; omega
  · rw [List.nil_append]; omega
theorem Zbr.below (h : Zbr st A os (p :: r)) (hh : p.hole = false) (hl : 0 < p.fLevel) : ∃ n l, n + 1 ≤ 2 ∧ p.fLevel = ((n + 1 : Nat) : Int) ∧ kidsS st p p.fLevel = some l ∧ kids st p ((n + 1 : Nat) : Int) = some l ∧ ∀ q ∈ l, Wf st n q := by
  obtain ⟨n, hn, hw⟩ := h.wf p (List.mem_cons_self ..);have hl2 := hw.level hh
  match n, hw, hl2, hn with
  | 0, _, hl2, _ => omega
  | n + 1, hw, hl2, hn =>
    obtain ⟨hp, hb, l, hk, hq⟩ := hw;exact ⟨n, l, hn, hl2, by rw [Um hp hb, hl2]; exact hk, hk, hq⟩
end
open Go.RowKit
section
variable {P : Program} {w : World} {o : Oper} {a : Act} {t t' e : TypeId} {x y : Operand}
theorem Zc8 (ho : o.op = .binOp .eql t x y t') {p : Option Addr} (hx : a.eval x = .pointer p) (hy : a.eval y = .pointer none) (hu : P.underlying t = some (.pointer e)) : Yl P w o a (.bool (!p.isSome)) := by
  have h : (Op.equal t (.pointer p) (.pointer none)).run P w = .ok (!p.isSome) w := by
    unfold Op.equal Op.maxDepth;rw [Op.equalIn]
    cases p <;> simp only [Sem.run_bind, run_underlying hu w, Result.andThen_ok, Sem.run_pure] <;> rfl
  unfold Yl execOp;simp only [ho, hx, hy];simp [eqGuard, binOp, h]
end
open Go.RowKit
def XH (x : List PtrD) : List PtrD := x ++ List.replicate (16 - x.length) PtrD.zero
theorem Zkc {x : List PtrD} (h : x.length ≤ 16) : (XH x).length = 16 := by unfold XH; rw [List.length_append, List.length_replicate]; omega
theorem ZlI {x : List PtrD} (h : ∀ p ∈ x, p.ok = true) : ∀ p ∈ XH x, p.ok = true := fun p hp => by
  rcases List.mem_append.1 hp with hp | hp
  · exact h p hp
  · rw [List.eq_of_mem_replicate hp]; rfl
theorem ZeY (a0 : Option Addr) (c0 : Nat) (a1 : Option Addr) (c1 : Nat) (a2 : Option Addr) (c2 : Nat) (a4 : Option Addr) (c4 : Nat) (a6 : Option Addr) (c6 : Nat) (st : Zb) (t : ZL) {x : List PtrD} (hx : downL (kidsS st) (depthN t.fMany) [t.fRoot] = some x) (hdep : t.fDepth = ((depthN t.fMany : Nat) : Int)) (hxl : x.length ≤ 16) (w0 : World) (hR : Rd Zl 1 w0 a0 st.fRows.length st.fRows) (hrow : Yq st) : Calls Tryz.prog 137 #[.agg #[.slice a0 st.fRows.length c0, .slice a1 st.fSpace.fRefs.length c1, .slice a2 st.fSpace.fLast.length c2, .int .i64 st.fTxg, .slice a4 st.fGone.length c4, .int .i64 st.fKeep, .slice a6 st.fDead.length c6, .bool st.fSame], .agg #[.int .i64 t.fRoot.fAt, .int .i64 t.fRoot.fBirth, .int .i64 t.fRoot.fSize, .int .i64 t.fRoot.fSum, .int .i64 t.fRoot.fLevel, .int .i64 t.fDepth, .int .i64 t.fMany]] w0 fun e w' => ∃ ao cp, e = .returned (.tuple #[.slice ao x.length cp, .bool true]) ∧ St w0 [Zg PtrD.cells 5 42 (.slice ao x.length cp) x] w' := by
  refine (Zbo a0 c0 a1 c1 a2 c2 a4 c4 a6 c6 st t hdep w0 hR hrow).mono ?_;rintro e w' (⟨l, h, ao, cp, he, hs⟩ | ⟨h, _⟩)
  · rw [hx] at h
    obtain rfl := Option.some.inj h;exact ⟨ao, cp, he, hs⟩
  · rw [hx] at h; cases h
theorem Ziy (a0 : Option Addr) (c0 : Nat) (a1 : Option Addr) (c1 : Nat) (a2 : Option Addr) (c2 : Nat) (a4 : Option Addr) (c4 : Nat) (a6 : Option Addr) (c6 : Nat) (st : Zb) (t : ZL) {x : List PtrD} (hx : downL (kidsS st) (depthN t.fMany) [t.fRoot] = some x) (hdep : t.fDepth = ((depthN t.fMany : Nat) : Int)) (hxl : x.length ≤ 16) (w0 : World) (hR : Rd Zl 1 w0 a0 st.fRows.length st.fRows) (hrow : Yq st) : Calls Tryz.prog 173 #[sV a0 c0 a1 c1 a2 c2 a4 c4 a6 c6 st, tV t] w0 fun e w' => ∃ ao cp, e = .returned (.slice ao (XH x).length cp) ∧ St w0 [Zg PtrD.cells 5 42 (.slice ao (XH x).length cp) (XH x)] w' := by
 have HR := Bx.mk hR; clear hR;have HS := Bx.mk (St.start w0);refine Zk Tryz.func173 rfl Tryz.ntmps173 [(0, sV a0 c0 a1 c1 a2 c2 a4 c4 a6 c6 st), (1, tV t)] ⟨rfl, rfl, trivial⟩ rfl ?_;refine xsr ?_;intro a HF;refine ybx HF HS ?_;clear HF HS a;intro a w1 b1 HF HS;refine ybx HF HS ?_;clear HF HS a;intro a w2 b2 HF HS;revert a;refine xr 1 rfl<|xne<|xsr<|xy rfl (vw HS.out 1 8 rfl rfl)<|xy rfl (vw HS.out 0 7 rfl rfl) ?_;intro a HF;refine yc (ZeY a0 c0 a1 c1 a2 c2 a4 c4 a6 c6 st t hx hdep hxl _ (HR.out.below HS.out.bel) hrow) HF Tryz.func137 ?_;rintro _ w3 ⟨ao, cp, rfl, hs⟩;refine ⟨_, rfl, ?_⟩; replace HS := Bx.mk (HS.out.add hs);clear hs HF a;intro a HF
 try dsimp only [List.eraseIdx] at HS
 revert a;refine xr 5 rfl<|xne<|xsr ?_;intro a HF;refine yem 42 5 HF HS ?_;clear HF HS a;intro a w4 b3 HF HS;revert a;refine xr 1 rfl ?_;replace HS := Bx.mk (HS.out.nilRow PtrD.cells 5 42 (some ⟨b3, 0, none⟩));intro a HF;refine Zf4 rfl HF rfl rfl rfl (HF.ev rfl) (HF.ev rfl) Zbn PtrD.cells_len HS.out 0 (xs := []) rfl (ys := x) (St.rdOf HS.out PtrD.cells_len 1 rfl) (XW _) (by unfold maxLen; (try simp only [List.length_append, List.length_cons, List.length_nil, List.nil_append, List.length_map, List.length_replicate]); omega) (by (try simp only [List.length_append, List.length_cons, List.length_nil, List.nil_append, List.length_map, List.length_replicate]); omega) ?_; clear HF HS a; intro ao5 cp6 w5 a HF HS; replace HS := Bx.mk HS
 try dsimp only [List.eraseIdx] at HS
 revert a;refine xr 1 rfl<|xy rfl (vn 42 5 rfl)<|xy rfl (fun a HF=>YN (r := ((16 - x.length : Nat) : Int)) rfl (HF.ev rfl) (HF.ev rfl) ((QQ (by omega)).trans (by omega))) ?_;intro a HF;refine yc (ZcA (16 - x.length) (by omega) _) HF Tryz.func221 ?_;rintro _ w6 ⟨ao7, cp7, rfl, hs⟩;refine ⟨_, rfl, ?_⟩;replace HS := Bx.mk (HS.out.add hs);clear hs HF a;intro a HF
 try dsimp only [List.eraseIdx] at HS
 refine Zf4 rfl HF rfl rfl rfl (HF.ev rfl) (HF.ev rfl) Zbn PtrD.cells_len HS.out 1 (xs := ([]) ++ x) rfl (ys := List.replicate (16 - x.length) PtrD.zero) (St.rdN HS.out PtrD.cells_len 0 rfl) (XW _) (by unfold maxLen; (try simp only [List.length_append, List.length_cons, List.length_nil, List.nil_append, List.length_map, List.length_replicate]); omega) (by (try simp only [List.length_append, List.length_cons, List.length_nil, List.nil_append, List.length_map, List.length_replicate]); omega) ?_; clear HF HS a; intro ao8 cp9 w7 a HF HS; replace HS := Bx.mk HS
 try dsimp only [List.eraseIdx] at HS
 revert a;refine xr 1 rfl<|xne<|xre<|xb1 Tryz.results173 rfl ?_;have hwl : ([] ++ x).length + (List.replicate (16 - x.length) PtrD.zero).length = (XH x).length := (List.length_append ..).symm; rw [hwl] at HS ⊢;exact ⟨_, _, rfl, ((((HS.out.erase 4).erase 3).erase 2).erase 0)⟩
theorem Zel {st : Zb} {l : List PtrD} {k : Nat} (h : k < l.length) : (l.take k).map (Zr st) ++ [Zr st (l.getD k PtrD.zero)] = (l.take (k + 1)).map (Zr st) := by
  rw [List.take_succ_eq_append_getElem h, List.map_append, List.getD_eq_getElem?_getD, List.getElem?_eq_getElem h]; rfl
def Zgt (st : Zb) (t : ZL) (x : List PtrD) : List ByteArray := ((XH x).take t.fMany.toNat).map (Zr st)
theorem ZhF (a0 : Option Addr) (c0 : Nat) (a1 : Option Addr) (c1 : Nat) (a2 : Option Addr) (c2 : Nat) (a4 : Option Addr) (c4 : Nat) (a6 : Option Addr) (c6 : Nat) (st : Zb) (t : ZL) {x : List PtrD} (hx : downL (kidsS st) (depthN t.fMany) [t.fRoot] = some x) (hdep : t.fDepth = ((depthN t.fMany : Nat) : Int)) (hxl : x.length ≤ 16) (hxok : ∀ p ∈ x, p.ok = true) (hm : 0 ≤ t.fMany ∧ t.fMany ≤ 16) (w0 : World) (hR : Rd Zl 1 w0 a0 st.fRows.length st.fRows) (hrow : Yq st) : Calls Tryz.prog 118 #[sV a0 c0 a1 c1 a2 c2 a4 c4 a6 c6 st, tV t] w0 fun e w' => ∃ ao cp, e = .returned (.slice ao (Zgt st t x).length cp) ∧ St w0 [Zg Zl 1 9 (.slice ao (Zgt st t x).length cp) (Zgt st t x)] w' := by
 have HR := Bx.mk hR; clear hR;have HS := Bx.mk (St.start w0);refine Zk Tryz.func118 rfl Tryz.ntmps118 [(0, sV a0 c0 a1 c1 a2 c2 a4 c4 a6 c6 st), (1, tV t)] ⟨rfl, rfl, trivial⟩ rfl ?_;refine xsr ?_;intro a HF;refine ybx HF HS ?_;clear HF HS a;intro a w1 b1 HF HS;refine ybx HF HS ?_;clear HF HS a;intro a w2 b2 HF HS;revert a;refine xr 1 rfl<|xne<|xsr ?_;intro a HF;refine yem 9 1 HF HS ?_;clear HF HS a;intro a w3 b3 HF HS;revert a;refine xr 1 rfl<|xne<|xsr<|xy rfl (vw HS.out 1 8 rfl rfl)<|xy rfl (vw HS.out 0 7 rfl rfl) ?_;intro a HF;refine yc (Ziy a0 c0 a1 c1 a2 c2 a4 c4 a6 c6 st t hx hdep hxl _ (HR.out.below HS.out.bel) hrow) HF Tryz.func173 ?_;rintro _ w4 ⟨ao4, cp4, rfl, hs⟩;refine ⟨_, rfl, ?_⟩;replace HS := Bx.mk (HS.out.add hs);clear hs HF a;intro a HF
 try dsimp only [List.eraseIdx] at HS
 revert a;refine xr 1 rfl<|xne<|xsq<|xsq ?_;have hwl := Zkc hxl; have hwok := ZlI hxok;refine xrl<|xr 1 rfl<|xne<|xbl ?_;replace HS := Bx.mk (HS.out.nilRow Zl 1 9 (some ⟨b3, 0, none⟩));intro a HF;refine ZN (ι := Nat) (fun k a w => ∃ (ao : Option Addr) (cp : Nat) (xs : List ByteArray), (k ≤ t.fMany.toNat ∧ xs = ((XH x).take k).map (Zr st)) ∧ Fr 34 a [(2, .pointer (some ⟨b1, 0, none⟩)), (3, .pointer (some ⟨b2, 0, none⟩)), (6, .slice ao4 ((XH x).length) cp4), (5, .slice ao xs.length cp), (7, .int .i64 (k : Int))] ∧ St w0 ([Zg Zl 1 9 (.slice ao xs.length cp) xs, Zg PtrD.cells 5 42 (.slice ao4 ((XH x).length) cp4) (XH x), Zn b2 7 44 (tV t), Zn b1 8 40 (sV a0 c0 a1 c1 a2 c2 a4 c4 a6 c6 st)]) w) (fun k => t.fMany.toNat - k) 0 ⟨_, _, [], ⟨Nat.zero_le _, rfl⟩, HF.less _ ⟨rfl, rfl, rfl, rfl, rfl, trivial⟩, HS.out⟩ ?_;clear HF HS; clear a;rintro k a w5 ⟨ao, cp, xs, ⟨hk, hq⟩, HF, HS⟩;replace HS := Bx.mk HS;have hxl : xs.length = k := by rw [hq]; simp; omega
 revert a;refine xsq<|xsr<|xr 1 rfl<|xy rfl (vf 6 rfl)<|xy rfl (vc HS.out 2 rfl rfl)<|xr 1 rfl<|xne<|xcs 17 rfl (fun cc1=>?_) fun cc1=>?_
 have dcc1 := of_decide_eq_true cc1;refine xct rfl<|xsk<|xet<|xsq<|xbl<|xsq ?_;obtain ⟨g5, rfl, _, _, _, _⟩ := HS.out.rowOpen 1 rfl (by omega);intro a HF;refine ZU (by kernel_rfl) (by kernel_rfl) HS.out ?_;revert a;refine xq rfl (fun HS=>vw HS 3 8 rfl rfl)<|xqr 2 rfl<|xq rfl (fun HS=>vx 42 k 5 rfl)<|xq rfl (fun HS a HF=>ylr (cs := pL ((XH x).getD k PtrD.zero)) rfl (HF.ev rfl) (HS.elem PtrD.cells_len 1 rfl (Zx (xs := XH x) (j := k) (d := PtrD.zero) (by omega)))) ?_;intro a HF;refine yq (fun _ HS => (Zaz a0 c0 a1 c1 a2 c2 a4 c4 a6 c6 st ((XH x).getD k PtrD.zero) _ (HR.out.below HS.bel) hrow (hwok _ (Ji (by omega))))) HF Tryz.func138 ?_; clear HF a;refine xqr 5 rfl ?_;intro a HF;refine wpQuiet_nil ?_; intro w6 HS; replace HS := Bx.mk HS;revert a;refine xet<|xrl<|xr 2 rfl ?_;intro a HF;refine ybs Zl 9 1 [Zr st ((XH x).getD k PtrD.zero)] HF HS ?_;clear HF HS a;intro b6 a w7 HF HS;refine yap YK encS_len HS 1 HF (St.rdN HS.out encS_len 0 rfl) (Zv _) ?_;clear HF HS a;intro ao7 cp8 w8 a HF HS
 try dsimp only [List.eraseIdx] at HS
 revert a;refine xr 1 rfl<|xni<|xeb<|xet<|xrl<|xr 1 rfl<|xy rfl (vad rfl)<|xr 1 rfl<|xne ?_;have hz : xs.length + ([Zr st ((XH x).getD k PtrD.zero)]).length = (xs ++ ([Zr st ((XH x).getD k PtrD.zero)])).length := (List.length_append ..).symm;intro a HF;rw [hz] at HS HF;have hnext : xs ++ ([Zr st ((XH x).getD k PtrD.zero)]) = ((XH x).take (k + 1)).map (Zr st) := by rw [hq]; exact Zel (by omega)
 replace HS:=Bx.mk ((((HS.out.pick 4 rfl).pick 4 rfl).pick 4 rfl).pick 4 rfl);exact ⟨k + 1, ⟨_, _, xs ++ ([Zr st ((XH x).getD k PtrD.zero)]), ⟨by omega, hnext⟩, HF.less _ ⟨rfl, rfl, rfl, rfl, rfl, trivial⟩, (HS.out.erase 4)⟩, (by omega)⟩;have dcc1 := of_decide_eq_false cc1;refine xcf rfl<|xex<|xtx<|xtx<|xbh<|xet<|xsr<|xr 2 rfl<|xne<|xre<|xb1 Tryz.results118 rfl ?_;obtain rfl : k = t.fMany.toNat := by omega
 subst hq;exact ⟨_, _, rfl, (((HS.out.erase 3).erase 2).erase 1)⟩
open Go.RowKit
theorem ZhG (size : Int) (k : Nat) (w0 : World) (hk : k ≤ 16) (hs : 12 * (k : Int) ≤ size ∧ size ≤ 1000000) : Calls Tryz.prog 120 #[.int .i64 size, .int .i64 (k : Int)] w0 fun e w' => e = .returned (.int .i64 (longN size k : Int)) ∧ Below w0.heap.size w0 w' := by
 have HS := Bx.mk (St.start w0);refine Zk Tryz.func120 rfl Tryz.ntmps120 [(0, .int .i64 size), (1, .int .i64 (k : Int))] ⟨rfl, rfl, trivial⟩ rfl ?_;refine xsr<|xr 1 rfl<|xne<|xsr<|xr 2 rfl<|xy rfl (fun a HF=>JS rfl (HF.ev rfl) (HF.ev rfl) (QQ (by omega)))<|xy rfl (fun a HF=>YN rfl (HF.ev rfl) (HF.ev rfl) (QQ (by omega)))<|xy rfl (fun a HF=>Zi0 rfl (HF.ev rfl) (HF.ev rfl))<|xr 1 rfl<|xne<|xre<|xb1 Tryz.results120 rfl ?_;exact ⟨by show Ending.returned (.int .i64 _) = Ending.returned (.int .i64 _); unfold longN; congr 2; omega, HS.out.bel⟩
theorem Ziz (s : ByteArray) (w0 : World) (hs : s.size ≤ 1000000) : Calls Tryz.prog 159 #[.string s] w0 fun e w' => e = .returned (.string (ZeO s)) ∧ Below w0.heap.size w0 w' := by
 have HS := Bx.mk (St.start w0);refine Zk Tryz.func159 rfl Tryz.ntmps159 [(0, .string s)] ⟨rfl, trivial⟩ rfl ?_;refine xsr<|xr 1 rfl<|xne<|xsq<|xbl ?_;intro a HF;refine ZN (ι := ByteArray) (fun r a w => (ZeO r = ZeO s ∧ r.size ≤ 1000000) ∧ Fr 20 a [(0, .string r)] ∧ St w0 ([]) w) (fun r => r.size) s ⟨⟨rfl, hs⟩, HF.less _ ⟨rfl, trivial⟩, HS.out⟩ ?_;clear HF HS; clear a;rintro r a w1 ⟨⟨hcz, hrs⟩, HF, HS⟩;replace HS := Bx.mk HS;revert a;refine xsq<|xsr<|xr 1 rfl<|xy rfl (fun a HF=>Z6 rfl (HF.ev rfl) (by kernel_rfl))<|xr 2 rfl<|xcs 6 rfl (fun cc1=>?_) fun cc1=>?_
 have dcc1 := of_decide_eq_true cc1;refine xr 2 rfl<|xy rfl (fun a HF=>Z6 rfl (HF.ev rfl) (by kernel_rfl))<|xy rfl (fun a HF=>YN (r := ((r.size - 1 : Nat) : Int)) rfl (HF.ev rfl) (HF.ev rfl) ((QQ (by omega)).trans (by omega)))<|xy rfl (fun a HF=>YG (i := (r.size - 1)) rfl (HF.ev rfl) (HF.ev rfl) (by kernel_rfl) (by omega) (by omega))<|xr 2 rfl<|xne<|xcs 13 rfl (fun cc2=>?_) fun cc2=>?_;have dcc2 := eq_of_beq cc2;refine xct rfl<|xsk<|xet<|xbl<|xrl<|xr 2 rfl<|xy rfl (fun a HF=>Z6 rfl (HF.ev rfl) (by kernel_rfl))<|xy rfl (fun a HF=>YN (r := ((r.size - 1 : Nat) : Int)) rfl (HF.ev rfl) (HF.ev rfl) ((QQ (by omega)).trans (by omega)))<|xy rfl (fun a HF=>ZdF (k := (r.size - 1)) rfl (HF.ev rfl) (HF.ev rfl) (by kernel_rfl) (by omega) (by omega))<|xr 1 rfl<|xni<|xeb<|xet ?_;have hlz : QB r = true := by rw [Zfs (by omega)]; exact cc2
 have hes : (r.extract 0 (r.size - 1)).size = r.size - 1 := by rw [ByteArray.size_extract]; omega
 intro a HF;exact ⟨(r.extract 0 (r.size - 1)), ⟨⟨(Zft hlz).trans hcz, by omega⟩, HF.less _ ⟨rfl, trivial⟩, HS.out⟩, (by omega)⟩;have dcc2 := ne_of_beq_false cc2;refine xcf rfl<|xex<|xtx<|xtx<|xbh<|xet<|xsr<|xr 2 rfl<|xne<|xre<|xb1 Tryz.results159 rfl ?_;have hlz : QB r = false := by rw [Zfs (by omega)]; exact cc2
 exact ⟨by rw [← hcz, ZbV hlz], HS.out.bel⟩;have dcc1 := of_decide_eq_false cc1;refine xr 7 rfl<|xne<|xcf rfl<|xex<|xtx<|xtx<|xbh<|xet<|xsr<|xr 2 rfl<|xne<|xre<|xb1 Tryz.results159 rfl ?_;have hlz : QB r = false := Zfr (by omega);exact ⟨by rw [← hcz, ZbV hlz], HS.out.bel⟩
open Go.RowKit
structure TreeX (st : Zb) (t : ZL) (x l : List PtrD) : Prop where
  dn : downL (kidsS st) (depthN t.fMany) [t.fRoot] = some x
  dep : t.fDepth = ((depthN t.fMany : Nat) : Int)
  x16 : x.length ≤ 16
  xok : ∀ p ∈ x, p.ok = true
  lv : leavesF st t = some l
  len : l.length = t.fMany.toNat
  many : 0 ≤ t.fMany ∧ t.fMany ≤ 16
  tk : (XH x).take t.fMany.toNat = l
theorem Zjj {st : Zb} {t : ZL} {l : List PtrD} (h0 : 0 ≤ st.fTxg) (h : leavesF st t = some l) : ∃ x, TreeX st t x l := by
  obtain ⟨x, ht, hd, hlb, hlx, hxl, hl⟩ := QY h;unfold topB at ht;simp only [Bool.and_eq_true, beq_iff_eq, decide_eq_true_eq] at ht;have hin := ZB ht.1;have hy := Zap (st := st) (n := depthN t.fMany) (l := [t.fRoot]) (fun p hp => by rw [List.mem_singleton.1 hp]; exact ht.2.2) h0;have hp4 := ZmH (QX t.fMany);have hx16 : x.length ≤ 16 := by rw [hxl]; exact hp4
  refine ⟨x, hy.1.trans hd, ht.2.1, hx16, fun p hp => (hy.2 x hd p hp).1, h, hl, hin, ?_⟩;have hle : t.fMany.toNat ≤ x.length := by
    have := congrArg List.length hlx;rw [hl, List.length_take] at this
    omega
  rw [hlx];unfold XH;rw [List.take_append_of_le_length hle]
theorem VZ (a0 : Option Addr) (c0 : Nat) (a1 : Option Addr) (c1 : Nat) (a2 : Option Addr) (c2 : Nat) (a4 : Option Addr) (c4 : Nat) (a6 : Option Addr) (c6 : Nat) (st : Zb) (t : ZL) {x l : List PtrD} (X : TreeX st t x l) (w0 : World) (hR : Rd Zl 1 w0 a0 st.fRows.length st.fRows) (hrow : Yq st) : Calls Tryz.prog 118 #[.agg #[.slice a0 st.fRows.length c0, .slice a1 st.fSpace.fRefs.length c1, .slice a2 st.fSpace.fLast.length c2, .int .i64 st.fTxg, .slice a4 st.fGone.length c4, .int .i64 st.fKeep, .slice a6 st.fDead.length c6, .bool st.fSame], .agg #[.int .i64 t.fRoot.fAt, .int .i64 t.fRoot.fBirth, .int .i64 t.fRoot.fSize, .int .i64 t.fRoot.fSum, .int .i64 t.fRoot.fLevel, .int .i64 t.fDepth, .int .i64 t.fMany]] w0 fun e w' => ∃ ao cp, e = .returned (.slice ao (l.map (Zr st)).length cp) ∧ St w0 [Zg Zl 1 9 (.slice ao (l.map (Zr st)).length cp) (l.map (Zr st))] w' := by
  have h := ZhF a0 c0 a1 c1 a2 c2 a4 c4 a6 c6 st t X.dn X.dep X.x16 X.xok X.many w0 hR hrow;unfold Zgt at h;rw [X.tk] at h;exact h
theorem Zc9 {st : Zb} {l : List PtrD} {k : Nat} (h : k < l.length) : (l.map (Zr st))[k]? = some (Zr st (l.getD k PtrD.zero)) := by
  rw [List.getElem?_map, List.getD_eq_getElem?_getD, List.getElem?_eq_getElem h]; rfl
theorem Zem {st : Zb} {t : ZL} (h0 : 0 ≤ st.fTxg) (h : okS st t = true) : ∃ l, leavesF st t = some l := by
  rw [Zgg h0] at h;exact Option.isSome_iff_exists.1 h
theorem Zen {st : Zb} {t : ZL} (h0 : 0 ≤ st.fTxg) (h : okS st t = false) : leavesF st t = none := by
  rw [Zgg h0] at h
  cases hl : leavesF st t with
  | none => rfl
  | some l => exfalso; have h2 : (leavesF st t).isSome = false := h; rw [hl] at h2; cases h2
theorem ZiA {n : Zd} (h : n.ok = true) (hk : (n.fKind == 1) = true) : 0 ≤ n.fSize ∧ n.fSize ≤ 192 ∧ n.fTree.fMany = (n.fSize + 11) / 12 := by
  have a := Zd.ok_is h;have s := a.small;have k1 : n.fKind = 1 := beq_iff_eq.1 hk;have hz := s.size; have hi := s.is; have hm := a.tmany;rw [k1, Zij] at hz hi;rw [k1] at hm
  omega
theorem Zkd (a0 : Option Addr) (c0 : Nat) (a1 : Option Addr) (c1 : Nat) (a2 : Option Addr) (c2 : Nat) (a4 : Option Addr) (c4 : Nat) (a6 : Option Addr) (c6 : Nat) (st : Zb) (n : Zd) (w0 : World) (hR : Rd Zl 1 w0 a0 st.fRows.length st.fRows) (hrow : Yq st) (h0 : 0 ≤ st.fTxg) : Calls Tryz.prog 103 #[sV a0 c0 a1 c1 a2 c2 a4 c4 a6 c6 st, nV n] w0 fun e w' => e = .returned (.bool (fileF st n).isSome) ∧ Below w0.heap.size w0 w' := by
 have HR := Bx.mk hR; clear hR;have HS := Bx.mk (St.start w0);refine Zk Tryz.func103 rfl Tryz.ntmps103 [(0, sV a0 c0 a1 c1 a2 c2 a4 c4 a6 c6 st), (1, nV n)] ⟨rfl, rfl, trivial⟩ rfl ?_;refine xsr ?_;intro a HF;refine ybx HF HS ?_;clear HF HS a;intro a w1 b1 HF HS;refine ybx HF HS ?_;clear HF HS a;intro a w2 b2 HF HS;revert a;refine xr 1 rfl<|xne<|xsq<|xsr<|xy rfl (vw HS.out 0 10 rfl rfl) ?_;intro a HF;refine ycB (QE n _) HF Tryz.func83 HS ?_; clear HF HS a; intro w3 a HS HF;revert a;refine xr 2 rfl<|xcs 11 rfl (fun cc1=>?_) fun cc1=>?_
 refine xr 11 rfl<|xne<|xct rfl<|xsr<|xr 1 rfl<|xne<|xre<|xtr<|xb1 Tryz.results103 rfl ?_;have ho : n.ok = false := by simpa using cc1
 exact ⟨by rw [Zbd (by rw [ho]; rfl)]; rfl, HS.out.bel⟩;refine xy rfl (vf 0 rfl)<|xy rfl (vc HS.out 0 rfl rfl)<|xr 3 rfl<|xcs 16 rfl (fun cc2=>?_) fun cc2=>?_;have dcc2 := bne_iff_ne.1 cc2;refine xr 6 rfl<|xne<|xct rfl<|xsr<|xr 1 rfl<|xne<|xre<|xtr<|xb1 Tryz.results103 rfl ?_;have ho : (n.fKind == 1) = false := by simpa using cc2
 exact ⟨by rw [Zbd (by rw [ho, Bool.and_false])]; rfl, HS.out.bel⟩;have dcc2 := bne_eq_false_iff_eq.1 cc2;refine xy rfl (vw HS.out 1 8 rfl rfl)<|xy rfl (vf 3 rfl)<|xy rfl (vw HS.out 0 7 rfl rfl) ?_;intro a HF;refine JO (Zbp a0 c0 a1 c1 a2 c2 a4 c4 a6 c6 st n.fTree _ (HR.out.below HS.out.bel) hrow) HF Tryz.func84 HS ?_; clear HF HS a; intro w4 a HS HF;revert a;refine xr 2 rfl<|xne<|xcs 22 rfl (fun cc3=>?_) fun cc3=>?_
 refine xct rfl<|xsr<|xr 1 rfl<|xne<|xre<|xtr<|xb1 Tryz.results103 rfl ?_;exact ⟨by rw [ZdW (Zen h0 (by simpa using cc3))]; rfl, HS.out.bel⟩;refine xcf rfl<|xsk<|xet<|xsq ?_;have hok : n.ok = true := by simpa using cc1
 have hkd : (n.ok && (n.fKind == 1)) = true := by rw [hok, Bool.true_and]; simpa using cc2
 have htk : okS st n.fTree = true := by simpa using cc3
 obtain ⟨l, hlf⟩ := Zem h0 htk; obtain ⟨x, X⟩ := Zjj h0 hlf; have hll := X.len; have hmm := X.many; have hlm : (l.map (Zr st)).length = l.length := List.length_map ..;have hfs := ZiA hok (by simpa using cc2);refine xrl<|xy rfl (vw HS.out 1 8 rfl rfl)<|xy rfl (vf 3 rfl)<|xy rfl (vw HS.out 0 7 rfl rfl) ?_;intro a HF;refine yc (VZ a0 c0 a1 c1 a2 c2 a4 c4 a6 c6 st n.fTree X _ (HR.out.below HS.out.bel) hrow) HF Tryz.func118 ?_;rintro _ w5 ⟨ao3, cp3, rfl, hs⟩;refine ⟨_, rfl, ?_⟩;replace HS := Bx.mk (HS.out.add hs);clear hs HF a;intro a HF
 try dsimp only [List.eraseIdx] at HS
 revert a;refine xr 1 rfl<|xne<|xsq<|xsr<|xr 1 rfl<|xne<|xbl ?_;intro a HF;refine ZN (ι := Nat) (fun k a w => ∃ (tx : ByteArray), (k ≤ l.length ∧ XU st n.fSize 0 l = (XU st n.fSize k (l.drop k)).map (tx ++ ·)) ∧ Fr 51 a [(2, .pointer (some ⟨b1, 0, none⟩)), (3, .pointer (some ⟨b2, 0, none⟩)), (4, .bool false), (5, .slice ao3 ((l.map (Zr st)).length) cp3), (6, .int .i64 (k : Int))] ∧ St w0 ([Zg Zl 1 9 (.slice ao3 ((l.map (Zr st)).length) cp3) (l.map (Zr st)), Zn b2 10 69 (nV n), Zn b1 8 40 (sV a0 c0 a1 c1 a2 c2 a4 c4 a6 c6 st)]) w) (fun k => l.length - k) 0 ⟨⟨#[]⟩, ⟨Nat.zero_le _, ZdX⟩, HF.less _ ⟨rfl, rfl, rfl, rfl, rfl, trivial⟩, HS.out⟩ ?_;clear HF HS; clear a;rintro k a w6 ⟨tx, ⟨hi, hfl⟩, HF, HS⟩;replace HS := Bx.mk HS;revert a;refine xsq<|xsr<|xr 1 rfl<|xy rfl (vf 3 rfl)<|xy rfl (vf 6 rfl)<|xy rfl (vc HS.out 1 rfl rfl)<|xr 1 rfl<|xne<|xcs 31 rfl (fun cc4=>?_) fun cc4=>?_
 have dcc4 := of_decide_eq_true cc4;refine xct rfl<|xsk<|xet<|xsq<|xbl<|xsq ?_;have hrt := Jl hrow (l.getD k PtrD.zero);obtain ⟨g4, rfl, _, _, _, _⟩ := HS.out.rowOpen 0 rfl (by omega);refine xrl<|xr 2 rfl<|xy rfl (vx 9 k 1 rfl)<|xy rfl (fun a HF=>ylo (v := .string (Zr st (l.getD k PtrD.zero))) rfl (HF.ev rfl) (HS.out.elem1 encS_len 0 rfl (Zc9 (by omega)) rfl))<|xr 1 rfl<|xne<|xsr<|xr 1 rfl<|xy rfl (fun a HF=>Z6 rfl (HF.ev rfl) (by kernel_rfl))<|xy rfl (vf 2 rfl)<|xy rfl (vc HS.out 1 rfl rfl)<|xr 1 rfl ?_;intro a HF;refine ycB (ZhG n.fSize k _ (by omega) (by omega)) HF Tryz.func120 HS ?_; clear HF HS a; intro w7 a HS HF;revert a;refine xr 2 rfl<|xcs 45 rfl (fun cc5=>?_) fun cc5=>?_
 have dcc5 := of_decide_eq_true cc5;refine xr 5 rfl<|xne<|xct rfl<|xsr<|xr 1 rfl<|xne<|xre<|xbr<|xtr<|xtr<|xbr<|xtr<|xb1 Tryz.results103 rfl ?_;exact ⟨by rw [Jz hkd hlf, VQ hfl (by omega) (Zcw (by omega))]; rfl, HS.out.bel⟩;have dcc5 := of_decide_eq_false cc5;refine xr 1 rfl ?_;intro a HF;refine JO (Ziz (Zr st (l.getD k PtrD.zero)) _ hrt) HF Tryz.func159 HS ?_; clear HF HS a; intro w8 a HS HF;revert a;refine xr 1 rfl<|xy rfl (fun a HF=>X0 rfl (HF.ev rfl) (HF.ev rfl))<|xr 1 rfl<|xne<|xcs 50 rfl (fun cc6=>?_) fun cc6=>?_
 refine xct rfl<|xsr<|xr 1 rfl<|xne<|xre<|xbr<|xtr<|xtr<|xbr<|xtr<|xb1 Tryz.results103 rfl ?_;exact ⟨by rw [Jz hkd hlf, VQ hfl (by omega) (Zcx (by have h := cc6; simp only [bne, Zi9, Bool.not_not] at h; exact h))]; rfl, HS.out.bel⟩;refine xcf rfl<|xsk<|xeb<|xet<|xrl<|xr 1 rfl<|xy rfl (vad rfl)<|xr 1 rfl<|xne ?_;have hpb : QZ (Zr st (l.getD k PtrD.zero)) (longN n.fSize k) = true := ZdV (by omega) (by have h := cc6; simp only [bne, Zi9, Bool.not_not] at h; exact h);intro a HF;exact ⟨(k + 1), ⟨(tx ++ ZeN (Zr st (l.getD k PtrD.zero)) (longN n.fSize k)), ⟨by omega, Zfq hfl (by omega) hpb⟩, HF.less _ ⟨rfl, rfl, rfl, rfl, rfl, trivial⟩, HS.out⟩, (by omega)⟩;have dcc4 := of_decide_eq_false cc4;refine xcf rfl<|xex<|xtx<|xtx<|xbh<|xet<|xsr<|xr 1 rfl<|xne<|xre<|xb1 Tryz.results103 rfl ?_;exact ⟨by rw [Jz hkd hlf, Zg7 hfl (by omega)]; rfl, HS.out.bel⟩
open Go.RowKit
theorem ZmN {p : PtrD} (h : p.ok = true) (hh : p.hole = false) : 1 ≤ p.fSize := by
  unfold PtrD.ok at h;rw [hh] at h;simp only [Bool.false_or, Bool.and_eq_true] at h;exact (ZB h.1.1.2).1
theorem ZmO {st : Zb} {t : ZL} {l : List PtrD} (h : leavesF st t = some l) {k : Nat} (hk : k < l.length) : Xu st (l.getD k PtrD.zero) = true := by
  obtain ⟨x, _, _, hb, rfl, _, _⟩ := QY h;rw [List.getD_eq_getElem?_getD, List.getElem?_eq_getElem hk, Option.getD_some];exact (Zcu hb _ (List.mem_of_mem_take (List.getElem_mem hk))).2
theorem ZlJ {st : Zb} {p : PtrD} (h : Xu st p = true) (hh : p.hole = false) : 1 ≤ (Zr st p).size := by
  rw [Vh hh] at h;rw [VN hh h];unfold Qj at h;simp only [Bool.and_eq_true, beq_iff_eq] at h;have := ZmN h.1 hh
  omega
theorem Zke {st : Zb} {t : ZL} {l : List PtrD} (h : leavesF st t = some l) {k : Nat} (hk : k < l.length) (he : ((Zr st (l.getD k PtrD.zero)).toList == (⟨#[]⟩ : ByteArray).toList) = true) : (l.getD k PtrD.zero).hole = true := by
  cases hh : (l.getD k PtrD.zero).hole with
  | true => rfl
  | false =>
    have h1 := ZlJ (ZmO h hk) hh;have h2 : Zr st (l.getD k PtrD.zero) = ⟨#[]⟩ := ZR he;rw [h2] at h1;exact absurd h1 (by decide)
theorem Zb9 {st : Zb} {p : PtrD} (he : ((Zr st p).toList == (⟨#[]⟩ : ByteArray).toList) = false) : p.hole = false := by
  cases hh : p.hole with
  | false => rfl
  | true =>
    rw [JI hh, show (⟨#[]⟩ : ByteArray) = ByteArray.empty from rfl, beq_self_eq_true] at he
    cases he
theorem Zkf {n : Zd} (h : n.ok = true) : XT n ≠ ByteArray.empty := fun e => by
  have := (YY h).is;rw [e] at this;have h2 : (Z8 (Xv n)).data.toList = [] := by rw [this]; rfl
  exact Zc5 _ _ h2
theorem Zkg (a0 : Option Addr) (c0 : Nat) (a1 : Option Addr) (c1 : Nat) (a2 : Option Addr) (c2 : Nat) (a4 : Option Addr) (c4 : Nat) (a6 : Option Addr) (c6 : Nat) (st : Zb) (t : ZL) (w0 : World) (hR : Rd Zl 1 w0 a0 st.fRows.length st.fRows) (hrow : Yq st) (h0 : 0 ≤ st.fTxg) : Calls Tryz.prog 100 #[sV a0 c0 a1 c1 a2 c2 a4 c4 a6 c6 st, tV t] w0 fun e w' => e = .returned (.bool (tabF st t).isSome) ∧ Below w0.heap.size w0 w' := by
 have HR := Bx.mk hR; clear hR;have HS := Bx.mk (St.start w0);refine Zk Tryz.func100 rfl Tryz.ntmps100 [(0, sV a0 c0 a1 c1 a2 c2 a4 c4 a6 c6 st), (1, tV t)] ⟨rfl, rfl, trivial⟩ rfl ?_;refine xsr ?_;intro a HF;refine ybx HF HS ?_;clear HF HS a;intro a w1 b1 HF HS;refine ybx HF HS ?_;clear HF HS a;intro a w2 b2 HF HS;revert a;refine xr 1 rfl<|xne<|xsq<|xsr<|xy rfl (vw HS.out 1 8 rfl rfl)<|xy rfl (vw HS.out 0 7 rfl rfl) ?_;intro a HF;refine ycB (Zbp a0 c0 a1 c1 a2 c2 a4 c4 a6 c6 st t _ (HR.out.below HS.out.bel) hrow) HF Tryz.func84 HS ?_; clear HF HS a; intro w3 a HS HF;revert a;refine xr 1 rfl<|xne<|xcs 13 rfl (fun cc1=>?_) fun cc1=>?_
 refine xct rfl<|xsr<|xr 1 rfl<|xne<|xre<|xtr<|xb1 Tryz.results100 rfl ?_;exact ⟨by rw [ZbW (Zen h0 (by simpa using cc1))]; rfl, HS.out.bel⟩;refine xcf rfl<|xsk<|xet<|xsq ?_;have htk : okS st t = true := by simpa using cc1
 obtain ⟨l, hlf⟩ := Zem h0 htk; obtain ⟨x, X⟩ := Zjj h0 hlf; have hll := X.len; have hmm := X.many; have hlm : (l.map (Zr st)).length = l.length := List.length_map ..; have h16 := Qt hlf;refine xrl<|xy rfl (vw HS.out 1 8 rfl rfl)<|xy rfl (vw HS.out 0 7 rfl rfl) ?_;intro a HF;refine yc (VZ a0 c0 a1 c1 a2 c2 a4 c4 a6 c6 st t X _ (HR.out.below HS.out.bel) hrow) HF Tryz.func118 ?_;rintro _ w4 ⟨ao3, cp3, rfl, hs⟩;refine ⟨_, rfl, ?_⟩;replace HS := Bx.mk (HS.out.add hs);clear hs HF a;intro a HF
 try dsimp only [List.eraseIdx] at HS
 revert a;refine xr 1 rfl<|xne<|xsq<|xsr<|xr 1 rfl<|xne<|xbl ?_;intro a HF;refine ZN (ι := Nat) (fun k a w => ∃ (qs : List (Option Zd)), (k ≤ l.length ∧ X5 st l = (X5 st (l.drop k)).map (qs ++ ·)) ∧ Fr 43 a [(2, .pointer (some ⟨b1, 0, none⟩)), (3, .pointer (some ⟨b2, 0, none⟩)), (5, .slice ao3 ((l.map (Zr st)).length) cp3), (6, .int .i64 (k : Int))] ∧ St w0 ([Zg Zl 1 9 (.slice ao3 ((l.map (Zr st)).length) cp3) (l.map (Zr st)), Zn b2 7 44 (tV t), Zn b1 8 40 (sV a0 c0 a1 c1 a2 c2 a4 c4 a6 c6 st)]) w) (fun k => l.length - k) 0 ⟨[], ⟨Nat.zero_le _, Zg9⟩, HF.less _ ⟨rfl, rfl, rfl, rfl, trivial⟩, HS.out⟩ ?_;clear HF HS; clear a;rintro k a w5 ⟨qs, ⟨hk, htl⟩, HF, HS⟩;replace HS := Bx.mk HS;revert a;refine xsq<|xsr<|xr 1 rfl<|xy rfl (vf 6 rfl)<|xy rfl (vc HS.out 1 rfl rfl)<|xr 1 rfl<|xne<|xcs 20 rfl (fun cc2=>?_) fun cc2=>?_
 have dcc2 := of_decide_eq_true cc2;refine xct rfl<|xsk<|xet<|xsq<|xbl<|xsq ?_;have hrt := Jl hrow (l.getD k PtrD.zero);obtain ⟨g4, rfl, _, _, _, _⟩ := HS.out.rowOpen 0 rfl (by omega);refine xrl<|xr 2 rfl<|xy rfl (vx 9 k 1 rfl)<|xy rfl (fun a HF=>ylo (v := .string (Zr st (l.getD k PtrD.zero))) rfl (HF.ev rfl) (HS.out.elem1 encS_len 0 rfl (Zc9 (by omega)) rfl))<|xr 1 rfl<|xne<|xsq<|xsr<|xr 1 rfl<|xy rfl (fun a HF=>UB rfl (HF.ev rfl) (HF.ev rfl))<|xne<|xcs 28 rfl (fun cc3=>?_) fun cc3=>?_;refine xct rfl<|xex<|xtx<|xbh<|xet<|xrl<|xr 1 rfl<|xy rfl (vad rfl)<|xr 1 rfl<|xne ?_;have hstep := Zbh htl (show k < l.length by omega) (VR (Zke hlf (by omega) cc3));intro a HF;exact ⟨(k + 1), ⟨qs ++ [none], ⟨by omega, hstep⟩, HF.less _ ⟨rfl, rfl, rfl, rfl, trivial⟩, HS.out⟩, (by omega)⟩;refine xcf rfl<|xsk<|xet<|xsr<|xr 1 rfl ?_;intro a HF;refine yc (U0 (Zr st (l.getD k PtrD.zero)) _ hrt) HF Tryz.func116 ?_;rintro _ w6 (⟨n, hno, hnb, rfl, hb⟩ | ⟨hnn, rfl, hb⟩);refine ⟨_, rfl, ?_⟩; replace HS := Bx.mk (HS.out.later hb);clear hb HF a;refine xr 3 rfl ?_;intro a HF;refine yal z10 HF HS ?_;clear HF HS a;intro a w7 b5 HF HS;refine yst HF HS 0 ?_;clear HS;intro w8 HS
 try dsimp only [List.set] at HS
 revert a;refine xr 1 rfl<|xne<|xsr<|xr 3 rfl<|xy rfl (vw HS.out 3 8 rfl rfl)<|xy rfl (vf 3 rfl)<|xy rfl (vw HS.out 0 7 rfl rfl) ?_;intro a HF;refine JO (Zbp a0 c0 a1 c1 a2 c2 a4 c4 a6 c6 st n.fTree _ (HR.out.below HS.out.bel) hrow) HF Tryz.func84 HS ?_; clear HF HS a; intro w9 a HS HF;revert a;refine xr 2 rfl<|xne<|xcs 42 rfl (fun cc4=>?_) fun cc4=>?_
 refine xct rfl<|xsr<|xr 1 rfl<|xne<|xre<|xbr<|xtr<|xtr<|xbr<|xtr<|xb1 Tryz.results100 rfl ?_;have hto : QA st n.fTree = false := by have h : okS st n.fTree = false := (by simpa using cc4); rw [Zgg h0] at h; exact h
 exact ⟨by rw [Q0 hlf, Zbg htl (show k < l.length by omega) (VS (Zb9 cc3) (Uo hno hnb) hto)]; rfl, HS.out.bel⟩;refine xcf rfl<|xsk<|xeb<|xet<|xrl<|xr 1 rfl<|xy rfl (vad rfl)<|xr 1 rfl<|xne ?_;have hto : QA st n.fTree = true := by have h : okS st n.fTree = true := (by simpa using cc4); rw [Zgg h0] at h; exact h
 have hstep := Zbh htl (show k < l.length by omega) (Zbf (Zb9 cc3) (Uo hno hnb) hto);replace HS:=Bx.mk (((HS.out.pick 3 rfl).pick 3 rfl).pick 3 rfl);intro a HF;exact ⟨(k + 1), ⟨qs ++ [some n], ⟨by omega, hstep⟩, HF.less _ ⟨rfl, rfl, rfl, rfl, trivial⟩, (HS.out.erase 3)⟩, (by omega)⟩;refine ⟨_, rfl, ?_⟩; replace HS := Bx.mk (HS.out.later hb);clear hb HF a;refine xr 3 rfl ?_;intro a HF;refine yal z10 HF HS ?_;clear HF HS a;intro a w10 b6 HF HS;refine yst HF HS 0 ?_;clear HS;intro w11 HS
 try dsimp only [List.set] at HS
 revert a;refine xr 1 rfl<|xne<|xsr<|xr 9 rfl<|xne<|xct rfl<|xsr<|xr 1 rfl<|xne<|xre<|xbr<|xtr<|xtr<|xbr<|xtr<|xb1 Tryz.results100 rfl ?_;exact ⟨by rw [Q0 hlf, Zbg htl (show k < l.length by omega) (Zbe (Zb9 cc3) (Zg4 hnn))]; rfl, HS.out.bel⟩;have dcc2 := of_decide_eq_false cc2;refine xcf rfl<|xex<|xtx<|xtx<|xbh<|xet<|xsr<|xr 1 rfl<|xne<|xre<|xb1 Tryz.results100 rfl ?_;exact ⟨by rw [Q0 hlf, Zja htl (by omega)]; rfl, HS.out.bel⟩
theorem ZiB {st : Zb} {p : PtrD} {o : Option Zd} {n : Zd} (h : Zhb st p o) (hn : n.ok = true) (hb : XT n = Zr st p) : o = some n := by
  rcases h with ⟨hh, _⟩ | ⟨_, m, rfl, hm, _⟩
  · rw [JI hh] at hb; exact absurd hb (Zkf hn)
  · rw [Uo hn hb] at hm; exact hm.symm
theorem ZiC {st : Zb} {p : PtrD} {o : Option Zd} (h : Zhb st p o) (hn : ∀ n : Zd, n.ok = true → XT n = Zr st p → False) : o = none := by
  rcases h with ⟨_, rfl⟩ | ⟨_, m, rfl, hm, _⟩
  · rfl
  · have := Zg5 hm; exact (hn m this.1 this.2).elim
theorem ZcX (a0 : Option Addr) (c0 : Nat) (a1 : Option Addr) (c1 : Nat) (a2 : Option Addr) (c2 : Nat) (a4 : Option Addr) (c4 : Nat) (a6 : Option Addr) (c6 : Nat) (st : Zb) (t : ZL) (w0 : World) (hV0 : Zb.Reads w0 (sV a0 c0 a1 c1 a2 c2 a4 c4 a6 c6 st) st) (hf : st.Fit) (hi : -9223372036854775808 ≤ st.fTxg) : Calls Tryz.prog 81 #[sV a0 c0 a1 c1 a2 c2 a4 c4 a6 c6 st, tV t] w0 fun e w' => e = .returned (.bool (ZdY st t).isSome) ∧ Below w0.heap.size w0 w' := by
 have hV := Bx.mk hV0; clear hV0;have HS := Bx.mk (St.start w0);refine Zk Tryz.func81 rfl Tryz.ntmps81 [(0, sV a0 c0 a1 c1 a2 c2 a4 c4 a6 c6 st), (1, tV t)] ⟨rfl, rfl, trivial⟩ rfl ?_;refine xsr ?_;intro a HF;refine ybx HF HS ?_;clear HF HS a;intro a w1 b1 HF HS;refine ybx HF HS ?_;clear HF HS a;intro a w2 b2 HF HS;revert a;refine xr 1 rfl<|xne<|xsr<|xy rfl (vw HS.out 1 8 rfl rfl) ?_;intro a HF;refine ycB (ZcP _ st _ (hV.out.below HS.out.bel) hf hi) HF Tryz.func47 HS ?_; clear HF HS a; intro w3 a HS HF;revert a;refine xr 1 rfl<|xcs 7 rfl (fun cc1=>?_) fun cc1=>?_
 have hsok : st.ok = true := by simpa using cc1
 have h0 : 0 ≤ st.fTxg := by have := (Zb.ok_spec hsok).txg; omega
 refine xy rfl (vw HS.out 1 8 rfl rfl)<|xy rfl (vw HS.out 0 7 rfl rfl) ?_;intro a HF;refine JO (Zkg a0 c0 a1 c1 a2 c2 a4 c4 a6 c6 st t _ ((ZaC hV.out).below HS.out.bel) (Zgs hsok) h0) HF Tryz.func100 HS ?_; clear HF HS a; intro w4 a HS HF;revert a;refine xr 2 rfl<|xne<|xre<|xb1 Tryz.results81 rfl ?_;exact ⟨by rw [Zc7 hsok], HS.out.bel⟩;have hsok : st.ok = false := by simpa using cc1
 refine xr 5 rfl<|xne<|xre<|xb1 Tryz.results81 rfl ?_;exact ⟨by rw [Zgm hsok]; rfl, HS.out.bel⟩
open Go.RowKit
theorem Zno : Uf Tryz.prog 56 118 2 24 := by
  obtain ⟨i0, hi, hz0, hz1, hz2⟩ := info_parts (P := Tryz.prog) (e := 118) (z := .agg #[.string ByteArray.empty, .int .i64 0]) (size := 2) (bytes := 24) (by kernel_rfl);exact ⟨Tryz.underlying56, ⟨i0, _, hi, hz0, hz1, hz2, rfl⟩, by decide⟩
theorem ZcD (xs : List Za) : ∀ u ∈ xs.flatMap Za.cells, u.oneCell' = true := by
  intro u hu;obtain ⟨x, _, hx⟩ := List.mem_flatMap.1 hu;simp only [Za.cells, List.mem_cons, List.not_mem_nil, or_false] at hx;rcases hx with rfl | rfl <;> rfl
section
variable {P : Program} {w : World} {o : Oper} {a : Act} {t t' : TypeId} {x y : Operand}
theorem Zjk (ho : o.op = .binOp .geq t x y t') {m n : ByteArray} (hx : a.eval x = .string m) (hy : a.eval y = .string n) : Yl P w o a (.bool !(Op.bytesLess m.toList n.toList)) := by simp [Yl, execOp, ho, hx, hy, eqGuard, binOp, Op.stringOp]
end
theorem Vv {l : List Za} {i : Nat} (h : i < l.length) : l.getD i Za.zero ∈ l := by
  rw [List.getD_eq_getElem?_getD, List.getElem?_eq_getElem h]; exact List.getElem_mem _
def J3 (l : List Za) : Prop := ∀ e ∈ l, e.fName.size ≤ 1000000
theorem J3.at_ {l : List Za} (h : J3 l) (i : Nat) : (l.getD i Za.zero).fName.size ≤ 1000000 := by
  by_cases hi : i < l.length
  · exact h _ (Vv hi)
  · rw [List.getD_eq_getElem?_getD, List.getElem?_eq_none (by omega)]; exact Nat.zero_le _
theorem Zeo {l : List Za} (h : ∀ j, j < l.length → XF l j = true) : YE l = decide ((l.length : Int) ≤ 12) := by
  unfold YE;rw [decide_eq_true h, Bool.true_and]
  by_cases hl : l.length ≤ 12
  · rw [decide_eq_true hl, decide_eq_true (by omega)]
  · rw [decide_eq_false hl, decide_eq_false (by omega)]
theorem Zbs {l : List Za} {i : Nat} (h : ∀ j, j < i → XF l j = true) (ha : XF l i = true) : ∀ j, j < i + 1 → XF l j = true := fun j hj => by
  by_cases e : j = i
  · rw [e]; exact ha
  · exact h j (by omega)
theorem Zbt (ao : Option Addr) (cp : Nat) (es : List Za) (w0 : World) (hfit : J3 es) (hlen : es.length ≤ 1000000) (hr : Rd Za.cells 2 w0 ao es.length es) : Calls Tryz.prog 210 #[.slice ao es.length cp] w0 fun e w' => e = .returned (.bool (YE es)) ∧ Below w0.heap.size w0 w' := by
 obtain ⟨g, o, r0⟩ := hr.opn; have RE := Bx.mk r0; clear r0 hr;have HS := Bx.mk (St.start w0);refine Zk Tryz.func210 rfl Tryz.ntmps210 [(0, .slice ao es.length cp)] ⟨rfl, trivial⟩ rfl ?_;refine xsr<|xr 1 rfl<|xne<|xsq<|xsr<|xr 1 rfl<|xy rfl (vn 118 2 rfl)<|xr 1 rfl<|xne<|xbl ?_;intro a HF;refine ZN (ι := Nat) (fun i a w => (i ≤ es.length ∧ ∀ j, j < i → XF es j = true) ∧ Fr 41 a [(0, .slice ao es.length cp), (5, .slice ao es.length cp), (6, .int .i64 (es.length : Int)), (7, .int .i64 (i : Int))] ∧ St w0 ([]) w) (fun i => es.length - i) 0 ⟨⟨Nat.zero_le _, fun j hj => absurd hj (Nat.not_lt_zero _)⟩, HF.less _ ⟨rfl, rfl, rfl, rfl, trivial⟩, HS.out⟩ ?_;clear HF HS; clear a;rintro i a w1 ⟨⟨hi, hall⟩, HF, HS⟩;replace HS := Bx.mk HS;revert a;refine xsr<|xr 1 rfl<|xne<|xsq<|xcs 8 rfl (fun cc1=>?_) fun cc1=>?_
 have dcc1 := of_decide_eq_true cc1;refine xct rfl<|xsk<|xet<|xsq<|xbl<|xsr<|xr 1 rfl<|xy rfl (vxr 118 i 2 rfl (RE.out.ao i (by omega)))<|xy rfl (fun a HF=>ylr (cs := [.string ((es.getD i Za.zero).fName), .int .i64 ((es.getD i Za.zero).fId)]) rfl (HF.ev rfl) (RE.out.elem HS.out (Zx (xs := es) (j := i) (d := Za.zero) (by omega)))) ?_;intro a HF;refine yal [.string ByteArray.empty, .int .i64 0] HF HS ?_;clear HF HS a;intro a w2 b1 HF HS;revert a;refine xr 1 rfl ?_;intro a HF;refine yst HF HS 0 ?_;clear HS;intro w3 HS
 try dsimp only [List.set] at HS
 refine Qf<|wp_seq ?_;refine ZU (by kernel_rfl) (by kernel_rfl) HS.out ?_;revert a;refine xq rfl (fun HS=>vf 0 rfl)<|xq rfl (fun HS=>vc HS 0 rfl rfl) ?_;intro a HF;refine yq (fun _ HS => ZdJ ((es.getD i Za.zero).fName) _ (Nat.le_trans (hfit.at_ _) (by decide))) HF Tryz.func216 ?_; clear HF a;refine xqr 2 rfl<|xcs 16 rfl (fun cc2=>?_) fun cc2=>?_;refine xqr 20 rfl ?_;intro a HF;refine wpQuiet_nil ?_; intro w4 HS; replace HS := Bx.mk HS;revert a;refine xet<|xct rfl<|xsr<|xr 1 rfl<|xne<|xre<|xbr<|xtr<|xtr<|xbr<|xtr<|xb1 Tryz.results210 rfl ?_;exact ⟨by rw [JA (i := i) (by omega) (Zd0 (by simpa using cc2))] <;> rfl, HS.out.bel⟩;refine xq rfl (fun HS=>vf 1 rfl)<|xq rfl (fun HS=>vc HS 0 rfl rfl) ?_;intro a HF;refine yqg (fun _ HS => ((Z2 ((es.getD i Za.zero).fId) 1 15 _).mono fun _ _ h => ⟨h.1, h.2 ▸ Below.refl _ _⟩)) HF Tryz.func86 ?_; clear HF a;refine xqr 3 rfl<|xcs 22 rfl (fun cc3=>?_) fun cc3=>?_;refine xqr 14 rfl ?_;intro a HF;refine wpQuiet_nil ?_; intro w5 HS; replace HS := Bx.mk HS;revert a;refine xet<|xct rfl<|xsr<|xr 1 rfl<|xne<|xre<|xbr<|xtr<|xtr<|xbr<|xtr<|xb1 Tryz.results210 rfl ?_;exact ⟨by rw [JA (i := i) (by omega) (Zhc (by simpa using cc3))] <;> rfl, HS.out.bel⟩;refine xqr 3 rfl<|xcs 25 rfl (fun cc4=>?_) fun cc4=>?_;have dcc4 := of_decide_eq_true cc4;refine xqr 2 rfl<|xq rfl (fun HS a HF=>YN (r := ((i - 1 : Nat) : Int)) rfl (HF.ev rfl) (HF.ev rfl) ((QQ (by omega)).trans (by omega)))<|xq rfl (fun HS=>vxr 118 (i - 1) 2 rfl (RE.out.ao (i - 1) (by omega)))<|xq rfl (fun HS=>vf 0 rfl)<|xq rfl (fun HS a HF=>ylo (v := .string ((es.getD (i - 1) Za.zero).fName)) rfl (HF.ev rfl) (RE.out.elem HS (Zx (xs := es) (j := (i - 1)) (d := Za.zero) (by omega)) 0 _ rfl))<|xq rfl (fun HS=>vf 0 rfl)<|xq rfl (fun HS=>vc HS 0 rfl rfl)<|xq rfl (fun HS a HF=>Zjk rfl (HF.ev rfl) (HF.ev rfl))<|xqr 2 rfl ?_;intro a HF;refine wpQuiet_nil ?_; intro w6 HS; replace HS := Bx.mk HS;revert a;refine xet<|xcs 36 rfl (fun cc5=>?_) fun cc5=>?_
 refine xct rfl<|xsr<|xr 1 rfl<|xne<|xre<|xbr<|xtr<|xtr<|xbr<|xtr<|xb1 Tryz.results210 rfl ?_;exact ⟨by rw [JA (i := i) (by omega) (Zd1 (by omega) (by simpa using cc5))] <;> rfl, HS.out.bel⟩;refine xcf rfl<|xsk<|xeb<|xet<|xrl<|xy rfl (vad rfl)<|xr 1 rfl<|xne ?_;have hat : XF es i = true := VT (by simpa using cc2) (by simpa using cc3) (.inr (by simpa using cc5))
 try dsimp only [List.eraseIdx] at HS
 intro a HF;exact ⟨(i + 1), ⟨⟨by omega, Zbs hall hat⟩, HF.less _ ⟨rfl, rfl, rfl, rfl, trivial⟩, (HS.out.erase 0)⟩, (by omega)⟩;have dcc4 := of_decide_eq_false cc4;refine xqr 11 rfl ?_;intro a HF;refine wpQuiet_nil ?_; intro w7 HS; replace HS := Bx.mk HS;revert a;refine xet<|xcf rfl<|xsk<|xeb<|xet<|xrl<|xy rfl (vad rfl)<|xr 1 rfl<|xne ?_;have hat : XF es i = true := VT (by simpa using cc2) (by simpa using cc3) (.inl (by omega))
 try dsimp only [List.eraseIdx] at HS
 intro a HF;exact ⟨(i + 1), ⟨⟨by omega, Zbs hall hat⟩, HF.less _ ⟨rfl, rfl, rfl, rfl, trivial⟩, (HS.out.erase 0)⟩, (by omega)⟩;have dcc1 := of_decide_eq_false cc1;refine xcf rfl<|xex<|xtx<|xtx<|xbh<|xet<|xsr<|xr 1 rfl<|xy rfl (vn 118 2 rfl)<|xr 2 rfl<|xne<|xre<|xb1 Tryz.results210 rfl ?_;exact ⟨by rw [Zeo fun j hj => hall j (by omega)] <;> rfl, HS.out.bel⟩
theorem Zbu (ao : Option Addr) (cp : Nat) (es : List Za) (w0 : World) (hfit : J3 es) (hlen : es.length ≤ 1000000) (hr : Rd Za.cells 2 w0 ao es.length es) : Calls Tryz.prog 179 #[.slice ao es.length cp] w0 fun e w' => e = .returned (.bool (YE es)) ∧ Below w0.heap.size w0 w' := by
 obtain ⟨g, o, r0⟩ := hr.opn; have RE := Bx.mk r0; clear r0 hr;have HS := Bx.mk (St.start w0);refine Zk Tryz.func179 rfl Tryz.ntmps179 [(0, .slice ao es.length cp)] ⟨rfl, trivial⟩ rfl ?_;refine xsr<|xr 1 rfl<|xne<|xsq<|xsr<|xr 1 rfl<|xne<|xbl ?_;intro a HF;refine ZN (ι := Nat) (fun i a w => (i ≤ es.length ∧ ∀ j, j < i → XF es j = true) ∧ Fr 47 a [(0, .slice ao es.length cp), (3, .int .i64 (i : Int))] ∧ St w0 ([]) w) (fun i => es.length - i) 0 ⟨⟨Nat.zero_le _, fun j hj => absurd hj (Nat.not_lt_zero _)⟩, HF.less _ ⟨rfl, rfl, trivial⟩, HS.out⟩ ?_;clear HF HS; clear a;rintro i a w1 ⟨⟨hi, hall⟩, HF, HS⟩;replace HS := Bx.mk HS;revert a;refine xsq<|xsr<|xr 2 rfl<|xy rfl (vn 118 2 rfl)<|xr 1 rfl<|xne<|xcs 7 rfl (fun cc1=>?_) fun cc1=>?_
 have dcc1 := of_decide_eq_true cc1;refine xct rfl<|xsk<|xet<|xsq<|xbl<|xsq ?_;intro a HF;refine ZU (by kernel_rfl) (by kernel_rfl) HS.out ?_;revert a;refine xqr 2 rfl<|xq rfl (fun HS=>vxr 118 i 2 rfl (RE.out.ao i (by omega)))<|xq rfl (fun HS=>vf 0 rfl)<|xq rfl (fun HS a HF=>ylo (v := .string ((es.getD i Za.zero).fName)) rfl (HF.ev rfl) (RE.out.elem HS (Zx (xs := es) (j := i) (d := Za.zero) (by omega)) 0 _ rfl)) ?_;intro a HF;refine yq (fun _ HS => ZdK ((es.getD i Za.zero).fName) _ (Nat.le_trans (hfit.at_ _) (by decide))) HF Tryz.func164 ?_; clear HF a;refine xqr 2 rfl<|xcs 17 rfl (fun cc2=>?_) fun cc2=>?_;refine xqr 26 rfl ?_;intro a HF;refine wpQuiet_nil ?_; intro w2 HS; replace HS := Bx.mk HS;revert a;refine xet<|xct rfl<|xsr<|xr 1 rfl<|xne<|xre<|xbr<|xtr<|xtr<|xbr<|xtr<|xb1 Tryz.results179 rfl ?_;exact ⟨by rw [JA (i := i) (by omega) (Zd0 (by simpa using cc2))] <;> rfl, HS.out.bel⟩;refine xqr 2 rfl<|xq rfl (fun HS=>vxr 118 i 2 rfl (RE.out.ao i (by omega)))<|xq rfl (fun HS=>vf 1 rfl)<|xq rfl (fun HS a HF=>ylo (v := .int .i64 ((es.getD i Za.zero).fId)) rfl (HF.ev rfl) (RE.out.elem HS (Zx (xs := es) (j := i) (d := Za.zero) (by omega)) 1 _ rfl)) ?_;intro a HF;refine yqg (fun _ HS => ((YA ((es.getD i Za.zero).fId) 1 15 _).mono fun _ _ h => ⟨h.1, h.2 ▸ Below.refl _ _⟩)) HF Tryz.func82 ?_; clear HF a;refine xqr 3 rfl<|xcs 26 rfl (fun cc3=>?_) fun cc3=>?_;refine xqr 17 rfl ?_;intro a HF;refine wpQuiet_nil ?_; intro w3 HS; replace HS := Bx.mk HS;revert a;refine xet<|xct rfl<|xsr<|xr 1 rfl<|xne<|xre<|xbr<|xtr<|xtr<|xbr<|xtr<|xb1 Tryz.results179 rfl ?_;exact ⟨by rw [JA (i := i) (by omega) (Zhc (by simpa using cc3))] <;> rfl, HS.out.bel⟩;refine xqr 3 rfl<|xcs 29 rfl (fun cc4=>?_) fun cc4=>?_;have dcc4 := of_decide_eq_true cc4;refine xqr 2 rfl<|xq rfl (fun HS a HF=>YN (r := ((i - 1 : Nat) : Int)) rfl (HF.ev rfl) (HF.ev rfl) ((QQ (by omega)).trans (by omega)))<|xq rfl (fun HS=>vxr 118 (i - 1) 2 rfl (RE.out.ao (i - 1) (by omega)))<|xq rfl (fun HS=>vf 0 rfl)<|xq rfl (fun HS a HF=>ylo (v := .string ((es.getD (i - 1) Za.zero).fName)) rfl (HF.ev rfl) (RE.out.elem HS (Zx (xs := es) (j := (i - 1)) (d := Za.zero) (by omega)) 0 _ rfl))<|xqr 2 rfl<|xq rfl (fun HS=>vxr 118 i 2 rfl (RE.out.ao i (by omega)))<|xq rfl (fun HS=>vf 0 rfl)<|xq rfl (fun HS a HF=>ylo (v := .string ((es.getD i Za.zero).fName)) rfl (HF.ev rfl) (RE.out.elem HS (Zx (xs := es) (j := i) (d := Za.zero) (by omega)) 0 _ rfl))<|xq rfl (fun HS a HF=>Zjk rfl (HF.ev rfl) (HF.ev rfl))<|xqr 2 rfl ?_;intro a HF;refine wpQuiet_nil ?_; intro w4 HS; replace HS := Bx.mk HS;revert a;refine xet<|xcs 43 rfl (fun cc5=>?_) fun cc5=>?_
 refine xct rfl<|xsr<|xr 1 rfl<|xne<|xre<|xbr<|xtr<|xtr<|xbr<|xtr<|xb1 Tryz.results179 rfl ?_;exact ⟨by rw [JA (i := i) (by omega) (Zd1 (by omega) (by simpa using cc5))] <;> rfl, HS.out.bel⟩;refine xcf rfl<|xsk<|xeb<|xet<|xrl<|xr 1 rfl<|xy rfl (vad rfl)<|xr 1 rfl<|xne ?_;have hat : XF es i = true := VT (by simpa using cc2) (by simpa using cc3) (.inr (by simpa using cc5));intro a HF;exact ⟨(i + 1), ⟨⟨by omega, Zbs hall hat⟩, HF.less _ ⟨rfl, rfl, trivial⟩, HS.out⟩, (by omega)⟩;have dcc4 := of_decide_eq_false cc4;refine xqr 14 rfl ?_;intro a HF;refine wpQuiet_nil ?_; intro w5 HS; replace HS := Bx.mk HS;revert a;refine xet<|xcf rfl<|xsk<|xeb<|xet<|xrl<|xr 1 rfl<|xy rfl (vad rfl)<|xr 1 rfl<|xne ?_;have hat : XF es i = true := VT (by simpa using cc2) (by simpa using cc3) (.inl (by omega));intro a HF;exact ⟨(i + 1), ⟨⟨by omega, Zbs hall hat⟩, HF.less _ ⟨rfl, rfl, trivial⟩, HS.out⟩, (by omega)⟩;have dcc1 := of_decide_eq_false cc1;refine xcf rfl<|xex<|xtx<|xtx<|xbh<|xet<|xsr<|xr 1 rfl<|xy rfl (vn 118 2 rfl)<|xr 2 rfl<|xne<|xre<|xb1 Tryz.results179 rfl ?_;exact ⟨by rw [Zeo fun j hj => hall j (by omega)] <;> rfl, HS.out.bel⟩
theorem ZiD (l : List Za) (e : Za) : Zbi (l ++ [e]) = (((Zbi l ++ e.fName) ++ ⟨#[61]⟩) ++ Zw e.fId) ++ ⟨#[59]⟩ := by
  refine Xr ?_;rw [UM, Zfu];simp only [ZO, UM];unfold QC U3
  simp
theorem ZiE {l : List Za} {k : Nat} (h : k < l.length) : Zbi (l.take (k + 1)) = (((Zbi (l.take k) ++ (l.getD k Za.zero).fName) ++ ⟨#[61]⟩) ++ Zw (l.getD k Za.zero).fId) ++ ⟨#[59]⟩ := by
  rw [List.take_succ_eq_append_getElem h, ZiD, List.getD_eq_getElem?_getD, List.getElem?_eq_getElem h]; rfl
theorem ZiF (ao : Option Addr) (cp : Nat) (es : List Za) (w0 : World) (hok : YE es = true) (hr : Rd Za.cells 2 w0 ao es.length es) : Calls Tryz.prog 180 #[.slice ao es.length cp] w0 fun e w' => e = .returned (.string (Zbi es)) ∧ Below w0.heap.size w0 w' := by
 obtain ⟨g, o, r0⟩ := hr.opn; have RE := Bx.mk r0; clear r0 hr; have h12 := (Qu hok).2;have HS := Bx.mk (St.start w0);refine Zk Tryz.func180 rfl Tryz.ntmps180 [(0, .slice ao es.length cp)] ⟨rfl, trivial⟩ rfl ?_;refine xsr<|xr 1 rfl<|xne<|xsr<|xr 1 rfl<|xne<|xsq<|xsr<|xr 1 rfl<|xne<|xbl ?_;intro a HF;refine ZN (ι := Nat) (fun k a w => ∃ (tx : ByteArray), (k ≤ es.length ∧ tx = Zbi (es.take k) ∧ tx.size ≤ 15 * k) ∧ Fr 28 a [(0, .slice ao es.length cp), (3, .string tx), (4, .int .i64 (k : Int))] ∧ St w0 ([]) w) (fun k => es.length - k) 0 ⟨⟨#[]⟩, ⟨Nat.zero_le _, rfl, Nat.le_refl _⟩, HF.less _ ⟨rfl, rfl, rfl, trivial⟩, HS.out⟩ ?_;clear HF HS; clear a;rintro k a w1 ⟨tx, ⟨hk, hq, hz⟩, HF, HS⟩;replace HS := Bx.mk HS;revert a;refine xsq<|xsr<|xr 2 rfl<|xy rfl (vn 118 2 rfl)<|xr 1 rfl<|xne<|xcs 8 rfl (fun cc1=>?_) fun cc1=>?_
 have dcc1 := of_decide_eq_true cc1;refine xct rfl<|xsk<|xet<|xsq<|xbl ?_;have hen := Y8 hok (Vv (show k < es.length by omega)); have hnz := Zfv hen.1; have hdz : (ZJ (es.getD k Za.zero).fId.toNat).size ≤ 9 := J8 (by omega);intro a HF;refine ZU (by kernel_rfl) (by kernel_rfl) HS.out ?_;revert a;refine xqr 3 rfl<|xq rfl (fun HS=>vxr 118 k 2 rfl (RE.out.ao k (by omega)))<|xq rfl (fun HS=>vf 0 rfl)<|xq rfl (fun HS a HF=>ylo (v := .string ((es.getD k Za.zero).fName)) rfl (HF.ev rfl) (RE.out.elem HS (Zx (xs := es) (j := k) (d := Za.zero) (by omega)) 0 _ rfl))<|xq rfl (fun HS a HF=>Ye rfl (HF.ev rfl) (HF.ev rfl) (by (try simp only [XP, ZC]); omega))<|xq rfl (fun HS a HF=>Ye rfl (HF.ev rfl) (HF.ev rfl) (by (try simp only [XP, ZC]); omega))<|xqr 2 rfl<|xq rfl (fun HS=>vxr 118 k 2 rfl (RE.out.ao k (by omega)))<|xq rfl (fun HS=>vf 1 rfl)<|xq rfl (fun HS a HF=>ylo (v := .int .i64 ((es.getD k Za.zero).fId)) rfl (HF.ev rfl) (RE.out.elem HS (Zx (xs := es) (j := k) (d := Za.zero) (by omega)) 1 _ rfl)) ?_;intro a HF;refine yq (fun _ HS => YW ((es.getD k Za.zero).fId) (by omega) (by omega) _) HF Tryz.func185 ?_; clear HF a;refine xq rfl (fun HS a HF=>Ye rfl (HF.ev rfl) (HF.ev rfl) (by (try simp only [XP, ZC]); omega))<|xq rfl (fun HS a HF=>Ye rfl (HF.ev rfl) (HF.ev rfl) (by (try simp only [XP, ZC]); omega))<|xqr 1 rfl ?_;intro a HF;refine wpQuiet_nil ?_; intro w2 HS; replace HS := Bx.mk HS;revert a;refine xeb<|xet<|xrl<|xr 1 rfl<|xy rfl (vad rfl)<|xr 1 rfl<|xne ?_;have hnx : ((((tx ++ (es.getD k Za.zero).fName) ++ (⟨#[61]⟩ : ByteArray)) ++ ZJ (es.getD k Za.zero).fId.toNat) ++ (⟨#[59]⟩ : ByteArray)) = Zbi (es.take (k + 1)) := by rw [ZiE (by omega), YO (by omega) (by omega), hq]
 have hnz2 : ((((tx ++ (es.getD k Za.zero).fName) ++ (⟨#[61]⟩ : ByteArray)) ++ ZJ (es.getD k Za.zero).fId.toNat) ++ (⟨#[59]⟩ : ByteArray)).size ≤ 15 * (k + 1) := by simp only [ZC]; have : (⟨#[61]⟩ : ByteArray).size = 1 := rfl; have : (⟨#[59]⟩ : ByteArray).size = 1 := rfl; omega
 intro a HF;exact ⟨(k + 1), ⟨((((tx ++ (es.getD k Za.zero).fName) ++ (⟨#[61]⟩ : ByteArray)) ++ ZJ (es.getD k Za.zero).fId.toNat) ++ (⟨#[59]⟩ : ByteArray)), ⟨by omega, hnx, hnz2⟩, HF.less _ ⟨rfl, rfl, rfl, trivial⟩, HS.out⟩, (by omega)⟩;have dcc1 := of_decide_eq_false cc1;refine xcf rfl<|xex<|xtx<|xtx<|xbh<|xet<|xsr<|xr 2 rfl<|xne<|xre<|xb1 Tryz.results180 rfl ?_;obtain rfl : k = es.length := by omega
 exact ⟨by rw [hq, List.take_length], HS.out.bel⟩
def ZlK (e : Za) : ByteArray := ⟨(U3 e).toArray⟩
def ZiG (y : ByteArray) : Za := ⟨(Zi y 61).getD 0 ByteArray.empty, Xi ((Zi y 61).getD 1 ByteArray.empty)⟩
theorem ZcE (s : ByteArray) (c : UInt8) (l : List ByteArray) (h : splitL c s.data.toList = l.map fun x : ByteArray => x.data.toList) : Zi s c = l := by
  unfold Zi;rw [h]; exact ZaW l
theorem Zep : ∀ {l : List Za}, (∀ e ∈ l, Xt e.fName = true) → splitL 59 (QC l) = (l.map fun e => U3 e) ++ [[]]
  | [], _ => rfl
  | e :: r, h => by
    rw [XV, QS 59 _ _ (fun x hx hc => Jh (h e (List.mem_cons_self ..)) (hc ▸ hx)), Zep fun x hx => h x (List.mem_cons_of_mem _ hx)]; rfl
theorem Vw {s : ByteArray} {l : List Za} (h : IsEnts s l) : Zi s 59 = l.map ZlK ++ [ByteArray.empty] := by
  refine ZcE _ _ _ ?_;rw [← h.is, UM, Zep fun e he => (Y8 h.ok he).1, List.map_append, List.map_map]; rfl
theorem Zeq {e : Za} (h : Xt e.fName = true) : Zi (ZlK e) 61 = [e.fName, Zw e.fId] := by
  refine ZcE _ _ _ ?_;show splitL 61 (U3 e) = _;unfold U3;rw [QS 61 _ _ (Up h 61 (by decide)), Jc 61 _ (Zgf 61 (by decide) _)]; rfl
theorem ZmP {e : Za} (h : Xt e.fName = true) (hi : 1 ≤ e.fId ∧ e.fId ≤ 15) : ZiG (ZlK e) = e := by
  unfold ZiG;rw [Zeq h];show (⟨e.fName, Xi (Zw e.fId)⟩ : Za) = e;rw [XX (by omega)]
theorem ZlL {s : ByteArray} {l : List Za} (h : IsEnts s l) {i : Nat} (hi : i + 1 < (Zi s 59).length) : (Zi ((Zi s 59).getD i ByteArray.empty) 61).length = 2 := by
  rw [Vw h, List.length_append, List.length_map, List.length_singleton] at hi;rw [Vw h, List.getD_eq_getElem?_getD, List.getElem?_append_left (by rw [List.length_map]; omega), List.getElem?_map, List.getElem?_eq_getElem (by omega)];show (Zi (ZlK l[i]) 61).length = 2;rw [Zeq (Y8 h.ok (List.getElem_mem _)).1]; rfl
theorem ZhH {s : ByteArray} {l : List Za} (h : IsEnts s l) : ((Zi s 59).take ((Zi s 59).length - 1)).map ZiG = l := by
  rw [Vw h, List.length_append, List.length_map, List.length_singleton, Nat.add_sub_cancel, List.take_left' (by rw [List.length_map]), List.map_map];have : ∀ e ∈ l, (ZiG ∘ ZlK) e = e := fun e he => ZmP (Y8 h.ok he).1 (Y8 h.ok he).2
  rw [List.map_congr_left this, List.map_id']
theorem ZiH (s : ByteArray) (c : UInt8) : 1 ≤ (Zi s c).length := by rw [QT]; omega
theorem US {s : ByteArray} {c : UInt8} {i : Nat} (h : i < (Zi s c).length) : ((Zi s c).getD i ByteArray.empty).size ≤ s.size := by
  have h1 := Ju s c;have key : ∀ (l : List ByteArray) (i : Nat), i < l.length → (l.getD i ByteArray.empty).size ≤ (Qh l ⟨#[c]⟩).size := by
    intro l
    induction l with
    | nil => intro i hi; exact absurd hi (Nat.not_lt_zero _)
    | cons x r ih =>
      intro i hi;rw [Zj (Qh _ _)];show _ ≤ (Go.Lib.join ((x :: r).map fun y : ByteArray => y.data.toList) _).length;rw [List.map_cons, Go.Lib.join_cons, List.length_append]
      cases i with
      | zero => show x.size ≤ _; rw [Zj]; omega
      | succ i =>
        have h2 := ih i (by simpa using hi)
        cases r with
        | nil => exact absurd (by simp at hi) (Nat.not_lt_zero i)
        | cons y r =>
          rw [Zj (Qh _ _)] at h2;have h3 : (Qh (y :: r) ⟨#[c]⟩).data.toList = Go.Lib.join ((y :: r).map fun y : ByteArray => y.data.toList) [c] := rfl;rw [h3, List.map_cons, Go.Lib.join_cons, List.length_append] at h2;show ((y :: r).getD i ByteArray.empty).size ≤ _;simp only [Go.Lib.joinTail, List.map_cons, List.flatten_cons, List.length_append] at h2 ⊢
          omega
  have := key _ i h
  rwa [h1] at this
theorem ZhI {s : ByteArray} {c : UInt8} (i : Nat) : ((Zi s c).getD i ByteArray.empty).size ≤ s.size := by
  by_cases h : i < (Zi s c).length
  · exact US h
  · rw [List.getD_eq_getElem?_getD, List.getElem?_eq_none (by omega)]; exact Nat.zero_le _
theorem ZmQ {s : ByteArray} {n : Nat} (hs : s.size ≤ 1000000) : J3 (((Zi s 59).take n).map ZiG) := fun e he => by
  obtain ⟨y, hy, rfl⟩ := List.mem_map.1 he;obtain ⟨i, hi, e⟩ := List.getElem_of_mem (List.mem_of_mem_take hy);have h1 := US (s := s) (c := 59) hi;rw [List.getD_eq_getElem?_getD, List.getElem?_eq_getElem hi, Option.getD_some, e] at h1;have h2 := ZhI (s := y) (c := 61) 0;show ((Zi y 61).getD 0 ByteArray.empty).size ≤ _
  omega
theorem ZaE (s : ByteArray) (w0 : World) (hs : s.size ≤ 2048) : Calls Tryz.prog 129 #[.string s] w0 fun e w' => (∃ l, entsG s = some l ∧ ∃ ao cp, e = .returned (.tuple #[.slice ao l.length cp, .bool true]) ∧ St w0 [Zg Za.cells 2 118 (.slice ao l.length cp) l] w') ∨ (entsG s = none ∧ ∃ ae, e = .returned (.tuple #[.slice ae 0 0, .bool false]) ∧ Below w0.heap.size w0 w') := by
 have HS := Bx.mk (St.start w0);refine Zk Tryz.func129 rfl Tryz.ntmps129 [(0, .string s)] ⟨rfl, trivial⟩ rfl ?_;refine xsr<|xr 2 rfl<|xne<|xsr ?_;intro a HF;refine yem 118 2 HF HS ?_;clear HF HS a;intro a w1 b1 HF HS;revert a;refine xr 1 rfl<|xne<|xsr<|xr 1 rfl ?_;intro a HF;refine yc (VK s 59 _ (by omega)) HF Tryz.func165 ?_;rintro _ w2 ⟨ao2, cp2, rfl, hs⟩;refine ⟨_, rfl, ?_⟩;replace HS := Bx.mk (HS.out.add hs);clear hs HF a;intro a HF
 try dsimp only [List.eraseIdx] at HS
 revert a;refine xr 1 rfl<|xne<|xsq<|xsr<|xr 1 rfl<|xne<|xbl ?_;replace HS := Bx.mk (HS.out.nilRow Za.cells 2 118 (some ⟨b1, 0, none⟩));intro a HF;refine ZN (ι := Nat) (fun i a w => ∃ (ao : Option Addr) (cp : Nat) (es : List Za), (i + 1 ≤ (Zi s 59).length ∧ es = ((Zi s 59).take i).map ZiG) ∧ Fr 55 a [(0, .string s), (5, .slice ao2 ((Zi s 59).length) cp2), (4, .slice ao es.length cp), (6, .int .i64 (i : Int))] ∧ St w0 ([Zg Za.cells 2 118 (.slice ao es.length cp) es, Zg Zl 1 9 (.slice ao2 ((Zi s 59).length) cp2) (Zi s 59)]) w) (fun i => (Zi s 59).length - i) 0 ⟨_, _, [], ⟨ZiH _ _, rfl⟩, HF.less _ ⟨rfl, rfl, rfl, rfl, trivial⟩, HS.out⟩ ?_;clear HF HS; clear a;rintro i a w3 ⟨ao, cp, es, ⟨hi, hq⟩, HF, HS⟩;replace HS := Bx.mk HS;have hel : es.length = i := by rw [hq, List.length_map, List.length_take]; omega
 have hpl0 := QT s 59; have hct0 : s.data.toList.count 59 ≤ s.data.toList.length := List.count_le_length; have hsl0 := Zj s;revert a;refine xsq<|xsr<|xr 1 rfl<|xy rfl (vad rfl)<|xr 1 rfl<|xy rfl (vn 9 1 rfl)<|xr 1 rfl<|xne<|xcs 17 rfl (fun cc1=>?_) fun cc1=>?_
 have dcc1 := of_decide_eq_true cc1;refine xct rfl<|xsk<|xet<|xsq<|xbl<|xsq ?_;have hwz := US (s := s) (c := 59) (i := i) (by omega); have hpl := QT s 59; have hct : s.data.toList.count 59 ≤ s.data.toList.length := List.count_le_length; have hsl := Zj s;obtain ⟨g3, rfl, _, _, _, _⟩ := HS.out.rowOpen 1 rfl (by omega);refine xrl<|xr 2 rfl<|xy rfl (vx 9 i 1 rfl)<|xy rfl (fun a HF=>ylo (v := .string ((Zi s 59).getD i ByteArray.empty)) rfl (HF.ev rfl) (HS.out.elem1 encS_len 1 rfl (Zx (xs := Zi s 59) (j := i) (d := ByteArray.empty) (by omega)) rfl)) ?_;intro a HF;refine yc (VK ((Zi s 59).getD i ByteArray.empty) 61 _ (by omega)) HF Tryz.func165 ?_;rintro _ w4 ⟨ao4, cp4, rfl, hs⟩;refine ⟨_, rfl, ?_⟩;replace HS := Bx.mk (HS.out.add hs);clear hs HF a;intro a HF
 try dsimp only [List.eraseIdx] at HS
 revert a;refine xr 1 rfl<|xne<|xsq<|xsr<|xr 1 rfl<|xy rfl (vn 9 1 rfl)<|xr 1 rfl<|xne<|xcs 27 rfl (fun cc2=>?_) fun cc2=>?_
 have dcc2 := bne_iff_ne.1 cc2;refine xct rfl<|xsr ?_;intro a HF;refine yem 118 2 HF HS ?_;clear HF HS a;intro a w5 b5 HF HS;revert a;refine xr 2 rfl<|xne<|xre<|xtr<|xbr<|xtr<|xtr<|xbr<|xtr<|xb2 Tryz.results129 rfl rfl ?_;exact .inr ⟨Xh fun l hl => absurd (ZlL hl (i := i) (by omega)) (by omega), _, rfl, HS.out.bel⟩;have dcc2 := bne_eq_false_iff_eq.1 cc2;refine xcf rfl<|xsk<|xet<|xsq ?_;have hp2 : (Zi ((Zi s 59).getD i ByteArray.empty) 61).length = 2 := by omega
 have hpz := US (s := ((Zi s 59).getD i ByteArray.empty)) (c := 61) (i := 1) (by omega);obtain ⟨g6, rfl, _, _, _, _⟩ := HS.out.rowOpen 0 rfl (by omega);refine xrl<|xr 1 rfl<|xy rfl (vx 9 1 1 rfl)<|xy rfl (fun a HF=>ylo (v := .string ((Zi ((Zi s 59).getD i ByteArray.empty) 61).getD 1 ByteArray.empty)) rfl (HF.ev rfl) (HS.out.elem1 encS_len 0 rfl (Zx (xs := Zi ((Zi s 59).getD i ByteArray.empty) 61) (j := 1) (d := ByteArray.empty) (by omega)) rfl)) ?_;intro a HF;refine ycB (X9 ((Zi ((Zi s 59).getD i ByteArray.empty) 61).getD 1 ByteArray.empty) _ (by omega)) HF Tryz.func171 HS ?_; clear HF HS a; intro w6 a HS HF;revert a;refine xr 5 rfl<|xne<|xrl<|xr 2 rfl<|xy rfl (vx 9 0 1 rfl)<|xy rfl (fun a HF=>ylo (v := .string ((Zi ((Zi s 59).getD i ByteArray.empty) 61).getD 0 ByteArray.empty)) rfl (HF.ev rfl) (HS.out.elem1 encS_len 0 rfl (Zx (xs := Zi ((Zi s 59).getD i ByteArray.empty) 61) (j := 0) (d := ByteArray.empty) (by omega)) rfl))<|xr 1 rfl<|xy rfl (vb [.string ((Zi ((Zi s 59).getD i ByteArray.empty) 61).getD 0 ByteArray.empty), .int .i64 (Xi ((Zi ((Zi s 59).getD i ByteArray.empty) 61).getD 1 ByteArray.empty))] rfl) ?_;intro a HF;refine ybs Za.cells 118 2 [(⟨((Zi ((Zi s 59).getD i ByteArray.empty) 61).getD 0 ByteArray.empty), (Xi ((Zi ((Zi s 59).getD i ByteArray.empty) 61).getD 1 ByteArray.empty))⟩ : Za)] HF HS ?_;clear HF HS a;intro b7 a w7 HF HS;refine yap Zno Za.cells_len HS 2 HF (St.rdN HS.out Za.cells_len 0 rfl) (ZcD _) ?_;clear HF HS a;intro ao8 cp9 w8 a HF HS
 try dsimp only [List.eraseIdx] at HS
 revert a;refine xr 1 rfl<|xni<|xeb<|xet<|xrl<|xr 1 rfl<|xy rfl (vad rfl)<|xr 1 rfl<|xne ?_;have hz : es.length + ([(⟨((Zi ((Zi s 59).getD i ByteArray.empty) 61).getD 0 ByteArray.empty), (Xi ((Zi ((Zi s 59).getD i ByteArray.empty) 61).getD 1 ByteArray.empty))⟩ : Za)]).length = (es ++ ([(⟨((Zi ((Zi s 59).getD i ByteArray.empty) 61).getD 0 ByteArray.empty), (Xi ((Zi ((Zi s 59).getD i ByteArray.empty) 61).getD 1 ByteArray.empty))⟩ : Za)])).length := (List.length_append ..).symm;intro a HF;rw [hz] at HS HF;have hnext : es ++ ([(⟨((Zi ((Zi s 59).getD i ByteArray.empty) 61).getD 0 ByteArray.empty), (Xi ((Zi ((Zi s 59).getD i ByteArray.empty) 61).getD 1 ByteArray.empty))⟩ : Za)]) = ((Zi s 59).take (i + 1)).map ZiG := by rw [Zfa _ (by omega), List.map_append, hq]; rfl
 replace HS:=Bx.mk ((HS.out.pick 3 rfl).pick 3 rfl);exact ⟨(i + 1), ⟨_, _, es ++ ([(⟨((Zi ((Zi s 59).getD i ByteArray.empty) 61).getD 0 ByteArray.empty), (Xi ((Zi ((Zi s 59).getD i ByteArray.empty) 61).getD 1 ByteArray.empty))⟩ : Za)]), ⟨by omega, hnext⟩, HF.less _ ⟨rfl, rfl, rfl, rfl, trivial⟩, ((HS.out.erase 3).erase 2)⟩, (by omega)⟩;have dcc1 := of_decide_eq_false cc1;refine xcf rfl<|xex<|xtx<|xtx<|xbh<|xet<|xsq<|xsq ?_;have hpl := QT s 59; have hct : s.data.toList.count 59 ≤ s.data.toList.length := List.count_le_length; have hsl := Zj s; have hfit : J3 es := by rw [hq]; exact ZmQ (by omega)
 refine xrl<|xr 1 rfl ?_;intro a HF;refine ycB (Zbu _ _ es _ hfit (by omega) (St.rdOf HS.out Za.cells_len 0 rfl)) HF Tryz.func179 HS ?_; clear HF HS a; intro w9 a HS HF;revert a;refine xr 2 rfl<|xcs 47 rfl (fun cc3=>?_) fun cc3=>?_
 have hcok : YE es = false := by simpa using cc3
 refine xr 5 rfl<|xne<|xct rfl<|xsr ?_;intro a HF;refine yem 118 2 HF HS ?_;clear HF HS a;intro a w10 b10 HF HS;revert a;refine xr 2 rfl<|xne<|xre<|xtr<|xb2 Tryz.results129 rfl rfl ?_;refine .inr ⟨Xh fun l hl => ?_, _, rfl, HS.out.bel⟩;have he := ZhH hl; rw [show (Zi s 59).length - 1 = i by omega, ← hq] at he;rw [he, hl.ok] at hcok; cases hcok;have hcok : YE es = true := by simpa using cc3
 refine xr 1 rfl ?_;intro a HF;refine JO (ZiF _ _ es _ (by simpa using hcok) (St.rdOf HS.out Za.cells_len 0 rfl)) HF Tryz.func180 HS ?_; clear HF HS a; intro w11 a HS HF;revert a;refine xr 1 rfl<|xy rfl (fun a HF=>X0 rfl (HF.ev rfl) (HF.ev rfl))<|xr 1 rfl<|xne<|xcs 52 rfl (fun cc4=>?_) fun cc4=>?_
 refine xct rfl<|xsr ?_;intro a HF;refine yem 118 2 HF HS ?_;clear HF HS a;intro a w12 b11 HF HS;revert a;refine xr 2 rfl<|xne<|xre<|xtr<|xb2 Tryz.results129 rfl rfl ?_;refine .inr ⟨Xh fun l hl => ?_, _, rfl, HS.out.bel⟩;have he := ZhH hl; rw [show (Zi s 59).length - 1 = i by omega, ← hq] at he;rw [he, hl.is] at cc4; simp at cc4;refine xcf rfl<|xsk<|xet<|xsr<|xr 3 rfl<|xne<|xre<|xb2 Tryz.results129 rfl rfl ?_;have hIs : IsEnts s es := ⟨hcok, ZR (by simpa using cc4)⟩;exact .inl ⟨es, ZbY hIs, _, _, rfl, (HS.out.erase 1)⟩
theorem Zer (c : UInt8) (s : ByteArray) (w : World) (hM : Je w) (hs : s.size ≤ 4294967280) : Calls Tryz.prog 207 #[.string s, .string ⟨#[c]⟩] w fun e w' => (c ∉ s.data.toList ∧ e = .returned (.tuple #[.string s, .string ByteArray.empty, .bool false]) ∧ Below w.heap.size w w') ∨ (∃ num tail : ByteArray, s.data.toList = num.data.toList ++ c :: tail.data.toList ∧ c ∉ num.data.toList ∧ e = .returned (.tuple #[.string num, .string tail, .bool true]) ∧ Below w.heap.size w w') := by
  obtain ⟨m, hm⟩ := hM;refine (Any.strings_Cut Zli s ⟨#[c]⟩ m w (by omega) hm).mono ?_;rintro e w' ⟨rfl, n, rfl⟩;rcases Zfl c s.data.toList with ⟨h1, h2⟩ | ⟨d, t, h1, h2, h3⟩
  · have h3 : Go.Lib.cut s.data.toList [c] = (s.data.toList, [], false) := by
      unfold Go.Lib.cut at h2 ⊢
      split at h2
      · cases h2
      · rename_i hn; rw [if_neg hn]
    refine .inl ⟨h1, ?_, ZM _ _ _⟩;show Ending.returned (.tuple #[.string ⟨(Go.Lib.cut s.data.toList [c]).1.toArray⟩, .string ⟨(Go.Lib.cut s.data.toList [c]).2.1.toArray⟩, .bool (Go.Lib.cut s.data.toList [c]).2.2]) = _;rw [h3]; rfl
  · refine .inr ⟨⟨d.toArray⟩, ⟨t.toArray⟩, h1, h2, ?_, ZM _ _ _⟩
    show Ending.returned (.tuple #[.string ⟨(Go.Lib.cut s.data.toList [c]).1.toArray⟩, .string ⟨(Go.Lib.cut s.data.toList [c]).2.1.toArray⟩, .bool (Go.Lib.cut s.data.toList [c]).2.2]) = _;rw [h3]
structure Zbv (s : ByteArray) (es : List Za) (r : ByteArray) : Prop where
  is : QC es ++ r.data.toList = s.data.toList
  any : ∀ l, IsEnts s l → ∃ q, l = es ++ q ∧ r.data.toList = QC q
  size : r.size ≤ s.size
  fit : J3 es ∨ 1000000 < s.size
theorem Zbv.start (s : ByteArray) : Zbv s [] s := ⟨rfl, fun l h => ⟨l, rfl, by rw [← h.is]; rfl⟩, Nat.le_refl _, .inl fun e he => by cases he⟩
theorem Zbv.next {s : ByteArray} {es : List Za} {r : ByteArray} (h : Zbv s es r) {l : List Za} (hl : IsEnts s l) (hr : 0 < r.size) : ∃ e q, l = es ++ e :: q ∧ r.data.toList = U3 e ++ 59 :: QC q ∧ Xt e.fName = true ∧ 1 ≤ e.fId ∧ e.fId ≤ 15 := by
  obtain ⟨q, h1, h2⟩ := h.any l hl
  cases q with
  | nil =>
    have := congrArg List.length h2;rw [← Zj] at this;have h0 : (QC []).length = 0 := rfl
    omega
  | cons e q => exact ⟨e, q, h1, by rw [h2, XV], Y8 hl.ok (by rw [h1]; simp)⟩
theorem Zbv.step {s : ByteArray} {es : List Za} {r one tail name num : ByteArray} {n : Nat} (h : Zbv s es r) (h1 : r.data.toList = one.data.toList ++ 59 :: tail.data.toList) (n1 : (59 : UInt8) ∉ one.data.toList) (h2 : one.data.toList = name.data.toList ++ 61 :: num.data.toList) (n2 : (61 : UInt8) ∉ name.data.toList) (hn : Qi num = some n) : Zbv s (es ++ [⟨name, (n : Int)⟩]) tail := by
  have hb := Xe hn;have hnum : Zw (n : Int) = num := by rw [YO (by omega) (by omega), Int.toNat_natCast]; exact hb.2.symm
  have hT : U3 ⟨name, (n : Int)⟩ = one.data.toList := by unfold U3; rw [h2]; show _ ++ 61 :: (Zw (n : Int)).data.toList = _; rw [hnum]
  have hrl : r.size = one.size + 1 + tail.size := by
    have := congrArg List.length h1;rw [List.length_append, List.length_cons, ← Zj, ← Zj, ← Zj] at this
    omega
  have hol : name.size ≤ one.size := by
    have := congrArg List.length h2;rw [List.length_append, List.length_cons, ← Zj, ← Zj, ← Zj] at this
    omega
  refine ⟨?_, fun l hl => ?_, by have := h.size; omega, ?_⟩
  · rw [Zfu, XV, hT, List.append_assoc, List.append_assoc, ← h.is, h1]; rfl
  · obtain ⟨e, q, e1, e2, en, e3, e4⟩ := h.next hl (by omega)
    rw [h1] at e2;obtain ⟨c1, c2⟩ := Jb n1 (Jh en) e2;refine ⟨q, ?_, c2⟩;have : (⟨name, (n : Int)⟩ : Za) = e := by
      rw [h2] at c1;unfold U3 at c1;obtain ⟨d1, d2⟩ := Jb n2 (fun hm => Up en 61 (by decide) 61 hm rfl) c1
      cases e
      simp only at d1 d2 e3 e4;rw [Xr d1];have hv : Zw (n : Int) = Zw _ := hnum.trans (Xr d2);rw [Zhe (by omega) (by omega) hv]
    rw [e1, this, List.append_assoc]; rfl
  · rcases Nat.lt_or_ge 1000000 s.size with h' | h'
    · exact .inr h'
    · refine .inl fun e he => ?_
      rcases List.mem_append.1 he with he | he
      · rcases h.fit with hf | hf
        · exact hf e he
        · omega
      · rw [List.mem_singleton.1 he]
        have := h.size;show name.size ≤ _
        omega
theorem Zca {c : UInt8} {r a b : ByteArray} (h : r.data.toList = a.data.toList ++ c :: b.data.toList) : a.size + 1 + b.size = r.size := by
  have := congrArg List.length h;rw [List.length_append, List.length_cons, ← Zj, ← Zj, ← Zj] at this
  omega
theorem ZaF (s : ByteArray) (w0 : World) (hT : Qg w0) (hM : Je w0) (hE : Jn w0) (hs : s.size ≤ 2048) : Calls Tryz.prog 161 #[.string s] w0 fun e w' => (∃ l, entsG s = some l ∧ ∃ ao cp, e = .returned (.tuple #[.slice ao l.length cp, .bool true]) ∧ St w0 [Zg Za.cells 2 118 (.slice ao l.length cp) l] w') ∨ (entsG s = none ∧ e = .returned (.tuple #[.slice none 0 0, .bool false]) ∧ Below w0.heap.size w0 w') := by
 have HT := Bx.mk hT; have HM := Bx.mk hM; have HE := Bx.mk hE; clear hT hM hE;have HS := Bx.mk (St.start w0);refine Zk Tryz.func161 rfl Tryz.ntmps161 [(0, .string s)] ⟨rfl, trivial⟩ rfl ?_;refine xsr<|xr 2 rfl<|xne<|xsr<|xr 1 rfl<|xne<|xsq<|xsr<|xr 2 rfl<|xne<|xbl ?_;replace HS := Bx.mk (HS.out.nilRow Za.cells 2 118 none);intro a HF;refine ZN (ι := Nat) (fun z a w => ∃ (ao : Option Addr) (cp : Nat) (es : List Za) (r : ByteArray), (r.size = z ∧ Zbv s es r ∧ es.length ≤ 12) ∧ Fr 61 a [(0, .string s), (4, .slice ao es.length cp), (5, .string r)] ∧ St w0 ([Zg Za.cells 2 118 (.slice ao es.length cp) es]) w) (fun z => z) s.size ⟨_, _, [], s, ⟨rfl, Zbv.start s, Nat.zero_le _⟩, HF.less _ ⟨rfl, rfl, rfl, trivial⟩, HS.out⟩ ?_;clear HF HS; clear a;rintro z a w1 ⟨ao, cp, es, r, ⟨hrz, hto, hel⟩, HF, HS⟩;replace HS := Bx.mk HS;have hrs := hto.size; have hfit : J3 es := hto.fit.elim (fun h => h) (fun h => by omega);revert a;refine xsq<|xsr<|xr 1 rfl<|xy rfl (fun a HF=>X0 rfl (HF.ev rfl) (HF.ev rfl))<|xne<|xcs 16 rfl (fun cc1=>?_) fun cc1=>?_
 refine xct rfl<|xsk<|xet<|xbl<|xsq ?_;have hrp : 0 < r.size := ZgT (s := r) (by simpa using cc1);refine xrl<|xr 1 rfl ?_;intro a HF;refine yc (Zer 59 r _ (HM.out.below HS.out.bel) (by omega)) HF Tryz.func207 ?_;rintro _ w2 (⟨h59, rfl, hb⟩ | ⟨one, tail, hc59, h59, rfl, hb⟩);refine ⟨_, rfl, ?_⟩; replace HS := Bx.mk (HS.out.later hb);clear hb HF a;refine xr 7 rfl<|xne<|xsr<|xr 1 rfl ?_;intro a HF;refine yc (Zer 61 r _ (HM.out.below HS.out.bel) (by omega)) HF Tryz.func207 ?_;rintro _ w3 (⟨h61, rfl, hb⟩ | ⟨nam, num, hc61, h61, rfl, hb⟩);refine ⟨_, rfl, ?_⟩; replace HS := Bx.mk (HS.out.later hb);clear hb HF a;intro a HF;have hz0 : ByteArray.empty.size = 0 := rfl;revert a;refine xr 7 rfl<|xne<|xsr<|xr 1 rfl ?_;intro a HF;refine yc (ZE ByteArray.empty _ (HT.out.below HS.out.bel) (HE.out.below HS.out.bel)) HF Tryz.func208 ?_;rintro _ w4 (⟨n, hng, rfl, hb⟩ | ⟨hng, rfl, hb⟩);refine ⟨_, rfl, ?_⟩; replace HS := Bx.mk (HS.out.later hb);clear hb HF a;refine xr 5 rfl<|xne<|xsq<|xsr<|xr 15 rfl<|xne<|xct rfl<|xsr<|xr 2 rfl<|xne<|xre<|xtr<|xbr<|xtr<|xbr<|xtr<|xb2 Tryz.results161 rfl rfl ?_;refine .inr ⟨Xh fun l hl => ?_, rfl, HS.out.bel⟩;obtain ⟨e, q, e1, e2, en, e3, e4⟩ := hto.next hl hrp;exact h59 (by rw [e2]; simp);refine ⟨_, rfl, ?_⟩; replace HS := Bx.mk (HS.out.later hb);clear hb HF a;refine xr 5 rfl<|xne<|xsq<|xsr<|xr 15 rfl<|xne<|xct rfl<|xsr<|xr 2 rfl<|xne<|xre<|xtr<|xbr<|xtr<|xbr<|xtr<|xb2 Tryz.results161 rfl rfl ?_;refine .inr ⟨Xh fun l hl => ?_, rfl, HS.out.bel⟩;obtain ⟨e, q, e1, e2, en, e3, e4⟩ := hto.next hl hrp;exact h59 (by rw [e2]; simp);refine ⟨_, rfl, ?_⟩; replace HS := Bx.mk (HS.out.later hb);clear hb HF a;intro a HF;have hz61 := Zca hc61;revert a;refine xr 7 rfl<|xne<|xsr<|xr 1 rfl ?_;intro a HF;refine yc (ZE num _ (HT.out.below HS.out.bel) (HE.out.below HS.out.bel)) HF Tryz.func208 ?_;rintro _ w5 (⟨n, hng, rfl, hb⟩ | ⟨hng, rfl, hb⟩);refine ⟨_, rfl, ?_⟩; replace HS := Bx.mk (HS.out.later hb);clear hb HF a;refine xr 5 rfl<|xne<|xsq<|xsr<|xr 15 rfl<|xne<|xct rfl<|xsr<|xr 2 rfl<|xne<|xre<|xtr<|xbr<|xtr<|xbr<|xtr<|xb2 Tryz.results161 rfl rfl ?_;refine .inr ⟨Xh fun l hl => ?_, rfl, HS.out.bel⟩;obtain ⟨e, q, e1, e2, en, e3, e4⟩ := hto.next hl hrp;exact h59 (by rw [e2]; simp);refine ⟨_, rfl, ?_⟩; replace HS := Bx.mk (HS.out.later hb);clear hb HF a;refine xr 5 rfl<|xne<|xsq<|xsr<|xr 15 rfl<|xne<|xct rfl<|xsr<|xr 2 rfl<|xne<|xre<|xtr<|xbr<|xtr<|xbr<|xtr<|xb2 Tryz.results161 rfl rfl ?_;refine .inr ⟨Xh fun l hl => ?_, rfl, HS.out.bel⟩;obtain ⟨e, q, e1, e2, en, e3, e4⟩ := hto.next hl hrp;exact h59 (by rw [e2]; simp);refine ⟨_, rfl, ?_⟩; replace HS := Bx.mk (HS.out.later hb);clear hb HF a;intro a HF;have hz59 := Zca hc59;revert a;refine xr 7 rfl<|xne<|xsr<|xr 1 rfl ?_;intro a HF;refine yc (Zer 61 one _ (HM.out.below HS.out.bel) (by omega)) HF Tryz.func207 ?_;rintro _ w6 (⟨h61, rfl, hb⟩ | ⟨nam, num, hc61, h61, rfl, hb⟩);refine ⟨_, rfl, ?_⟩; replace HS := Bx.mk (HS.out.later hb);clear hb HF a;intro a HF;have hz0 : ByteArray.empty.size = 0 := rfl;revert a;refine xr 7 rfl<|xne<|xsr<|xr 1 rfl ?_;intro a HF;refine yc (ZE ByteArray.empty _ (HT.out.below HS.out.bel) (HE.out.below HS.out.bel)) HF Tryz.func208 ?_;rintro _ w7 (⟨n, hng, rfl, hb⟩ | ⟨hng, rfl, hb⟩);refine ⟨_, rfl, ?_⟩; replace HS := Bx.mk (HS.out.later hb);clear hb HF a;refine xr 5 rfl<|xne<|xsq<|xsr<|xr 15 rfl<|xne<|xct rfl<|xsr<|xr 2 rfl<|xne<|xre<|xtr<|xbr<|xtr<|xbr<|xtr<|xb2 Tryz.results161 rfl rfl ?_;refine .inr ⟨Xh fun l hl => ?_, rfl, HS.out.bel⟩;obtain ⟨e, q, e1, e2, en, e3, e4⟩ := hto.next hl hrp;rw [hc59] at e2; obtain ⟨c1, c2⟩ := Jb h59 (Jh en) e2;exact h61 (by rw [c1]; unfold U3; simp);refine ⟨_, rfl, ?_⟩; replace HS := Bx.mk (HS.out.later hb);clear hb HF a;refine xr 5 rfl<|xne<|xsq<|xsr<|xr 15 rfl<|xne<|xct rfl<|xsr<|xr 2 rfl<|xne<|xre<|xtr<|xbr<|xtr<|xbr<|xtr<|xb2 Tryz.results161 rfl rfl ?_;refine .inr ⟨Xh fun l hl => ?_, rfl, HS.out.bel⟩;obtain ⟨e, q, e1, e2, en, e3, e4⟩ := hto.next hl hrp;rw [hc59] at e2; obtain ⟨c1, c2⟩ := Jb h59 (Jh en) e2;exact h61 (by rw [c1]; unfold U3; simp);refine ⟨_, rfl, ?_⟩; replace HS := Bx.mk (HS.out.later hb);clear hb HF a;intro a HF;have hz61 := Zca hc61;revert a;refine xr 7 rfl<|xne<|xsr<|xr 1 rfl ?_;intro a HF;refine yc (ZE num _ (HT.out.below HS.out.bel) (HE.out.below HS.out.bel)) HF Tryz.func208 ?_;rintro _ w8 (⟨n, hng, rfl, hb⟩ | ⟨hng, rfl, hb⟩);refine ⟨_, rfl, ?_⟩; replace HS := Bx.mk (HS.out.later hb);clear hb HF a;refine xr 5 rfl<|xne<|xsq<|xsr<|xr 12 rfl<|xy rfl (vn 118 2 rfl)<|xr 2 rfl<|xne<|xcs 48 rfl (fun cc2=>?_) fun cc2=>?_;have dcc2 := eq_of_beq cc2;refine xct rfl<|xsr<|xr 2 rfl<|xne<|xre<|xtr<|xbr<|xtr<|xbr<|xtr<|xb2 Tryz.results161 rfl rfl ?_;refine .inr ⟨Xh fun l hl => ?_, rfl, HS.out.bel⟩;obtain ⟨e, q, e1, e2, en, e3, e4⟩ := hto.next hl hrp;rw [hc59] at e2; obtain ⟨c1, c2⟩ := Jb h59 (Jh en) e2;have h12 := (Qu hl.ok).2; rw [e1, List.length_append, List.length_cons] at h12; omega;have dcc2 := ne_of_beq_false cc2;refine xcf rfl<|xsk<|xet<|xsr<|xr 2 rfl ?_;intro a HF;refine ycB (ZdL nam _ (by omega)) HF Tryz.func209 HS ?_; clear HF HS a; intro w9 a HS HF;revert a;refine xr 1 rfl<|xy rfl (vb [.string nam, .int .i64 (n : Int)] rfl) ?_;intro a HF;refine ybs Za.cells 118 2 [(⟨nam, (n : Int)⟩ : Za)] HF HS ?_;clear HF HS a;intro b1 a w10 HF HS;refine yap Zno Za.cells_len HS 1 HF (St.rdN HS.out Za.cells_len 0 rfl) (ZcD _) ?_;clear HF HS a;intro ao2 cp3 w11 a HF HS
 try dsimp only [List.eraseIdx] at HS
 revert a;refine xr 1 rfl<|xne<|xrl<|xr 2 rfl<|xni<|xeb<|xet ?_;have hz : es.length + ([(⟨nam, (n : Int)⟩ : Za)]).length = (es ++ ([(⟨nam, (n : Int)⟩ : Za)])).length := (List.length_append ..).symm;intro a HF;rw [hz] at HS HF;have hto2 := hto.step hc59 h59 hc61 h61 hng;have hel2 : (es ++ ([(⟨nam, (n : Int)⟩ : Za)])).length ≤ 12 := by rw [List.length_append, List.length_singleton]; omega
 replace HS:=Bx.mk (HS.out.pick 1 rfl);exact ⟨tail.size, ⟨_, _, es ++ ([(⟨nam, (n : Int)⟩ : Za)]), tail, ⟨rfl, hto2, hel2⟩, HF.less _ ⟨rfl, rfl, rfl, trivial⟩, (HS.out.erase 1)⟩, (by omega)⟩;refine ⟨_, rfl, ?_⟩; replace HS := Bx.mk (HS.out.later hb);clear hb HF a;refine xr 5 rfl<|xne<|xsq<|xsr<|xr 15 rfl<|xne<|xct rfl<|xsr<|xr 2 rfl<|xne<|xre<|xtr<|xbr<|xtr<|xbr<|xtr<|xb2 Tryz.results161 rfl rfl ?_;refine .inr ⟨Xh fun l hl => ?_, rfl, HS.out.bel⟩;obtain ⟨e, q, e1, e2, en, e3, e4⟩ := hto.next hl hrp;rw [hc59] at e2; obtain ⟨c1, c2⟩ := Jb h59 (Jh en) e2;rw [hc61] at c1; unfold U3 at c1; obtain ⟨d1, d2⟩ := Jb h61 (fun hm => Up en 61 (by decide) 61 hm rfl) c1;exact Zas (n := e.fId) ⟨by omega, by omega, (Xr d2).symm⟩ hng;refine xcf rfl<|xex<|xtx<|xtx<|xbh<|xet<|xsq<|xsr<|xr 1 rfl ?_;intro a HF;refine ycB (Zbt _ _ es _ hfit (by omega) (St.rdOf HS.out Za.cells_len 0 rfl)) HF Tryz.func210 HS ?_; clear HF HS a; intro w12 a HS HF;revert a;refine xr 1 rfl<|xne<|xcs 59 rfl (fun cc3=>?_) fun cc3=>?_
 have hcok : YE es = false := by simpa using cc3
 refine xct rfl<|xsr<|xr 2 rfl<|xne<|xre<|xtr<|xb2 Tryz.results161 rfl rfl ?_;have hre : r.data.toList = [] := by have h : r = ⟨#[]⟩ := ZR (by simpa using cc1); rw [h]
 refine .inr ⟨Xh fun l hl => ?_, rfl, HS.out.bel⟩;obtain ⟨q, e1, e2⟩ := hto.any l hl; rw [hre] at e2
 cases q with | nil => rw [List.append_nil] at e1; rw [← e1, hl.ok] at hcok; cases hcok | cons x q => rw [XV] at e2; exact absurd e2 (by simp)
 have hcok : YE es = true := by simpa using cc3
 refine xcf rfl<|xsk<|xet<|xsr<|xr 3 rfl<|xne<|xre<|xb2 Tryz.results161 rfl rfl ?_;have hre : r.data.toList = [] := by have h : r = ⟨#[]⟩ := ZR (by simpa using cc1); rw [h]
 have hIs : IsEnts s es := ⟨hcok, Xr (by rw [UM, ← hto.is, hre, List.append_nil])⟩;exact .inl ⟨es, ZbY hIs, _, _, rfl, HS.out⟩
open Go.RowKit
def kvE (e : MapEntry) : Value × Value := (e.key, e.val)
def kvN (p : Int × Value) : Value × Value := (.int .i64 p.1, p.2)
def QL : List (Int × Value) → Int → Option (Nat × Value)
  | [], _ => none
  | (k, v) :: r, n => if n = k then some (0, v) else (QL r n).map fun q => (q.1 + 1, q.2)
def lookM (m : List (Int × Value)) (n : Int) : Option Value := (QL m n).map (·.2)
theorem Xz {k : Int} {v : Value} {r : List (Int × Value)} : QL ((k, v) :: r) k = some (0, v) := if_pos rfl
theorem Y0 {k n : Int} {v : Value} {r : List (Int × Value)} (h : n ≠ k) : QL ((k, v) :: r) n = (QL r n).map fun q => (q.1 + 1, q.2) := if_neg h
theorem ZlM (n : Int) : ∀ (l : List MapEntry) (m : List (Int × Value)) (i : Nat), l.map kvE = m.map kvN → Instr.findNow (.int .i64) (.int .i64 n) l i = some ((QL m n).map fun q => (i + q.1, q.2))
  | [], [], i, _ => rfl
  | [], _ :: _, _, h => by cases h
  | _ :: _, [], _, h => by cases h
  | e :: l, (k, v) :: m, i, h => by
    simp only [List.map_cons, List.cons.injEq] at h;obtain ⟨h1, h2⟩ := h;have hk : e.key = .int .i64 k := congrArg Prod.fst h1;have hv : e.val = v := congrArg Prod.snd h1;unfold Instr.findNow;rw [hk]
    by_cases hn : n = k
    · subst hn
      rw [Xz, hv];simp [Instr.sameNow]
    · rw [Y0 hn]
      simp only [Instr.sameNow, if_true];rw [beq_eq_false_iff_ne.2 hn];simp only;rw [ZlM n l m (i + 1) h2]
      cases QL m n with
      | none => rfl
      | some q => simp; omega
theorem ZhJ : ∀ {m : List (Int × Value)} {n : Int} {j : Nat} {v : Value}, QL m n = some (j, v) → m[j]? = some (n, v)
  | [], _, _, _, h => by cases h
  | (k, u) :: m, n, j, v, h => by
    by_cases hn : n = k
    · subst hn
      rw [Xz] at h;simp only [Option.some.injEq, Prod.mk.injEq] at h;obtain ⟨rfl, rfl⟩ := h
      rfl
    · rw [Y0 hn] at h
      cases hm : QL m n with
      | none => rw [hm] at h; cases h
      | some q =>
        rw [hm] at h;simp only [Option.map_some, Option.some.injEq, Prod.mk.injEq] at h;obtain ⟨rfl, rfl⟩ := h;exact ZhJ (m := m) (j := q.1) (v := q.2) (by rw [hm])
def QJ (f : Int → Option Value) (k : Int) (v : Value) : Int → Option Value := fun n => if n = k then some v else f n
theorem V0 (f : Int → Option Value) (k : Int) (v : Value) : QJ f k v k = some v := if_pos rfl
theorem Q4 {f : Int → Option Value} {k n : Int} {v : Value} (h : n ≠ k) : QJ f k v n = f n := if_neg h
theorem ZfJ {v : Value} : ∀ {m : List (Int × Value)} {n : Int} {j : Nat} {u : Value}, QL m n = some (j, u) → ∀ x, lookM (m.set j (n, v)) x = QJ (lookM m) n v x
  | [], _, _, _, h, _ => by cases h
  | (k, w) :: m, n, j, u, h, x => by
    by_cases hn : n = k
    · subst hn
      rw [Xz] at h;simp only [Option.some.injEq, Prod.mk.injEq] at h;obtain ⟨rfl, rfl⟩ := h;rw [List.set_cons_zero];unfold QJ lookM
      by_cases hx : x = n
      · rw [hx, Xz, if_pos rfl]; rfl
      · rw [Y0 hx, Y0 hx, if_neg hx]
    · rw [Y0 hn] at h
      cases hm : QL m n with
      | none => rw [hm] at h; cases h
      | some q =>
        rw [hm] at h;simp only [Option.map_some, Option.some.injEq, Prod.mk.injEq] at h;obtain ⟨rfl, rfl⟩ := h;have ih := ZfJ (v := v) (m := m) (n := n) (j := q.1) (u := q.2) (by rw [hm]) x;rw [List.set_cons_succ];unfold QJ lookM at ih ⊢
        by_cases hx : x = k
        · subst hx
          rw [Xz, if_neg (Ne.symm hn), Xz]
        · rw [Y0 hx, Option.map_map]
          have e : ((fun q : Nat × Value => q.2) ∘ fun q : Nat × Value => (q.1 + 1, q.2)) = fun q => q.2 := rfl
          rw [e, ih]
          by_cases hxn : x = n
          · rw [if_pos hxn, if_pos hxn]
          · rw [if_neg hxn, if_neg hxn, Y0 hx, Option.map_map, e]
theorem Zes {v : Value} : ∀ {m : List (Int × Value)} {n : Int}, QL m n = none → ∀ x, lookM (m ++ [(n, v)]) x = QJ (lookM m) n v x
  | [], n, _, x => by
    unfold QJ lookM
    by_cases hx : x = n
    · rw [if_pos hx, hx, List.nil_append, Xz]; rfl
    · rw [if_neg hx, List.nil_append, Y0 hx]; rfl
  | (k, w) :: m, n, h, x => by
    by_cases hn : n = k
    · subst hn; rw [Xz] at h; cases h
    · rw [Y0 hn] at h
      have hm : QL m n = none := by
        cases hm : QL m n with
        | none => rfl
        | some q => rw [hm] at h; cases h
      have ih := Zes (v := v) hm x;unfold QJ lookM at ih ⊢;rw [List.cons_append]
      by_cases hx : x = k
      · subst hx
        rw [Xz, if_neg (Ne.symm hn), Xz]
      · rw [Y0 hx, Option.map_map]
        have e : ((fun q : Nat × Value => q.2) ∘ fun q : Nat × Value => (q.1 + 1, q.2)) = fun q => q.2 := rfl
        rw [e, ih]
        by_cases hxn : x = n
        · rw [if_pos hxn, if_pos hxn]
        · rw [if_neg hxn, if_neg hxn, Y0 hx, Option.map_map, e]
def ZcY (w : World) (b : Nat) (f : Int → Option Value) : Prop := ∃ (es : Array MapEntry) (clock : Nat) (m : List (Int × Value)), w.heap[b]? = some (.map es clock) ∧ es.toList.map kvE = m.map kvN ∧ ∀ n, lookM m n = f n
def Z5 (b : Nat) (f : Int → Option Value) : Asr := ⟨fun w g => g = [b] ∧ ZcY w b f, fun w w' g _ hb ⟨e, es, clock, m, h1, h2, h3⟩ => ⟨e, es, clock, m, (hb b (by rw [e]; simp)).trans h1, h2, h3⟩⟩
theorem ZcY.below {w w' : World} {b : Nat} {f : Int → Option Value} (h : ZcY w b f) (hb : Below w.heap.size w w') : ZcY w' b f := by
  obtain ⟨es, clock, m, h1, h2, h3⟩ := h;have hlt : b < w.heap.size := by
    rcases Nat.lt_or_ge b w.heap.size with h' | h'
    · exact h'
    · simp [Array.getElem?_eq_none h'] at h1
  exact ⟨es, clock, m, (hb.block b hlt).trans h1, h2, h3⟩
theorem St.mapH {W w : World} {s : List Asr} (h : St W s w) (i : Nat) {b : Nat} {f : Int → Option Value} (hi : s[i]? = some (Z5 b f)) : ZcY w b f := by
  obtain ⟨g, ⟨_, hb⟩, _⟩ := h.get i hi;exact hb
theorem ZfK (k : TypeId) {P : Program} {w : World} (hk : P.underlying k = some (.int .i64)) (n : Int) (c : Bool) : (Instr.checkKey c 10000 k (.int .i64 n)).run P w = .ok () w := by
  unfold Instr.checkKey;simp only [Sem.run_bind, run_underlying hk w, Result.andThen_ok]
  rfl
theorem ZhK {P : Program} {w : World} {k : TypeId} (hk : P.underlying k = some (.int .i64)) {n : Int} {l : List MapEntry} {m : List (Int × Value)} (h : l.map kvE = m.map kvN) : (Instr.findKey k (.int .i64 n) l).run P w = .ok (QL m n) w := by
  unfold Instr.findKey;simp only [Sem.run_bind, run_underlying hk w, Result.andThen_ok, ZlM n l m 0 h];show Result.ok _ _ = _
  congr 1
  cases QL m n with
  | none => rfl
  | some q => simp
theorem Zkh {P : Program} {w : World} {t k e : TypeId} (ht : P.underlying t = some (.map k e)) (hk : P.underlying k = some (.int .i64)) {z : Value} (hz : (zeroValue e).run P w = .ok z w) {b : Nat} {f : Int → Option Value} (h : ZcY w b f) (n : Int) :
    (Instr.lookup t (.map (some b)) (.int .i64 n) false).run P w = .ok ((f n).getD z) w := by
  obtain ⟨es, clock, m, h1, h2, h3⟩ := h;have hg : (getObj b).run P w = .ok (.map es clock) w := by simp only [getObj, Sem.run, h1]
  unfold Instr.lookup;simp only [Sem.run_bind, run_underlying ht w, Result.andThen_ok, hg, Sem.run_pure, ZfK k hk, ZhK hk h2];rw [← h3 n];unfold lookM
  cases QL m n with
  | none => simp only [Sem.run_bind, hz, Result.andThen_ok, Sem.run_pure, Option.map_none, Option.getD_none]; rfl
  | some q => simp only [Sem.run_bind, Result.andThen_ok, Sem.run_pure, Option.map_some, Option.getD_some]; rfl
theorem Zki {es : Array MapEntry} {m : List (Int × Value)} (h : es.toList.map kvE = m.map kvN) {j : Nat} {n : Int} {u v : Value} (hj : m[j]? = some (n, u)) : (es.modify j fun e => { e with key := .int .i64 n, val := v }).toList.map kvE = (m.set j (n, v)).map kvN := by
  rw [Array.toList_modify, List.map_set]
  apply List.ext_getElem?
  intro i;have hi := congrArg (fun l => l[i]?) h;simp only [List.getElem?_map] at hi;rw [List.getElem?_map, List.getElem?_modify, List.getElem?_set, List.getElem?_map];have hjm : j < m.length := by
    rcases Nat.lt_or_ge j m.length with h' | h'
    · exact h'
    · rw [List.getElem?_eq_none h'] at hj; cases hj
  by_cases e : j = i
  · subst e
    rw [if_pos rfl, if_pos (by rw [List.length_map]; exact hjm)];rw [hj] at hi
    cases hc : es.toList[j]? with
    | none => rw [hc] at hi; cases hi
    | some x => simp [kvE, kvN]
  · rw [if_neg e]
    refine Eq.trans ?_ hi
    cases es.toList[i]? with
    | none => rfl
    | some x => simp [e]
theorem ZhL {P : Program} {w : World} {t k e : TypeId} (ht : P.underlying t = some (.map k e)) (hk : P.underlying k = some (.int .i64)) {b : Nat} {f : Int → Option Value} (h : ZcY w b f) (n : Int) (v : Value) :
    ∃ o : Obj, (Instr.mapUpdate t (.map (some b)) (.int .i64 n) v).run P w = .ok () { w with heap := w.heap.setIfInBounds b o } ∧ ∀ w' : World, w'.heap[b]? = some o → ZcY w' b (QJ f n v) := by
  obtain ⟨es, clock, m, h1, h2, h3⟩ := h;have hg : (getObj b).run P w = .ok (.map es clock) w := by simp only [getObj, Sem.run, h1]
  have hs : ∀ o : Obj, (setObj b o).run P w = .ok () { w with heap := w.heap.setIfInBounds b o } := fun o => by simp only [setObj, Sem.run, h1]
  have hf : f = lookM m := funext fun x => (h3 x).symm
  unfold Instr.mapUpdate;simp only [Sem.run_bind, run_underlying ht w, Result.andThen_ok, hg, Sem.run_pure, ZfK k hk, ZhK hk h2]
  cases hl : QL m n with
  | none =>
    refine ⟨.map (es.push { key := .int .i64 n, val := v, born := clock }) (clock + 1), hs _, fun w' hw' => ⟨_, _, m ++ [(n, v)], hw', ?_, fun x => ?_⟩⟩
    · rw [Array.toList_push, List.map_append, List.map_append, h2]; rfl
    · rw [hf]; exact Zes hl x
  | some q =>
    have hat := ZhJ (m := m) (n := n) (j := q.1) (v := q.2) hl;have hkey : ∃ e0, es[q.1]? = some e0 ∧ e0.key = .int .i64 n := by
      have hi := congrArg (fun l => l[q.1]?) h2;simp only [List.getElem?_map, hat, Option.map_some] at hi
      cases hc : es.toList[q.1]? with
      | none => rw [hc] at hi; cases hi
      | some x =>
        rw [hc] at hi;simp only [Option.map_some, Option.some.injEq] at hi;exact ⟨x, by simpa using hc, congrArg Prod.fst hi⟩
    obtain ⟨e0, he0, hk0⟩ := hkey;have hstay : (Instr.keyThatStays (.int .i64 n) (.int .i64 n)).run P w = .ok (.int .i64 n) w := by
      unfold Instr.keyThatStays;have : Instr.sameBits 10000 (.int .i64 n) (.int .i64 n) = true := by simp [Instr.sameBits]
      rw [if_pos this]; rfl
    refine ⟨.map (es.modify q.1 fun e => { e with key := .int .i64 n, val := v }) clock, ?_, fun w' hw' => ⟨_, _, m.set q.1 (n, v), hw', Zki h2 hat, fun x => ?_⟩⟩
    · simp only [he0, Option.map_some, Option.getD_some, hk0, Sem.run_bind, hstay, Result.andThen_ok]
      exact hs _
    · rw [hf]; exact ZfJ hl x
section
variable {P : Program} {ops : Array Oper} {Q : Exit → Act → World → Prop} {rest : List Oper} {o : Oper} {a : Act} {w W : World} {N : Nat} {l : List (Nat × Value)} {s : List Asr} {t k e : TypeId} {x y z : Operand}
theorem YL (ho : o.op = .lookup t x y false) {b : Nat} {n : Int} {f : Int → Option Value} (hx : a.eval x = .map (some b)) (hy : a.eval y = .int .i64 n) (ht : P.underlying t = some (.map k e)) (hk : P.underlying k = some (.int .i64)) {u : Value} (hz : (zeroValue e).run P w = .ok u w) (hM : ZcY w b f) {v : Value} (hv : (f n).getD u = v) : Yl P w o a v := by
  unfold Yl execOp;simp only [ho, hx, hy, Sem.run_bind, Zkh ht hk hz hM n, Result.andThen_ok, Sem.run_pure, hv]
theorem ZaG (hg : o.guard = none) (hF : Fr N a l) (ho : o.op = .makeMap t none) {d : Nat} (hd : o.dst = some d) (hN : Nat.blt d N = true) (hS : St W s w)
    (h : ∀ a' w' b, Fr N a' ((d, .map (some b)) :: l) → St W (Z5 b (fun _ => none) :: s) w' → wpList P ops Q rest a' w') : wpList P ops Q (o :: rest) a w := by
  have hr : (execOp a.eval o).run P w = .ok (.value (.map (some w.heap.size))) (w.alloc (.map #[] 0)) := by
    unfold execOp;simp only [ho, Option.map_none, Instr.makeMap, Sem.run_bind]
    rfl
  refine ZnB hg hF hd hN hr fun a' hF' => h _ _ _ hF' ?_;exact (hS.allocO (.map #[] 0)).imp fun g ⟨e, hb⟩ _ _ => ⟨e, #[], 0, [], hb, rfl, fun n => rfl⟩
theorem ZfL (hg : o.guard = none) (hF : Fr N a l) (ho : o.op = .mapUpdate t x y z) (hd : o.dst = none) {b : Nat} {n : Int} {v : Value} (hx : a.eval x = .map (some b)) (hy : a.eval y = .int .i64 n) (hz : a.eval z = v) (ht : P.underlying t = some (.map k e)) (hk : P.underlying k = some (.int .i64)) (hS : St W s w) (i : Nat) {f : Int → Option Value} (hi : s[i]? = some (Z5 b f))
    (h : ∀ w', St W (s.set i (Z5 b (QJ f n v))) w' → wpList P ops Q rest a w') : wpList P ops Q (o :: rest) a w := by
  obtain ⟨o', hrun, hM⟩ := ZhL (P := P) ht hk (hS.mapH i hi) n v;refine wpList_plain hg fun K hK => ?_;unfold Oper.wp;have hr : (execOp a.eval o).run P w = .ok .skip { w with heap := w.heap.setIfInBounds b o' } := by
    unfold execOp;simp only [ho, hx, hy, hz, Sem.run_bind, hrun, Result.andThen_ok, Sem.run_pure]
  rw [hr];refine hK (a.put o.dst undef) _ ?_;rw [hd];refine h _ (hS.mutAt i hi rfl rfl rfl (by simp) fun g ⟨e, hb⟩ _ h3 => ?_);have hlt := (h3 b (by rw [e]; simp)).2;refine ⟨g, ⟨e, hM _ ?_⟩, by rw [e]; simp, fun c hc => ⟨.inl hc, by have := (h3 c hc).2; simpa using this⟩, fun k hk hn => ?_⟩
  · show (w.heap.setIfInBounds b o')[b]? = some o'
    simp [Array.getElem?_setIfInBounds, hlt]
  · show (w.heap.setIfInBounds b o')[k]? = w.heap[k]?
    rw [e] at hn;have : b ≠ k := fun h => hn (by simp [h])
    simp [Array.getElem?_setIfInBounds, this]
end
open Go.RowKit
structure Yf where
  fRoom : Int
  fGoal : Int
  fOnce : List Int
  fOften : List Int
  fPast : List Int
  fFormer : List Int
def Yf.Reads (w : World) (v : Value) (x : Yf) : Prop := ∃ (a2 : Option Addr) (c2 : Nat) (a3 : Option Addr) (c3 : Nat) (a4 : Option Addr) (c4 : Nat) (a5 : Option Addr) (c5 : Nat), v = .agg #[.int .i64 x.fRoom, .int .i64 x.fGoal, .slice a2 x.fOnce.length c2, .slice a3 x.fOften.length c3, .slice a4 x.fPast.length c4, .slice a5 x.fFormer.length c5] ∧ Rd Zz 1 w a2 x.fOnce.length x.fOnce ∧ Rd Zz 1 w a3 x.fOften.length x.fOften ∧ Rd Zz 1 w a4 x.fPast.length x.fPast ∧ Rd Zz 1 w a5 x.fFormer.length x.fFormer
def Yf.Own (w : World) (B B1 : Nat) (v : Value) (x : Yf) : Prop := ∃ (a2 : Option Addr) (c2 : Nat) (a3 : Option Addr) (c3 : Nat) (a4 : Option Addr) (c4 : Nat) (a5 : Option Addr) (c5 : Nat), v = .agg #[.int .i64 x.fRoom, .int .i64 x.fGoal, .slice a2 x.fOnce.length c2, .slice a3 x.fOften.length c3, .slice a4 x.fPast.length c4, .slice a5 x.fFormer.length c5] ∧ RowO Zz 1 3 w B B1 (.slice a2 x.fOnce.length c2) x.fOnce ∧ RowO Zz 1 3 w B B1 (.slice a3 x.fOften.length c3) x.fOften ∧ RowO Zz 1 3 w B B1 (.slice a4 x.fPast.length c4) x.fPast ∧ RowO Zz 1 3 w B B1 (.slice a5 x.fFormer.length c5) x.fFormer ∧ Z9 (.slice a2 x.fOnce.length c2) (.slice a3 x.fOften.length c3) ∧ Z9 (.slice a2 x.fOnce.length c2) (.slice a4 x.fPast.length c4) ∧ Z9 (.slice a2 x.fOnce.length c2) (.slice a5 x.fFormer.length c5) ∧ Z9 (.slice a3 x.fOften.length c3) (.slice a4 x.fPast.length c4) ∧ Z9 (.slice a3 x.fOften.length c3) (.slice a5 x.fFormer.length c5) ∧ Z9 (.slice a4 x.fPast.length c4) (.slice a5 x.fFormer.length c5)
theorem Yf.Reads.below {w w' : World} {v : Value} {x : Yf} (h : Yf.Reads w v x) (hb : Below w.heap.size w w') : Yf.Reads w' v x := by
  obtain ⟨a2, c2, a3, c3, a4, c4, a5, c5, rfl, r2, r3, r4, r5⟩ := h;exact ⟨a2, c2, a3, c3, a4, c4, a5, c5, rfl, r2.below hb, r3.below hb, r4.below hb, r5.below hb⟩
theorem Yf.Own.rd {w : World} {B B1 : Nat} {v : Value} {x : Yf} (h : Yf.Own w B B1 v x) : Yf.Reads w v x := by
  obtain ⟨a2, c2, a3, c3, a4, c4, a5, c5, rfl, r2, r3, r4, r5, p2_3, p2_4, p2_5, p3_4, p3_5, p4_5⟩ := h;obtain ⟨u2, e2, k2, d2⟩ := r2.rd encI_len;simp only [Value.slice.injEq, true_and] at k2;obtain ⟨rfl, rfl⟩ := k2;obtain ⟨u3, e3, k3, d3⟩ := r3.rd encI_len;simp only [Value.slice.injEq, true_and] at k3;obtain ⟨rfl, rfl⟩ := k3;obtain ⟨u4, e4, k4, d4⟩ := r4.rd encI_len;simp only [Value.slice.injEq, true_and] at k4;obtain ⟨rfl, rfl⟩ := k4;obtain ⟨u5, e5, k5, d5⟩ := r5.rd encI_len;simp only [Value.slice.injEq, true_and] at k5;obtain ⟨rfl, rfl⟩ := k5;exact ⟨_, _, _, _, _, _, _, _, rfl, d2, d3, d4, d5⟩
theorem Yf.Own.below {w : World} {B B1 : Nat} {v : Value} {x : Yf} (h : Yf.Own w B B1 v x) {w' : World} {C : Nat} (hb : Below C w w') (hC : w.heap.size ≤ C) : Yf.Own w' B B1 v x := by
  obtain ⟨a2, c2, a3, c3, a4, c4, a5, c5, rfl, r2, r3, r4, r5, p2_3, p2_4, p2_5, p3_4, p3_5, p4_5⟩ := h;exact ⟨a2, c2, a3, c3, a4, c4, a5, c5, rfl, r2.below hb hC, r3.below hb hC, r4.below hb hC, r5.below hb hC, p2_3, p2_4, p2_5, p3_4, p3_5, p4_5⟩
theorem Yf.Own.mono {w : World} {B B1 : Nat} {v : Value} {x : Yf} (h : Yf.Own w B B1 v x) {B' B1' : Nat} (hB : B' ≤ B) (hB1 : B1 ≤ B1') : Yf.Own w B' B1' v x := by
  obtain ⟨a2, c2, a3, c3, a4, c4, a5, c5, rfl, r2, r3, r4, r5, p2_3, p2_4, p2_5, p3_4, p3_5, p4_5⟩ := h;exact ⟨a2, c2, a3, c3, a4, c4, a5, c5, rfl, r2.mono hB hB1, r3.mono hB hB1, r4.mono hB hB1, r5.mono hB hB1, p2_3, p2_4, p2_5, p3_4, p3_5, p4_5⟩
theorem Yf.Own.set {w : World} {B B1 : Nat} {v : Value} {x : Yf} (h : Yf.Own w B B1 v x) {p : Addr} (hp : p.block < B) (u : Value) : Yf.Own (w.setCell p u) B B1 v x := by
  obtain ⟨a2, c2, a3, c3, a4, c4, a5, c5, rfl, r2, r3, r4, r5, p2_3, p2_4, p2_5, p3_4, p3_5, p4_5⟩ := h;exact ⟨a2, c2, a3, c3, a4, c4, a5, c5, rfl, r2.set hp u, r3.set hp u, r4.set hp u, r5.set hp u, p2_3, p2_4, p2_5, p3_4, p3_5, p4_5⟩
def Yf.bulk (x : Yf) : Nat := x.fOnce.length + x.fOften.length + x.fPast.length + x.fFormer.length
structure Yf.Small (x : Yf) : Prop where
  s2_0 : x.fOnce.length ≤ 9223372036854775807
  s3_0 : x.fOften.length ≤ 9223372036854775807
  s4_0 : x.fPast.length ≤ 9223372036854775807
  s5_0 : x.fFormer.length ≤ 9223372036854775807
structure Yf.Fit (x : Yf) : Prop where
  f2 : x.fOnce.length ≤ 1048576
  f3 : x.fOften.length ≤ 1048576
  f4 : x.fPast.length ≤ 1048576
  f5 : x.fFormer.length ≤ 1048576
theorem Yf.fit {x : Yf} (h : x.bulk ≤ 1048576) : x.Fit := by
  unfold Yf.bulk at h;exact ⟨by omega, by omega, by omega, by omega⟩
open Go.RowKit
def less (xs : List Int) (r : Int) : List Int := xs.filter (fun x => !(x == r))
end Go.Proofs.YtigjfacaofgjjaaGreatDoor
