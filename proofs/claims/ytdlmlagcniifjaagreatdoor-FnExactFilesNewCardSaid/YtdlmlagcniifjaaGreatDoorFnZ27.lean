/- A part of the proof in YtdlmlagcniifjaaGreatDoorFnZ32. -/
import Derived.Shelf.Small.Strs
import Derived.Test.YtdlmlagcniifjaaGreatDoorFnZ26
namespace Go.Proofs.YtdlmlagcniifjaaGreatDoor
set_option linter.unusedVariables false
set_option linter.unusedSimpArgs false
set_option maxHeartbeats 1000000
set_option maxRecDepth 100000
open Go.RowKit
def PtrD.eqv (x y : PtrD) : Bool := x.fAt == y.fAt && (x.fBirth == y.fBirth && (x.fSize == y.fSize && (x.fSum == y.fSum && x.fLevel == y.fLevel)))
theorem eqPtrXY (x y : PtrD) (d : Nat) (w : World) : (Op.equalIn (d + 2) 35 (.agg #[.int .i64 x.fAt, .int .i64 x.fBirth, .int .i64 x.fSize, .int .i64 x.fSum, .int .i64 x.fLevel]) (.agg #[.int .i64 y.fAt, .int .i64 y.fBirth, .int .i64 y.fSize, .int .i64 y.fSum, .int .i64 y.fLevel])).run Tryz.prog w = .ok (x.eqv y) w := by
  have hS : Tryz.prog.underlying 35 = some (.struct (Tryz.prog.fieldsOf 35)) := by kernel_rfl
  have hp : Tryz.prog.stoodInHeld 35 = false := by kernel_rfl
  rw [run_equalIn_agg w (d + 1) 35 _ _ hS hp]
  simp only [Program.fieldsOf, Tryz.underlying35]
  unfold PtrD.eqv
  go_simp
  by_cases h1 : x.fAt = y.fAt <;> by_cases h2 : x.fBirth = y.fBirth <;> by_cases h3 : x.fSize = y.fSize <;> by_cases h4 : x.fSum = y.fSum <;> by_cases h5 : x.fLevel = y.fLevel <;> simp [h1, h2, h3, h4, h5]
theorem yl_neqPtr {w : World} {o : Oper} {a : Act} {x y : Operand} {t' : TypeId} (p q : PtrD) (ho : o.op = .binOp .neq 35 x y t') (hx : a.eval x = .agg #[.int .i64 p.fAt, .int .i64 p.fBirth, .int .i64 p.fSize, .int .i64 p.fSum, .int .i64 p.fLevel]) (hy : a.eval y = .agg #[.int .i64 q.fAt, .int .i64 q.fBirth, .int .i64 q.fSize, .int .i64 q.fSum, .int .i64 q.fLevel]) : Yl Tryz.prog w o a (.bool (!(p.eqv q))) := by
  have he := eqPtrXY p q 9998 w
  unfold Yl execOp
  simp only [ho, hx, hy]
  simp [eqGuard, binOp, go_sem, Op.equal]
  rw [show Op.maxDepth = 9998 + 2 from rfl, he]; rfl
theorem sdepth1_any (w0 : World) : Calls Tryz.prog 61 #[.int .i64 1] w0 fun e w' => e = .returned (.int .i64 0) ∧ Below w0.heap.size w0 w' := by
 have HS := Bx.mk (St.start w0)
 refine wc_enter Tryz.func61 rfl Tryz.ntmps61 [(0, .int .i64 1)] ⟨rfl, trivial⟩ rfl ?_
 refine xsr<|xr 1 rfl<|xne<|xsq<|xbl<|xsr<|xr 3 rfl<|xne ?_
 intro a HF
 replace HF := HF.know (k := 3) (c := true) rfl (by decide)
 revert a;refine xct rfl<|xsr<|xr 1 rfl<|xne<|xre<|xbr<|xtr<|xb1 Tryz.results61 rfl ?_
 exact ⟨rfl, HS.out.bel⟩
theorem sinner0_any (d0 : Option Addr) (f0 : Nat) (d1 : Option Addr) (f1 : Nat) (d2 : Option Addr) (f2 : Nat) (d4 : Option Addr) (f4 : Nat) (d6 : Option Addr) (f6 : Nat) (st : StoreD) (w0 : World) : Calls Tryz.prog 111 #[sV d0 f0 d1 f1 d2 f2 d4 f4 d6 f6 st, az7] w0 fun e w' => ∃ ao, e = .returned (.slice ao 0 0) ∧ Below w0.heap.size w0 w' := by
 have HS := Bx.mk (St.start w0)
 refine wc_enter Tryz.func111 rfl Tryz.ntmps111 [(0, sV d0 f0 d1 f1 d2 f2 d4 f4 d6 f6 st), (1, az7)] ⟨rfl, rfl, trivial⟩ rfl ?_
 refine xsr ?_
 intro a HF
 refine ybx HF HS ?_;clear HF HS a;intro a w1 b1 HF HS
 refine ybx HF HS ?_;clear HF HS a;intro a w2 b2 HF HS
 revert a;refine xr 1 rfl<|xne<|xsr ?_
 intro a HF
 refine yem 35 5 HF HS ?_;clear HF HS a;intro a w3 b3 HF HS
 revert a;refine xr 1 rfl<|xne<|xsq<|xsr<|xy rfl (vf 5 rfl)<|xy rfl (vc HS.out 0 rfl rfl)<|xr 2 rfl ?_
 intro a HF
 replace HF := HF.know (k := 13) (c := true) rfl (by decide)
 revert a;refine xr 4 rfl<|xne<|xct rfl<|xsr<|xr 2 rfl<|xne<|xre<|xtr<|xb1 Tryz.results111 rfl ?_
 exact ⟨_, rfl, HS.out.bel⟩
theorem sfree0_any (d0 : Option Addr) (f0 : Nat) (d1 : Option Addr) (f1 : Nat) (d2 : Option Addr) (f2 : Nat) (d4 : Option Addr) (f4 : Nat) (d6 : Option Addr) (f6 : Nat) (st : StoreD) (w0 : World) : Calls Tryz.prog 79 #[sV d0 f0 d1 f1 d2 f2 d4 f4 d6 f6 st, az5] w0 fun e w' => e = .returned (sV d0 f0 d1 f1 d2 f2 d4 f4 d6 f6 st) ∧ Below w0.heap.size w0 w' := by
 have HS := Bx.mk (St.start w0)
 refine wc_enter Tryz.func79 rfl Tryz.ntmps79 [(0, sV d0 f0 d1 f1 d2 f2 d4 f4 d6 f6 st), (1, az5)] ⟨rfl, rfl, trivial⟩ rfl ?_
 refine xsr ?_
 intro a HF
 refine ybx HF HS ?_;clear HF HS a;intro a w1 b1 HF HS
 refine ybx HF HS ?_;clear HF HS a;intro a w2 b2 HF HS
 refine yal [.slice none 0 0, .slice none 0 0, .slice none 0 0, .int .i64 0, .slice none 0 0, .int .i64 0, .slice none 0 0, .bool false] HF HS ?_;clear HF HS a;intro a w3 b3 HF HS
 revert a;refine xne<|xsq<|xbl<|xsr<|xy rfl (vw HS.out 1 5 rfl rfl) ?_
 intro a HF
 refine ycB (show Calls _ _ _ _ fun e w' => e = .returned (.bool true) ∧ Below _ _ w' from specHole_any PtrD.zero _) HF Tryz.func50 HS ?_; clear HF HS a; intro w4 a HS HF
 revert a;refine xr 1 rfl<|xne<|xct rfl<|xsr<|xy rfl (vw HS.out 2 8 rfl rfl) ?_
 intro a HF
 refine yst HF HS 0 ?_;clear HS;intro w5 HS
 try dsimp only [List.set] at HS
 refine wl_ne<|wp_ret<|ex_block_ret<|ex_then_ret ?_
 refine bp_ret1 HF Tryz.results79 (HF.resBox rfl (HS.out.box 0 rfl) (by kernel_rfl)) ?_
 exact ⟨rfl, HS.out.bel⟩
set_option maxHeartbeats 4000000 in
theorem slay0_any (d0 : Option Addr) (f0 : Nat) (d1 : Option Addr) (f1 : Nat) (d2 : Option Addr) (f2 : Nat) (d4 : Option Addr) (f4 : Nat) (d6 : Option Addr) (f6 : Nat) (st : StoreD) (aoL : Option Addr) (cpL : Nat) (lv : List PtrD) (p : PtrD) (hlv : lv.take 1 = [p]) (hll : lv.length = 16) (F : List Asr) (w0 w : World) (hS : St w0 (rowA PtrD.cells 5 35 (.slice aoL 16 cpL) lv :: F) w) : Calls Tryz.prog 78 #[sV d0 f0 d1 f1 d2 f2 d4 f4 d6 f6 st, az7, .slice aoL 16 cpL, .int .i64 1] w fun e w' => e = .returned (.tuple #[sV d0 f0 d1 f1 d2 f2 d4 f4 d6 f6 st, .agg #[.int .i64 p.fAt, .int .i64 p.fBirth, .int .i64 p.fSize, .int .i64 p.fSum, .int .i64 p.fLevel, .int .i64 0, .int .i64 1], .bool true]) ∧ St w0 (rowA PtrD.cells 5 35 (.slice aoL 16 cpL) lv :: F) w' := by
 have hlv1 : (lv.take 1).length = 1 := by rw [hlv]; rfl
 have HS := Bx.mk hS; clear hS
 refine wc_enter Tryz.func78 rfl Tryz.ntmps78 [(0, sV d0 f0 d1 f1 d2 f2 d4 f4 d6 f6 st), (1, az7), (2, .slice aoL 16 cpL), (3, .int .i64 1)] ⟨rfl, rfl, rfl, rfl, trivial⟩ rfl ?_
 refine xsr ?_
 intro a HF
 refine ybx HF HS ?_;clear HF HS a;intro a w1 b1 HF HS
 refine ybx HF HS ?_;clear HF HS a;intro a w2 b2 HF HS
 refine yal [.slice none 0 0, .slice none 0 0, .slice none 0 0, .int .i64 0, .slice none 0 0, .int .i64 0, .slice none 0 0, .bool false] HF HS ?_;clear HF HS a;intro a w3 b3 HF HS
 refine yal z7 HF HS ?_;clear HF HS a;intro a w4 b4 HF HS
 revert a;refine xr 1 rfl<|xne<|xsr<|xr 1 rfl ?_
 intro a HF
 refine ycB (sdepth1_any _) HF Tryz.func61 HS ?_; clear HF HS a; intro w5 a HS HF
 revert a;refine xr 1 rfl<|xne<|xsr<|xy rfl (vw HS.out 3 8 rfl rfl)<|xy rfl (vw HS.out 2 7 rfl rfl) ?_
 intro a HF
 refine yc (sinner0_any d0 f0 d1 f1 d2 f2 d4 f4 d6 f6 st _) HF Tryz.func111 ?_
 rintro _ w6 ⟨aoI, rfl, hb⟩
 refine ⟨_, rfl, ?_⟩; replace HS := Bx.mk (HS.out.later hb);clear hb HF a
 refine xr 1 rfl<|xne<|xsr ?_
 intro a HF
 refine yem 35 5 HF HS ?_;clear HF HS a;intro a w7 b5 HF HS
 revert a;refine xr 2 rfl<|xy rfl (fun a HF=>yl_sliceHi (e := 35) (size := 5) (k := 1) rfl (HF.ev rfl) (HF.ev rfl) (by kernel_rfl) (by omega) (Nat.le_trans (by omega) (St.capLe HS.out 4 rfl))) ?_
 replace HS := Bx.mk (HS.out.nilRow PtrD.cells 5 35 (some ⟨b5, 0, none⟩))
 intro a HF
 refine wl_appL rfl HF rfl rfl rfl (HF.ev rfl) (HF.ev rfl) elemQ PtrD.cells_len HS.out 0 (xs := []) rfl (ys := lv.take 1) (Rd.take (St.rdOf HS.out PtrD.cells_len 5 rfl) (k := 1) (by omega)) (cells_one_Q _) (by unfold maxLen; simp only [List.length_nil, hlv1]; omega) (by simp only [List.length_nil, hlv1]; omega) ?_; clear HF HS a; intro ao7 cp8 w8 a HF HS; replace HS := Bx.mk HS
 try dsimp only [List.eraseIdx] at HS
 have hz9 : ([] : List PtrD).length + (lv.take 1).length = 1 := by rw [hlv]; rfl
 rw [hz9] at HS HF
 have hz8 : ([] : List PtrD) ++ lv.take 1 = [p] := by rw [hlv]; rfl
 rw [hz8] at HS
 try dsimp only [List.eraseIdx] at HS
 revert a;refine xr 1 rfl<|xne<|xsr ?_
 intro a HF
 refine yem 35 5 HF HS ?_;clear HF HS a;intro a w9 b9 HF HS
 revert a;refine xr 1 rfl<|xne<|xsq<|xsr<|xr 1 rfl<|xne<|xbl ?_
 intro a HF
 refine wc_rounds 1 ?_
 revert a;refine xsq<|xsr<|xr 3 rfl<|xne ?_
 intro a HF
 replace HF := HF.know (k := 39) (c := false) rfl (by decide)
 revert a;refine xcf rfl<|xex<|xtx<|xtx<|xbh<|xet<|xsq<|xsr<|xr 1 rfl<|xne<|xbl ?_
 intro a HF
 refine wc_rounds 1 ?_
 revert a;refine xsq<|xsr<|xr 2 rfl<|xy rfl (vn 35 5 rfl)<|xr 1 rfl<|xne ?_
 intro a HF
 replace HF := HF.know (k := 104) (c := false) rfl (by decide)
 revert a;refine xcf rfl<|xex<|xtx<|xtx<|xbh<|xet<|xsr<|xy rfl (vb z5 rfl) ?_
 intro a HF
 refine yal z5 HF HS ?_;clear HF HS a;intro a w10 b10 HF HS
 refine yst HF HS 0 ?_;clear HS;intro w11 HS
 try dsimp only [List.set] at HS
 revert a;refine xne<|xsq<|xsr<|xr 1 rfl<|xy rfl (vn 35 5 rfl)<|xr 1 rfl<|xne ?_
 intro a HF
 replace HF := HF.know (k := 136) (c := true) rfl (by decide)
 refine wc_true HF rfl ?_
 obtain ⟨g11, rfl, _, _, _, _⟩ := HS.out.rowOpen 1 rfl (by simp)
 revert a;refine xrl<|xr 1 rfl<|xy rfl (vx 35 0 5 rfl)<|xy rfl (fun a HF=>ylr (cs := pL p) rfl (HF.ev rfl) (HS.out.elem PtrD.cells_len 1 rfl (show ([p] : List PtrD)[0]? = some p from rfl))) ?_
 intro a HF
 refine yst HF HS 0 ?_;clear HS;intro w12 HS
 try dsimp only [List.set] at HS
 refine wl_ne<|wp_seq ?_
 refine wr_heldS (s := boxA b10 5 35 (pV p) :: rowA PtrD.cells 5 35 (.slice (some ⟨g11, 0, none⟩) 1 cp8) ([p]) :: boxA b2 7 37 (az7) :: boxA b1 8 33 (sV d0 f0 d1 f1 d2 f2 d4 f4 d6 f6 st) :: rowA PtrD.cells 5 35 (.slice aoL 16 cpL) lv :: F) (by kernel_rfl) (St.drew (((HS.out.erase 3).erase 2))) ?_
 have HS2 := Bx.mk HS.out.drew; replace HS := Bx.mk (show St w0 (boxA b10 5 35 (pV p) :: rowA PtrD.cells 5 35 (.slice (some ⟨g11, 0, none⟩) 1 cp8) ([p]) :: boxA b2 7 37 (az7) :: boxA b1 8 33 (sV d0 f0 d1 f1 d2 f2 d4 f4 d6 f6 st) :: rowA PtrD.cells 5 35 (.slice aoL 16 cpL) lv :: F) _ from ((HS.out.drew.erase 3).erase 2))
 generalize World.drew _ = w13 at HS HS2 ⊢
 revert a;refine xhy 0 HS.out rfl rfl (fun HS=>vw HS 3 8 rfl rfl)<|xhy 1 HS.out rfl rfl (fun HS=>vw HS 0 5 rfl rfl)<|xh 2 HS.out rfl rfl rfl<|xh 3 HS.out rfl rfl rfl<|xhy 4 HS.out rfl rfl (fun HS=>vb [.int .i64 p.fAt, .int .i64 p.fBirth, .int .i64 p.fSize, .int .i64 p.fSum, .int .i64 p.fLevel, .int .i64 0, .int .i64 1] rfl) ?_
 intro a HF
 refine wh_one 5 (by kernel_rfl) ?_
 refine wo_storeBox rfl rfl rfl rfl (HF.ev rfl) (HF.ev rfl) HS2.out 3 rfl (cells_lit (sL d0 f0 d1 f1 d2 f2 d4 f4 d6 f6 st) rfl rfl) (by kernel_rfl) ?_
 clear HS HS2; intro w14 HS2; replace HS2:=Bx.mk HS2;try dsimp only [List.set] at HS2
 have HS:=Bx.mk (((HS2.out.erase 3).erase 2));refine ⟨HS.out,?_⟩
 refine wh_one 6 (by kernel_rfl) ?_
 refine wo_storeBox rfl rfl rfl rfl (HF.ev rfl) (HF.ev rfl) HS2.out 2 rfl (cells_lit [.int .i64 p.fAt, .int .i64 p.fBirth, .int .i64 p.fSize, .int .i64 p.fSum, .int .i64 p.fLevel, .int .i64 0, .int .i64 1] rfl rfl) (by kernel_rfl) ?_
 clear HS HS2; intro w15 HS2; replace HS2:=Bx.mk HS2;try dsimp only [List.set] at HS2
 have HS:=Bx.mk (((HS2.out.erase 3).erase 2));refine ⟨HS.out,?_⟩
 revert a;refine xh 7 HS.out rfl rfl rfl ?_
 intro a HF
 refine wh_done (by kernel_rfl) ?_
 replace HS := HS2; clear HS2
 refine ex_then<|wp_ret ?_
 refine bp_ret3 HF Tryz.results78 (HF.resBox rfl (HS.out.box 3 rfl) (by kernel_rfl)) (HF.resBox rfl (HS.out.box 2 rfl) (by kernel_rfl)) (HF.res rfl) ?_
 replace HS:=Bx.mk (HS.out.pick 6 rfl)
 exact ⟨rfl, ((((((HS.out.erase 6).erase 5).erase 4).erase 3).erase 2).erase 1)⟩
open Go.RowKit
theorem swide0_any (d0 : Option Addr) (f0 : Nat) (d1 : Option Addr) (f1 : Nat) (d2 : Option Addr) (f2 : Nat) (d4 : Option Addr) (f4 : Nat) (d6 : Option Addr) (f6 : Nat) (st : StoreD) (w0 : World) (hR : Rd encS 1 w0 d0 st.fRows.length st.fRows) (hrow : RowsOk st) : Calls Tryz.prog 76 #[.agg #[.slice d0 st.fRows.length f0, .slice d1 st.fSpace.fRefs.length f1, .slice d2 st.fSpace.fLast.length f2, .int .i64 st.fTxg, .slice d4 st.fGone.length f4, .int .i64 st.fKeep, .slice d6 st.fDead.length f6, .bool st.fSame], .agg #[.int .i64 0, .int .i64 0, .int .i64 0, .int .i64 0, .int .i64 0, .int .i64 0, .int .i64 0]] w0 fun e w' => ∃ ao cp, e = .returned (.slice ao 16 cp) ∧ St w0 [rowA PtrD.cells 5 35 (.slice ao 16 cp) (wideL [PtrD.zero])] w' :=
  l8Wide_any d0 f0 d1 f1 d2 f2 d4 f4 d6 f6 st ⟨PtrD.zero, 0, 0⟩ (x := [PtrD.zero]) rfl rfl (by decide) w0 hR hrow
theorem sread0_any (d0 : Option Addr) (f0 : Nat) (d1 : Option Addr) (f1 : Nat) (d2 : Option Addr) (f2 : Nat) (d4 : Option Addr) (f4 : Nat) (d6 : Option Addr) (f6 : Nat) (st : StoreD) (w0 : World) (hR : Rd encS 1 w0 d0 st.fRows.length st.fRows) (hrow : RowsOk st) : Calls Tryz.prog 63 #[.agg #[.slice d0 st.fRows.length f0, .slice d1 st.fSpace.fRefs.length f1, .slice d2 st.fSpace.fLast.length f2, .int .i64 st.fTxg, .slice d4 st.fGone.length f4, .int .i64 st.fKeep, .slice d6 st.fDead.length f6, .bool st.fSame], .agg #[.int .i64 0, .int .i64 0, .int .i64 0, .int .i64 0, .int .i64 0]] w0 fun e w' => e = .returned (.tuple #[.string ByteArray.empty, .bool true]) ∧ Below w0.heap.size w0 w' := by
  have h := l7Read_any d0 f0 d1 f1 d2 f2 d4 f4 d6 f6 st PtrD.zero w0 hR hrow rfl
  have h1 : readT st PtrD.zero = ByteArray.empty := by first | rfl | (unfold readT; rfl)
  have h2 : readB st PtrD.zero = true := by first | rfl | (unfold readB; rfl)
  rw [h1, h2] at h; exact h
set_option maxHeartbeats 4000000 in
theorem sput0_any (d0 : Option Addr) (f0 : Nat) (d1 : Option Addr) (f1 : Nat) (d2 : Option Addr) (f2 : Nat) (d4 : Option Addr) (f4 : Nat) (d6 : Option Addr) (f6 : Nat) (st : StoreD) (text : ByteArray) (F : List Asr) (w0 w : World) (hok : st.ok = true) (hsz : inB (text.size : Int) 1 128 = true) (hS : St w0 (rowA encS 1 9 (.slice d0 st.fRows.length f0) st.fRows :: rowA encI 1 3 (.slice d1 st.fSpace.fRefs.length f1) st.fSpace.fRefs :: rowA encI 1 3 (.slice d2 st.fSpace.fLast.length f2) st.fSpace.fLast :: rowA PtrD.cells 5 35 (.slice d4 st.fGone.length f4) st.fGone :: rowA PtrD.cells 5 35 (.slice d6 st.fDead.length f6) st.fDead :: F) w) : Calls Tryz.prog 51 #[sV d0 f0 d1 f1 d2 f2 d4 f4 d6 f6 st, az7, .int .i64 0, .string text] w fun e w' => (writeAt st text 0 = 64 ∧ e = .returned (.tuple #[sV d0 f0 d1 f1 d2 f2 d4 f4 d6 f6 st, az7, .bool false]) ∧ St w0 (rowA encS 1 9 (.slice d0 st.fRows.length f0) st.fRows :: rowA encI 1 3 (.slice d1 st.fSpace.fRefs.length f1) st.fSpace.fRefs :: rowA encI 1 3 (.slice d2 st.fSpace.fLast.length f2) st.fSpace.fLast :: rowA PtrD.cells 5 35 (.slice d4 st.fGone.length f4) st.fGone :: rowA PtrD.cells 5 35 (.slice d6 st.fDead.length f6) st.fDead :: F) w') ∨ (∃ i : Nat, i < 64 ∧ writeAt st text 0 = i ∧ e = .returned (.tuple #[sV d0 f0 d1 f1 d2 f2 d4 f4 d6 f6 st, .agg #[.int .i64 ((ptrOf (i : Int) st.fTxg 0 text).fAt), .int .i64 ((ptrOf (i : Int) st.fTxg 0 text).fBirth), .int .i64 ((ptrOf (i : Int) st.fTxg 0 text).fSize), .int .i64 ((ptrOf (i : Int) st.fTxg 0 text).fSum), .int .i64 ((ptrOf (i : Int) st.fTxg 0 text).fLevel), .int .i64 0, .int .i64 1], .bool true]) ∧ St w0 (rowA encS 1 9 (.slice d0 st.fRows.length f0) (st.fRows.set i text) :: rowA encI 1 3 (.slice d1 st.fSpace.fRefs.length f1) (st.fSpace.fRefs.set i (st.fSpace.fRefs.getD i 0 + 1)) :: rowA encI 1 3 (.slice d2 st.fSpace.fLast.length f2) (st.fSpace.fLast.set i st.fTxg) :: rowA PtrD.cells 5 35 (.slice d4 st.fGone.length f4) st.fGone :: rowA PtrD.cells 5 35 (.slice d6 st.fDead.length f6) st.fDead :: F) w') := by
 have hOK := StoreD.ok_spec hok; have hSP := SpaceD.ok_spec hOK.space; have hrow := ok_rows hok; have hwl : (wideL [PtrD.zero]).length = 16 := rfl
 have hsz2 := inB_true hsz
 have HS := Bx.mk hS; clear hS
 refine wc_enter Tryz.func51 rfl Tryz.ntmps51 [(0, sV d0 f0 d1 f1 d2 f2 d4 f4 d6 f6 st), (1, az7), (2, .int .i64 0), (3, .string text)] ⟨rfl, rfl, rfl, rfl, trivial⟩ rfl ?_
 refine xsr ?_
 intro a HF
 refine ybx HF HS ?_;clear HF HS a;intro a w1 b1 HF HS
 refine ybx HF HS ?_;clear HF HS a;intro a w2 b2 HF HS
 refine yal [.slice none 0 0, .slice none 0 0, .slice none 0 0, .int .i64 0, .slice none 0 0, .int .i64 0, .slice none 0 0, .bool false] HF HS ?_;clear HF HS a;intro a w3 b3 HF HS
 refine yal z7 HF HS ?_;clear HF HS a;intro a w4 b4 HF HS
 revert a;refine xr 1 rfl<|xne<|xsr<|xy rfl (vw HS.out 3 8 rfl rfl)<|xy rfl (vw HS.out 2 7 rfl rfl) ?_
 intro a HF
 refine yc (swide0_any d0 f0 d1 f1 d2 f2 d4 f4 d6 f6 st _ (St.rdOf HS.out encS_len 4 rfl) hrow) HF Tryz.func76 ?_
 rintro _ w5 ⟨ao5, cp5, rfl, hs⟩
 refine ⟨_, rfl, ?_⟩
 replace HS := Bx.mk (HS.out.add hs);clear hs HF a;intro a HF
 try dsimp only [List.eraseIdx] at HS
 revert a;refine xr 1 rfl<|xne<|xsq ?_
 obtain ⟨g6, rfl, _, _, _, _⟩ := HS.out.rowOpen 0 rfl (by decide)
 refine xrl<|xr 2 rfl<|xy rfl (vx 35 0 5 rfl)<|xy rfl (fun a HF=>ylr (cs := z5) rfl (HF.ev rfl) (HS.out.elem PtrD.cells_len 0 rfl (show (wideL [PtrD.zero])[0]? = some PtrD.zero from rfl))) ?_
 intro a HF
 refine yal z5 HF HS ?_;clear HF HS a;intro a w6 b7 HF HS
 refine yst HF HS 0 ?_;clear HS;intro w7 HS
 try dsimp only [List.set] at HS
 revert a;refine xne<|xsr<|xy rfl (vw HS.out 5 8 rfl rfl)<|xy rfl (vw HS.out 0 5 rfl rfl) ?_
 intro a HF
 refine ycB (sread0_any d0 f0 d1 f1 d2 f2 d4 f4 d6 f6 st _ (St.rdOf HS.out encS_len 6 rfl) hrow) HF Tryz.func63 HS ?_; clear HF HS a; intro w8 a HS HF
 revert a;refine xr 5 rfl<|xne<|xsr<|xy rfl (vf 6 rfl)<|xy rfl (vc HS.out 4 rfl rfl)<|xr 1 rfl<|xy rfl (fun a HF=>yl_addI (r := 1) rfl (HF.ev rfl) (HF.ev rfl) (by decide))<|xy rfl (fun a HF=>yl_maxI rfl (HF.ev rfl) (HF.ev rfl))<|xr 1 rfl<|xne<|xsq<|xsr<|xr 2 rfl<|xy rfl (fun a HF=>yl_eqlS rfl (HF.ev rfl) (HF.ev rfl))<|xr 1 rfl<|xcs 42 rfl (fun cc1=>?_) fun cc1=>?_
 intro a HF
 have he9 : text.size = 0 := by have h9 := bytes_toList (a := text) (b := ByteArray.empty) (by first | (simpa using cc1) | (have h8 := cc1; simp at h8; simp [h8])); rw [h9]; rfl
 omega
 refine xr 5 rfl<|xne<|xcf rfl<|xsk<|xet<|xsr<|xy rfl (vw HS.out 0 5 rfl rfl) ?_
 intro a HF
 refine yal z5 HF HS ?_;clear HF HS a;intro a w9 b8 HF HS
 refine yst HF HS 0 ?_;clear HS;intro w10 HS
 try dsimp only [List.set] at HS
 revert a;refine xne<|xsq<|xsr<|xr 2 rfl<|xy rfl (fun a HF=>yl_neqS rfl (HF.ev rfl) (HF.ev rfl))<|xne<|xcs 53 rfl (fun cc2=>?_) fun cc2=>?_
 refine xct rfl<|xsr<|xy rfl (vb z5 rfl) ?_
 intro a HF
 refine yst HF HS 0 ?_;clear HS;intro w11 HS
 try dsimp only [List.set] at HS
 revert a;refine xne<|xsr<|xr 1 rfl<|xy rfl (fun a HF=>yl_neqS rfl (HF.ev rfl) (HF.ev rfl))<|xne<|xcs 56 rfl (fun cc3=>?_) fun cc3=>?_
 refine xct rfl<|xsr<|xy rfl (vw HS.out 6 8 rfl rfl)<|xr 1 rfl ?_
 replace HS:=Bx.mk (((((HS.out.pick 11 rfl).pick 11 rfl).pick 11 rfl).pick 11 rfl).pick 11 rfl)
 have hWS := W_spec (level := 0) hok hsz
 intro a HF
 refine yc (l7Write_any w0 _ d0 f0 d1 f1 d2 f2 d4 f4 d6 f6 st text 0 _ HS.out hOK.rows hSP.refs hSP.last (by omega) hSP.all) HF Tryz.func77 ?_
 rintro _ w12 (⟨hws, rfl, hs1⟩ | ⟨i, hi6, hws, ⟨hpf, rfl, hs1⟩ | ⟨hpt, rfl, hs1⟩⟩)
 have hwa := hWS.1 hws
 refine ⟨_, rfl, ?_⟩; replace HS := Bx.mk hs1;clear hs1 HF a;intro a HF
 try dsimp only [List.eraseIdx] at HS
 revert a;refine xr 4 rfl ?_
 intro a HF
 refine yal [.slice none 0 0, .slice none 0 0, .slice none 0 0, .int .i64 0, .slice none 0 0, .int .i64 0, .slice none 0 0, .bool false] HF HS ?_;clear HF HS a;intro a w13 b9 HF HS
 refine yal z5 HF HS ?_;clear HF HS a;intro a w14 b10 HF HS
 refine yst HF HS 1 ?_;clear HS;intro w15 HS
 try dsimp only [List.set] at HS
 refine yst HF HS 0 ?_;clear HS;intro w16 HS
 try dsimp only [List.set] at HS
 revert a;refine xr 1 rfl<|xne<|xsq<|xsr<|xr 2 rfl<|xne<|xct rfl<|xsq ?_
 intro a HF
 refine wr_heldS (s := boxA b10 5 35 (az5) :: boxA b9 8 33 (sV d0 f0 d1 f1 d2 f2 d4 f4 d6 f6 st) :: rowA encS 1 9 (.slice d0 st.fRows.length f0) st.fRows :: rowA encI 1 3 (.slice d1 st.fSpace.fRefs.length f1) st.fSpace.fRefs :: rowA encI 1 3 (.slice d2 st.fSpace.fLast.length f2) st.fSpace.fLast :: rowA PtrD.cells 5 35 (.slice d4 st.fGone.length f4) st.fGone :: rowA PtrD.cells 5 35 (.slice d6 st.fDead.length f6) st.fDead :: boxA b8 5 35 (az5) :: boxA b7 5 35 (az5) :: rowA PtrD.cells 5 35 (.slice (some ⟨g6, 0, none⟩) 16 cp5) (wideL [PtrD.zero]) :: boxA b2 7 37 (az7) :: boxA b1 8 33 (sV d0 f0 d1 f1 d2 f2 d4 f4 d6 f6 st) :: F) (by kernel_rfl) (St.drew (((HS.out.erase 11).erase 10))) ?_
 have HS2 := Bx.mk HS.out.drew; replace HS := Bx.mk (show St w0 (boxA b10 5 35 (az5) :: boxA b9 8 33 (sV d0 f0 d1 f1 d2 f2 d4 f4 d6 f6 st) :: rowA encS 1 9 (.slice d0 st.fRows.length f0) st.fRows :: rowA encI 1 3 (.slice d1 st.fSpace.fRefs.length f1) st.fSpace.fRefs :: rowA encI 1 3 (.slice d2 st.fSpace.fLast.length f2) st.fSpace.fLast :: rowA PtrD.cells 5 35 (.slice d4 st.fGone.length f4) st.fGone :: rowA PtrD.cells 5 35 (.slice d6 st.fDead.length f6) st.fDead :: boxA b8 5 35 (az5) :: boxA b7 5 35 (az5) :: rowA PtrD.cells 5 35 (.slice (some ⟨g6, 0, none⟩) 16 cp5) (wideL [PtrD.zero]) :: boxA b2 7 37 (az7) :: boxA b1 8 33 (sV d0 f0 d1 f1 d2 f2 d4 f4 d6 f6 st) :: F) _ from ((HS.out.drew.erase 11).erase 10))
 generalize World.drew _ = w17 at HS HS2 ⊢
 revert a;refine xhy 0 HS.out rfl rfl (fun HS=>vw HS 11 8 rfl rfl)<|xhy 1 HS.out rfl rfl (fun HS=>vw HS 10 7 rfl rfl) ?_
 intro a HF
 refine wh_one 2 (by kernel_rfl) ?_
 refine wo_storeBox rfl rfl rfl rfl (HF.ev rfl) (HF.ev rfl) HS2.out 11 rfl (cells_lit (sL d0 f0 d1 f1 d2 f2 d4 f4 d6 f6 st) rfl rfl) (by kernel_rfl) ?_
 clear HS HS2; intro w18 HS2; replace HS2:=Bx.mk HS2;try dsimp only [List.set] at HS2
 have HS:=Bx.mk (((HS2.out.erase 11).erase 10));refine ⟨HS.out,?_⟩
 refine wh_one 3 (by kernel_rfl) ?_
 refine wo_storeBox rfl rfl rfl rfl (HF.ev rfl) (HF.ev rfl) HS2.out 10 rfl (cells_lit z7 rfl rfl) (by kernel_rfl) ?_
 clear HS HS2; intro w19 HS2; replace HS2:=Bx.mk HS2;try dsimp only [List.set] at HS2
 have HS:=Bx.mk (((HS2.out.erase 11).erase 10));refine ⟨HS.out,?_⟩
 revert a;refine xh 4 HS.out rfl rfl rfl ?_
 intro a HF
 refine wh_done (by kernel_rfl) ?_
 replace HS := HS2; clear HS2
 refine ex_then<|wp_ret<|ex_then_ret<|ex_then_ret ?_
 refine bp_ret3 HF Tryz.results51 (HF.resBox rfl (HS.out.box 11 rfl) (by kernel_rfl)) (HF.resBox rfl (HS.out.box 10 rfl) (by kernel_rfl)) (HF.res rfl) ?_
 replace HS:=Bx.mk (((((HS.out.pick 6 rfl).pick 6 rfl).pick 6 rfl).pick 6 rfl).pick 6 rfl)
 exact .inl ⟨hwa, rfl, (((((((((HS.out.erase 13).erase 12).erase 11).erase 10).erase 9).erase 8).erase 7).erase 6).erase 5)⟩
 have hwa := hWS.2 i hws; obtain ⟨_, _, _, hpk, _⟩ := W_yes hok hsz (level := 0) rfl hi6 hwa
 rw [hpk] at hpf; cases hpf
 have hwa := hWS.2 i hws; obtain ⟨_, _, _, hpk, _⟩ := W_yes hok hsz (level := 0) rfl hi6 hwa
 refine ⟨_, rfl, ?_⟩; replace HS := Bx.mk hs1;clear hs1 HF a;intro a HF
 try dsimp only [List.eraseIdx] at HS
 revert a;refine xr 4 rfl ?_
 intro a HF
 refine yal [.slice none 0 0, .slice none 0 0, .slice none 0 0, .int .i64 0, .slice none 0 0, .int .i64 0, .slice none 0 0, .bool false] HF HS ?_;clear HF HS a;intro a w20 b11 HF HS
 refine yal z5 HF HS ?_;clear HF HS a;intro a w21 b12 HF HS
 refine yst HF HS 1 ?_;clear HS;intro w22 HS
 try dsimp only [List.set] at HS
 refine yst HF HS 0 ?_;clear HS;intro w23 HS
 try dsimp only [List.set] at HS
 revert a;refine xr 1 rfl<|xne<|xsq<|xsr<|xr 2 rfl<|xne<|xcf rfl<|xsk<|xet<|xsr<|xy rfl (vw HS.out 1 8 rfl rfl) ?_
 intro a HF
 refine yst HF HS 13 ?_;clear HS;intro w24 HS
 try dsimp only [List.set] at HS
 revert a;refine xne<|xrl<|xy rfl (vw HS.out 0 5 rfl rfl) ?_
 intro a HF
 refine yst HF HS 7 ?_;clear HS;intro w25 HS
 try dsimp only [List.set] at HS
 revert a;refine xne<|xsr<|xr 2 rfl<|xy rfl (vw HS.out 7 5 rfl rfl)<|xy rfl (vx 35 0 5 rfl) ?_
 intro a HF
 refine wl_storeEn PtrD.cells_len rfl rfl rfl (HF.ev rfl) (HF.ev rfl) (by kernel_rfl) HS.out 9 rfl (by omega) (z := (ptrOf (i : Int) st.fTxg 0 text)) rfl (by first | rfl | simp [Value.oneCell']) ?_; clear HS; intro w26 HS; replace HS := Bx.mk HS
 revert a;refine xne<|xsr<|xy rfl (vw HS.out 13 8 rfl rfl)<|xy rfl (vw HS.out 12 7 rfl rfl)<|xr 2 rfl ?_
 replace HS:=Bx.mk (HS.out.pick 9 rfl)
 intro a HF
 refine yc (slay0_any d0 f0 d1 f1 d2 f2 d4 f4 d6 f6 st _ _ ((wideL [PtrD.zero]).set 0 (ptrOf (i : Int) st.fTxg 0 text)) (ptrOf (i : Int) st.fTxg 0 text) rfl (by simp only [List.length_set]; exact hwl) _ w0 _ HS.out) HF Tryz.func78 ?_
 rintro _ w27 ⟨rfl, hs1⟩
 refine ⟨_, rfl, ?_⟩; replace HS := Bx.mk hs1;clear hs1 HF a;intro a HF
 try dsimp only [List.eraseIdx] at HS
 revert a;refine xr 4 rfl ?_
 intro a HF
 refine yst HF HS 13 ?_;clear HS;intro w28 HS
 try dsimp only [List.set] at HS
 refine yst HF HS 12 ?_;clear HS;intro w29 HS
 try dsimp only [List.set] at HS
 revert a;refine xr 1 rfl<|xne<|xsq<|xsr<|xr 2 rfl<|xne<|xcf rfl<|xsk<|xet<|xsq<|xsr<|xy rfl (vw HS.out 8 5 rfl rfl)<|xy rfl (vw HS.out 9 5 rfl rfl)<|xy rfl (fun a HF=>yl_neqPtr (ptrOf (i : Int) st.fTxg 0 text) PtrD.zero rfl (HF.ev rfl) (HF.ev rfl))<|xne<|xcs 89 rfl (fun cc4=>?_) fun cc4=>?_
 refine xct rfl<|xrl<|xy rfl (vw HS.out 13 8 rfl rfl)<|xy rfl (vw HS.out 9 5 rfl rfl) ?_
 intro a HF
 refine ycB (sfree0_any d0 f0 d1 f1 d2 f2 d4 f4 d6 f6 st _) HF Tryz.func79 HS ?_; clear HF HS a; intro w30 a HS HF
 refine yst HF HS 13 ?_;clear HS;intro w31 HS
 try dsimp only [List.set] at HS
 refine wl_ne<|wp_seq ?_
 refine wr_heldS (s := rowA PtrD.cells 5 35 (.slice (some ⟨g6, 0, none⟩) 16 cp5) ((wideL [PtrD.zero]).set 0 (ptrOf (i : Int) st.fTxg 0 text)) :: boxA b12 5 35 (pV (ptrOf (i : Int) st.fTxg 0 text)) :: boxA b11 8 33 (sV d0 f0 d1 f1 d2 f2 d4 f4 d6 f6 st) :: rowA encS 1 9 (.slice d0 st.fRows.length f0) (st.fRows.set i text) :: rowA encI 1 3 (.slice d1 st.fSpace.fRefs.length f1) (st.fSpace.fRefs.set i (st.fSpace.fRefs.getD i 0 + 1)) :: rowA encI 1 3 (.slice d2 st.fSpace.fLast.length f2) (st.fSpace.fLast.set i st.fTxg) :: rowA PtrD.cells 5 35 (.slice d4 st.fGone.length f4) st.fGone :: rowA PtrD.cells 5 35 (.slice d6 st.fDead.length f6) st.fDead :: boxA b8 5 35 (pV (ptrOf (i : Int) st.fTxg 0 text)) :: boxA b7 5 35 (az5) :: boxA b2 7 37 (.agg #[.int .i64 ((ptrOf (i : Int) st.fTxg 0 text).fAt), .int .i64 ((ptrOf (i : Int) st.fTxg 0 text).fBirth), .int .i64 ((ptrOf (i : Int) st.fTxg 0 text).fSize), .int .i64 ((ptrOf (i : Int) st.fTxg 0 text).fSum), .int .i64 ((ptrOf (i : Int) st.fTxg 0 text).fLevel), .int .i64 0, .int .i64 1]) :: boxA b1 8 33 (sV d0 f0 d1 f1 d2 f2 d4 f4 d6 f6 st) :: F) (by kernel_rfl) (St.drew (((HS.out.erase 11).erase 10))) ?_
 have HS2 := Bx.mk HS.out.drew; replace HS := Bx.mk (show St w0 (rowA PtrD.cells 5 35 (.slice (some ⟨g6, 0, none⟩) 16 cp5) ((wideL [PtrD.zero]).set 0 (ptrOf (i : Int) st.fTxg 0 text)) :: boxA b12 5 35 (pV (ptrOf (i : Int) st.fTxg 0 text)) :: boxA b11 8 33 (sV d0 f0 d1 f1 d2 f2 d4 f4 d6 f6 st) :: rowA encS 1 9 (.slice d0 st.fRows.length f0) (st.fRows.set i text) :: rowA encI 1 3 (.slice d1 st.fSpace.fRefs.length f1) (st.fSpace.fRefs.set i (st.fSpace.fRefs.getD i 0 + 1)) :: rowA encI 1 3 (.slice d2 st.fSpace.fLast.length f2) (st.fSpace.fLast.set i st.fTxg) :: rowA PtrD.cells 5 35 (.slice d4 st.fGone.length f4) st.fGone :: rowA PtrD.cells 5 35 (.slice d6 st.fDead.length f6) st.fDead :: boxA b8 5 35 (pV (ptrOf (i : Int) st.fTxg 0 text)) :: boxA b7 5 35 (az5) :: boxA b2 7 37 (.agg #[.int .i64 ((ptrOf (i : Int) st.fTxg 0 text).fAt), .int .i64 ((ptrOf (i : Int) st.fTxg 0 text).fBirth), .int .i64 ((ptrOf (i : Int) st.fTxg 0 text).fSize), .int .i64 ((ptrOf (i : Int) st.fTxg 0 text).fSum), .int .i64 ((ptrOf (i : Int) st.fTxg 0 text).fLevel), .int .i64 0, .int .i64 1]) :: boxA b1 8 33 (sV d0 f0 d1 f1 d2 f2 d4 f4 d6 f6 st) :: F) _ from ((HS.out.drew.erase 11).erase 10))
 generalize World.drew _ = w32 at HS HS2 ⊢
 revert a;refine xhy 0 HS.out rfl rfl (fun HS=>vw HS 11 8 rfl rfl)<|xhy 1 HS.out rfl rfl (fun HS=>vw HS 10 7 rfl rfl) ?_
 intro a HF
 refine wh_one 2 (by kernel_rfl) ?_
 refine wo_storeBox rfl rfl rfl rfl (HF.ev rfl) (HF.ev rfl) HS2.out 11 rfl (cells_lit (sL d0 f0 d1 f1 d2 f2 d4 f4 d6 f6 st) rfl rfl) (by kernel_rfl) ?_
 clear HS HS2; intro w33 HS2; replace HS2:=Bx.mk HS2;try dsimp only [List.set] at HS2
 have HS:=Bx.mk (((HS2.out.erase 11).erase 10));refine ⟨HS.out,?_⟩
 refine wh_one 3 (by kernel_rfl) ?_
 refine wo_storeBox rfl rfl rfl rfl (HF.ev rfl) (HF.ev rfl) HS2.out 10 rfl (cells_lit [.int .i64 ((ptrOf (i : Int) st.fTxg 0 text).fAt), .int .i64 ((ptrOf (i : Int) st.fTxg 0 text).fBirth), .int .i64 ((ptrOf (i : Int) st.fTxg 0 text).fSize), .int .i64 ((ptrOf (i : Int) st.fTxg 0 text).fSum), .int .i64 ((ptrOf (i : Int) st.fTxg 0 text).fLevel), .int .i64 0, .int .i64 1] rfl rfl) (by kernel_rfl) ?_
 clear HS HS2; intro w34 HS2; replace HS2:=Bx.mk HS2;try dsimp only [List.set] at HS2
 have HS:=Bx.mk (((HS2.out.erase 11).erase 10));refine ⟨HS.out,?_⟩
 revert a;refine xh 4 HS.out rfl rfl rfl ?_
 intro a HF
 refine wh_done (by kernel_rfl) ?_
 replace HS := HS2; clear HS2
 refine ex_then<|wp_ret ?_
 refine bp_ret3 HF Tryz.results51 (HF.resBox rfl (HS.out.box 11 rfl) (by kernel_rfl)) (HF.resBox rfl (HS.out.box 10 rfl) (by kernel_rfl)) (HF.res rfl) ?_
 replace HS:=Bx.mk (((((HS.out.pick 7 rfl).pick 7 rfl).pick 7 rfl).pick 7 rfl).pick 7 rfl)
 exact .inr ⟨i, hi6, hwa, rfl, (((((((((HS.out.erase 13).erase 12).erase 11).erase 10).erase 9).erase 8).erase 7).erase 6).erase 5)⟩
 refine xcf rfl<|xsk<|xet<|xsq ?_
 intro a HF
 refine wr_heldS (s := rowA PtrD.cells 5 35 (.slice (some ⟨g6, 0, none⟩) 16 cp5) ((wideL [PtrD.zero]).set 0 (ptrOf (i : Int) st.fTxg 0 text)) :: boxA b12 5 35 (pV (ptrOf (i : Int) st.fTxg 0 text)) :: boxA b11 8 33 (sV d0 f0 d1 f1 d2 f2 d4 f4 d6 f6 st) :: rowA encS 1 9 (.slice d0 st.fRows.length f0) (st.fRows.set i text) :: rowA encI 1 3 (.slice d1 st.fSpace.fRefs.length f1) (st.fSpace.fRefs.set i (st.fSpace.fRefs.getD i 0 + 1)) :: rowA encI 1 3 (.slice d2 st.fSpace.fLast.length f2) (st.fSpace.fLast.set i st.fTxg) :: rowA PtrD.cells 5 35 (.slice d4 st.fGone.length f4) st.fGone :: rowA PtrD.cells 5 35 (.slice d6 st.fDead.length f6) st.fDead :: boxA b8 5 35 (pV (ptrOf (i : Int) st.fTxg 0 text)) :: boxA b7 5 35 (az5) :: boxA b2 7 37 (.agg #[.int .i64 ((ptrOf (i : Int) st.fTxg 0 text).fAt), .int .i64 ((ptrOf (i : Int) st.fTxg 0 text).fBirth), .int .i64 ((ptrOf (i : Int) st.fTxg 0 text).fSize), .int .i64 ((ptrOf (i : Int) st.fTxg 0 text).fSum), .int .i64 ((ptrOf (i : Int) st.fTxg 0 text).fLevel), .int .i64 0, .int .i64 1]) :: boxA b1 8 33 (sV d0 f0 d1 f1 d2 f2 d4 f4 d6 f6 st) :: F) (by kernel_rfl) (St.drew (((HS.out.erase 11).erase 10))) ?_
 have HS2 := Bx.mk HS.out.drew; replace HS := Bx.mk (show St w0 (rowA PtrD.cells 5 35 (.slice (some ⟨g6, 0, none⟩) 16 cp5) ((wideL [PtrD.zero]).set 0 (ptrOf (i : Int) st.fTxg 0 text)) :: boxA b12 5 35 (pV (ptrOf (i : Int) st.fTxg 0 text)) :: boxA b11 8 33 (sV d0 f0 d1 f1 d2 f2 d4 f4 d6 f6 st) :: rowA encS 1 9 (.slice d0 st.fRows.length f0) (st.fRows.set i text) :: rowA encI 1 3 (.slice d1 st.fSpace.fRefs.length f1) (st.fSpace.fRefs.set i (st.fSpace.fRefs.getD i 0 + 1)) :: rowA encI 1 3 (.slice d2 st.fSpace.fLast.length f2) (st.fSpace.fLast.set i st.fTxg) :: rowA PtrD.cells 5 35 (.slice d4 st.fGone.length f4) st.fGone :: rowA PtrD.cells 5 35 (.slice d6 st.fDead.length f6) st.fDead :: boxA b8 5 35 (pV (ptrOf (i : Int) st.fTxg 0 text)) :: boxA b7 5 35 (az5) :: boxA b2 7 37 (.agg #[.int .i64 ((ptrOf (i : Int) st.fTxg 0 text).fAt), .int .i64 ((ptrOf (i : Int) st.fTxg 0 text).fBirth), .int .i64 ((ptrOf (i : Int) st.fTxg 0 text).fSize), .int .i64 ((ptrOf (i : Int) st.fTxg 0 text).fSum), .int .i64 ((ptrOf (i : Int) st.fTxg 0 text).fLevel), .int .i64 0, .int .i64 1]) :: boxA b1 8 33 (sV d0 f0 d1 f1 d2 f2 d4 f4 d6 f6 st) :: F) _ from ((HS.out.drew.erase 11).erase 10))
 generalize World.drew _ = w35 at HS HS2 ⊢
 revert a;refine xhy 0 HS.out rfl rfl (fun HS=>vw HS 11 8 rfl rfl)<|xhy 1 HS.out rfl rfl (fun HS=>vw HS 10 7 rfl rfl) ?_
 intro a HF
 refine wh_one 2 (by kernel_rfl) ?_
 refine wo_storeBox rfl rfl rfl rfl (HF.ev rfl) (HF.ev rfl) HS2.out 11 rfl (cells_lit (sL d0 f0 d1 f1 d2 f2 d4 f4 d6 f6 st) rfl rfl) (by kernel_rfl) ?_
 clear HS HS2; intro w36 HS2; replace HS2:=Bx.mk HS2;try dsimp only [List.set] at HS2
 have HS:=Bx.mk (((HS2.out.erase 11).erase 10));refine ⟨HS.out,?_⟩
 refine wh_one 3 (by kernel_rfl) ?_
 refine wo_storeBox rfl rfl rfl rfl (HF.ev rfl) (HF.ev rfl) HS2.out 10 rfl (cells_lit [.int .i64 ((ptrOf (i : Int) st.fTxg 0 text).fAt), .int .i64 ((ptrOf (i : Int) st.fTxg 0 text).fBirth), .int .i64 ((ptrOf (i : Int) st.fTxg 0 text).fSize), .int .i64 ((ptrOf (i : Int) st.fTxg 0 text).fSum), .int .i64 ((ptrOf (i : Int) st.fTxg 0 text).fLevel), .int .i64 0, .int .i64 1] rfl rfl) (by kernel_rfl) ?_
 clear HS HS2; intro w37 HS2; replace HS2:=Bx.mk HS2;try dsimp only [List.set] at HS2
 have HS:=Bx.mk (((HS2.out.erase 11).erase 10));refine ⟨HS.out,?_⟩
 revert a;refine xh 4 HS.out rfl rfl rfl ?_
 intro a HF
 refine wh_done (by kernel_rfl) ?_
 replace HS := HS2; clear HS2
 refine ex_then<|wp_ret ?_
 refine bp_ret3 HF Tryz.results51 (HF.resBox rfl (HS.out.box 11 rfl) (by kernel_rfl)) (HF.resBox rfl (HS.out.box 10 rfl) (by kernel_rfl)) (HF.res rfl) ?_
 replace HS:=Bx.mk (((((HS.out.pick 7 rfl).pick 7 rfl).pick 7 rfl).pick 7 rfl).pick 7 rfl)
 exact .inr ⟨i, hi6, hwa, rfl, (((((((((HS.out.erase 13).erase 12).erase 11).erase 10).erase 9).erase 8).erase 7).erase 6).erase 5)⟩
 intro a HF
 have he9 : text.size = 0 := by have h9 := bytes_toList (a := text) (b := ByteArray.empty) (by first | (simpa using cc3) | (have h8 := cc3; simp at h8; simp [h8])); rw [h9]; rfl
 omega
 intro a HF
 have he9 : text.size = 0 := by have h9 := bytes_toList (a := text) (b := ByteArray.empty) (by first | (simpa using cc2) | (have h8 := cc2; simp at h8; simp [h8])); rw [h9]; rfl
 omega
set_option maxHeartbeats 4000000 in
theorem s11put0_any (d0 : Option Addr) (f0 : Nat) (d1 : Option Addr) (f1 : Nat) (d2 : Option Addr) (f2 : Nat) (d4 : Option Addr) (f4 : Nat) (d6 : Option Addr) (f6 : Nat) (st : StoreD) (F : List Asr) (w0 w : World) (hok : st.ok = true) (hS : St w0 (rowA encS 1 9 (.slice d0 st.fRows.length f0) st.fRows :: rowA encI 1 3 (.slice d1 st.fSpace.fRefs.length f1) st.fSpace.fRefs :: rowA encI 1 3 (.slice d2 st.fSpace.fLast.length f2) st.fSpace.fLast :: rowA PtrD.cells 5 35 (.slice d4 st.fGone.length f4) st.fGone :: rowA PtrD.cells 5 35 (.slice d6 st.fDead.length f6) st.fDead :: F) w) : Calls Tryz.prog 21 #[sV d0 f0 d1 f1 d2 f2 d4 f4 d6 f6 st, az7, .int .i64 0, .agg #[.int .i64 2, .int .i64 1, .int .i64 0, .int .i64 0, .int .i64 0, .int .i64 0, .int .i64 0, .int .i64 0, .int .i64 0, .int .i64 0]] w fun e w' => (writeAt st (nodeB newN) 0 = 64 ∧ e = .returned (.tuple #[sV d0 f0 d1 f1 d2 f2 d4 f4 d6 f6 st, az7, .bool false]) ∧ St w0 (rowA encS 1 9 (.slice d0 st.fRows.length f0) st.fRows :: rowA encI 1 3 (.slice d1 st.fSpace.fRefs.length f1) st.fSpace.fRefs :: rowA encI 1 3 (.slice d2 st.fSpace.fLast.length f2) st.fSpace.fLast :: rowA PtrD.cells 5 35 (.slice d4 st.fGone.length f4) st.fGone :: rowA PtrD.cells 5 35 (.slice d6 st.fDead.length f6) st.fDead :: F) w') ∨ (∃ i : Nat, i < 64 ∧ writeAt st (nodeB newN) 0 = i ∧ e = .returned (.tuple #[sV d0 f0 d1 f1 d2 f2 d4 f4 d6 f6 st, .agg #[.int .i64 ((ptrOf (i : Int) st.fTxg 0 (nodeB newN)).fAt), .int .i64 ((ptrOf (i : Int) st.fTxg 0 (nodeB newN)).fBirth), .int .i64 ((ptrOf (i : Int) st.fTxg 0 (nodeB newN)).fSize), .int .i64 ((ptrOf (i : Int) st.fTxg 0 (nodeB newN)).fSum), .int .i64 ((ptrOf (i : Int) st.fTxg 0 (nodeB newN)).fLevel), .int .i64 0, .int .i64 1], .bool true]) ∧ St w0 (rowA encS 1 9 (.slice d0 st.fRows.length f0) (st.fRows.set i (nodeB newN)) :: rowA encI 1 3 (.slice d1 st.fSpace.fRefs.length f1) (st.fSpace.fRefs.set i (st.fSpace.fRefs.getD i 0 + 1)) :: rowA encI 1 3 (.slice d2 st.fSpace.fLast.length f2) (st.fSpace.fLast.set i st.fTxg) :: rowA PtrD.cells 5 35 (.slice d4 st.fGone.length f4) st.fGone :: rowA PtrD.cells 5 35 (.slice d6 st.fDead.length f6) st.fDead :: F) w') := by
 have HS := Bx.mk hS; clear hS
 refine wc_enter Tryz.func21 rfl Tryz.ntmps21 [(0, sV d0 f0 d1 f1 d2 f2 d4 f4 d6 f6 st), (1, az7), (2, .int .i64 0), (3, .agg #[.int .i64 2, .int .i64 1, .int .i64 0, .int .i64 0, .int .i64 0, .int .i64 0, .int .i64 0, .int .i64 0, .int .i64 0, .int .i64 0])] ⟨rfl, rfl, rfl, rfl, trivial⟩ rfl ?_
 refine xsr ?_
 intro a HF
 refine ybx HF HS ?_;clear HF HS a;intro a w1 b1 HF HS
 refine ybx HF HS ?_;clear HF HS a;intro a w2 b2 HF HS
 refine ybx HF HS ?_;clear HF HS a;intro a w3 b3 HF HS
 refine yal [.slice none 0 0, .slice none 0 0, .slice none 0 0, .int .i64 0, .slice none 0 0, .int .i64 0, .slice none 0 0, .bool false] HF HS ?_;clear HF HS a;intro a w4 b4 HF HS
 refine yal z7 HF HS ?_;clear HF HS a;intro a w5 b5 HF HS
 revert a;refine xr 1 rfl<|xne<|xsq ?_
 intro a HF
 refine wr_heldS (s := boxA b3 10 53 (.agg #[.int .i64 2, .int .i64 1, .int .i64 0, .int .i64 0, .int .i64 0, .int .i64 0, .int .i64 0, .int .i64 0, .int .i64 0, .int .i64 0]) :: boxA b2 7 37 (az7) :: boxA b1 8 33 (sV d0 f0 d1 f1 d2 f2 d4 f4 d6 f6 st) :: F) (by kernel_rfl) (St.drew ((((((((HS.out.erase 9).erase 8).erase 7).erase 6).erase 5).erase 1).erase 0))) ?_
 have HS2 := Bx.mk HS.out.drew; replace HS := Bx.mk (show St w0 (boxA b3 10 53 (.agg #[.int .i64 2, .int .i64 1, .int .i64 0, .int .i64 0, .int .i64 0, .int .i64 0, .int .i64 0, .int .i64 0, .int .i64 0, .int .i64 0]) :: boxA b2 7 37 (az7) :: boxA b1 8 33 (sV d0 f0 d1 f1 d2 f2 d4 f4 d6 f6 st) :: F) _ from (((((((HS.out.drew.erase 9).erase 8).erase 7).erase 6).erase 5).erase 1).erase 0))
 generalize World.drew _ = w6 at HS HS2 ⊢
 revert a;refine xhy 0 HS.out rfl rfl (fun HS=>vw HS 2 8 rfl rfl)<|xhy 1 HS.out rfl rfl (fun HS=>vw HS 1 7 rfl rfl)<|xh 2 HS.out rfl rfl rfl<|xhy 3 HS.out rfl rfl (fun HS=>vw HS 0 10 rfl rfl) ?_
 intro a HF
 refine wh_one 4 (by kernel_rfl) ?_
 refine yoB (specNodePut_any newN _) HF Tryz.func52 ?_
 intro w7 hb; replace HS := Bx.mk (HS.out.later hb); replace HS2 := Bx.mk (HS2.out.later hb);clear hb HF a;intro a HF; refine ⟨HS.out, ?_⟩
 refine wh_one 5 (by kernel_rfl) ?_
 replace HS2:=Bx.mk (((((HS2.out.pick 9 rfl).pick 9 rfl).pick 9 rfl).pick 9 rfl).pick 9 rfl)
 refine yo (sput0_any d0 f0 d1 f1 d2 f2 d4 f4 d6 f6 st (nodeB newN) _ w0 _ hok newT_size HS2.out) HF Tryz.func51 ?_
 rintro _ w9 (⟨hwa, rfl, hs1⟩ | ⟨i, hi6, hwa, rfl, hs1⟩)
 refine ⟨_, rfl, ?_⟩; replace HS2 := Bx.mk hs1;clear hs1 HF a;intro a HF
 replace HS2 : Bx (St w0 (rowA encS 1 9 (.slice d0 st.fRows.length f0) st.fRows :: rowA encI 1 3 (.slice d1 st.fSpace.fRefs.length f1) st.fSpace.fRefs :: rowA encI 1 3 (.slice d2 st.fSpace.fLast.length f2) st.fSpace.fLast :: rowA PtrD.cells 5 35 (.slice d4 st.fGone.length f4) st.fGone :: rowA PtrD.cells 5 35 (.slice d6 st.fDead.length f6) st.fDead :: boxA b5 7 37 (az7) :: boxA b4 8 33 (.agg #[.slice none 0 0, .slice none 0 0, .slice none 0 0, .int .i64 0, .slice none 0 0, .int .i64 0, .slice none 0 0, .bool false]) :: boxA b3 10 53 (.agg #[.int .i64 2, .int .i64 1, .int .i64 0, .int .i64 0, .int .i64 0, .int .i64 0, .int .i64 0, .int .i64 0, .int .i64 0, .int .i64 0]) :: boxA b2 7 37 (az7) :: boxA b1 8 33 (sV d0 f0 d1 f1 d2 f2 d4 f4 d6 f6 st) :: F) _) := ⟨HS2.out⟩
 clear HS; have HS:=Bx.mk ((((((((HS2.out.erase 6).erase 5).erase 4).erase 3).erase 2).erase 1).erase 0));refine ⟨HS.out,?_⟩
 revert a;refine xh 6 HS.out rfl rfl rfl<|xh 7 HS.out rfl rfl rfl<|xh 8 HS.out rfl rfl rfl ?_
 intro a HF
 refine wh_one 9 (by kernel_rfl) ?_
 refine wo_storeBox rfl rfl rfl rfl (HF.ev rfl) (HF.ev rfl) HS2.out 6 rfl (cells_lit (sL d0 f0 d1 f1 d2 f2 d4 f4 d6 f6 st) rfl rfl) (by kernel_rfl) ?_
 clear HS HS2; intro w10 HS2; replace HS2:=Bx.mk HS2;try dsimp only [List.set] at HS2
 have HS:=Bx.mk ((((((((HS2.out.erase 6).erase 5).erase 4).erase 3).erase 2).erase 1).erase 0));refine ⟨HS.out,?_⟩
 refine wh_one 10 (by kernel_rfl) ?_
 refine wo_storeBox rfl rfl rfl rfl (HF.ev rfl) (HF.ev rfl) HS2.out 5 rfl (cells_lit z7 rfl rfl) (by kernel_rfl) ?_
 clear HS HS2; intro w11 HS2; replace HS2:=Bx.mk HS2;try dsimp only [List.set] at HS2
 have HS:=Bx.mk ((((((((HS2.out.erase 6).erase 5).erase 4).erase 3).erase 2).erase 1).erase 0));refine ⟨HS.out,?_⟩
 revert a;refine xh 11 HS.out rfl rfl rfl ?_
 intro a HF
 refine wh_done (by kernel_rfl) ?_
 replace HS := HS2; clear HS2
 refine ex_then<|wp_ret ?_
 refine bp_ret3 HF Tryz.results21 (HF.resBox rfl (HS.out.box 6 rfl) (by kernel_rfl)) (HF.resBox rfl (HS.out.box 5 rfl) (by kernel_rfl)) (HF.res rfl) ?_
 replace HS:=Bx.mk (((((HS.out.pick 4 rfl).pick 4 rfl).pick 4 rfl).pick 4 rfl).pick 4 rfl)
 exact .inl ⟨hwa, rfl, (((((HS.out.erase 9).erase 8).erase 7).erase 6).erase 5)⟩
 refine ⟨_, rfl, ?_⟩; replace HS2 := Bx.mk hs1;clear hs1 HF a;intro a HF
 replace HS2 : Bx (St w0 (rowA encS 1 9 (.slice d0 st.fRows.length f0) (st.fRows.set i (nodeB newN)) :: rowA encI 1 3 (.slice d1 st.fSpace.fRefs.length f1) (st.fSpace.fRefs.set i (st.fSpace.fRefs.getD i 0 + 1)) :: rowA encI 1 3 (.slice d2 st.fSpace.fLast.length f2) (st.fSpace.fLast.set i st.fTxg) :: rowA PtrD.cells 5 35 (.slice d4 st.fGone.length f4) st.fGone :: rowA PtrD.cells 5 35 (.slice d6 st.fDead.length f6) st.fDead :: boxA b5 7 37 (az7) :: boxA b4 8 33 (.agg #[.slice none 0 0, .slice none 0 0, .slice none 0 0, .int .i64 0, .slice none 0 0, .int .i64 0, .slice none 0 0, .bool false]) :: boxA b3 10 53 (.agg #[.int .i64 2, .int .i64 1, .int .i64 0, .int .i64 0, .int .i64 0, .int .i64 0, .int .i64 0, .int .i64 0, .int .i64 0, .int .i64 0]) :: boxA b2 7 37 (az7) :: boxA b1 8 33 (sV d0 f0 d1 f1 d2 f2 d4 f4 d6 f6 st) :: F) _) := ⟨HS2.out⟩
 clear HS; have HS:=Bx.mk ((((((((HS2.out.erase 6).erase 5).erase 4).erase 3).erase 2).erase 1).erase 0));refine ⟨HS.out,?_⟩
 revert a;refine xh 6 HS.out rfl rfl rfl<|xh 7 HS.out rfl rfl rfl<|xh 8 HS.out rfl rfl rfl ?_
 intro a HF
 refine wh_one 9 (by kernel_rfl) ?_
 refine wo_storeBox rfl rfl rfl rfl (HF.ev rfl) (HF.ev rfl) HS2.out 6 rfl (cells_lit (sL d0 f0 d1 f1 d2 f2 d4 f4 d6 f6 st) rfl rfl) (by kernel_rfl) ?_
 clear HS HS2; intro w12 HS2; replace HS2:=Bx.mk HS2;try dsimp only [List.set] at HS2
 have HS:=Bx.mk ((((((((HS2.out.erase 6).erase 5).erase 4).erase 3).erase 2).erase 1).erase 0));refine ⟨HS.out,?_⟩
 refine wh_one 10 (by kernel_rfl) ?_
 refine wo_storeBox rfl rfl rfl rfl (HF.ev rfl) (HF.ev rfl) HS2.out 5 rfl (cells_lit [.int .i64 ((ptrOf (i : Int) st.fTxg 0 (nodeB newN)).fAt), .int .i64 ((ptrOf (i : Int) st.fTxg 0 (nodeB newN)).fBirth), .int .i64 ((ptrOf (i : Int) st.fTxg 0 (nodeB newN)).fSize), .int .i64 ((ptrOf (i : Int) st.fTxg 0 (nodeB newN)).fSum), .int .i64 ((ptrOf (i : Int) st.fTxg 0 (nodeB newN)).fLevel), .int .i64 0, .int .i64 1] rfl rfl) (by kernel_rfl) ?_
 clear HS HS2; intro w13 HS2; replace HS2:=Bx.mk HS2;try dsimp only [List.set] at HS2
 have HS:=Bx.mk ((((((((HS2.out.erase 6).erase 5).erase 4).erase 3).erase 2).erase 1).erase 0));refine ⟨HS.out,?_⟩
 revert a;refine xh 11 HS.out rfl rfl rfl ?_
 intro a HF
 refine wh_done (by kernel_rfl) ?_
 replace HS := HS2; clear HS2
 refine ex_then<|wp_ret ?_
 refine bp_ret3 HF Tryz.results21 (HF.resBox rfl (HS.out.box 6 rfl) (by kernel_rfl)) (HF.resBox rfl (HS.out.box 5 rfl) (by kernel_rfl)) (HF.res rfl) ?_
 replace HS:=Bx.mk (((((HS.out.pick 4 rfl).pick 4 rfl).pick 4 rfl).pick 4 rfl).pick 4 rfl)
 exact .inr ⟨i, hi6, hwa, rfl, (((((HS.out.erase 9).erase 8).erase 7).erase 6).erase 5)⟩
set_option maxHeartbeats 4000000 in
theorem specFilesNew_any (v : Value) (st : StoreD) (B B1 : Nat) (w0 : World) (hf : st.Fit) (hi64 : -9223372036854775808 ≤ st.fTxg) (ho : StoreD.Own w0 B B1 v st) : Calls Tryz.prog 6 #[v] w0 fun e w' => ∃ v', e = .returned (.tuple #[v', tV (st.wtree (nodeB newN)), .bool (st.mayW (nodeB newN) 0)]) ∧ StoreD.Own w' w0.heap.size w'.heap.size v' (st.wrote (nodeB newN) 0) ∧ Below w0.heap.size w0 w' := by
 have HR := Bx.mk ho.rd
 have HO := Bx.mk ho
 obtain ⟨a0, c0, a1, c1, a2, c2, a4, c4, a6, c6, rfl, _⟩ := ho
 have HS := Bx.mk (St.start w0)
 refine wc_enter Tryz.func6 rfl Tryz.ntmps6 [(0, sV a0 c0 a1 c1 a2 c2 a4 c4 a6 c6 st)] ⟨rfl, trivial⟩ rfl ?_
 refine xsr ?_
 intro a HF
 refine ybx HF HS ?_;clear HF HS a;intro a w1 b1 HF HS
 refine yal [.slice none 0 0, .slice none 0 0, .slice none 0 0, .int .i64 0, .slice none 0 0, .int .i64 0, .slice none 0 0, .bool false] HF HS ?_;clear HF HS a;intro a w2 b2 HF HS
 refine yal z7 HF HS ?_;clear HF HS a;intro a w3 b3 HF HS
 revert a;refine xr 1 rfl<|xne<|xsq<|xsr<|xy rfl (vw HS.out 2 8 rfl rfl) ?_
 intro a HF
 refine ycB (specStoreOk_any _ st _ (HR.out.below HS.out.bel) hf hi64) HF Tryz.func20 HS ?_; clear HF HS a; intro w4 a HS HF
 revert a;refine xr 1 rfl<|xne<|xcs 10 rfl (fun cc1=>?_) fun cc1=>?_
 have hok : st.ok = false := by simpa using cc1
 refine xct rfl<|xsr<|xy rfl (vb [.slice none 0 0, .slice none 0 0, .slice none 0 0, .int .i64 0, .slice none 0 0, .int .i64 0, .slice none 0 0, .bool false] rfl)<|xy rfl (vb z7 rfl) ?_
 intro a HF
 refine yst HF HS 1 ?_;clear HS;intro w5 HS
 try dsimp only [List.set] at HS
 refine yst HF HS 0 ?_;clear HS;intro w6 HS
 try dsimp only [List.set] at HS
 revert a;refine xr 1 rfl<|xne<|xre<|xtr ?_
 intro a HF
 refine bp_ret3 HF Tryz.results6 (HF.resBox rfl (HS.out.box 1 rfl) (by kernel_rfl)) (HF.resBox rfl (HS.out.box 0 rfl) (by kernel_rfl)) (HF.res rfl) ?_
 obtain ⟨hm, hwr, hwp⟩ := W_not (st := st) (text := (nodeB newN)) (level := 0) (by rw [hok]; rfl)
 exact ⟨_, by unfold StoreD.wtree; rw [hm, hwp]; rfl, by rw [hwr]; exact own_zero _ _ _, HS.out.bel⟩
 have hok : st.ok = true := by simpa using cc1
 refine xcf rfl<|xsk<|xet<|xsr<|xy rfl (vw HS.out 2 8 rfl rfl) ?_
 intro a HF
 refine yc (l7Copy_any _ st _ hf (HO.out.below HS.out.bel (Nat.le_refl _))) HF Tryz.func22 ?_
 rintro _ w7 ⟨_, rfl, ho, hb⟩
 obtain ⟨d0, f0, d1, f1, d2, f2, d4, f4, d6, f6, rfl, hn⟩ := StoreD.own_st ho hb
 refine ⟨_, rfl, ?_⟩; replace HS := Bx.mk (HS.out.add hn); clear ho hb hn HF; clear a; intro a HF
 try dsimp only [List.eraseIdx] at HS
 revert a;refine xy rfl (vb z7 rfl)<|xy rfl (vb [.int .i64 2, .int .i64 1, .int .i64 0, .int .i64 0, .int .i64 0, .int .i64 0, .int .i64 0, .int .i64 0, .int .i64 0, .int .i64 0] rfl) ?_
 replace HS:=Bx.mk (((((HS.out.pick 4 rfl).pick 4 rfl).pick 4 rfl).pick 4 rfl).pick 4 rfl)
 intro a HF
 refine yc (s11put0_any d0 f0 d1 f1 d2 f2 d4 f4 d6 f6 st _ w0 _ hok HS.out) HF Tryz.func21 ?_
 rintro _ w8 (⟨hwa, rfl, hs1⟩ | ⟨i, hi6, hwa, rfl, hs1⟩)
 refine ⟨_, rfl, ?_⟩; replace HS := Bx.mk hs1;clear hs1 HF a;intro a HF
 try dsimp only [List.eraseIdx] at HS
 revert a;refine xr 4 rfl ?_
 intro a HF
 refine yal [.slice none 0 0, .slice none 0 0, .slice none 0 0, .int .i64 0, .slice none 0 0, .int .i64 0, .slice none 0 0, .bool false] HF HS ?_;clear HF HS a;intro a w9 b4 HF HS
 refine yal z7 HF HS ?_;clear HF HS a;intro a w10 b5 HF HS
 refine yst HF HS 1 ?_;clear HS;intro w11 HS
 try dsimp only [List.set] at HS
 refine yst HF HS 0 ?_;clear HS;intro w12 HS
 try dsimp only [List.set] at HS
 revert a;refine xr 1 rfl<|xne<|xsq<|xsr<|xr 2 rfl<|xne<|xct rfl<|xsr<|xy rfl (vb [.slice none 0 0, .slice none 0 0, .slice none 0 0, .int .i64 0, .slice none 0 0, .int .i64 0, .slice none 0 0, .bool false] rfl)<|xy rfl (vb z7 rfl) ?_
 intro a HF
 refine yst HF HS 8 ?_;clear HS;intro w13 HS
 try dsimp only [List.set] at HS
 refine yst HF HS 7 ?_;clear HS;intro w14 HS
 try dsimp only [List.set] at HS
 revert a;refine xr 1 rfl<|xne<|xre<|xtr ?_
 intro a HF
 refine bp_ret3 HF Tryz.results6 (HF.resBox rfl (HS.out.box 8 rfl) (by kernel_rfl)) (HF.resBox rfl (HS.out.box 7 rfl) (by kernel_rfl)) (HF.res rfl) ?_
 obtain ⟨hm, hwr, hwp⟩ := W_none (level := 0) hwa
 exact ⟨_, by unfold StoreD.wtree; rw [hm, hwp]; rfl, by rw [hwr]; exact own_zero _ _ _, HS.out.bel⟩
 refine ⟨_, rfl, ?_⟩; replace HS := Bx.mk hs1;clear hs1 HF a;intro a HF
 try dsimp only [List.eraseIdx] at HS
 revert a;refine xr 4 rfl ?_
 intro a HF
 refine yal [.slice none 0 0, .slice none 0 0, .slice none 0 0, .int .i64 0, .slice none 0 0, .int .i64 0, .slice none 0 0, .bool false] HF HS ?_;clear HF HS a;intro a w15 b6 HF HS
 refine yal z7 HF HS ?_;clear HF HS a;intro a w16 b7 HF HS
 refine yst HF HS 1 ?_;clear HS;intro w17 HS
 try dsimp only [List.set] at HS
 refine yst HF HS 0 ?_;clear HS;intro w18 HS
 try dsimp only [List.set] at HS
 revert a;refine xr 1 rfl<|xne<|xsq<|xsr<|xr 2 rfl<|xne<|xcf rfl<|xsk<|xet<|xsq ?_
 intro a HF
 refine wr_heldS (s := [boxA b7 7 37 (.agg #[.int .i64 ((ptrOf (i : Int) st.fTxg 0 (nodeB newN)).fAt), .int .i64 ((ptrOf (i : Int) st.fTxg 0 (nodeB newN)).fBirth), .int .i64 ((ptrOf (i : Int) st.fTxg 0 (nodeB newN)).fSize), .int .i64 ((ptrOf (i : Int) st.fTxg 0 (nodeB newN)).fSum), .int .i64 ((ptrOf (i : Int) st.fTxg 0 (nodeB newN)).fLevel), .int .i64 0, .int .i64 1]), boxA b6 8 33 (sV d0 f0 d1 f1 d2 f2 d4 f4 d6 f6 st), rowA encS 1 9 (.slice d0 st.fRows.length f0) (st.fRows.set i (nodeB newN)), rowA encI 1 3 (.slice d1 st.fSpace.fRefs.length f1) (st.fSpace.fRefs.set i (st.fSpace.fRefs.getD i 0 + 1)), rowA encI 1 3 (.slice d2 st.fSpace.fLast.length f2) (st.fSpace.fLast.set i st.fTxg), rowA PtrD.cells 5 35 (.slice d4 st.fGone.length f4) st.fGone, rowA PtrD.cells 5 35 (.slice d6 st.fDead.length f6) st.fDead, boxA b1 8 33 (sV a0 c0 a1 c1 a2 c2 a4 c4 a6 c6 st)]) (by kernel_rfl) (St.drew (((HS.out.erase 8).erase 7))) ?_
 have HS2 := Bx.mk HS.out.drew; replace HS := Bx.mk (show St w0 ([boxA b7 7 37 (.agg #[.int .i64 ((ptrOf (i : Int) st.fTxg 0 (nodeB newN)).fAt), .int .i64 ((ptrOf (i : Int) st.fTxg 0 (nodeB newN)).fBirth), .int .i64 ((ptrOf (i : Int) st.fTxg 0 (nodeB newN)).fSize), .int .i64 ((ptrOf (i : Int) st.fTxg 0 (nodeB newN)).fSum), .int .i64 ((ptrOf (i : Int) st.fTxg 0 (nodeB newN)).fLevel), .int .i64 0, .int .i64 1]), boxA b6 8 33 (sV d0 f0 d1 f1 d2 f2 d4 f4 d6 f6 st), rowA encS 1 9 (.slice d0 st.fRows.length f0) (st.fRows.set i (nodeB newN)), rowA encI 1 3 (.slice d1 st.fSpace.fRefs.length f1) (st.fSpace.fRefs.set i (st.fSpace.fRefs.getD i 0 + 1)), rowA encI 1 3 (.slice d2 st.fSpace.fLast.length f2) (st.fSpace.fLast.set i st.fTxg), rowA PtrD.cells 5 35 (.slice d4 st.fGone.length f4) st.fGone, rowA PtrD.cells 5 35 (.slice d6 st.fDead.length f6) st.fDead, boxA b1 8 33 (sV a0 c0 a1 c1 a2 c2 a4 c4 a6 c6 st)]) _ from ((HS.out.drew.erase 8).erase 7))
 generalize World.drew _ = w19 at HS HS2 ⊢
 revert a;refine xhy 0 HS.out rfl rfl (fun HS=>vw HS 1 8 rfl rfl)<|xhy 1 HS.out rfl rfl (fun HS=>vw HS 0 7 rfl rfl) ?_
 intro a HF
 refine wh_one 2 (by kernel_rfl) ?_
 refine wo_storeBox rfl rfl rfl rfl (HF.ev rfl) (HF.ev rfl) HS2.out 8 rfl (cells_lit (sL d0 f0 d1 f1 d2 f2 d4 f4 d6 f6 st) rfl rfl) (by kernel_rfl) ?_
 clear HS HS2; intro w20 HS2; replace HS2:=Bx.mk HS2;try dsimp only [List.set] at HS2
 have HS:=Bx.mk (((HS2.out.erase 8).erase 7));refine ⟨HS.out,?_⟩
 refine wh_one 3 (by kernel_rfl) ?_
 refine wo_storeBox rfl rfl rfl rfl (HF.ev rfl) (HF.ev rfl) HS2.out 7 rfl (cells_lit [.int .i64 ((ptrOf (i : Int) st.fTxg 0 (nodeB newN)).fAt), .int .i64 ((ptrOf (i : Int) st.fTxg 0 (nodeB newN)).fBirth), .int .i64 ((ptrOf (i : Int) st.fTxg 0 (nodeB newN)).fSize), .int .i64 ((ptrOf (i : Int) st.fTxg 0 (nodeB newN)).fSum), .int .i64 ((ptrOf (i : Int) st.fTxg 0 (nodeB newN)).fLevel), .int .i64 0, .int .i64 1] rfl rfl) (by kernel_rfl) ?_
 clear HS HS2; intro w21 HS2; replace HS2:=Bx.mk HS2;try dsimp only [List.set] at HS2
 have HS:=Bx.mk (((HS2.out.erase 8).erase 7));refine ⟨HS.out,?_⟩
 revert a;refine xh 4 HS.out rfl rfl rfl ?_
 intro a HF
 refine wh_done (by kernel_rfl) ?_
 replace HS := HS2; clear HS2
 refine ex_then<|wp_ret ?_
 refine bp_ret3 HF Tryz.results6 (HF.resBox rfl (HS.out.box 8 rfl) (by kernel_rfl)) (HF.resBox rfl (HS.out.box 7 rfl) (by kernel_rfl)) (HF.res rfl) ?_
 replace HS:=Bx.mk (((((HS.out.pick 6 rfl).pick 6 rfl).pick 6 rfl).pick 6 rfl).pick 6 rfl)
 obtain ⟨hm, hwr, hwp, hpk, _⟩ := W_yes hok newT_size (level := 0) rfl hi6 hwa
 refine ⟨(sV d0 f0 d1 f1 d2 f2 d4 f4 d6 f6 st), ?_, ?_, HS.out.bel⟩
 unfold StoreD.wtree; rw [hm, hwp, ← ptrOf_yes hpk]; rfl
 rw [hwr]; exact own_put (by simp) HS.out
open Go.RowKit
theorem eqTree_yes (t : TreeD) (w0 : World) : Calls Tryz.prog 10 #[tV t, tV t] w0 fun e w' => e = .returned (.bool true) ∧ Below w0.heap.size w0 w' := by
 have HS := Bx.mk (St.start w0)
 refine wc_enter Tryz.func10 rfl Tryz.ntmps10 [(0, tV t), (1, tV t)] ⟨rfl, rfl, trivial⟩ rfl ?_
 refine xsr ?_
 intro a HF
 refine ybx HF HS ?_;clear HF HS a;intro a w1 b1 HF HS
 refine ybx HF HS ?_;clear HF HS a;intro a w2 b2 HF HS
 revert a;refine xr 1 rfl<|xne<|xsq<|xsr<|xy rfl (vf 0 rfl)<|xy rfl (vw HS.out 1 5 rfl rfl)<|xy rfl (vf 0 rfl)<|xy rfl (vw HS.out 0 5 rfl rfl) ?_
 intro a HF
 refine ycB (eqPtr_yes t.fRoot _) HF Tryz.func29 HS ?_; clear HF HS a; intro w3 a HS HF
 revert a;refine xr 1 rfl<|xne<|xcf rfl<|xsk<|xet<|xsq<|xsr<|xy rfl (vf 5 rfl)<|xy rfl (vc HS.out 1 rfl rfl)<|xy rfl (vf 5 rfl)<|xy rfl (vc HS.out 0 rfl rfl)<|xr 1 rfl<|xne<|xcs 15 rfl (fun cc1=>?_) fun cc1=>?_
 have dcc1 := bne_iff_ne.1 cc1
 exact absurd cc1 (by simp)
 have dcc1 := bne_eq_false_iff_eq.1 cc1
 refine xcf rfl<|xsk<|xet<|xsq<|xsr<|xy rfl (vf 6 rfl)<|xy rfl (vc HS.out 1 rfl rfl)<|xy rfl (vf 6 rfl)<|xy rfl (vc HS.out 0 rfl rfl)<|xr 1 rfl<|xne<|xcs 20 rfl (fun cc2=>?_) fun cc2=>?_
 have dcc2 := bne_iff_ne.1 cc2
 exact absurd cc2 (by simp)
 have dcc2 := bne_eq_false_iff_eq.1 cc2
 refine xcf rfl<|xsk<|xet<|xsr<|xr 1 rfl<|xne<|xre<|xb1 Tryz.results10 rfl ?_
 exact ⟨rfl, HS.out.bel⟩
theorem implFilesNew_v (v : Value) (st : StoreD) (w0 : World) (hT : TabP w0) (hM : MaxP w0) (hE : ErrP w0) (hr : StoreD.Reads w0 v st) (hf : st.Fit) : Calls Tryz.prog 8 #[v] w0 fun e w' => ∃ v', e = .returned (.tuple #[v', .agg #[.int .i64 ((st.wtree (nodeB newN)).fRoot.fAt), .int .i64 ((st.wtree (nodeB newN)).fRoot.fBirth), .int .i64 ((st.wtree (nodeB newN)).fRoot.fSize), .int .i64 ((st.wtree (nodeB newN)).fRoot.fSum), .int .i64 ((st.wtree (nodeB newN)).fRoot.fLevel), .int .i64 ((st.wtree (nodeB newN)).fDepth), .int .i64 ((st.wtree (nodeB newN)).fMany)], .bool (st.mayW (nodeB newN) 0)]) ∧ StoreD.Own w' w0.heap.size w'.heap.size v' (st.wrote (nodeB newN) 0) ∧ Below w0.heap.size w0 w' := by
  obtain ⟨a0, c0, a1, c1, a2, c2, a4, c4, a6, c6, rfl, hx⟩ := hr
  exact implFilesNew_any a0 c0 a1 c1 a2 c2 a4 c4 a6 c6 st w0 hT hM hE ⟨a0, c0, a1, c1, a2, c2, a4, c4, a6, c6, rfl, hx⟩ hf
open Go.RowKit
theorem StoreD.past_pos1 (x : StoreD) : 0 < x.past 1 := by unfold StoreD.past; omega
theorem wrote_fit {st : StoreD} {text : ByteArray} {level : Int} (hf : st.Fit) : (st.wrote text level).Fit := by
  unfold StoreD.wrote
  split
  · exact ⟨by show (st.fRows.set _ _).length ≤ _; rw [List.length_set]; exact hf.f0, by show (st.fSpace.fRefs.set _ _).length ≤ _; rw [List.length_set]; exact hf.f1, by show (st.fSpace.fLast.set _ _).length ≤ _; rw [List.length_set]; exact hf.f2, hf.f4, hf.f6⟩
  · exact ⟨Nat.zero_le _, Nat.zero_le _, Nat.zero_le _, Nat.zero_le _, Nat.zero_le _⟩
open Go.RowKit
set_option maxHeartbeats 4000000 in
theorem lawFilesNew_any (va : Value) (st : StoreD) (w0 : World) (hT : TabP w0) (hM : MaxP w0) (hE : ErrP w0) (hr : StoreD.Reads w0 va st) (hsm : st.Small) (hi : -9223372036854775808 ≤ st.fTxg) : Calls Tryz.prog 3 #[va] w0 fun e w' => e = .returned (.bool true) ∧ Below w0.heap.size w0 w' := by
 have HR := Bx.mk hr; have HT := Bx.mk hT; have HM := Bx.mk hM; have HE := Bx.mk hE; clear hT hM hE
 obtain ⟨a0, c0, a1, c1, a2, c2, a4, c4, a6, c6, rfl, _⟩ := hr
 have HS := Bx.mk (St.start w0)
 refine wc_enter Tryz.func3 rfl Tryz.ntmps3 [(0, sV a0 c0 a1 c1 a2 c2 a4 c4 a6 c6 st)] ⟨rfl, trivial⟩ rfl ?_
 refine xsr ?_
 intro a HF
 refine ybx HF HS ?_;clear HF HS a;intro a w1 b1 HF HS
 revert a;refine xr 1 rfl<|xne<|xsr<|xr 1 rfl<|xne<|xsr<|xy rfl (vw HS.out 0 8 rfl rfl)<|xr 1 rfl ?_
 intro a HF
 refine ycB (szStore_any _ st 1048576 _ (by omega) (by omega) (HR.out.below HS.out.bel) hsm) HF Tryz.func5 HS ?_; clear HF HS a; intro w2 a HS HF
 revert a;refine xr 1 rfl<|xne<|xsq<|xsr<|xr 2 rfl<|xne<|xcs 21 rfl (fun cc1=>?_) fun cc1=>?_
 refine xct rfl<|xsr<|xr 1 rfl<|xne<|xre<|xtr<|xb1 Tryz.results3 rfl ?_
 exact ⟨rfl, HS.out.bel⟩
 have hbk : st.bulk ≤ 1048576 := by have := of_decide_eq_false cc1; unfold leftOf at this; split at this <;> omega
 have hf := StoreD.fit hbk
 have hfy : (st.wrote (nodeB newN) 0).Fit := wrote_fit hf
 refine xcf rfl<|xsk<|xet<|xsr<|xy rfl (vw HS.out 0 8 rfl rfl) ?_
 intro a HF
 refine yc (toStore_any _ st _ hf (HR.out.below HS.out.bel)) HF Tryz.func7 ?_
 rintro _ w3 ⟨u2, rfl, ho, hb⟩
 refine ⟨_, rfl, ?_⟩; replace HS := Bx.mk (HS.out.add (St.ivNew (loc := StoreD.Own.loc) ho hb)); clear ho hb HF; clear a; intro a HF
 obtain ⟨B3, C4, hh⟩ : ∃ B B1, St w0 ([ivA StoreD.Own StoreD.Own.loc B B1 u2 st, boxA b1 8 28 (sV a0 c0 a1 c1 a2 c2 a4 c4 a6 c6 st)]) w3 := ⟨_, _, HS.out⟩; replace HS := Bx.mk hh; clear hh
 refine yc (specFilesNew_any _ st _ _ _ hf hi (HS.out.iv 0 rfl)) HF Tryz.func6 ?_
 rintro _ w4 ⟨u5, rfl, ho, hb⟩
 refine ⟨_, rfl, ?_⟩; replace HS := Bx.mk (HS.out.add (St.ivNew (loc := StoreD.Own.loc) ho hb)); clear ho hb HF; clear a; intro a HF
 obtain ⟨B6, C7, hh⟩ : ∃ B B1, St w0 ([ivA StoreD.Own StoreD.Own.loc B B1 u5 (st.wrote (nodeB newN) 0), ivA StoreD.Own StoreD.Own.loc B3 C4 u2 st, boxA b1 8 28 (sV a0 c0 a1 c1 a2 c2 a4 c4 a6 c6 st)]) w4 := ⟨_, _, HS.out⟩; replace HS := Bx.mk hh; clear hh
 revert a;refine xr 4 rfl ?_
 intro a HF
 refine yal [.slice none 0 0, .slice none 0 0, .slice none 0 0, .int .i64 0, .slice none 0 0, .int .i64 0, .slice none 0 0, .bool false] HF HS ?_;clear HF HS a;intro a w5 b8 HF HS
 refine yal z7 HF HS ?_;clear HF HS a;intro a w6 b9 HF HS
 refine wl_storeBox rfl HF rfl rfl (HF.ev rfl) (HF.ev rfl) HS.out 1 rfl (StoreD.Own.cells (HS.out.iv 2 rfl)) (by kernel_rfl) ?_; clear HS; intro w7 HS; replace HS := Bx.mk HS
 try dsimp only [List.set] at HS
 refine yst HF HS 0 ?_;clear HS;intro w8 HS
 try dsimp only [List.set] at HS
 revert a;refine xr 1 rfl<|xne<|xsr<|xy rfl (vw HS.out 4 8 rfl rfl) ?_
 intro a HF
 refine yc (toStore_any _ st _ hf (HR.out.below HS.out.bel)) HF Tryz.func7 ?_
 rintro _ w9 ⟨u10, rfl, ho, hb⟩
 refine ⟨_, rfl, ?_⟩; replace HS := Bx.mk (HS.out.add (St.ivNew (loc := StoreD.Own.loc) ho hb)); clear ho hb HF; clear a; intro a HF
 obtain ⟨B11, C12, hh⟩ : ∃ B B1, St w0 ([ivA StoreD.Own StoreD.Own.loc B B1 u10 st, boxA b9 7 37 (tV (st.wtree (nodeB newN))), boxA b8 8 33 u5, ivA StoreD.Own StoreD.Own.loc B6 C7 u5 (st.wrote (nodeB newN) 0), ivA StoreD.Own StoreD.Own.loc B3 C4 u2 st, boxA b1 8 28 (sV a0 c0 a1 c1 a2 c2 a4 c4 a6 c6 st)]) w9 := ⟨_, _, HS.out⟩; replace HS := Bx.mk hh; clear hh
 refine yal [.slice none 0 0, .slice none 0 0, .slice none 0 0, .int .i64 0, .slice none 0 0, .int .i64 0, .slice none 0 0, .bool false] HF HS ?_;clear HF HS a;intro a w10 b13 HF HS
 refine wl_storeBox rfl HF rfl rfl (HF.ev rfl) (HF.ev rfl) HS.out 0 rfl (StoreD.Own.cells (HS.out.iv 1 rfl)) (by kernel_rfl) ?_; clear HS; intro w11 HS; replace HS := Bx.mk HS
 try dsimp only [List.set] at HS
 revert a;refine xne<|xsr<|xy rfl (fun a HF=>yl_loadB (v := u10) rfl (HF.ev rfl) (HS.out.box 0 rfl) (by kernel_rfl)) ?_
 intro a HF
 refine yc (implFilesNew_v _ st _ (HT.out.below HS.out.bel) (HM.out.below HS.out.bel) (HE.out.below HS.out.bel) (StoreD.Own.rd (HS.out.iv 1 rfl)) hf) HF Tryz.func8 ?_
 rintro _ w12 ⟨u14, rfl, ho, hb⟩
 refine ⟨_, rfl, ?_⟩; replace HS := Bx.mk (HS.out.add (St.ivNew (loc := StoreD.Own.loc) ho hb)); clear ho hb HF; clear a; intro a HF
 obtain ⟨B15, C16, hh⟩ : ∃ B B1, St w0 ([ivA StoreD.Own StoreD.Own.loc B B1 u14 (st.wrote (nodeB newN) 0), boxA b13 8 33 u10, ivA StoreD.Own StoreD.Own.loc B11 C12 u10 st, boxA b9 7 37 (tV (st.wtree (nodeB newN))), boxA b8 8 33 u5, ivA StoreD.Own StoreD.Own.loc B6 C7 u5 (st.wrote (nodeB newN) 0), ivA StoreD.Own StoreD.Own.loc B3 C4 u2 st, boxA b1 8 28 (sV a0 c0 a1 c1 a2 c2 a4 c4 a6 c6 st)]) w12 := ⟨_, _, HS.out⟩; replace HS := Bx.mk hh; clear hh
 revert a;refine xr 4 rfl ?_
 intro a HF
 refine yal [.slice none 0 0, .slice none 0 0, .slice none 0 0, .int .i64 0, .slice none 0 0, .int .i64 0, .slice none 0 0, .bool false] HF HS ?_;clear HF HS a;intro a w13 b17 HF HS
 refine yal z7 HF HS ?_;clear HF HS a;intro a w14 b18 HF HS
 refine wl_storeBox rfl HF rfl rfl (HF.ev rfl) (HF.ev rfl) HS.out 1 rfl (StoreD.Own.cells (HS.out.iv 2 rfl)) (by kernel_rfl) ?_; clear HS; intro w15 HS; replace HS := Bx.mk HS
 try dsimp only [List.set] at HS
 refine yst HF HS 0 ?_;clear HS;intro w16 HS
 try dsimp only [List.set] at HS
 revert a;refine xr 1 rfl<|xne<|xsq<|xsr<|xy rfl (fun a HF=>yl_loadB (v := u14) rfl (HF.ev rfl) (HS.out.box 1 rfl) (by kernel_rfl))<|xy rfl (fun a HF=>yl_loadB (v := u5) rfl (HF.ev rfl) (HS.out.box 6 rfl) (by kernel_rfl)) ?_
 intro a HF
 refine ycB (eqStore_yes _ _ (st.wrote (nodeB newN) 0) _ hfy (StoreD.Own.rd (HS.out.iv 2 rfl)) (StoreD.Own.rd (HS.out.iv 7 rfl))) HF Tryz.func9 HS ?_; clear HF HS a; intro w17 a HS HF
 revert a;refine xr 2 rfl<|xy rfl (vw HS.out 0 7 rfl rfl)<|xy rfl (vw HS.out 5 7 rfl rfl) ?_
 intro a HF
 refine ycBg (eqTree_yes (st.wtree (nodeB newN)) _) HF Tryz.func10 HS ?_; clear HF HS a; intro w18 a HS HF
 revert a;refine xr 5 rfl<|xy rfl (fun a HF=>yl_neqBs rfl (HF.ev rfl) (HF.ev rfl) (by kernel_rfl))<|xr 1 rfl<|xne<|xcf rfl<|xsk<|xet<|xsq<|xsq ?_
 intro a HF
 refine wr_heldS (s := [boxA b18 7 37 (tV (st.wtree (nodeB newN))), boxA b17 8 33 u14, ivA StoreD.Own StoreD.Own.loc B15 C16 u14 (st.wrote (nodeB newN) 0), boxA b13 8 33 u10, ivA StoreD.Own StoreD.Own.loc B11 C12 u10 st, boxA b9 7 37 (tV (st.wtree (nodeB newN))), boxA b8 8 33 u5, ivA StoreD.Own StoreD.Own.loc B6 C7 u5 (st.wrote (nodeB newN) 0), ivA StoreD.Own StoreD.Own.loc B3 C4 u2 st, boxA b1 8 28 (sV a0 c0 a1 c1 a2 c2 a4 c4 a6 c6 st)]) (by kernel_rfl) (St.drew (HS.out)) ?_
 have HS2 := Bx.mk HS.out.drew; replace HS := Bx.mk (show St w0 ([boxA b18 7 37 (tV (st.wtree (nodeB newN))), boxA b17 8 33 u14, ivA StoreD.Own StoreD.Own.loc B15 C16 u14 (st.wrote (nodeB newN) 0), boxA b13 8 33 u10, ivA StoreD.Own StoreD.Own.loc B11 C12 u10 st, boxA b9 7 37 (tV (st.wtree (nodeB newN))), boxA b8 8 33 u5, ivA StoreD.Own StoreD.Own.loc B6 C7 u5 (st.wrote (nodeB newN) 0), ivA StoreD.Own StoreD.Own.loc B3 C4 u2 st, boxA b1 8 28 (sV a0 c0 a1 c1 a2 c2 a4 c4 a6 c6 st)]) _ from HS.out.drew)
 generalize World.drew _ = w19 at HS HS2 ⊢
 revert a;refine xhy 0 HS.out rfl rfl (fun HS a HF=>yl_loadB (v := u10) rfl (HF.ev rfl) (HS.box 3 rfl) (by kernel_rfl))<|xhy 1 HS.out rfl rfl (fun HS=>vw HS 9 8 rfl rfl) ?_
 intro a HF
 refine wh_one 2 (by kernel_rfl) ?_
 refine yo (toStore_any _ st _ hf (HR.out.below HS.out.bel)) HF Tryz.func7 ?_
 rintro _ w21 ⟨u19, rfl, ho, hb⟩
 refine ⟨_, rfl, ?_⟩; replace HS := Bx.mk (HS.out.later hb); replace HS2 := Bx.mk (HS2.out.add (St.ivNew (loc := StoreD.Own.loc) ho hb)); clear ho hb HF; clear a; intro a HF; refine ⟨HS.out, ?_⟩
 obtain ⟨B20, C21, hh⟩ : ∃ B B1, St w0 ([ivA StoreD.Own StoreD.Own.loc B B1 u19 st, boxA b18 7 37 (tV (st.wtree (nodeB newN))), boxA b17 8 33 u14, ivA StoreD.Own StoreD.Own.loc B15 C16 u14 (st.wrote (nodeB newN) 0), boxA b13 8 33 u10, ivA StoreD.Own StoreD.Own.loc B11 C12 u10 st, boxA b9 7 37 (tV (st.wtree (nodeB newN))), boxA b8 8 33 u5, ivA StoreD.Own StoreD.Own.loc B6 C7 u5 (st.wrote (nodeB newN) 0), ivA StoreD.Own StoreD.Own.loc B3 C4 u2 st, boxA b1 8 28 (sV a0 c0 a1 c1 a2 c2 a4 c4 a6 c6 st)]) w21 := ⟨_, _, HS2.out⟩; replace HS2 := Bx.mk hh; clear hh
 refine wh_one 3 (by kernel_rfl) ?_
 refine yoB (eqStore_yes _ _ st _ hf (StoreD.Own.rd (HS2.out.iv 5 rfl)) (StoreD.Own.rd (HS2.out.iv 0 rfl))) HF Tryz.func9 ?_
 intro w22 hb; replace HS := Bx.mk (HS.out.later hb); replace HS2 := Bx.mk (HS2.out.later hb);clear hb HF a;intro a HF; refine ⟨HS.out, ?_⟩
 revert a;refine xh 4 HS.out rfl rfl rfl ?_
 intro a HF
 refine wh_done (by kernel_rfl) ?_
 replace HS := HS2; clear HS2
 revert a;refine xet<|xcf rfl<|xsk<|xet<|xsr<|xr 1 rfl<|xne<|xsr<|xy rfl (fun a HF=>yl_loadB (v := u10) rfl (HF.ev rfl) (HS.out.box 4 rfl) (by kernel_rfl))<|xr 1 rfl ?_
 intro a HF
 refine yc (markStore_any _ st _ _ 1 _ (by omega) (by omega) hf (HS.out.iv 5 rfl) (HS.out.ivLe 5 rfl)) HF Tryz.func11 ?_
 rintro _ w23 ⟨rfl, ho, hO⟩; refine ⟨_, rfl, ?_⟩; replace HS := Bx.mk (HS.out.ivMark 5 rfl ho hO); clear ho hO HF; clear a; intro a HF
 try dsimp only [List.set] at HS
 have hpast := StoreD.past_pos1 st
 revert a;refine xr 1 rfl<|xne<|xsq<|xsr<|xr 3 rfl<|xcs 62 rfl (fun cc2=>?_) fun cc2=>?_
 exact absurd (of_decide_eq_true cc2) (by omega)
 refine xy rfl (fun a HF=>yl_loadB (v := u14) rfl (HF.ev rfl) (HS.out.box 2 rfl) (by kernel_rfl))<|xy rfl (fun a HF=>yl_loadB (v := u5) rfl (HF.ev rfl) (HS.out.box 7 rfl) (by kernel_rfl)) ?_
 intro a HF
 refine ycBg (eqStore_yes _ _ (st.wrote (nodeB newN) 0) _ hfy (StoreD.Own.rd (HS.out.iv 3 rfl)) (StoreD.Own.rd (HS.out.iv 8 rfl))) HF Tryz.func9 HS ?_; clear HF HS a; intro w24 a HS HF
 revert a;refine xr 3 rfl<|xy rfl (vw HS.out 1 7 rfl rfl)<|xy rfl (vw HS.out 6 7 rfl rfl) ?_
 intro a HF
 refine ycBg (eqTree_yes (st.wtree (nodeB newN)) _) HF Tryz.func10 HS ?_; clear HF HS a; intro w25 a HS HF
 revert a;refine xr 5 rfl<|xy rfl (fun a HF=>yl_neqBs rfl (HF.ev rfl) (HF.ev rfl) (by kernel_rfl))<|xr 1 rfl<|xne<|xcf rfl<|xsk<|xet<|xsr<|xr 1 rfl<|xne<|xsr<|xy rfl (fun a HF=>yl_loadB (v := u14) rfl (HF.ev rfl) (HS.out.box 2 rfl) (by kernel_rfl))<|xr 1 rfl ?_
 intro a HF
 refine yc (markStore_any _ (st.wrote (nodeB newN) 0) _ _ 1 _ (by omega) (by omega) hfy (HS.out.iv 3 rfl) (HS.out.ivLe 3 rfl)) HF Tryz.func11 ?_
 rintro _ w26 ⟨rfl, ho, hO⟩; refine ⟨_, rfl, ?_⟩; replace HS := Bx.mk (HS.out.ivMark 3 rfl ho hO); clear ho hO HF; clear a; intro a HF
 try dsimp only [List.set] at HS
 have hpast := StoreD.past_pos1 (st.wrote (nodeB newN) 0)
 revert a;refine xr 1 rfl<|xne<|xsr<|xr 1 rfl<|xne<|xsr<|xy rfl (fun a HF=>yl_loadB (v := u14) rfl (HF.ev rfl) (HS.out.box 2 rfl) (by kernel_rfl))<|xr 1 rfl ?_
 intro a HF
 refine ycB (heldStore_any _ (st.wrote (nodeB newN) 0) 1 _ (by omega) (by omega) hfy (StoreD.Own.rd (HS.out.iv 3 rfl))) HF Tryz.func12 HS ?_; clear HF HS a; intro w27 a HS HF
 revert a;refine xr 1 rfl<|xne<|xsq<|xsr<|xr 2 rfl<|xne<|xcs 86 rfl (fun cc3=>?_) fun cc3=>?_
 exact absurd (of_decide_eq_true cc3) (by omega)
 refine xcf rfl<|xsk<|xet<|xsq<|xsr<|xr 3 rfl<|xne<|xcs 89 rfl (fun cc4=>?_) fun cc4=>?_
 exact absurd cc4 (by simp)
 refine xcf rfl<|xsk<|xet<|xsr<|xy rfl (vw HS.out 10 8 rfl rfl) ?_
 intro a HF
 refine yc (toStore_any _ st _ hf (HR.out.below HS.out.bel)) HF Tryz.func7 ?_
 rintro _ w28 ⟨u22, rfl, ho, hb⟩
 refine ⟨_, rfl, ?_⟩; replace HS := Bx.mk (HS.out.add (St.ivNew (loc := StoreD.Own.loc) ho hb)); clear ho hb HF; clear a; intro a HF
 obtain ⟨B23, C24, hh⟩ : ∃ B B1, St w0 ([ivA StoreD.Own StoreD.Own.loc B B1 u22 st, ivA StoreD.Own StoreD.Own.loc B20 C21 u19 st, boxA b18 7 37 (tV (st.wtree (nodeB newN))), boxA b17 8 33 u14, ivA StoreD.Own StoreD.Own.loc B15 C16 u14 ((st.wrote (nodeB newN) 0).marked 1), boxA b13 8 33 u10, ivA StoreD.Own StoreD.Own.loc B11 C12 u10 (st.marked 1), boxA b9 7 37 (tV (st.wtree (nodeB newN))), boxA b8 8 33 u5, ivA StoreD.Own StoreD.Own.loc B6 C7 u5 (st.wrote (nodeB newN) 0), ivA StoreD.Own StoreD.Own.loc B3 C4 u2 st, boxA b1 8 28 (sV a0 c0 a1 c1 a2 c2 a4 c4 a6 c6 st)]) w28 := ⟨_, _, HS.out⟩; replace HS := Bx.mk hh; clear hh
 refine yc (implFilesNew_v _ st _ (HT.out.below HS.out.bel) (HM.out.below HS.out.bel) (HE.out.below HS.out.bel) (StoreD.Own.rd (HS.out.iv 0 rfl)) hf) HF Tryz.func8 ?_
 rintro _ w29 ⟨u25, rfl, ho, hb⟩
 refine ⟨_, rfl, ?_⟩; replace HS := Bx.mk (HS.out.add (St.ivNew (loc := StoreD.Own.loc) ho hb)); clear ho hb HF; clear a; intro a HF
 obtain ⟨B26, C27, hh⟩ : ∃ B B1, St w0 ([ivA StoreD.Own StoreD.Own.loc B B1 u25 (st.wrote (nodeB newN) 0), ivA StoreD.Own StoreD.Own.loc B23 C24 u22 st, ivA StoreD.Own StoreD.Own.loc B20 C21 u19 st, boxA b18 7 37 (tV (st.wtree (nodeB newN))), boxA b17 8 33 u14, ivA StoreD.Own StoreD.Own.loc B15 C16 u14 ((st.wrote (nodeB newN) 0).marked 1), boxA b13 8 33 u10, ivA StoreD.Own StoreD.Own.loc B11 C12 u10 (st.marked 1), boxA b9 7 37 (tV (st.wtree (nodeB newN))), boxA b8 8 33 u5, ivA StoreD.Own StoreD.Own.loc B6 C7 u5 (st.wrote (nodeB newN) 0), ivA StoreD.Own StoreD.Own.loc B3 C4 u2 st, boxA b1 8 28 (sV a0 c0 a1 c1 a2 c2 a4 c4 a6 c6 st)]) w29 := ⟨_, _, HS.out⟩; replace HS := Bx.mk hh; clear hh
 revert a;refine xr 4 rfl ?_
 intro a HF
 refine yal [.slice none 0 0, .slice none 0 0, .slice none 0 0, .int .i64 0, .slice none 0 0, .int .i64 0, .slice none 0 0, .bool false] HF HS ?_;clear HF HS a;intro a w30 b28 HF HS
 refine yal z7 HF HS ?_;clear HF HS a;intro a w31 b29 HF HS
 refine wl_storeBox rfl HF rfl rfl (HF.ev rfl) (HF.ev rfl) HS.out 1 rfl (StoreD.Own.cells (HS.out.iv 2 rfl)) (by kernel_rfl) ?_; clear HS; intro w32 HS; replace HS := Bx.mk HS
 try dsimp only [List.set] at HS
 refine yst HF HS 0 ?_;clear HS;intro w33 HS
 try dsimp only [List.set] at HS
 revert a;refine xr 1 rfl<|xne<|xsq<|xsr<|xy rfl (fun a HF=>yl_loadB (v := u25) rfl (HF.ev rfl) (HS.out.box 1 rfl) (by kernel_rfl))<|xy rfl (fun a HF=>yl_loadB (v := u5) rfl (HF.ev rfl) (HS.out.box 11 rfl) (by kernel_rfl)) ?_
 intro a HF
 refine ycB (eqStore_yes _ _ (st.wrote (nodeB newN) 0) _ hfy (StoreD.Own.rd (HS.out.iv 2 rfl)) (StoreD.Own.rd (HS.out.iv 12 rfl))) HF Tryz.func9 HS ?_; clear HF HS a; intro w34 a HS HF
 revert a;refine xr 2 rfl<|xy rfl (vw HS.out 0 7 rfl rfl)<|xy rfl (vw HS.out 10 7 rfl rfl) ?_
 intro a HF
 refine ycBg (eqTree_yes (st.wtree (nodeB newN)) _) HF Tryz.func10 HS ?_; clear HF HS a; intro w35 a HS HF
 revert a;refine xr 5 rfl<|xy rfl (fun a HF=>yl_neqBs rfl (HF.ev rfl) (HF.ev rfl) (by kernel_rfl))<|xr 1 rfl<|xne<|xcf rfl<|xsk<|xet<|xsr<|xr 1 rfl<|xne<|xsr<|xy rfl (fun a HF=>yl_loadB (v := u14) rfl (HF.ev rfl) (HS.out.box 6 rfl) (by kernel_rfl))<|xr 1 rfl ?_
 intro a HF
 refine ycB (heldStore_any _ (st.wrote (nodeB newN) 0) 1 _ (by omega) (by omega) hfy (StoreD.Own.rd (HS.out.iv 7 rfl))) HF Tryz.func12 HS ?_; clear HF HS a; intro w36 a HS HF
 revert a;refine xr 1 rfl<|xne<|xsq<|xsr<|xr 2 rfl<|xne<|xcs 116 rfl (fun cc5=>?_) fun cc5=>?_
 exact absurd (of_decide_eq_true cc5) (by omega)
 refine xcf rfl<|xsk<|xet<|xsq<|xsr<|xr 3 rfl<|xne<|xcs 119 rfl (fun cc6=>?_) fun cc6=>?_
 exact absurd cc6 (by simp)
 refine xcf rfl<|xsk<|xet<|xsr<|xr 1 rfl<|xne<|xre<|xb1 Tryz.results3 rfl ?_
 exact ⟨rfl, HS.out.bel⟩
end Go.Proofs.YtdlmlagcniifjaaGreatDoor
