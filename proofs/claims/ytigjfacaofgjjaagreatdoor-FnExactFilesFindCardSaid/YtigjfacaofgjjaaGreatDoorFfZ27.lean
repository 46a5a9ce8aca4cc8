/- A part of the proof in YtigjfacaofgjjaaGreatDoorFfZ32. -/
import Derived.Shelf.Small.Strs
import Derived.Test.YtigjfacaofgjjaaGreatDoorFfZ26
namespace Go.Proofs.YtigjfacaofgjjaaGreatDoor
set_option linter.unusedVariables false
set_option linter.unusedSimpArgs false
set_option maxHeartbeats 1000000
set_option maxRecDepth 100000
open Go.Shelf
def layCompare_ren : Go.Shelf.Ren := ⟨fun | 106 => 219 | 213 => 262 | 265 => 285 | n => n, fun | 3 => 3 | 9 => 9 | n => n, fun | n => n⟩
theorem layCompare : Go.Proofs.Lays.n106 Tryz.prog layCompare_ren := {
  mixed := by kernel_rfl
  f106 := Tryz.func219.trans (congrArg some (by kernel_rfl))
  f213 := Tryz.func262.trans (congrArg some (by kernel_rfl))
  f265 := Tryz.func285.trans (congrArg some (by kernel_rfl))
  t3 := Tryz.underlying3
  a3 := Tryz.isAgg3
  z3 := Tryz.sizeOf3
  v3 := Tryz.zeroValue3
  t9 := Tryz.underlying9
  a9 := Tryz.isAgg9
  z9 := Tryz.sizeOf9
  v9 := Tryz.zeroValue9 }
open Go.RowKit
section
variable {P : Program} {w : World} {o : Oper} {a : Act} {t t' : TypeId} {x y : Operand}
theorem yl_convIU (ho : o.op = .convert t t' x) {n : Int} (hx : a.eval x = .int .i64 n) (hn : 0 ≤ n ∧ n ≤ 9223372036854775807) (hu : P.underlying t = some (.int .i64)) (hu' : P.underlying t' = some (.int .u64)) : Yl P w o a (.int .u64 n) := by
  unfold Yl execOp
  simp only [ho, hx]
  simp [convert, go_sem, run_underlying hu w, run_underlying hu' w]
  unfold IntKind.wrap
  simp [IntKind.signed, IntKind.bits]
  omega
theorem yl_convUI (ho : o.op = .convert t t' x) {n : Int} (hx : a.eval x = .int .u64 n) (hn : 0 ≤ n ∧ n ≤ 9223372036854775807) (hu : P.underlying t = some (.int .u64)) (hu' : P.underlying t' = some (.int .i64)) : Yl P w o a (.int .i64 n) := by
  unfold Yl execOp
  simp only [ho, hx]
  simp [convert, go_sem, run_underlying hu w, run_underlying hu' w]
  exact IntWalk.i64_in _ (by omega)
theorem yl_shr1 (ho : o.op = .binOp .shr t x y t') {m : Int} (hx : a.eval x = .int .u64 m) (hy : a.eval y = .int .u64 1) (hm : 0 ≤ m) : Yl P w o a (.int .u64 (m / 2)) := by
  have e : m.fdiv (2 ^ 1) = m / 2 := by rw [Int.fdiv_eq_ediv_of_nonneg _ (by decide)]; rfl
  unfold Yl execOp
  simp only [ho, hx, hy]
  simp [eqGuard, binOp, Op.shift, IntKind.bits, go_sem]
  exact e
end
section
variable {P : Program} {ops : Array Oper} {Q : Exit → Act → World → Prop} {a : Act} {w : World} {rest : List Oper} {o : Oper} {N : Nat} {l : List (Nat × Value)}
theorem wl_ung (hF : Fr N a l) {g dg : Nat} {b : Bool} (hgd : o.guard = some (g, b)) (hgo : (ops[g]?).bind (·.dst) = some dg) (hgv : lk l dg = some (.bool b)) (h : wpList P ops Q ({ o with guard := none } :: rest) a w) : wpList P ops Q (o :: rest) a w := by
  unfold wpList at h ⊢
  rw [if_pos (hF.want hgd hgo hgv)]
  rw [if_pos (show Region.wanted { o with guard := none } (yielded ops a.tmps) = true from rfl)] at h
  exact h
end
open Go.RowKit
theorem entryAt1_any (x : EntryD) (s : ByteArray) (w0 : World) : Calls Tryz.prog 218 #[.agg #[.string x.fName, .int .i64 x.fId], .string s] w0 fun e w' => e = .returned (.int .i64 (Go.Lib.compareBytes (x.fName).data.toList (s).data.toList)) ∧ Below w0.heap.size w0 w' := by
 have HS := Bx.mk (St.start w0)
 refine wc_enter Tryz.func218 rfl Tryz.ntmps218 [(0, .agg #[.string x.fName, .int .i64 x.fId]), (1, .string s)] ⟨rfl, rfl, trivial⟩ rfl ?_
 refine xsr ?_
 intro a HF
 refine ybx HF HS ?_;clear HF HS a;intro a w1 b1 HF HS
 revert a;refine xr 1 rfl<|xne<|xsr<|xy rfl (vf 0 rfl)<|xy rfl (vc HS.out 0 rfl rfl)<|xr 1 rfl ?_
 intro a HF
 refine ycB ((Any.strings_Compare layCompare x.fName s _).mono fun _ _ h => ⟨h.1, h.2 ▸ Below.refl _ _⟩) HF Tryz.func219 HS ?_; clear HF HS a; intro w2 a HS HF
 revert a;refine xr 1 rfl<|xne<|xre<|xb1 Tryz.results218 rfl ?_
 exact ⟨rfl, HS.out.bel⟩
theorem halves_any (aoE : Option Addr) (cpE : Nat) (es : List EntryD) (s : ByteArray) (w0 : World) (ho : entsOk es = true) (hE : Rd EntryD.cells 2 w0 aoE es.length es) : Calls Tryz.prog 217 #[.slice aoE es.length cpE, .string s, .func (.func 218) #[] #[]] w0 fun e w' => ∃ i : Nat, e = .returned (.tuple #[.int .i64 (i : Int), .bool (entIx es s).isSome]) ∧ (∀ j, entIx es s = some j → i = j) ∧ Below w0.heap.size w0 w' := by
 obtain ⟨gE, oE, rE⟩ := hE.opn; have RE := Bx.mk rE; clear rE
 have h12 := (entsOk_is ho).2
 have HS := Bx.mk (St.start w0)
 refine wc_enter Tryz.func217 rfl Tryz.ntmps217 [(0, .slice aoE es.length cpE), (1, .string s), (2, .func (.func 218) #[] #[])] ⟨rfl, rfl, rfl, trivial⟩ rfl ?_
 refine xsr<|xr 2 rfl<|xne<|xsr<|xr 1 rfl<|xy rfl (vn 118 2 rfl)<|xr 1 rfl<|xne<|xsr<|xr 3 rfl<|xne<|xsq<|xbl ?_
 intro a HF
 refine wc_loop (ι := Nat) (fun d a w => ∃ (lo hi : Nat), (HalfI es s lo hi ∧ hi - lo = d) ∧ Fr 49 a [(0, .slice aoE es.length cpE), (1, .string s), (2, .func (.func 218) #[] #[]), (8, .int .i64 (es.length : Int)), (9, .int .i64 (lo : Int)), (10, .int .i64 (hi : Int))] ∧ St w0 ([]) w) (fun d => d) es.length ⟨0, es.length, ⟨HalfI.start _ _, rfl⟩, HF.less _ ⟨rfl, rfl, rfl, rfl, (by first | rfl | (show some (Value.int .i64 _) = some (Value.int .i64 _); congr 2; omega)), (by first | rfl | (show some (Value.int .i64 _) = some (Value.int .i64 _); congr 2; omega)), trivial⟩, HS.out⟩ ?_
 clear HF HS; clear a
 rintro d a w1 ⟨lo, hi, ⟨hh, hd⟩, HF, HS⟩
 replace HS := Bx.mk HS
 have htop := hh.top
 revert a;refine xsq<|xsr<|xr 3 rfl<|xne<|xcs 17 rfl (fun cc1=>?_) fun cc1=>?_
 have dcc1 := of_decide_eq_true cc1
 refine xct rfl<|xsk<|xet<|xbl<|xsr<|xr 2 rfl<|xy rfl (vad rfl)<|xy rfl (fun a HF=>yl_convIU rfl (HF.ev rfl) (by omega) (by kernel_rfl) (by kernel_rfl))<|xy rfl (fun a HF=>yl_shr1 rfl (HF.ev rfl) (HF.ev rfl) (by omega))<|xy rfl (fun a HF=>yl_convUI rfl (HF.ev rfl) (by omega) (by kernel_rfl) (by kernel_rfl))<|xr 1 rfl<|xne<|xsr<|xr 3 rfl<|xy rfl (fun a HF=>yl_indexAddrR (e := 118) (i := ((lo + hi) / 2)) (size := 2) rfl (HF.ev rfl) (HF.ev rfl) (by kernel_rfl) (by omega) (by omega) (RE.out.ao ((lo + hi) / 2) (by omega)))<|xy rfl (fun a HF=>ylr (cs := [.string ((es.getD ((lo + hi) / 2) EntryD.zero).fName), .int .i64 ((es.getD ((lo + hi) / 2) EntryD.zero).fId)]) rfl (HF.ev rfl) (RE.out.elem HS.out (get_getD (xs := es) (j := ((lo + hi) / 2)) (d := EntryD.zero) (by omega))))<|xr 1 rfl ?_
 intro a HF
 refine wl_callvB rfl HF rfl (HF.ev rfl) (enter_of Tryz.func218 (by kernel_rfl) rfl) (args := #[.agg #[.string ((es.getD ((lo + hi) / 2) EntryD.zero).fName), .int .i64 ((es.getD ((lo + hi) / 2) EntryD.zero).fId)], .string s]) rfl (v := .int .i64 (Go.Lib.compareBytes ((es.getD ((lo + hi) / 2) EntryD.zero).fName).data.toList (s).data.toList)) (entryAt1_any (es.getD ((lo + hi) / 2) EntryD.zero) s _) rfl rfl HS.out ?_; clear HF HS a; intro w2 a HS HF; replace HS := Bx.mk HS
 revert a;refine xr 1 rfl<|xne<|xcs 31 rfl (fun cc2=>?_) fun cc2=>?_
 have dcc2 := of_decide_eq_true cc2
 have hlt9 : Op.bytesLess (es.getD ((lo + hi) / 2) EntryD.zero).fName.toList s.toList = true := by rw [ByteArray.toList_eq, ByteArray.toList_eq, ← cmp_less]; exact cc2
 refine xct rfl<|xrl<|xr 1 rfl<|xy rfl (vad rfl)<|xr 1 rfl<|xni<|xeb<|xet ?_
 intro a HF
 exact ⟨(hi - (((lo + hi) / 2) + 1)), ⟨((lo + hi) / 2) + 1, hi, ⟨hh.up ho (by omega) (by omega) hlt9, rfl⟩, HF.less _ ⟨rfl, rfl, rfl, rfl, (by first | rfl | (show some (Value.int .i64 _) = some (Value.int .i64 _); congr 2; omega)), (by first | rfl | (show some (Value.int .i64 _) = some (Value.int .i64 _); congr 2; omega)), trivial⟩, HS.out⟩, (by omega)⟩
 have dcc2 := of_decide_eq_false cc2
 have hlt9 : Op.bytesLess (es.getD ((lo + hi) / 2) EntryD.zero).fName.toList s.toList = false := by rw [ByteArray.toList_eq, ByteArray.toList_eq, ← cmp_less]; exact cc2
 refine xcf rfl<|xrl<|xr 2 rfl<|xni<|xeb<|xet ?_
 intro a HF
 exact ⟨(((lo + hi) / 2) - lo), ⟨lo, ((lo + hi) / 2), ⟨hh.down ho (by omega) (by omega) hlt9, rfl⟩, HF.less _ ⟨rfl, rfl, rfl, rfl, (by first | rfl | (show some (Value.int .i64 _) = some (Value.int .i64 _); congr 2; omega)), (by first | rfl | (show some (Value.int .i64 _) = some (Value.int .i64 _); congr 2; omega)), trivial⟩, HS.out⟩, (by omega)⟩
 have dcc1 := of_decide_eq_false cc1
 refine xcf rfl<|xex<|xtx<|xtx<|xbh<|xet<|xsq ?_
 obtain rfl : lo = hi := by have := hh.le; omega
 refine xrl<|xr 5 rfl<|xcs 39 rfl (fun cc3=>?_) fun cc3=>?_
 have dcc3 := of_decide_eq_true cc3
 refine xr 3 rfl<|xy rfl (vxr 118 lo 2 rfl (RE.out.ao lo (by omega)))<|xy rfl (fun a HF=>ylr (cs := [.string ((es.getD lo EntryD.zero).fName), .int .i64 ((es.getD lo EntryD.zero).fId)]) rfl (HF.ev rfl) (RE.out.elem HS.out (get_getD (xs := es) (j := lo) (d := EntryD.zero) (by omega))))<|xr 1 rfl ?_
 intro a HF
 refine wl_ung HF rfl rfl rfl ?_
 refine wl_callvB rfl HF rfl (HF.ev rfl) (enter_of Tryz.func218 (by kernel_rfl) rfl) (args := #[.agg #[.string ((es.getD lo EntryD.zero).fName), .int .i64 ((es.getD lo EntryD.zero).fId)], .string s]) rfl (v := .int .i64 (Go.Lib.compareBytes ((es.getD lo EntryD.zero).fName).data.toList (s).data.toList)) (entryAt1_any (es.getD lo EntryD.zero) s _) rfl rfl HS.out ?_; clear HF HS a; intro w3 a HS HF; replace HS := Bx.mk HS
 revert a;refine xr 4 rfl<|xne<|xre<|xb2 Tryz.results217 rfl rfl ?_
 -- (lo : Int) | ((Go.Lib.compareBytes ((es.getD lo EntryD.zero).fName).data.toList (s).data.toList) == 0)
 obtain ⟨hf1, hf2⟩ := hh.fin ho (by omega); rw [← hf1]; exact ⟨lo, rfl, hf2, HS.out.bel⟩
 have dcc3 := of_decide_eq_false cc3
 refine xr 11 rfl<|xne<|xre<|xb2 Tryz.results217 rfl rfl ?_
 -- (lo : Int) | false
 have hne := hh.out ho (by omega); rw [hne]; exact ⟨lo, rfl, (fun j hj => by cases hj), HS.out.bel⟩
open Go.RowKit
theorem entryAt_any (aoE : Option Addr) (cpE : Nat) (es : List EntryD) (s : ByteArray) (w0 : World) (ho : entsOk es = true) (hE : Rd EntryD.cells 2 w0 aoE es.length es) : Calls Tryz.prog 169 #[.slice aoE es.length cpE, .string s] w0 fun e w' => ∃ i : Nat, e = .returned (.tuple #[.int .i64 (i : Int), .bool (entIx es s).isSome]) ∧ (∀ j, entIx es s = some j → i = j) ∧ Below w0.heap.size w0 w' := by
 have HS := Bx.mk (St.start w0)
 refine wc_enter Tryz.func169 rfl Tryz.ntmps169 [(0, .slice aoE es.length cpE), (1, .string s)] ⟨rfl, rfl, trivial⟩ rfl ?_
 refine xsr<|xr 2 rfl<|xne<|xsr<|xr 2 rfl ?_
 intro a HF
 refine yc (halves_any _ _ es s _ ho (hE.below HS.out.bel)) HF Tryz.func217 ?_
 rintro _ w1 ⟨i9, rfl, hi9, hb⟩
 refine ⟨_, rfl, ?_⟩; replace HS := Bx.mk (HS.out.later hb);clear hb HF a
 refine xr 4 rfl<|xne<|xre<|xb2 Tryz.results169 rfl rfl ?_
 exact ⟨i9, rfl, hi9, HS.out.bel⟩
def findI (o : Option Nat) : Int := match o with | none => -1 | some k => (k : Int)
theorem findI_some (k : Nat) : findI (some k) = (k : Int) := rfl
theorem drop_at {l : List ByteArray} {i : Nat} (h : i < l.length) : l.drop i = l.getD i ByteArray.empty :: l.drop (i + 1) := by
  rw [List.drop_eq_getElem_cons h, List.getD_eq_getElem?_getD, List.getElem?_eq_getElem h]; rfl
set_option maxHeartbeats 2000000 in
theorem find_any (fb : Nat) (st : StoreD) (t : TreeD) (ns : List (Option NodeD)) (aoM : Option Addr) (cpM : Nat) (nms : List ByteArray) (w0 : World) (hl : nms.length ≤ 100) (hF : FilesP fb st t ns w0) (hR : Rd encS 1 w0 aoM nms.length nms) : Calls Tryz.prog 115 #[.pointer (some ⟨fb, 0, none⟩), .slice aoM nms.length cpM] w0 fun e w' => e = .returned (.int .i64 (findI (findN st ns nms 0))) ∧ Below w0.heap.size w0 w' := by
 obtain ⟨pst, aoN, bm, fD, hfb, hN, hMH, hD⟩ := hF; have HFB := Bx.mk hfb; have HMH := Bx.mk hMH; have HD := Bx.mk hD; clear hfb hMH hD hN
 obtain ⟨g1, o1, r1⟩ := hR.opn; have RM := Bx.mk r1; clear r1
 have HS := Bx.mk (St.start w0)
 refine wc_enter Tryz.func115 rfl Tryz.ntmps115 [(0, .pointer (some ⟨fb, 0, none⟩)), (1, .slice aoM nms.length cpM)] ⟨rfl, rfl, trivial⟩ rfl ?_
 refine xsr<|xr 1 rfl<|xne<|xsr<|xr 1 rfl<|xne<|xsq<|xsr<|xr 1 rfl<|xy rfl (vn 9 1 rfl)<|xr 1 rfl<|xne<|xbl ?_
 intro a HF
 refine wc_loop (ι := Nat) (fun i a w => ∃ (k : Nat), (i ≤ nms.length ∧ findN st ns nms 0 = findN st ns (nms.drop i) k) ∧ Fr 41 a [(0, .pointer (some ⟨fb, 0, none⟩)), (10, .slice aoM nms.length cpM), (11, .int .i64 (nms.length : Int)), (5, .int .i64 (k : Int)), (12, .int .i64 (i : Int))] ∧ St w0 ([]) w) (fun i => nms.length - i) 0 ⟨0, ⟨Nat.zero_le _, rfl⟩, HF.less _ ⟨rfl, rfl, rfl, rfl, rfl, trivial⟩, HS.out⟩ ?_
 clear HF HS; clear a
 rintro i a w1 ⟨k, ⟨hi, hfn⟩, HF, HS⟩
 replace HS := Bx.mk HS
 obtain ⟨aoE, cpE, hE1, hE2⟩ := HD.out k
 revert a;refine xsr<|xr 1 rfl<|xne<|xsq<|xcs 13 rfl (fun cc1=>?_) fun cc1=>?_
 have dcc1 := of_decide_eq_true cc1
 refine xct rfl<|xsk<|xet<|xsq<|xbl<|xsr<|xy rfl (vxr 9 i 1 rfl (RM.out.ao i (by omega)))<|xy rfl (fun a HF=>ylo (v := .string (nms.getD i ByteArray.empty)) rfl (HF.ev rfl) (RM.out.elem1 HS.out (get_getD (xs := nms) (j := i) (d := ByteArray.empty) (by omega)) rfl))<|xr 1 rfl<|xne<|xsr<|xr 2 rfl<|xy rfl (vf 9 rfl)<|xy rfl (fun a HF=>ylo (v := .map (some bm)) rfl (HF.ev rfl) (((HFB.out.below HS.out.bel (Nat.le_refl _)).cell 9).trans rfl))<|xr 1 rfl<|xy rfl (fun a HF=>yl_lookM rfl (HF.ev rfl) (HF.ev rfl) Tryz.underlying111 Tryz.underlying3 (Tryz.zeroValue56 _) (HMH.out.below HS.out.bel) hE1)<|xr 1 rfl ?_
 intro a HF
 refine yc (entryAt_any _ _ (entK st ns k) (nms.getD i ByteArray.empty) _ (entK_ok k) (hE2.below HS.out.bel)) HF Tryz.func169 ?_
 rintro _ w2 ⟨i9, rfl, hi9, hb⟩
 refine ⟨_, rfl, ?_⟩; replace HS := Bx.mk (HS.out.later hb);clear hb HF a
 refine xr 5 rfl<|xne<|xsq<|xsr<|xr 2 rfl<|xne<|xcs 28 rfl (fun cc2=>?_) fun cc2=>?_
 have hix : (entIx (entK st ns k) (nms.getD i ByteArray.empty)).isSome = false := by simpa using cc2
 refine xct rfl<|xsr<|xr 1 rfl<|xne<|xre<|xtr<|xbr<|xtr<|xtr<|xbr<|xtr<|xb1 Tryz.results115 rfl ?_
 have hno : entIx (entK st ns k) (nms.getD i ByteArray.empty) = none := Option.isNone_iff_eq_none.1 (by rw [← Option.not_isSome, hix]; rfl); exact ⟨by rw [hfn, drop_at (by omega), findN_no hno] <;> rfl, HS.out.bel⟩
 have hix : (entIx (entK st ns k) (nms.getD i ByteArray.empty)).isSome = true := by simpa using cc2
 obtain ⟨j9, hj9⟩ := Option.isSome_iff_exists.1 hix; obtain rfl := hi9 j9 hj9; have hat9 := entIx_at (entK st ns k) (nms.getD i ByteArray.empty); rw [hj9] at hat9; obtain ⟨hlt9, _⟩ := hat9; have hid9 := (ent_nat (getE_mem hlt9)).1
 have hfn2 : findN st ns nms 0 = findN st ns (nms.drop (i + 1)) ((entK st ns k).getD i9 EntryD.zero).fId.toNat := by rw [hfn, drop_at (by omega), findN_yes hj9]
 refine xcf rfl<|xsk<|xet ?_
 obtain ⟨gE, oE, rE⟩ := hE2.opn; have RE := Bx.mk rE; clear rE
 refine xrl<|xr 2 rfl<|xy rfl (vf 9 rfl)<|xy rfl (fun a HF=>ylo (v := .map (some bm)) rfl (HF.ev rfl) (((HFB.out.below HS.out.bel (Nat.le_refl _)).cell 9).trans rfl))<|xr 1 rfl<|xy rfl (fun a HF=>yl_lookM rfl (HF.ev rfl) (HF.ev rfl) Tryz.underlying111 Tryz.underlying3 (Tryz.zeroValue56 _) (HMH.out.below HS.out.bel) hE1)<|xr 1 rfl<|xy rfl (vxr 118 i9 2 rfl (RE.out.ao i9 (by omega)))<|xy rfl (vf 1 rfl)<|xy rfl (fun a HF=>ylo (v := .int .i64 (((entK st ns k).getD i9 EntryD.zero).fId)) rfl (HF.ev rfl) (RE.out.elem HS.out (get_getD (xs := (entK st ns k)) (j := i9) (d := EntryD.zero) (by omega)) 1 _ rfl))<|xr 1 rfl<|xni<|xeb<|xet<|xrl<|xy rfl (vad rfl)<|xr 1 rfl<|xne ?_
 intro a HF
 exact ⟨(i + 1), ⟨_, ⟨by omega, hfn2⟩, HF.less _ ⟨rfl, rfl, rfl, (by show some (Value.int .i64 _) = some (Value.int .i64 _); rw [hid9]), rfl, trivial⟩, HS.out⟩, (by omega)⟩
 have dcc1 := of_decide_eq_false cc1
 refine xcf rfl<|xex<|xtx<|xtx<|xbh<|xet<|xsr<|xr 2 rfl<|xne<|xre<|xb1 Tryz.results115 rfl ?_
 obtain rfl : i = nms.length := by omega
 rw [List.drop_length, findN_nil] at hfn; exact ⟨by rw [hfn] <;> rfl, HS.out.bel⟩
open Go.RowKit
def namesL (s : ByteArray) : List ByteArray := bif (s.toList == (⟨#[47]⟩ : ByteArray).toList) then [] else piecesB (s.extract 1 s.size) 47
theorem namesL_sl {s : ByteArray} (h : (s.toList == (⟨#[47]⟩ : ByteArray).toList) = true) : namesL s = [] := by unfold namesL; rw [h]; rfl
theorem namesL_rest {s : ByteArray} (h : (s.toList == (⟨#[47]⟩ : ByteArray).toList) = false) : namesL s = piecesB (s.extract 1 s.size) 47 := by unfold namesL; rw [h]; rfl
theorem pathNamesL_any (s : ByteArray) (w0 : World) (hM : MaxP w0) (hs : s.size ≤ 4000000000) : Calls Tryz.prog 114 #[.string s] w0 fun e w' => (pathB s = true ∧ ∃ ao cp, e = .returned (.tuple #[.slice ao (namesL s).length cp, .bool true]) ∧ St w0 [rowA encS 1 9 (.slice ao (namesL s).length cp) (namesL s)] w') ∨ (pathB s = false ∧ ∃ v, e = .returned (.tuple #[v, .bool false]) ∧ Below w0.heap.size w0 w') := by
 have HM := Bx.mk hM; clear hM
 have HS := Bx.mk (St.start w0)
 refine wc_enter Tryz.func114 rfl Tryz.ntmps114 [(0, .string s)] ⟨rfl, trivial⟩ rfl ?_
 refine xsr<|xr 2 rfl<|xne<|xsq<|xsr<|xr 1 rfl<|xy rfl (fun a HF=>yl_eqlS rfl (HF.ev rfl) (HF.ev rfl))<|xne<|xcs 10 rfl (fun cc1=>?_) fun cc1=>?_
 refine xct rfl<|xsr<|xr 2 rfl<|xne<|xre<|xtr<|xb2 Tryz.results114 rfl rfl ?_
 rw [namesL_sl cc1]; exact .inl ⟨pathB_sl cc1, _, _, rfl, (HS.out).nilRow encS 1 9 _⟩
 refine xcf rfl<|xsk<|xet<|xsr<|xr 1 rfl ?_
 intro a HF
 refine yc (cutP_ways s _) HF Tryz.func166 ?_
 rintro _ w1 (⟨hpr, rfl, hb⟩ | ⟨hpr, rfl, hb⟩)
 refine ⟨_, rfl, ?_⟩; replace HS := Bx.mk (HS.out.later hb);clear hb HF a
 refine xr 5 rfl<|xne<|xsq<|xsr<|xr 4 rfl<|xy rfl (fun a HF=>yl_lenS rfl (HF.ev rfl) (by kernel_rfl))<|xr 2 rfl<|xne<|xcs 22 rfl (fun cc2=>?_) fun cc2=>?_
 have dcc2 := of_decide_eq_true cc2
 refine xct rfl<|xsr<|xr 2 rfl<|xne<|xre<|xtr<|xb2 Tryz.results114 rfl rfl ?_
 exact .inr ⟨(pathB_rest cc1 hpr).trans (restB_long (by omega)), _, rfl, HS.out.bel⟩
 have dcc2 := of_decide_eq_false cc2
 refine xcf rfl<|xsk<|xet<|xsq ?_
 intro a HF
 have hez : (s.extract 1 s.size).size = s.size - 1 := ext1_size; have hpl := pieces_len (s.extract 1 s.size) 47; have hcl := List.count_le_length (a := (47 : UInt8)) (l := (s.extract 1 s.size).data.toList); have hsl := size_list (s.extract 1 s.size)
 revert a;refine xrl<|xr 1 rfl ?_
 intro a HF
 refine yc (split_any (s.extract 1 s.size) 47 _ (by omega) (HM.out.below HS.out.bel)) HF Tryz.func167 ?_
 rintro _ w2 ⟨ao1, cp1, rfl, hs⟩
 refine ⟨_, rfl, ?_⟩
 replace HS := Bx.mk (HS.out.add hs);clear hs HF a;intro a HF
 try dsimp only [List.eraseIdx] at HS
 revert a;refine xr 1 rfl<|xne<|xsq<|xsr<|xr 1 rfl ?_
 intro a HF
 refine yc (pathOf_any _ _ _ (piecesB (s.extract 1 s.size) 47) _ (by omega) (szs_pieces _ _ (by omega)) (St.capLe HS.out 0 rfl) (St.rdOf HS.out encS_len 0 rfl)) HF Tryz.func168 ?_
 rintro _ w3 (⟨hok, rfl, hb⟩ | ⟨hok, rfl, hb⟩)
 refine ⟨_, rfl, ?_⟩; replace HS := Bx.mk (HS.out.later hb);clear hb HF a
 refine xr 5 rfl<|xne<|xsr<|xr 5 rfl<|xy rfl (fun a HF=>yl_neqS rfl (HF.ev rfl) (HF.ev rfl))<|xr 1 rfl<|xne<|xcs 36 rfl (fun cc3=>?_) fun cc3=>?_
 rw [joinT_sl, head_back hpr] at cc3
 simp at cc3
 rw [joinT_sl, head_back hpr] at cc3
 refine xcf rfl<|xsk<|xet<|xsr<|xr 3 rfl<|xne<|xre<|xb2 Tryz.results114 rfl rfl ?_
 replace HS:=Bx.mk (HS.out.pick 0 rfl)
 rw [namesL_rest cc1]; exact .inl ⟨(pathB_rest cc1 hpr).trans ((restB_okN _).trans hok), _, _, rfl, HS.out⟩
 refine ⟨_, rfl, ?_⟩; replace HS := Bx.mk (HS.out.later hb);clear hb HF a
 refine xr 5 rfl<|xne<|xsr<|xr 7 rfl<|xne<|xct rfl<|xsr<|xr 2 rfl<|xne<|xre<|xtr<|xb2 Tryz.results114 rfl rfl ?_
 exact .inr ⟨(pathB_rest cc1 hpr).trans ((restB_okN _).trans hok), _, rfl, HS.out.bel⟩
 refine ⟨_, rfl, ?_⟩; replace HS := Bx.mk (HS.out.later hb);clear hb HF a
 refine xr 5 rfl<|xne<|xsq<|xsr<|xr 7 rfl<|xne<|xct rfl<|xsr<|xr 2 rfl<|xne<|xre<|xtr<|xb2 Tryz.results114 rfl rfl ?_
 exact .inr ⟨pathB_no cc1 hpr, _, rfl, HS.out.bel⟩
open Go.RowKit
theorem restB_4 {t : ByteArray} (h : restB t = true) : (piecesB t 47).length ≤ 4 := by
  unfold restB at h
  rw [Bool.and_eq_true] at h
  exact of_decide_eq_true h.1
theorem namesL_4 {s : ByteArray} (h : pathB s = true) : (namesL s).length ≤ 4 := by
  cases h1 : (s.toList == (⟨#[47]⟩ : ByteArray).toList) with
  | true => rw [namesL_sl h1]; exact Nat.zero_le _
  | false =>
    cases h2 : (s.data.toList.head? == some 47) with
    | false => rw [pathB_no h1 h2] at h; cases h
    | true =>
      rw [pathB_rest h1 h2] at h
      rw [namesL_rest h1]; exact restB_4 h
noncomputable def pathI (st : StoreD) (ns : List (Option NodeD)) (s : ByteArray) : Int := bif pathB s then findI (findN st ns (namesL s) 0) else -1
theorem pathI_yes {st : StoreD} {ns : List (Option NodeD)} {s : ByteArray} (h : pathB s = true) : pathI st ns s = findI (findN st ns (namesL s) 0) := by unfold pathI; rw [h]; rfl
theorem pathI_no {st : StoreD} {ns : List (Option NodeD)} {s : ByteArray} (h : pathB s = false) : pathI st ns s = -1 := by unfold pathI; rw [h]; rfl
theorem path_any (fb : Nat) (st : StoreD) (t : TreeD) (ns : List (Option NodeD)) (s : ByteArray) (w0 : World) (hM : MaxP w0) (hs : s.size ≤ 4000000000) (hF : FilesP fb st t ns w0) : Calls Tryz.prog 67 #[.pointer (some ⟨fb, 0, none⟩), .string s] w0 fun e w' => e = .returned (.int .i64 (pathI st ns s)) ∧ Below w0.heap.size w0 w' := by
 have HM := Bx.mk hM; have hFP := Bx.mk hF; clear hM hF
 have HS := Bx.mk (St.start w0)
 refine wc_enter Tryz.func67 rfl Tryz.ntmps67 [(0, .pointer (some ⟨fb, 0, none⟩)), (1, .string s)] ⟨rfl, rfl, trivial⟩ rfl ?_
 refine xsr<|xr 1 rfl<|xne<|xsr<|xr 1 rfl ?_
 intro a HF
 refine yc (pathNamesL_any s _ (HM.out.below HS.out.bel) hs) HF Tryz.func114 ?_
 rintro _ w1 (⟨hpb, aoP, cpP, rfl, hs1⟩ | ⟨hpb, vp, rfl, hb⟩)
 refine ⟨_, rfl, ?_⟩; replace HS := Bx.mk (HS.out.add hs1);clear hs1 HF a;intro a HF
 try dsimp only [List.eraseIdx] at HS
 have hn4 := namesL_4 hpb
 revert a;refine xr 5 rfl<|xne<|xsq<|xsr<|xr 2 rfl<|xne<|xcf rfl<|xsk<|xet<|xsr<|xr 2 rfl ?_
 intro a HF
 refine ycB (find_any fb st t ns _ _ (namesL s) _ (by omega) (hFP.out.below HS.out.bel) (St.rdOf HS.out encS_len 0 rfl)) HF Tryz.func115 HS ?_; clear HF HS a; intro w2 a HS HF
 revert a;refine xr 1 rfl<|xne<|xre<|xb1 Tryz.results67 rfl ?_
 exact ⟨by rw [pathI_yes hpb] <;> rfl, HS.out.bel⟩
 refine ⟨_, rfl, ?_⟩; replace HS := Bx.mk (HS.out.later hb);clear hb HF a
 refine xr 5 rfl<|xne<|xsq<|xsr<|xr 2 rfl<|xne<|xct rfl<|xsr<|xr 1 rfl<|xne<|xre<|xtr<|xb1 Tryz.results67 rfl ?_
 exact ⟨by rw [pathI_no hpb] <;> rfl, HS.out.bel⟩
noncomputable def findX (st : StoreD) (t : TreeD) (s : ByteArray) : Int := match filesF st t with | none => -1 | some ns => pathI st ns s
theorem findX_no {st : StoreD} {t : TreeD} {s : ByteArray} (h : filesF st t = none) : findX st t s = -1 := by unfold findX; rw [h]
theorem findX_yes {st : StoreD} {t : TreeD} {s : ByteArray} {ns : List (Option NodeD)} (h : filesF st t = some ns) : findX st t s = pathI st ns s := by unfold findX; rw [h]
theorem implFilesFind_any (a0 : Option Addr) (c0 : Nat) (a1 : Option Addr) (c1 : Nat) (a2 : Option Addr) (c2 : Nat) (a4 : Option Addr) (c4 : Nat) (a6 : Option Addr) (c6 : Nat) (st : StoreD) (t : TreeD) (s : ByteArray) (w0 : World) (hT : TabP w0) (hM : MaxP w0) (hE : ErrP w0) (hV0 : StoreD.Reads w0 (sV a0 c0 a1 c1 a2 c2 a4 c4 a6 c6 st) st) (hf : st.Fit) (hs : s.size ≤ 4000000000) : Calls Tryz.prog 22 #[sV a0 c0 a1 c1 a2 c2 a4 c4 a6 c6 st, tV t, .string s] w0 fun e w' => e = .returned (.tuple #[.int .i64 (max (findX st t s) 0), .bool (decide (0 ≤ findX st t s))]) ∧ Below w0.heap.size w0 w' := by
 have HT := Bx.mk hT; have HM := Bx.mk hM; have HE := Bx.mk hE; have hV := Bx.mk hV0; clear hT hM hE hV0
 have HS := Bx.mk (St.start w0)
 refine wc_enter Tryz.func22 rfl Tryz.ntmps22 [(0, sV a0 c0 a1 c1 a2 c2 a4 c4 a6 c6 st), (1, tV t), (2, .string s)] ⟨rfl, rfl, rfl, trivial⟩ rfl ?_
 refine xsr ?_
 intro a HF
 refine ybx HF HS ?_;clear HF HS a;intro a w1 b1 HF HS
 refine ybx HF HS ?_;clear HF HS a;intro a w2 b2 HF HS
 revert a;refine xr 2 rfl<|xne<|xsr<|xy rfl (vw HS.out 1 8 rfl rfl)<|xy rfl (vw HS.out 0 7 rfl rfl) ?_
 intro a HF
 refine yc (filesIn_any a0 c0 a1 c1 a2 c2 a4 c4 a6 c6 st t _ (HT.out.below HS.out.bel) (HM.out.below HS.out.bel) (HE.out.below HS.out.bel) (hV.out.below HS.out.bel) hf) HF Tryz.func53 ?_
 rintro _ w3 (⟨ns, hff, fb, rfl, hs1⟩ | ⟨hff, vf, rfl, hb⟩)
 refine ⟨_, rfl, ?_⟩; replace HS := Bx.mk (HS.out.add hs1);clear hs1 HF a;intro a HF
 try dsimp only [List.eraseIdx] at HS
 revert a;refine xr 5 rfl<|xne<|xsq<|xsr<|xr 2 rfl<|xne<|xcf rfl<|xsk<|xet<|xsr<|xr 2 rfl ?_
 intro a HF
 refine ycB (path_any fb st t ns s _ (HM.out.below HS.out.bel) hs (HS.out.holds 0 rfl)) HF Tryz.func67 HS ?_; clear HF HS a; intro w4 a HS HF
 revert a;refine xr 1 rfl<|xne<|xsr<|xr 1 rfl<|xy rfl (fun a HF=>yl_maxI rfl (HF.ev rfl) (HF.ev rfl))<|xr 4 rfl<|xne<|xre<|xb2 Tryz.results22 rfl rfl ?_
 -- max (pathI st ns s) 0 | (decide ((0 : Int) ≤ (pathI st ns s)))
 exact ⟨by rw [findX_yes hff] <;> rfl, HS.out.bel⟩
 refine ⟨_, rfl, ?_⟩; replace HS := Bx.mk (HS.out.later hb);clear hb HF a
 refine xr 5 rfl<|xne<|xsq<|xsr<|xr 2 rfl<|xne<|xct rfl<|xsr<|xr 2 rfl<|xne<|xre<|xtr<|xb2 Tryz.results22 rfl rfl ?_
 -- 0 | false
 exact ⟨by rw [findX_no hff] <;> rfl, HS.out.bel⟩
open Go.RowKit
theorem l12At_any (aoE : Option Addr) (cpE : Nat) (es : List EntryD) (s : ByteArray) (w0 : World) (ho : entsOk es = true) (hE : Rd EntryD.cells 2 w0 aoE es.length es) : Calls Tryz.prog 113 #[.slice aoE es.length cpE, .string s] w0 fun e w' => e = .returned (.int .i64 (findI (entIx es s))) ∧ Below w0.heap.size w0 w' := by
 obtain ⟨gE, oE, rE⟩ := hE.opn; have RE := Bx.mk rE; clear rE
 have h12 := (entsOk_is ho).2
 have HS := Bx.mk (St.start w0)
 refine wc_enter Tryz.func113 rfl Tryz.ntmps113 [(0, .slice aoE es.length cpE), (1, .string s)] ⟨rfl, rfl, trivial⟩ rfl ?_
 refine xsr<|xr 1 rfl<|xne<|xsq<|xsr<|xr 1 rfl<|xne<|xbl ?_
 intro a HF
 refine wc_loop (ι := Nat) (fun i a w => (i ≤ es.length ∧ ∀ j, j < i → (es.getD j EntryD.zero).fName ≠ s) ∧ Fr 20 a [(0, .slice aoE es.length cpE), (1, .string s), (4, .int .i64 0), (5, .int .i64 (i : Int))] ∧ St w0 ([]) w) (fun i => es.length - i) 0 ⟨⟨Nat.zero_le _, fun j hj => absurd hj (Nat.not_lt_zero _)⟩, HF.less _ ⟨rfl, rfl, rfl, rfl, trivial⟩, HS.out⟩ ?_
 clear HF HS; clear a
 rintro i a w1 ⟨⟨hi, hal⟩, HF, HS⟩
 replace HS := Bx.mk HS
 revert a;refine xsq<|xsr<|xr 2 rfl<|xy rfl (vn 118 2 rfl)<|xr 1 rfl<|xne<|xcs 9 rfl (fun cc1=>?_) fun cc1=>?_
 have dcc1 := of_decide_eq_true cc1
 refine xct rfl<|xsk<|xet<|xsq<|xbl<|xsr<|xr 2 rfl<|xy rfl (vxr 118 i 2 rfl (RE.out.ao i (by omega)))<|xy rfl (vf 0 rfl)<|xy rfl (fun a HF=>ylo (v := .string ((es.getD i EntryD.zero).fName)) rfl (HF.ev rfl) (RE.out.elem HS.out (get_getD (xs := es) (j := i) (d := EntryD.zero) (by omega)) 0 _ rfl))<|xr 1 rfl<|xy rfl (fun a HF=>yl_eqlS rfl (HF.ev rfl) (HF.ev rfl))<|xne<|xcs 18 rfl (fun cc2=>?_) fun cc2=>?_
 refine xct rfl<|xsr<|xr 2 rfl<|xne<|xre<|xbr<|xtr<|xtr<|xbr<|xtr<|xb1 Tryz.results113 rfl ?_
 have hx : entIx es s = some i := entIx_is ho (o := some i) ⟨by omega, bytes_toList cc2⟩; exact ⟨by rw [hx] <;> rfl, HS.out.bel⟩
 have hne9 : (es.getD i EntryD.zero).fName ≠ s := fun e => by rw [e] at cc2; simp at cc2
 have hal2 : ∀ j, j < i + 1 → (es.getD j EntryD.zero).fName ≠ s := fun j hj => (Nat.lt_or_ge j i).elim (fun h => hal j h) (fun h => by obtain rfl : j = i := (by omega); exact hne9)
 refine xcf rfl<|xsk<|xeb<|xet<|xrl<|xr 1 rfl<|xy rfl (vad rfl)<|xr 1 rfl<|xne ?_
 intro a HF
 exact ⟨(i + 1), ⟨⟨by omega, hal2⟩, HF.less _ ⟨rfl, rfl, rfl, rfl, trivial⟩, HS.out⟩, (by omega)⟩
 have dcc1 := of_decide_eq_false cc1
 refine xcf rfl<|xex<|xtx<|xtx<|xbh<|xet<|xsr<|xr 1 rfl<|xne<|xre<|xb1 Tryz.results113 rfl ?_
 have hx : entIx es s = none := entIx_is ho (o := none) fun j hj => hal j (by omega); exact ⟨by rw [hx] <;> rfl, HS.out.bel⟩
theorem l14Names_top (s : ByteArray) (w0 : World) (h : (s.toList == (⟨#[47]⟩ : ByteArray).toList) = true) : Calls Tryz.prog 111 #[.string s] w0 fun e w' => ∃ ao cp, e = .returned (.slice ao (namesL s).length cp) ∧ Rd encS 1 w' ao (namesL s).length (namesL s) ∧ Below w0.heap.size w0 w' := by
 have HS := Bx.mk (St.start w0)
 refine wc_enter Tryz.func111 rfl Tryz.ntmps111 [(0, .string s)] ⟨rfl, trivial⟩ rfl ?_
 refine xsr<|xr 1 rfl<|xne<|xsq<|xsr<|xr 1 rfl<|xy rfl (fun a HF=>yl_eqlS rfl (HF.ev rfl) (HF.ev rfl))<|xne<|xcs 4 rfl (fun cc1=>?_) fun cc1=>?_
 refine xct rfl<|xsr ?_
 intro a HF
 refine yem 9 1 HF HS ?_;clear HF HS a;intro a w1 b1 HF HS
 revert a;refine xr 1 rfl<|xne<|xre<|xtr<|xb1 Tryz.results111 rfl ?_
 rw [namesL_sl h]; exact ⟨_, _, rfl, rd_of_nil _ _ _ _, HS.out.bel⟩
 rw [h] at cc1; cases cc1
theorem l14NamesL_any (s : ByteArray) (w0 : World) (hp : pathB s = true) (hs : s.size ≤ 4000000000) : Calls Tryz.prog 111 #[.string s] w0 fun e w' => ∃ ao cp, e = .returned (.slice ao (namesL s).length cp) ∧ Rd encS 1 w' ao (namesL s).length (namesL s) ∧ Below w0.heap.size w0 w' := by
  cases h : (s.toList == (⟨#[47]⟩ : ByteArray).toList) with
  | true => exact l14Names_top s w0 h
  | false =>
    cases h2 : (s.data.toList.head? == some 47) with
    | false => rw [pathB_no h h2] at hp; cases hp
    | true =>
      refine (l14Names_any s w0 h h2 (by omega)).mono fun e w' hx => ?_
      obtain ⟨ao, cp, e1, e2, e3⟩ := hx
      rw [namesL_rest h]
      have hl := e2.len
      rw [← hl] at e1 e2
      exact ⟨ao, cp, e1, e2, e3⟩
theorem specPathNames_any (s : ByteArray) (w0 : World) (hs : s.size ≤ 4000000000) : Calls Tryz.prog 64 #[.string s] w0 fun e w' => (pathB s = true ∧ ∃ ao cp, e = .returned (.tuple #[.slice ao (namesL s).length cp, .bool true]) ∧ St w0 [rowA encS 1 9 (.slice ao (namesL s).length cp) (namesL s)] w') ∨ (pathB s = false ∧ ∃ v, e = .returned (.tuple #[v, .bool false]) ∧ Below w0.heap.size w0 w') := by
 have HS := Bx.mk (St.start w0)
 refine wc_enter Tryz.func64 rfl Tryz.ntmps64 [(0, .string s)] ⟨rfl, trivial⟩ rfl ?_
 refine xsr<|xr 2 rfl<|xne<|xsq<|xsr<|xr 1 rfl ?_
 intro a HF
 refine ycB (specPathOk_any s _ hs) HF Tryz.func110 HS ?_; clear HF HS a; intro w1 a HS HF
 revert a;refine xr 1 rfl<|xne<|xcs 6 rfl (fun cc1=>?_) fun cc1=>?_
 have hpb : pathB s = false := by simpa using cc1
 refine xct rfl<|xsr ?_
 intro a HF
 refine yem 9 1 HF HS ?_;clear HF HS a;intro a w2 b1 HF HS
 revert a;refine xr 2 rfl<|xne<|xre<|xtr<|xb2 Tryz.results64 rfl rfl ?_
 exact .inr ⟨hpb, _, rfl, HS.out.bel⟩
 have hpb : pathB s = true := by simpa using cc1
 have hn4 := namesL_4 hpb
 refine xcf rfl<|xsk<|xet<|xsr ?_
 intro a HF
 refine yem 9 1 HF HS ?_;clear HF HS a;intro a w3 b2 HF HS
 revert a;refine xr 1 rfl ?_
 intro a HF
 refine yc (l14NamesL_any s _ hpb hs) HF Tryz.func111 ?_
 rintro _ w4 ⟨aoL, cpL, rfl, hrd, hb⟩
 refine ⟨_, rfl, ?_⟩; replace HS := Bx.mk (HS.out.later hb);clear hb HF a;intro a HF
 replace HS := Bx.mk (HS.out.nilRow encS 1 9 (some ⟨b2, 0, none⟩))
 refine wl_appL rfl HF rfl rfl rfl (HF.ev rfl) (HF.ev rfl) elemS encS_len HS.out 0 (xs := []) rfl (ys := (namesL s)) hrd (cells_one_S _) (by unfold maxLen; (try simp only [List.length_append, List.length_cons, List.length_nil, List.nil_append, List.length_map]); omega) (by (try simp only [List.length_append, List.length_cons, List.length_nil, List.nil_append, List.length_map]); omega) ?_; clear HF HS a; intro ao4 cp5 w5 a HF HS; replace HS := Bx.mk HS
 try dsimp only [List.eraseIdx] at HS
 revert a;refine xr 2 rfl<|xne<|xre<|xb2 Tryz.results64 rfl rfl ?_
 replace HS:=Bx.mk (HS.out.pick 0 rfl)
 have h0 : ([] : List ByteArray).length + (namesL s).length = (namesL s).length := Nat.zero_add _; rw [h0] at HS
 exact .inl ⟨hpb, _, _, by rw [h0], HS.out⟩
open Go.RowKit
theorem l8Get_any (a0 : Option Addr) (c0 : Nat) (a1 : Option Addr) (c1 : Nat) (a2 : Option Addr) (c2 : Nat) (a4 : Option Addr) (c4 : Nat) (a6 : Option Addr) (c6 : Nat) (st : StoreD) (t : TreeD) {x : List PtrD} (hx : downL (kidsS st) (depthN t.fMany) [t.fRoot] = some x) (hdep : t.fDepth = ((depthN t.fMany : Nat) : Int)) (hxl : x.length ≤ 16) (hxok : ∀ p ∈ x, p.ok = true) (k : Nat) (hk : k < 16) (w0 : World) (hR : Rd encS 1 w0 a0 st.fRows.length st.fRows) (hrow : RowsOk st) : Calls Tryz.prog 117 #[sV a0 c0 a1 c1 a2 c2 a4 c4 a6 c6 st, tV t, .int .i64 (k : Int)] w0 fun e w' => e = .returned (.string (readT st ((wideL x).getD k PtrD.zero))) ∧ Below w0.heap.size w0 w' := by
 have HR := Bx.mk hR; clear hR
 have HS := Bx.mk (St.start w0)
 refine wc_enter Tryz.func117 rfl Tryz.ntmps117 [(0, sV a0 c0 a1 c1 a2 c2 a4 c4 a6 c6 st), (1, tV t), (2, .int .i64 (k : Int))] ⟨rfl, rfl, rfl, trivial⟩ rfl ?_
 refine xsr ?_
 intro a HF
 refine ybx HF HS ?_;clear HF HS a;intro a w1 b1 HF HS
 refine ybx HF HS ?_;clear HF HS a;intro a w2 b2 HF HS
 revert a;refine xr 1 rfl<|xne<|xsr<|xy rfl (vw HS.out 1 8 rfl rfl)<|xy rfl (vw HS.out 0 7 rfl rfl) ?_
 intro a HF
 refine yc (l8Wide_any a0 c0 a1 c1 a2 c2 a4 c4 a6 c6 st t hx hdep hxl _ (HR.out.below HS.out.bel) hrow) HF Tryz.func173 ?_
 rintro _ w3 ⟨ao3, cp3, rfl, hs⟩
 refine ⟨_, rfl, ?_⟩
 replace HS := Bx.mk (HS.out.add hs);clear hs HF a;intro a HF
 try dsimp only [List.eraseIdx] at HS
 revert a;refine xr 1 rfl<|xne<|xsq ?_
 have hwl := wideL_len hxl; have hwok := wideL_ok hxok
 obtain ⟨g4, rfl, _, _, _, _⟩ := HS.out.rowOpen 0 rfl (by omega)
 intro a HF
 refine wr_quiet (by kernel_rfl) (by kernel_rfl) HS.out ?_
 revert a;refine xq rfl (fun HS=>vw HS 2 8 rfl rfl)<|xqr 2 rfl<|xq rfl (fun HS=>vx 42 k 5 rfl)<|xq rfl (fun HS a HF=>ylr (cs := pL ((wideL x).getD k PtrD.zero)) rfl (HF.ev rfl) (HS.elem PtrD.cells_len 0 rfl (get_getD (xs := wideL x) (j := k) (d := PtrD.zero) (by omega)))) ?_
 intro a HF
 refine yq (fun _ HS => (l7Read_any a0 c0 a1 c1 a2 c2 a4 c4 a6 c6 st ((wideL x).getD k PtrD.zero) _ (HR.out.below HS.bel) hrow (hwok _ (getD_mem (by omega))))) HF Tryz.func138 ?_; clear HF a
 refine xqr 5 rfl ?_
 intro a HF
 refine wpQuiet_nil ?_; intro w4 HS; replace HS := Bx.mk HS
 revert a;refine xet<|xsr<|xr 2 rfl<|xne<|xre<|xb1 Tryz.results117 rfl ?_
 exact ⟨rfl, HS.out.bel⟩
open Go.RowKit
theorem TreeX.at {st : StoreD} {t : TreeD} {x l : List PtrD} (X : TreeX st t x l) {k : Nat} (h : k < l.length) : (wideL x).getD k PtrD.zero = l.getD k PtrD.zero := by
  have h2 : k < t.fMany.toNat := by have := X.len; omega
  conv => rhs; rw [← X.tk]
  rw [List.getD_eq_getElem?_getD, List.getD_eq_getElem?_getD, List.getElem?_take_of_lt h2]
def nodeK (ns : List (Option NodeD)) (k : Nat) : NodeD := (ns.getD k none).getD NodeD.zero
theorem nodeK_some {ns : List (Option NodeD)} {k : Nat} {n : NodeD} (h : ns.getD k none = some n) : nodeK ns k = n := by unfold nodeK; rw [h]; rfl
theorem nodeK_none {ns : List (Option NodeD)} {k : Nat} (h : ns.getD k none = none) : nodeK ns k = NodeD.zero := by unfold nodeK; rw [h]; rfl
theorem entF_zero {st : StoreD} : entF st NodeD.zero = none := by unfold entF; rfl
theorem entF_entK {st : StoreD} {ns : List (Option NodeD)} (H : NodesOk ns) (k : Nat) : entK st ns k = (entF st (nodeK ns k)).getD [] := by
  cases hn : ns.getD k none with
  | none => rw [entK_none hn, nodeK_none hn, entF_zero]; rfl
  | some n =>
    rw [nodeK_some hn]
    have hk := (NodeD.ok_is (H.ok k n hn)).small.kind
    cases hf : (n.fKind == 1) with
    | true =>
      have h1 : n.fKind = 1 := by simpa using hf
      rw [entK_file hn hf, entF_no (.inr (by rw [h1]; rfl))]; rfl
    | false =>
      have h2 : (n.fKind == 2) = true := by
        rcases hk with hk | hk
        · rw [hk] at hf; cases hf
        · rw [hk]; rfl
      rw [entF_yes (H.ok k n hn) h2]
      cases hd : dirF st n with
      | none => unfold entK; rw [hn]; show (bif _ then _ else _) = _; rw [hf, hd]; rfl
      | some es => rw [entK_dir hn hf hd]; rfl
theorem entK_yes {st : StoreD} {ns : List (Option NodeD)} (H : NodesOk ns) {k : Nat} {es : List EntryD} (h : entF st (nodeK ns k) = some es) : entK st ns k = es := by rw [entF_entK H k, h]; rfl
theorem entK_no {st : StoreD} {ns : List (Option NodeD)} (H : NodesOk ns) {k : Nat} (h : entF st (nodeK ns k) = none) : entK st ns k = [] := by rw [entF_entK H k, h]; rfl
theorem entIx_nil (s : ByteArray) : entIx [] s = none := entIx_is (o := none) (entsOk_mk (fun i hi => absurd hi (Nat.not_lt_zero _)) (Nat.zero_le _)) fun i hi => absurd hi (Nat.not_lt_zero _)
theorem l11Get_any (a0 : Option Addr) (c0 : Nat) (a1 : Option Addr) (c1 : Nat) (a2 : Option Addr) (c2 : Nat) (a4 : Option Addr) (c4 : Nat) (a6 : Option Addr) (c6 : Nat) (st : StoreD) (t : TreeD) {ns : List (Option NodeD)} (htb : tabF st t = some ns) (k : Nat) (w0 : World) (hR : Rd encS 1 w0 a0 st.fRows.length st.fRows) (hrow : RowsOk st) (h0 : 0 ≤ st.fTxg) : Calls Tryz.prog 68 #[sV a0 c0 a1 c1 a2 c2 a4 c4 a6 c6 st, tV t, .int .i64 (k : Int)] w0 fun e w' => e = .returned (.tuple #[nV (nodeK ns k), .bool (ns.getD k none).isSome]) ∧ Below w0.heap.size w0 w' := by
 have HR := Bx.mk hR; clear hR
 have HS := Bx.mk (St.start w0)
 obtain ⟨l, hlf, htL, hlen⟩ := tabF_is htb; obtain ⟨x, X⟩ := treeX h0 hlf; have hll := X.len; have hmm := X.many; have hlm : (l.map (readT st)).length = l.length := List.length_map ..; have h16 := leaves_16 hlf
 refine wc_enter Tryz.func68 rfl Tryz.ntmps68 [(0, sV a0 c0 a1 c1 a2 c2 a4 c4 a6 c6 st), (1, tV t), (2, .int .i64 (k : Int))] ⟨rfl, rfl, rfl, trivial⟩ rfl ?_
 refine xsr ?_
 intro a HF
 refine ybx HF HS ?_;clear HF HS a;intro a w1 b1 HF HS
 refine ybx HF HS ?_;clear HF HS a;intro a w2 b2 HF HS
 refine yal z10 HF HS ?_;clear HF HS a;intro a w3 b3 HF HS
 revert a;refine xr 1 rfl<|xne<|xsq<|xsr<|xr 1 rfl<|xy rfl (vf 6 rfl)<|xy rfl (vc HS.out 1 rfl rfl)<|xy rfl (fun a HF=>yl_subI rfl (HF.ev rfl) (HF.ev rfl) (i64w (by omega))) ?_
 intro a HF
 refine ycB ((l6In_any (k : Int) 0 (t.fMany - 1) _).mono fun _ _ h => ⟨h.1, h.2 ▸ Below.refl _ _⟩) HF Tryz.func82 HS ?_; clear HF HS a; intro w4 a HS HF
 revert a;refine xr 1 rfl<|xne<|xcs 13 rfl (fun cc1=>?_) fun cc1=>?_
 have hin : inB (k : Int) 0 (t.fMany - 1) = false := by simpa using cc1
 refine xct rfl<|xsr<|xy rfl (vb z10 rfl) ?_
 intro a HF
 refine yst HF HS 0 ?_;clear HS;intro w5 HS
 try dsimp only [List.set] at HS
 revert a;refine xr 1 rfl<|xne<|xre<|xtr ?_
 intro a HF
 refine bp_ret2 HF Tryz.results68 (HF.resBox rfl (HS.out.box 0 rfl) (by kernel_rfl)) (HF.res rfl) ?_
 have hnk : ns.getD k none = none := by have e9 : ((ns.length : Int) - 1) = t.fMany - 1 := (by omega); rw [← e9] at hin; rcases node_out hin with h | h; (· omega); (· simpa using h)
 exact ⟨by rw [nodeK_none hnk, hnk] <;> rfl, HS.out.bel⟩
 have hin : inB (k : Int) 0 (t.fMany - 1) = true := by simpa using cc1
 have hkk := inB_true hin
 refine xcf rfl<|xsk<|xet<|xsr<|xy rfl (vw HS.out 2 8 rfl rfl)<|xy rfl (vw HS.out 1 7 rfl rfl)<|xr 1 rfl ?_
 intro a HF
 refine ycB (l8Get_any a0 c0 a1 c1 a2 c2 a4 c4 a6 c6 st t X.dn X.dep X.x16 X.xok k (by omega) _ (HR.out.below HS.out.bel) hrow) HF Tryz.func117 HS ?_; clear HF HS a; intro w6 a HS HF
 have hkl : k < l.length := by omega
 have hat := tabL_at htL k hkl
 have hxa := X.at hkl
 refine yc (specNodeGet_any (readT st ((wideL x).getD k PtrD.zero)) _ (readT_le hrow _)) HF Tryz.func116 ?_
 rintro _ w7 (⟨n, hno, hnb, rfl, hb⟩ | ⟨hnn, rfl, hb⟩)
 rw [hxa] at hnb; have hnk : ns.getD k none = some n := tabAt_some hat hno hnb
 refine ⟨_, rfl, ?_⟩; replace HS := Bx.mk (HS.out.later hb);clear hb HF a
 refine xr 2 rfl ?_
 intro a HF
 refine yst HF HS 0 ?_;clear HS;intro w8 HS
 try dsimp only [List.set] at HS
 revert a;refine xr 1 rfl<|xne<|xre ?_
 intro a HF
 refine bp_ret2 HF Tryz.results68 (HF.resBox rfl (HS.out.box 0 rfl) (by kernel_rfl)) (HF.res rfl) ?_
 exact ⟨by rw [nodeK_some hnk, hnk] <;> rfl, HS.out.bel⟩
 rw [hxa] at hnn; have hnk : ns.getD k none = none := tabAt_none hat hnn
 refine ⟨_, rfl, ?_⟩; replace HS := Bx.mk (HS.out.later hb);clear hb HF a
 refine xr 2 rfl ?_
 intro a HF
 refine yst HF HS 0 ?_;clear HS;intro w9 HS
 try dsimp only [List.set] at HS
 revert a;refine xr 1 rfl<|xne<|xre ?_
 intro a HF
 refine bp_ret2 HF Tryz.results68 (HF.resBox rfl (HS.out.box 0 rfl) (by kernel_rfl)) (HF.res rfl) ?_
 exact ⟨by rw [nodeK_none hnk, hnk] <;> rfl, HS.out.bel⟩
theorem l12At_nil (ae : Option Addr) (s : ByteArray) (w0 : World) : Calls Tryz.prog 113 #[.slice ae 0 0, .string s] w0 fun e w' => e = .returned (.int .i64 (-1)) ∧ Below w0.heap.size w0 w' := by
  refine (l12At_any ae 0 [] s w0 (entsOk_mk (fun i hi => absurd hi (Nat.not_lt_zero _)) (Nat.zero_le _)) (rd_of_nil _ _ _ _)).mono fun e w' h => ?_
  rw [entIx_nil] at h; exact h
theorem findI_lt {o : Option Nat} (h : ¬ findI o < 0) : ∃ j, o = some j := by
  cases o with
  | none => exact absurd (by show (-1 : Int) < 0; omega) h
  | some j => exact ⟨j, rfl⟩
theorem findI_neg {o : Option Nat} (h : findI o < 0) : o = none := by
  cases o with
  | none => rfl
  | some j => have h' : (j : Int) < 0 := h; omega
set_option maxHeartbeats 2000000 in
theorem l15Find_any (a0 : Option Addr) (c0 : Nat) (a1 : Option Addr) (c1 : Nat) (a2 : Option Addr) (c2 : Nat) (a4 : Option Addr) (c4 : Nat) (a6 : Option Addr) (c6 : Nat) (st : StoreD) (t : TreeD) {ns : List (Option NodeD)} (htb : tabF st t = some ns) (H : NodesOk ns) (aoM : Option Addr) (cpM : Nat) (nms : List ByteArray) (w0 : World) (hR : Rd encS 1 w0 a0 st.fRows.length st.fRows) (hrow : RowsOk st) (h0 : 0 ≤ st.fTxg) (hl : nms.length ≤ 100) (hN : Rd encS 1 w0 aoM nms.length nms) : Calls Tryz.prog 66 #[sV a0 c0 a1 c1 a2 c2 a4 c4 a6 c6 st, tV t, .slice aoM nms.length cpM] w0 fun e w' => e = .returned (.int .i64 (findI (findN st ns nms 0))) ∧ Below w0.heap.size w0 w' := by
 obtain ⟨g1, o1, r1⟩ := hN.opn; have RM := Bx.mk r1; clear r1
 have HR := Bx.mk hR; clear hR
 have HS := Bx.mk (St.start w0)
 refine wc_enter Tryz.func66 rfl Tryz.ntmps66 [(0, sV a0 c0 a1 c1 a2 c2 a4 c4 a6 c6 st), (1, tV t), (2, .slice aoM nms.length cpM)] ⟨rfl, rfl, rfl, trivial⟩ rfl ?_
 refine xsr ?_
 intro a HF
 refine ybx HF HS ?_;clear HF HS a;intro a w1 b1 HF HS
 refine ybx HF HS ?_;clear HF HS a;intro a w2 b2 HF HS
 revert a;refine xr 1 rfl<|xne<|xsr<|xr 1 rfl<|xne<|xsq<|xsr<|xr 1 rfl<|xne<|xbl ?_
 intro a HF
 refine wc_loop (ι := Nat) (fun i a w => ∃ (k : Nat), (i ≤ nms.length ∧ findN st ns nms 0 = findN st ns (nms.drop i) k) ∧ Fr 51 a [(2, .slice aoM nms.length cpM), (3, .pointer (some ⟨b1, 0, none⟩)), (4, .pointer (some ⟨b2, 0, none⟩)), (7, .int .i64 (k : Int)), (8, .int .i64 (i : Int))] ∧ St w0 ([boxA b2 7 44 (tV t), boxA b1 8 40 (sV a0 c0 a1 c1 a2 c2 a4 c4 a6 c6 st)]) w) (fun i => nms.length - i) 0 ⟨0, ⟨Nat.zero_le _, rfl⟩, HF.less _ ⟨rfl, rfl, rfl, rfl, rfl, trivial⟩, HS.out⟩ ?_
 clear HF HS; clear a
 rintro i a w3 ⟨k, ⟨hi, hfn⟩, HF, HS⟩
 replace HS := Bx.mk HS
 revert a;refine xsq<|xsr<|xr 2 rfl<|xy rfl (vn 9 1 rfl)<|xr 1 rfl<|xne<|xcs 17 rfl (fun cc1=>?_) fun cc1=>?_
 have dcc1 := of_decide_eq_true cc1
 refine xct rfl<|xsk<|xet<|xsq<|xbl<|xsr<|xy rfl (vw HS.out 1 8 rfl rfl)<|xy rfl (vw HS.out 0 7 rfl rfl)<|xr 1 rfl ?_
 intro a HF
 refine ycB (l11Get_any a0 c0 a1 c1 a2 c2 a4 c4 a6 c6 st t htb k _ (HR.out.below HS.out.bel) hrow h0) HF Tryz.func68 HS ?_; clear HF HS a; intro w4 a HS HF
 revert a;refine xr 3 rfl ?_
 intro a HF
 refine yal z10 HF HS ?_;clear HF HS a;intro a w5 b3 HF HS
 refine yst HF HS 0 ?_;clear HS;intro w6 HS
 try dsimp only [List.set] at HS
 revert a;refine xr 1 rfl<|xne<|xsr<|xy rfl (vw HS.out 2 8 rfl rfl)<|xy rfl (vw HS.out 0 10 rfl rfl) ?_
 intro a HF
 refine yc (l15Entries_any a0 c0 a1 c1 a2 c2 a4 c4 a6 c6 st (nodeK ns k) _ (HR.out.below HS.out.bel) hrow h0) HF Tryz.func71 ?_
 rintro _ w7 (⟨es, hes, aoE, cpE, rfl, hs1⟩ | ⟨hes, ae, rfl, hb⟩)
 have hek := entK_yes H hes; have hoe : entsOk es = true := by rw [← hek]; exact entK_ok k
 refine ⟨_, rfl, ?_⟩; replace HS := Bx.mk (HS.out.add hs1);clear hs1 HF a;intro a HF
 try dsimp only [List.eraseIdx] at HS
 revert a;refine xr 5 rfl<|xne<|xsr<|xr 3 rfl<|xy rfl (vxr 9 i 1 rfl (RM.out.ao i (by omega)))<|xy rfl (fun a HF=>ylo (v := .string (nms.getD i ByteArray.empty)) rfl (HF.ev rfl) (RM.out.elem1 HS.out (get_getD (xs := nms) (j := i) (d := ByteArray.empty) (by omega)) rfl)) ?_
 intro a HF
 refine ycB (l12At_any _ _ es (nms.getD i ByteArray.empty) _ hoe (St.rdOf HS.out EntryD.cells_len 0 rfl)) HF Tryz.func113 HS ?_; clear HF HS a; intro w8 a HS HF
 revert a;refine xr 1 rfl<|xne<|xsq<|xsr<|xr 6 rfl<|xne<|xcs 44 rfl (fun cc2=>?_) fun cc2=>?_
 have dcc2 := of_decide_eq_true cc2
 have hix : entIx es (nms.getD i ByteArray.empty) = none := findI_neg (by first | exact of_decide_eq_true cc2 | exact dcc2)
 refine xct rfl<|xsr<|xr 1 rfl<|xne<|xre<|xtr<|xbr<|xtr<|xtr<|xbr<|xtr<|xb1 Tryz.results66 rfl ?_
 exact ⟨by rw [hfn, drop_at (by omega), findN_no (by rw [hek]; exact hix)] <;> rfl, HS.out.bel⟩
 have dcc2 := of_decide_eq_false cc2
 obtain ⟨j, hix⟩ := findI_lt (o := entIx es (nms.getD i ByteArray.empty)) (by first | exact of_decide_eq_false cc2 | exact dcc2)
 have hat9 := entIx_at es (nms.getD i ByteArray.empty); rw [hix] at hat9; obtain ⟨hlt9, _⟩ := hat9; have hid9 := (ent_nat (st := st) (ns := ns) (k := k) (by rw [hek]; exact getE_mem hlt9)).1
 refine xcf rfl<|xsk<|xet ?_
 intro a HF
 rw [hix, findI_some] at HF
 obtain ⟨g4, rfl, _, _, _, _⟩ := HS.out.rowOpen 0 rfl (by omega)
 revert a;refine xrl<|xr 2 rfl<|xy rfl (vx 118 j 2 rfl)<|xy rfl (vf 1 rfl)<|xy rfl (fun a HF=>ylo (v := .int .i64 ((es.getD j EntryD.zero).fId)) rfl (HF.ev rfl) (HS.out.elem EntryD.cells_len 0 rfl (get_getD (xs := es) (j := j) (d := EntryD.zero) (by omega)) 1 _ rfl))<|xr 1 rfl<|xni<|xeb<|xet<|xrl<|xr 1 rfl<|xy rfl (vad rfl)<|xr 1 rfl<|xne ?_
 have hfn2 : findN st ns nms 0 = findN st ns (nms.drop (i + 1)) (es.getD j EntryD.zero).fId.toNat := by rw [hfn, drop_at (by omega), findN_yes (by rw [hek]; exact hix), hek]
 replace HS:=Bx.mk ((HS.out.pick 3 rfl).pick 3 rfl)
 intro a HF
 exact ⟨(i + 1), ⟨_, ⟨by omega, hfn2⟩, HF.less _ ⟨rfl, rfl, rfl, (by show some (Value.int .i64 _) = some (Value.int .i64 _); rw [hid9]), rfl, trivial⟩, ((HS.out.erase 3).erase 2)⟩, (by omega)⟩
 have hek := entK_no H hes
 refine ⟨_, rfl, ?_⟩; replace HS := Bx.mk (HS.out.later hb);clear hb HF a
 refine xr 5 rfl<|xne<|xsr<|xr 3 rfl<|xy rfl (vxr 9 i 1 rfl (RM.out.ao i (by omega)))<|xy rfl (fun a HF=>ylo (v := .string (nms.getD i ByteArray.empty)) rfl (HF.ev rfl) (RM.out.elem1 HS.out (get_getD (xs := nms) (j := i) (d := ByteArray.empty) (by omega)) rfl)) ?_
 intro a HF
 refine ycB (l12At_nil _ (nms.getD i ByteArray.empty) _) HF Tryz.func113 HS ?_; clear HF HS a; intro w9 a HS HF
 revert a;refine xr 1 rfl<|xne<|xsq<|xsr<|xr 6 rfl<|xne<|xct rfl<|xsr<|xr 1 rfl<|xne<|xre<|xtr<|xbr<|xtr<|xtr<|xbr<|xtr<|xb1 Tryz.results66 rfl ?_
 exact ⟨by rw [hfn, drop_at (by omega), findN_no (by rw [hek]; exact entIx_nil _)] <;> rfl, HS.out.bel⟩
 have dcc1 := of_decide_eq_false cc1
 refine xcf rfl<|xex<|xtx<|xtx<|xbh<|xet<|xsr<|xr 2 rfl<|xne<|xre<|xb1 Tryz.results66 rfl ?_
 obtain rfl : i = nms.length := by omega
 rw [List.drop_length, findN_nil] at hfn; exact ⟨by rw [hfn] <;> rfl, HS.out.bel⟩
theorem findX_bad {st : StoreD} {t : TreeD} {s : ByteArray} (h : pathB s = false) : findX st t s = -1 := by
  cases hf : filesF st t with
  | none => exact findX_no hf
  | some ns => rw [findX_yes hf, pathI_no h]
theorem specFilesFind_any (a0 : Option Addr) (c0 : Nat) (a1 : Option Addr) (c1 : Nat) (a2 : Option Addr) (c2 : Nat) (a4 : Option Addr) (c4 : Nat) (a6 : Option Addr) (c6 : Nat) (st : StoreD) (t : TreeD) (s : ByteArray) (w0 : World) (hV0 : StoreD.Reads w0 (sV a0 c0 a1 c1 a2 c2 a4 c4 a6 c6 st) st) (hf : st.Fit) (hi : -9223372036854775808 ≤ st.fTxg) (hs : s.size ≤ 4000000000) : Calls Tryz.prog 21 #[sV a0 c0 a1 c1 a2 c2 a4 c4 a6 c6 st, tV t, .string s] w0 fun e w' => e = .returned (.tuple #[.int .i64 (max (findX st t s) 0), .bool (decide (0 ≤ findX st t s))]) ∧ Below w0.heap.size w0 w' := by
 have hV := Bx.mk hV0; clear hV0
 have HS := Bx.mk (St.start w0)
 refine wc_enter Tryz.func21 rfl Tryz.ntmps21 [(0, sV a0 c0 a1 c1 a2 c2 a4 c4 a6 c6 st), (1, tV t), (2, .string s)] ⟨rfl, rfl, rfl, trivial⟩ rfl ?_
 refine xsr ?_
 intro a HF
 refine ybx HF HS ?_;clear HF HS a;intro a w1 b1 HF HS
 refine ybx HF HS ?_;clear HF HS a;intro a w2 b2 HF HS
 revert a;refine xr 2 rfl<|xne<|xsr<|xr 1 rfl ?_
 intro a HF
 refine yc (specPathNames_any s _ hs) HF Tryz.func64 ?_
 rintro _ w3 (⟨hpb, aoP, cpP, rfl, hs1⟩ | ⟨hpb, vp, rfl, hb⟩)
 refine ⟨_, rfl, ?_⟩; replace HS := Bx.mk (HS.out.add hs1);clear hs1 HF a;intro a HF
 try dsimp only [List.eraseIdx] at HS
 have hn4 := namesL_4 hpb
 revert a;refine xr 5 rfl<|xne<|xsq<|xsr<|xr 3 rfl<|xy rfl (vw HS.out 2 8 rfl rfl)<|xy rfl (vw HS.out 1 7 rfl rfl) ?_
 intro a HF
 refine ycBg (specFilesOk_any a0 c0 a1 c1 a2 c2 a4 c4 a6 c6 st t _ (hV.out.below HS.out.bel) hf hi) HF Tryz.func65 HS ?_; clear HF HS a; intro w4 a HS HF
 revert a;refine xr 2 rfl<|xne<|xcs 23 rfl (fun cc1=>?_) fun cc1=>?_
 have hokt : (filesF st t).isSome = false := by simpa using cc1
 refine xct rfl<|xsr<|xr 2 rfl<|xne<|xre<|xtr<|xb2 Tryz.results21 rfl rfl ?_
 exact ⟨by rw [findX_no (Option.isNone_iff_eq_none.1 (by simpa using hokt))] <;> rfl, HS.out.bel⟩
 have hokt : (filesF st t).isSome = true := by simpa using cc1
 obtain ⟨ns, hff⟩ := Option.isSome_iff_exists.1 hokt; obtain ⟨htT, _⟩ := filesF_is hff; obtain ⟨hsok, htb⟩ := tabT_is htT; have h0 : 0 ≤ st.fTxg := by have := (StoreD.ok_spec hsok).txg; omega
 have hfx : findX st t s = findI (findN st ns (namesL s) 0) := by rw [findX_yes hff, pathI_yes hpb]
 refine xcf rfl<|xsk<|xet<|xsr<|xy rfl (vw HS.out 2 8 rfl rfl)<|xy rfl (vw HS.out 1 7 rfl rfl)<|xr 1 rfl ?_
 intro a HF
 refine ycB (l15Find_any a0 c0 a1 c1 a2 c2 a4 c4 a6 c6 st t htb (tabF_nodes htb) _ _ (namesL s) _ ((reads_rows hV.out).below HS.out.bel) (ok_rows hsok) h0 (by omega) (St.rdOf HS.out encS_len 0 rfl)) HF Tryz.func66 HS ?_; clear HF HS a; intro w5 a HS HF
 revert a;refine xr 1 rfl<|xne<|xsq<|xsr<|xr 2 rfl<|xne<|xcs 29 rfl (fun cc2=>?_) fun cc2=>?_
 have dcc2 := of_decide_eq_true cc2
 refine xct rfl<|xsr<|xr 2 rfl<|xne<|xre<|xtr<|xb2 Tryz.results21 rfl rfl ?_
 have hnn : findN st ns (namesL s) 0 = none := findI_neg (by first | exact of_decide_eq_true cc2 | exact dcc2)
 exact ⟨by rw [hfx, hnn] <;> rfl, HS.out.bel⟩
 have dcc2 := of_decide_eq_false cc2
 refine xcf rfl<|xsk<|xet<|xsr<|xr 3 rfl<|xne<|xre<|xb2 Tryz.results21 rfl rfl ?_
 have hge : 0 ≤ findX st t s := by have := dcc2; omega
 exact ⟨by rw [show max (findX st t s) 0 = findI (findN st ns (namesL s) 0) from by rw [← hfx]; omega, decide_eq_true hge], HS.out.bel⟩
 refine ⟨_, rfl, ?_⟩; replace HS := Bx.mk (HS.out.later hb);clear hb HF a
 refine xr 5 rfl<|xne<|xsq<|xsr<|xr 8 rfl<|xne<|xct rfl<|xsr<|xr 2 rfl<|xne<|xre<|xtr<|xb2 Tryz.results21 rfl rfl ?_
 exact ⟨by rw [findX_bad hpb] <;> rfl, HS.out.bel⟩
open Go.RowKit
theorem toTree2_any (t : TreeD) (w0 : World) : Calls Tryz.prog 14 #[tV t] w0 fun e w' => e = .returned (tV t) ∧ Below w0.heap.size w0 w' := by
 have HS := Bx.mk (St.start w0)
 refine wc_enter Tryz.func14 rfl Tryz.ntmps14 [(0, tV t)] ⟨rfl, trivial⟩ rfl ?_
 refine xsr ?_
 intro a HF
 refine ybx HF HS ?_;clear HF HS a;intro a w1 b1 HF HS
 refine yal z7 HF HS ?_;clear HF HS a;intro a w2 b2 HF HS
 refine wl_ne<|wp_sr ?_
 refine yal z7 HF HS ?_;clear HF HS a;intro a w3 b3 HF HS
 revert a;refine xne<|xsr<|xy rfl (vf 0 rfl)<|xy rfl (vw HS.out 2 5 rfl rfl) ?_
 intro a HF
 refine ycB (toPtr_any t.fRoot _) HF Tryz.func52 HS ?_; clear HF HS a; intro w4 a HS HF
 revert a;refine xy rfl (vf 0 rfl) ?_
 intro a HF
 refine wl_storeSub rfl rfl rfl (HF.ev rfl) (HF.ev rfl) HS.out 0 rfl (by kernel_rfl) rfl (by kernel_rfl) (rs := [.int .i64 t.fRoot.fAt, .int .i64 t.fRoot.fBirth, .int .i64 t.fRoot.fSize, .int .i64 t.fRoot.fSum, .int .i64 t.fRoot.fLevel, .int .i64 0, .int .i64 0]) rfl ?_; clear HS; intro w5 HS; replace HS := Bx.mk HS
 try dsimp only [List.set] at HS
 revert a;refine xne<|xsr<|xy rfl (vf 5 rfl)<|xy rfl (vc HS.out 2 rfl rfl)<|xy rfl (vf 5 rfl) ?_
 intro a HF
 refine wl_storeF rfl rfl rfl (HF.ev rfl) (HF.ev rfl) (by kernel_rfl) HS.out 0 rfl rfl rfl ?_; clear HS; intro w6 HS; replace HS := Bx.mk HS
 try dsimp only [List.set] at HS
 revert a;refine xne<|xsr<|xy rfl (vf 6 rfl)<|xy rfl (vc HS.out 2 rfl rfl)<|xy rfl (vf 6 rfl) ?_
 intro a HF
 refine wl_storeF rfl rfl rfl (HF.ev rfl) (HF.ev rfl) (by kernel_rfl) HS.out 0 rfl rfl rfl ?_; clear HS; intro w7 HS; replace HS := Bx.mk HS
 try dsimp only [List.set] at HS
 revert a;refine xne<|xsr<|xy rfl (vw HS.out 0 7 rfl rfl) ?_
 intro a HF
 refine yst HF HS 1 ?_;clear HS;intro w8 HS
 try dsimp only [List.set] at HS
 refine wl_ne<|wp_ret ?_
 refine bp_ret1 HF Tryz.results14 (HF.resBox rfl (HS.out.box 1 rfl) (by kernel_rfl)) ?_
 exact ⟨rfl, HS.out.bel⟩
open Go.RowKit
theorem implFilesFind_v (v : Value) (st : StoreD) (t : TreeD) (s : ByteArray) (w0 : World) (hT : TabP w0) (hM : MaxP w0) (hE : ErrP w0) (hr : StoreD.Reads w0 v st) (hf : st.Fit) (hs : s.size ≤ 4000000000) : Calls Tryz.prog 22 #[v, .agg #[.int .i64 t.fRoot.fAt, .int .i64 t.fRoot.fBirth, .int .i64 t.fRoot.fSize, .int .i64 t.fRoot.fSum, .int .i64 t.fRoot.fLevel, .int .i64 t.fDepth, .int .i64 t.fMany], .string s] w0 fun e w' => e = .returned (.tuple #[.int .i64 (max (findX st t s) 0), .bool (decide (0 ≤ findX st t s))]) ∧ Below w0.heap.size w0 w' := by
  have hr2 := hr
  obtain ⟨a0, c0, a1, c1, a2, c2, a4, c4, a6, c6, rfl, _⟩ := hr
  exact implFilesFind_any a0 c0 a1 c1 a2 c2 a4 c4 a6 c6 st t s w0 hT hM hE hr2 hf hs
theorem specFilesFind_v (v : Value) (st : StoreD) (t : TreeD) (s : ByteArray) (w0 : World) (hr : StoreD.Reads w0 v st) (hf : st.Fit) (hi : -9223372036854775808 ≤ st.fTxg) (hs : s.size ≤ 4000000000) : Calls Tryz.prog 21 #[v, .agg #[.int .i64 t.fRoot.fAt, .int .i64 t.fRoot.fBirth, .int .i64 t.fRoot.fSize, .int .i64 t.fRoot.fSum, .int .i64 t.fRoot.fLevel, .int .i64 t.fDepth, .int .i64 t.fMany], .string s] w0 fun e w' => e = .returned (.tuple #[.int .i64 (max (findX st t s) 0), .bool (decide (0 ≤ findX st t s))]) ∧ Below w0.heap.size w0 w' := by
  have hr2 := hr
  obtain ⟨a0, c0, a1, c1, a2, c2, a4, c4, a6, c6, rfl, _⟩ := hr
  exact specFilesFind_any a0 c0 a1 c1 a2 c2 a4 c4 a6 c6 st t s w0 hr2 hf hi hs
open Go.RowKit
theorem StoreD.Own.loc (w w' : World) (B B1 : Nat) (v : Value) (x : StoreD) (hb : ∀ b, B ≤ b → b < B1 → w'.heap[b]? = w.heap[b]?) (h : StoreD.Own w B B1 v x) : StoreD.Own w' B B1 v x := by
  obtain ⟨a0, c0, a1, c1, a2, c2, a4, c4, a6, c6, rfl, r0, r1, r2, r4, r6, p0_1, p0_2, p0_4, p0_6, p1_2, p1_4, p1_6, p2_4, p2_6, p4_6⟩ := h
  exact ⟨a0, c0, a1, c1, a2, c2, a4, c4, a6, c6, rfl, r0.loc hb, r1.loc hb, r2.loc hb, r4.loc hb, r6.loc hb, p0_1, p0_2, p0_4, p0_6, p1_2, p1_4, p1_6, p2_4, p2_6, p4_6⟩
open Go.RowKit
set_option maxHeartbeats 4000000 in
theorem lawFilesFind_any (va : Value) (st : StoreD) (t : TreeD) (s : ByteArray) (w0 : World) (hT : TabP w0) (hM : MaxP w0) (hE : ErrP w0) (hr : StoreD.Reads w0 va st) (hsm : st.Small) (hi : -9223372036854775808 ≤ st.fTxg) (hs : s.size < 9223372036854775808) : Calls Tryz.prog 4 #[va, tV t, .string s] w0 fun e w' => e = .returned (.bool true) ∧ Below w0.heap.size w0 w' := by
 have HT := Bx.mk hT; have HM := Bx.mk hM; have HE := Bx.mk hE; clear hT hM hE
 have HR := Bx.mk hr
 obtain ⟨a0, c0, a1, c1, a2, c2, a4, c4, a6, c6, rfl, _⟩ := hr
 have HS := Bx.mk (St.start w0)
 refine wc_enter Tryz.func4 rfl Tryz.ntmps4 [(0, sV a0 c0 a1 c1 a2 c2 a4 c4 a6 c6 st), (1, tV t), (2, .string s)] ⟨rfl, rfl, rfl, trivial⟩ rfl ?_
 refine xsr ?_
 intro a HF
 refine ybx HF HS ?_;clear HF HS a;intro a w1 b1 HF HS
 refine ybx HF HS ?_;clear HF HS a;intro a w2 b2 HF HS
 revert a;refine xr 1 rfl<|xne<|xsq<|xsr<|xr 1 rfl<|xy rfl (fun a HF=>yl_lenS rfl (HF.ev rfl) (by kernel_rfl))<|xr 1 rfl<|xne<|xcs 15 rfl (fun cc1=>?_) fun cc1=>?_
 refine xct rfl<|xsr<|xr 1 rfl<|xne<|xre<|xtr<|xb1 Tryz.results4 rfl ?_
 exact ⟨rfl, HS.out.bel⟩
 have hsz9 : s.size ≤ 1048576 := by have := of_decide_eq_false cc1; omega
 refine xcf rfl<|xsk<|xet<|xsr<|xr 1 rfl<|xne<|xsr<|xy rfl (vw HS.out 1 8 rfl rfl)<|xr 1 rfl ?_
 intro a HF
 refine ycB (szStore_any _ st 1048576 _ (by omega) (by omega) (HR.out.below HS.out.bel) hsm) HF Tryz.func11 HS ?_; clear HF HS a; intro w3 a HS HF
 revert a;refine xr 1 rfl<|xne<|xsq<|xsr<|xr 2 rfl<|xne<|xcs 20 rfl (fun cc2=>?_) fun cc2=>?_
 refine xct rfl<|xsr<|xr 1 rfl<|xne<|xre<|xtr<|xb1 Tryz.results4 rfl ?_
 exact ⟨rfl, HS.out.bel⟩
 have hbk : st.bulk ≤ 1048576 := by have := of_decide_eq_false cc2; unfold leftOf at this; split at this <;> omega
 have hf := StoreD.fit hbk
 refine xcf rfl<|xsk<|xet<|xsq ?_
 intro a HF
 refine wr_heldS (s := [boxA b2 7 32 (tV t), boxA b1 8 28 (sV a0 c0 a1 c1 a2 c2 a4 c4 a6 c6 st)]) (by kernel_rfl) (St.drew (HS.out)) ?_
 have HS2 := Bx.mk HS.out.drew; replace HS := Bx.mk (show St w0 ([boxA b2 7 32 (tV t), boxA b1 8 28 (sV a0 c0 a1 c1 a2 c2 a4 c4 a6 c6 st)]) _ from HS.out.drew)
 generalize World.drew _ = w4 at HS HS2 ⊢
 revert a;refine xhy 0 HS.out rfl rfl (fun HS=>vw HS 1 8 rfl rfl)<|xhy 2 HS.out rfl rfl (fun HS=>vw HS 0 7 rfl rfl)<|xh 4 HS.out rfl rfl rfl ?_
 intro a HF
 refine wh_one 1 (by kernel_rfl) ?_
 refine yo (toStore_any _ st _ hf (HR.out.below HS.out.bel)) HF Tryz.func13 ?_
 rintro _ w6 ⟨u3, rfl, ho, hb⟩
 refine ⟨_, rfl, ?_⟩; replace HS := Bx.mk (HS.out.later hb); replace HS2 := Bx.mk (HS2.out.add (St.ivNew (loc := StoreD.Own.loc) ho hb)); clear ho hb HF; clear a; intro a HF; refine ⟨HS.out, ?_⟩
 obtain ⟨B4, C5, hh⟩ : ∃ B B1, St w0 ([ivA StoreD.Own StoreD.Own.loc B B1 u3 st, boxA b2 7 32 (tV t), boxA b1 8 28 (sV a0 c0 a1 c1 a2 c2 a4 c4 a6 c6 st)]) w6 := ⟨_, _, HS2.out⟩; replace HS2 := Bx.mk hh; clear hh
 refine wh_one 3 (by kernel_rfl) ?_
 refine yoB (toTree2_any t _) HF Tryz.func14 ?_
 intro w7 hb; replace HS := Bx.mk (HS.out.later hb); replace HS2 := Bx.mk (HS2.out.later hb);clear hb HF a;intro a HF; refine ⟨HS.out, ?_⟩
 refine wh_one 5 (by kernel_rfl) ?_
 refine yoB (specFilesFind_v _ st t s _ (StoreD.Own.rd (HS2.out.iv 0 rfl)) hf hi (by omega)) HF Tryz.func21 ?_
 intro w8 hb; replace HS := Bx.mk (HS.out.later hb); replace HS2 := Bx.mk (HS2.out.later hb);clear hb HF a;intro a HF; refine ⟨HS.out, ?_⟩
 revert a;refine xh 6 HS.out rfl rfl rfl<|xh 7 HS.out rfl rfl rfl<|xh 8 HS.out rfl rfl rfl<|xh 9 HS.out rfl rfl rfl<|xh 10 HS.out rfl rfl rfl ?_
 intro a HF
 refine wh_done (by kernel_rfl) ?_
 replace HS := HS2; clear HS2
 revert a;refine xet<|xsr<|xy rfl (vw HS.out 2 8 rfl rfl) ?_
 intro a HF
 refine yc (toStore_any _ st _ hf (HR.out.below HS.out.bel)) HF Tryz.func13 ?_
 rintro _ w9 ⟨u6, rfl, ho, hb⟩
 refine ⟨_, rfl, ?_⟩; replace HS := Bx.mk (HS.out.add (St.ivNew (loc := StoreD.Own.loc) ho hb)); clear ho hb HF; clear a; intro a HF
 obtain ⟨B7, C8, hh⟩ : ∃ B B1, St w0 ([ivA StoreD.Own StoreD.Own.loc B B1 u6 st, ivA StoreD.Own StoreD.Own.loc B4 C5 u3 st, boxA b2 7 32 (tV t), boxA b1 8 28 (sV a0 c0 a1 c1 a2 c2 a4 c4 a6 c6 st)]) w9 := ⟨_, _, HS.out⟩; replace HS := Bx.mk hh; clear hh
 refine yal [.slice none 0 0, .slice none 0 0, .slice none 0 0, .int .i64 0, .slice none 0 0, .int .i64 0, .slice none 0 0, .bool false] HF HS ?_;clear HF HS a;intro a w10 b9 HF HS
 refine wl_storeBox rfl HF rfl rfl (HF.ev rfl) (HF.ev rfl) HS.out 0 rfl (StoreD.Own.cells (HS.out.iv 1 rfl)) (by kernel_rfl) ?_; clear HS; intro w11 HS; replace HS := Bx.mk HS
 try dsimp only [List.set] at HS
 refine wl_ne<|wp_seq ?_
 refine wr_quiet (by kernel_rfl) (by kernel_rfl) HS.out ?_
 revert a;refine xq rfl (fun HS a HF=>yl_loadB (v := u6) rfl (HF.ev rfl) (HS.box 0 rfl) (by kernel_rfl))<|xq rfl (fun HS=>vw HS 3 7 rfl rfl) ?_
 intro a HF
 refine yq (fun _ HS => toTree2_any t _) HF Tryz.func14 ?_; clear HF a
 refine xqr 1 rfl ?_
 intro a HF
 refine yq (fun _ HS => implFilesFind_v _ st t s _ (HT.out.below HS.bel) (HM.out.below HS.bel) (HE.out.below HS.bel) (StoreD.Own.rd (HS.iv 1 rfl)) hf (by omega)) HF Tryz.func22 ?_; clear HF a
 refine xqr 5 rfl ?_
 intro a HF
 refine wpQuiet_nil ?_; intro w12 HS; replace HS := Bx.mk HS
 revert a;refine xet<|xsq<|xsr<|xr 4 rfl<|xcs 43 rfl (fun cc3=>?_) fun cc3=>?_
 simp at cc3
 refine xr 2 rfl<|xy rfl (fun a HF=>yl_neqBs rfl (HF.ev rfl) (HF.ev rfl) (by kernel_rfl))<|xr 1 rfl<|xne<|xcf rfl<|xsk<|xet<|xsq<|xsq ?_
 intro a HF
 refine wr_heldS (s := [boxA b9 8 40 u6, ivA StoreD.Own StoreD.Own.loc B7 C8 u6 st, ivA StoreD.Own StoreD.Own.loc B4 C5 u3 st, boxA b2 7 32 (tV t), boxA b1 8 28 (sV a0 c0 a1 c1 a2 c2 a4 c4 a6 c6 st)]) (by kernel_rfl) (St.drew (HS.out)) ?_
 have HS2 := Bx.mk HS.out.drew; replace HS := Bx.mk (show St w0 ([boxA b9 8 40 u6, ivA StoreD.Own StoreD.Own.loc B7 C8 u6 st, ivA StoreD.Own StoreD.Own.loc B4 C5 u3 st, boxA b2 7 32 (tV t), boxA b1 8 28 (sV a0 c0 a1 c1 a2 c2 a4 c4 a6 c6 st)]) _ from HS.out.drew)
 generalize World.drew _ = w13 at HS HS2 ⊢
 revert a;refine xhy 0 HS.out rfl rfl (fun HS a HF=>yl_loadB (v := u6) rfl (HF.ev rfl) (HS.box 0 rfl) (by kernel_rfl))<|xhy 1 HS.out rfl rfl (fun HS=>vw HS 4 8 rfl rfl) ?_
 intro a HF
 refine wh_one 2 (by kernel_rfl) ?_
 refine yo (toStore_any _ st _ hf (HR.out.below HS.out.bel)) HF Tryz.func13 ?_
 rintro _ w15 ⟨u10, rfl, ho, hb⟩
 refine ⟨_, rfl, ?_⟩; replace HS := Bx.mk (HS.out.later hb); replace HS2 := Bx.mk (HS2.out.add (St.ivNew (loc := StoreD.Own.loc) ho hb)); clear ho hb HF; clear a; intro a HF; refine ⟨HS.out, ?_⟩
 obtain ⟨B11, C12, hh⟩ : ∃ B B1, St w0 ([ivA StoreD.Own StoreD.Own.loc B B1 u10 st, boxA b9 8 40 u6, ivA StoreD.Own StoreD.Own.loc B7 C8 u6 st, ivA StoreD.Own StoreD.Own.loc B4 C5 u3 st, boxA b2 7 32 (tV t), boxA b1 8 28 (sV a0 c0 a1 c1 a2 c2 a4 c4 a6 c6 st)]) w15 := ⟨_, _, HS2.out⟩; replace HS2 := Bx.mk hh; clear hh
 refine wh_one 3 (by kernel_rfl) ?_
 refine yoB (eqStore_yes _ _ st _ hf (StoreD.Own.rd (HS2.out.iv 2 rfl)) (StoreD.Own.rd (HS2.out.iv 0 rfl))) HF Tryz.func17 ?_
 intro w16 hb; replace HS := Bx.mk (HS.out.later hb); replace HS2 := Bx.mk (HS2.out.later hb);clear hb HF a;intro a HF; refine ⟨HS.out, ?_⟩
 revert a;refine xh 4 HS.out rfl rfl rfl ?_
 intro a HF
 refine wh_done (by kernel_rfl) ?_
 replace HS := HS2; clear HS2
 revert a;refine xet<|xcf rfl<|xsk<|xet<|xsr<|xr 1 rfl<|xne<|xre<|xb1 Tryz.results4 rfl ?_
 exact ⟨rfl, HS.out.bel⟩
end Go.Proofs.YtigjfacaofgjjaaGreatDoor
