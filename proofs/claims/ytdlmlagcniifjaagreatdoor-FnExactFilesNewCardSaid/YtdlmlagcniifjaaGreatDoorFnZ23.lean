/- A part of the proof in YtdlmlagcniifjaaGreatDoorFnZ32. -/
import Derived.Laws.IdiomRangeMap
import Derived.Scope
import Derived.Test.YtdlmlagcniifjaaGreatDoorFnZ22
namespace Go.Proofs.YtdlmlagcniifjaaGreatDoor
set_option linter.unusedVariables false
set_option linter.unusedSimpArgs false
set_option maxHeartbeats 1000000
set_option maxRecDepth 100000
open Go.RowKit
def objA (b : Nat) (o : Obj) : Asr := ⟨fun w f => f = [b] ∧ w.heap[b]? = some o, fun w w' f _ hb ⟨e, h⟩ => ⟨e, (hb b (by rw [e]; simp)).trans h⟩⟩
section
variable {W w : World} {s : List Asr}
theorem St.allocO (h : St W s w) (o : Obj) : St W (objA w.heap.size o :: s) (w.alloc o) :=
  St.add (ns := [objA w.heap.size o]) h ⟨(Below.refl _ _).alloc (Nat.le_refl _) _, [w.heap.size], ⟨[w.heap.size], [], rfl, ⟨rfl, heap_alloc_new w o⟩, rfl⟩, by simp, fun b hb => by
    obtain rfl : b = w.heap.size := by simpa using hb
    exact ⟨Nat.le_refl _, by rw [sz_alloc]; omega⟩⟩
end
section
variable {P : Program} {ops : Array Oper} {Q : Exit → Act → World → Prop} {rest : List Oper} {o : Oper} {a : Act} {w W : World} {N : Nat} {l : List (Nat × Value)} {s : List Asr}
theorem wl_eff (hg : o.guard = none) (hF : Fr N a l) {d : Nat} (hd : o.dst = some d) (hN : Nat.blt d N = true) {v : Value} {w' : World} (hr : (execOp a.eval o).run P w = .ok (.value v) w')
    (h : ∀ a', Fr N a' ((d, v) :: l) → wpList P ops Q rest a' w') : wpList P ops Q (o :: rest) a w := by
  refine wpList_plain hg fun K hK => ?_
  unfold Oper.wp
  rw [hr]
  exact hK _ _ (hd ▸ h _ (hF.put (Nat.le_of_ble_eq_true hN) _))
end
open Go.RowKit
instance instPtrTr : Inhabited PtrD := ⟨PtrD.zero⟩
theorem cells_one_Q (xs : List PtrD) : ∀ u ∈ xs.flatMap PtrD.cells, u.oneCell' = true := by
  intro u hu
  obtain ⟨x, _, hx⟩ := List.mem_flatMap.1 hu
  exact cells_ptr x u hx
theorem elemQ : ElemT Tryz.prog 31 35 5 40 := by
  obtain ⟨i0, hi, hz0, hz1, hz2⟩ := info_parts (P := Tryz.prog) (e := 35) (z := .agg #[.int .i64 0, .int .i64 0, .int .i64 0, .int .i64 0, .int .i64 0]) (size := 5) (bytes := 40) (by kernel_rfl)
  exact ⟨Tryz.underlying31, ⟨i0, _, hi, hz0, hz1, hz2, rfl⟩, by decide⟩
theorem implPtrFits_any (p : PtrD) (s : ByteArray) (w0 : World) (hs : s.size ≤ 9223372036854775806) : Calls Tryz.prog 126 #[pV p, .string s] w0 fun e w' => e = .returned (.bool (fitsB p s)) ∧ Below w0.heap.size w0 w' := by
 have HS := Bx.mk (St.start w0)
 refine wc_enter Tryz.func126 rfl Tryz.ntmps126 [(0, pV p), (1, .string s)] ⟨rfl, rfl, trivial⟩ rfl ?_
 refine xsr ?_
 intro a HF
 refine ybx HF HS ?_;clear HF HS a;intro a w1 b1 HF HS
 revert a;refine xr 1 rfl<|xne<|xsq ?_
 intro a HF
 refine wr_quiet (by kernel_rfl) (by kernel_rfl) HS.out ?_
 revert a;refine xq rfl (fun HS=>vw HS 0 5 rfl rfl) ?_
 intro a HF
 refine yq (fun _ HS => implPtrOk_any p _) HF Tryz.func67 ?_; clear HF a
 refine xqr 1 rfl<|xcs 7 rfl (fun cc1=>?_) fun cc1=>?_
 refine xq rfl (fun HS=>vw HS 0 5 rfl rfl) ?_
 intro a HF
 refine yqg (fun _ HS => implHole_any p _) HF Tryz.func68 ?_; clear HF a
 refine xqr 3 rfl<|xcs 12 rfl (fun cc2=>?_) fun cc2=>?_
 refine xq rfl (fun HS=>vf 2 rfl)<|xq rfl (fun HS=>vc HS 0 rfl rfl)<|xqr 1 rfl<|xq rfl (fun HS a HF=>yl_lenS rfl (HF.ev rfl) (by kernel_rfl))<|xqr 3 rfl<|xcs 19 rfl (fun cc3=>?_) fun cc3=>?_
 have dcc3 := eq_of_beq cc3
 refine xq rfl (fun HS=>vf 3 rfl)<|xq rfl (fun HS=>vc HS 0 rfl rfl)<|xqr 1 rfl ?_
 intro a HF
 refine yqg (fun _ HS => sumOfI_any s _ (by omega)) HF Tryz.func152 ?_; clear HF a
 refine xqr 3 rfl ?_
 intro a HF
 refine wpQuiet_nil ?_; intro w2 HS; replace HS := Bx.mk HS
 revert a;refine xet<|xre<|xb1 Tryz.results126 rfl ?_
 exact ⟨by simp only [fitsB, cc1, cc2, cc3, Bool.true_and, Bool.and_true, Bool.false_and, Bool.and_false, Bool.not_true, Bool.not_false, Bool.not_not], HS.out.bel⟩
 have dcc3 := ne_of_beq_false cc3
 refine xqr 7 rfl ?_
 intro a HF
 refine wpQuiet_nil ?_; intro w3 HS; replace HS := Bx.mk HS
 revert a;refine xet<|xre<|xb1 Tryz.results126 rfl ?_
 exact ⟨by simp only [fitsB, cc1, cc2, cc3, Bool.true_and, Bool.and_true, Bool.false_and, Bool.and_false, Bool.not_true, Bool.not_false, Bool.not_not], HS.out.bel⟩
 refine xqr 14 rfl ?_
 intro a HF
 refine wpQuiet_nil ?_; intro w4 HS; replace HS := Bx.mk HS
 revert a;refine xet<|xre<|xb1 Tryz.results126 rfl ?_
 exact ⟨by simp only [fitsB, cc1, cc2, Bool.true_and, Bool.and_true, Bool.false_and, Bool.and_false, Bool.not_true, Bool.not_false, Bool.not_not], HS.out.bel⟩
 refine xqr 19 rfl ?_
 intro a HF
 refine wpQuiet_nil ?_; intro w5 HS; replace HS := Bx.mk HS
 revert a;refine xet<|xre<|xb1 Tryz.results126 rfl ?_
 exact ⟨by simp only [fitsB, cc1, Bool.true_and, Bool.and_true, Bool.false_and, Bool.and_false, Bool.not_true, Bool.not_false, Bool.not_not], HS.out.bel⟩
theorem specPtrFits_any (p : PtrD) (s : ByteArray) (w0 : World) (hs : s.size ≤ 9223372036854775806) : Calls Tryz.prog 88 #[pV p, .string s] w0 fun e w' => e = .returned (.bool (fitsB p s)) ∧ Below w0.heap.size w0 w' := by
 have HS := Bx.mk (St.start w0)
 refine wc_enter Tryz.func88 rfl Tryz.ntmps88 [(0, pV p), (1, .string s)] ⟨rfl, rfl, trivial⟩ rfl ?_
 refine xsr ?_
 intro a HF
 refine ybx HF HS ?_;clear HF HS a;intro a w1 b1 HF HS
 revert a;refine xr 1 rfl<|xne<|xsq ?_
 intro a HF
 refine wr_quiet (by kernel_rfl) (by kernel_rfl) HS.out ?_
 revert a;refine xq rfl (fun HS=>vw HS 0 5 rfl rfl) ?_
 intro a HF
 refine yq (fun _ HS => specPtrOk_any p _) HF Tryz.func49 ?_; clear HF a
 refine xqr 1 rfl<|xcs 7 rfl (fun cc1=>?_) fun cc1=>?_
 refine xq rfl (fun HS=>vw HS 0 5 rfl rfl) ?_
 intro a HF
 refine yqg (fun _ HS => specHole_any p _) HF Tryz.func50 ?_; clear HF a
 refine xqr 3 rfl<|xcs 12 rfl (fun cc2=>?_) fun cc2=>?_
 refine xq rfl (fun HS=>vf 2 rfl)<|xq rfl (fun HS=>vc HS 0 rfl rfl)<|xqr 1 rfl<|xq rfl (fun HS a HF=>yl_lenS rfl (HF.ev rfl) (by kernel_rfl))<|xqr 3 rfl<|xcs 19 rfl (fun cc3=>?_) fun cc3=>?_
 have dcc3 := eq_of_beq cc3
 refine xq rfl (fun HS=>vf 3 rfl)<|xq rfl (fun HS=>vc HS 0 rfl rfl)<|xqr 1 rfl ?_
 intro a HF
 refine yqg (fun _ HS => sumOfS_any s _ (by omega)) HF Tryz.func119 ?_; clear HF a
 refine xqr 3 rfl ?_
 intro a HF
 refine wpQuiet_nil ?_; intro w2 HS; replace HS := Bx.mk HS
 revert a;refine xet<|xre<|xb1 Tryz.results88 rfl ?_
 exact ⟨by simp only [fitsB, cc1, cc2, cc3, Bool.true_and, Bool.and_true, Bool.false_and, Bool.and_false, Bool.not_true, Bool.not_false, Bool.not_not], HS.out.bel⟩
 have dcc3 := ne_of_beq_false cc3
 refine xqr 7 rfl ?_
 intro a HF
 refine wpQuiet_nil ?_; intro w3 HS; replace HS := Bx.mk HS
 revert a;refine xet<|xre<|xb1 Tryz.results88 rfl ?_
 exact ⟨by simp only [fitsB, cc1, cc2, cc3, Bool.true_and, Bool.and_true, Bool.false_and, Bool.and_false, Bool.not_true, Bool.not_false, Bool.not_not], HS.out.bel⟩
 refine xqr 14 rfl ?_
 intro a HF
 refine wpQuiet_nil ?_; intro w4 HS; replace HS := Bx.mk HS
 revert a;refine xet<|xre<|xb1 Tryz.results88 rfl ?_
 exact ⟨by simp only [fitsB, cc1, cc2, Bool.true_and, Bool.and_true, Bool.false_and, Bool.and_false, Bool.not_true, Bool.not_false, Bool.not_not], HS.out.bel⟩
 refine xqr 19 rfl ?_
 intro a HF
 refine wpQuiet_nil ?_; intro w5 HS; replace HS := Bx.mk HS
 revert a;refine xet<|xre<|xb1 Tryz.results88 rfl ?_
 exact ⟨by simp only [fitsB, cc1, Bool.true_and, Bool.and_true, Bool.false_and, Bool.and_false, Bool.not_true, Bool.not_false, Bool.not_not], HS.out.bel⟩
theorem indexFuncP_any (a0 : Option Addr) (c0 : Nat) (xs : List PtrD) (f : FuncId) (caps : Array Value) (p : Nat → Bool) (w0 : World) (hl : xs.length ≤ 1048576) (HE : ∀ (args : Array Value) (w : World), (callFunc f args).run Tryz.prog w = .ok (.enter f args) w) (hR : Rd PtrD.cells 5 w0 a0 xs.length xs) (hf : ∀ k, k < xs.length → ∀ w, Below w0.heap.size w0 w → Calls Tryz.prog f (#[] ++ #[pV (xs.getD k PtrD.zero)] ++ caps) w fun e w' => e = .returned (.bool (p k)) ∧ Below w.heap.size w w') : Calls Tryz.prog 165 #[.slice a0 xs.length c0, .func (.func f) #[] caps] w0 fun e w' => e = .returned (.int .i64 (idxB p xs.length 0)) ∧ Below w0.heap.size w0 w' := by
 have HR := Bx.mk hR; have HF0 := Bx.mk hf; clear hR hf
 have HS := Bx.mk (St.start w0)
 refine wc_enter Tryz.func165 rfl Tryz.ntmps165 [(0, .slice a0 xs.length c0), (1, .func (.func f) #[] caps)] ⟨rfl, rfl, trivial⟩ rfl ?_
 refine xsr<|xr 1 rfl<|xne<|xsq<|xsr<|xr 1 rfl<|xy rfl (vn 35 5 rfl)<|xr 1 rfl<|xne<|xbl ?_
 intro a HF
 refine wc_loop (ι := Nat) (fun k a w => (k ≤ xs.length ∧ idxB p xs.length 0 = idxB p xs.length k) ∧ Fr 19 a [(0, .slice a0 xs.length c0), (1, .func (.func f) #[] caps), (7, .int .i64 (xs.length : Int)), (8, .int .i64 (k : Int))] ∧ St w0 ([]) w) (fun k => xs.length - k) 0 ⟨⟨Nat.zero_le _, rfl⟩, HF.less _ ⟨rfl, rfl, rfl, rfl, trivial⟩, HS.out⟩ ?_
 clear HF HS; clear a
 rintro k a w1 ⟨⟨hk, hf⟩, HF, HS⟩
 replace HS := Bx.mk HS
 revert a;refine xsr<|xr 1 rfl<|xne<|xsq<|xcs 9 rfl (fun cc1=>?_) fun cc1=>?_
 have dcc1 := of_decide_eq_true cc1
 refine xct rfl<|xsk<|xet<|xsq<|xbl<|xsr<|xr 2 rfl<|xne<|xsq ?_
 obtain ⟨g0, o0, r0⟩ := HR.out.opn; have R0 := Bx.mk r0; clear r0
 refine xrl<|xr 3 rfl<|xy rfl (vxr 35 k 5 rfl (R0.out.ao k (by omega)))<|xy rfl (fun a HF=>ylr (cs := pL (xs.getD k PtrD.zero)) rfl (HF.ev rfl) (R0.out.elem HS.out (get_getD (xs := xs) (j := k) (d := PtrD.zero) (by omega)))) ?_
 intro a HF
 refine wl_callvB rfl HF rfl (HF.ev rfl) HE (args := #[pV (xs.getD k PtrD.zero)]) rfl (v := .bool (p k)) (HF0.out k (by omega) _ HS.out.bel) rfl rfl HS.out ?_; clear HF HS a; intro w2 a HS HF; replace HS := Bx.mk HS
 revert a;refine xne<|xcs 16 rfl (fun cc2=>?_) fun cc2=>?_
 refine xct rfl<|xsr<|xr 2 rfl<|xne<|xre<|xbr<|xtr<|xtr<|xbr<|xtr<|xb1 Tryz.results165 rfl ?_
 rw [idxB_lt (k := k) (by omega), if_pos cc2] at hf
 exact ⟨by rw [hf], HS.out.bel⟩
 refine xcf rfl<|xsk<|xeb<|xet<|xrl<|xy rfl (vad rfl)<|xr 1 rfl<|xne ?_
 rw [idxB_lt (k := k) (by omega), if_neg (by rw [cc2]; simp)] at hf
 intro a HF
 exact ⟨k + 1, ⟨⟨by omega, hf⟩, HF.less _ ⟨rfl, rfl, rfl, rfl, trivial⟩, HS.out⟩, (by omega)⟩
 have dcc1 := of_decide_eq_false cc1
 refine xcf rfl<|xex<|xtx<|xtx<|xbh<|xet<|xsr<|xr 1 rfl<|xne<|xre<|xb1 Tryz.results165 rfl ?_
 rw [idxB_end (k := k) (by omega)] at hf
 exact ⟨by rw [hf], HS.out.bel⟩
theorem containsFuncP_any (a0 : Option Addr) (c0 : Nat) (xs : List PtrD) (f : FuncId) (caps : Array Value) (p : Nat → Bool) (w0 : World) (hl : xs.length ≤ 1048576) (HE : ∀ (args : Array Value) (w : World), (callFunc f args).run Tryz.prog w = .ok (.enter f args) w) (hR : Rd PtrD.cells 5 w0 a0 xs.length xs) (hf : ∀ k, k < xs.length → ∀ w, Below w0.heap.size w0 w → Calls Tryz.prog f (#[] ++ #[pV (xs.getD k PtrD.zero)] ++ caps) w fun e w' => e = .returned (.bool (p k)) ∧ Below w.heap.size w w') : Calls Tryz.prog 150 #[.slice a0 xs.length c0, .func (.func f) #[] caps] w0 fun e w' => e = .returned (.bool (!allB (fun k => !p k) xs.length)) ∧ Below w0.heap.size w0 w' := by
 have HR := Bx.mk hR; have HF0 := Bx.mk hf; clear hR hf
 have HS := Bx.mk (St.start w0)
 refine wc_enter Tryz.func150 rfl Tryz.ntmps150 [(0, .slice a0 xs.length c0), (1, .func (.func f) #[] caps)] ⟨rfl, rfl, trivial⟩ rfl ?_
 refine xsr<|xr 1 rfl<|xne<|xsr<|xr 2 rfl ?_
 intro a HF
 refine ycB (indexFuncP_any a0 c0 xs f caps p _ hl HE (HR.out.below HS.out.bel) (fun k hk w hb => HF0.out k hk w (HS.out.bel.trans (hb.mono HS.out.bel.size)))) HF Tryz.func165 HS ?_; clear HF HS a; intro w1 a HS HF
 revert a;refine xr 2 rfl<|xne<|xre<|xb1 Tryz.results150 rfl ?_
 exact ⟨by rw [← idxB_any], HS.out.bel⟩
theorem fanPut1_any (p : PtrD) (w0 : World) : Calls Tryz.prog 155 #[pV p] w0 fun e w' => e = .returned (.bool (!p.hole)) ∧ Below w0.heap.size w0 w' := by
 have HS := Bx.mk (St.start w0)
 refine wc_enter Tryz.func155 rfl Tryz.ntmps155 [(0, pV p)] ⟨rfl, trivial⟩ rfl ?_
 refine xsr ?_
 intro a HF
 refine ybx HF HS ?_;clear HF HS a;intro a w1 b1 HF HS
 revert a;refine xr 1 rfl<|xne<|xsr<|xy rfl (vw HS.out 0 5 rfl rfl) ?_
 intro a HF
 refine ycB (implHole_any p _) HF Tryz.func68 HS ?_; clear HF HS a; intro w2 a HS HF
 revert a;refine xr 2 rfl<|xne<|xre<|xb1 Tryz.results155 rfl ?_
 exact ⟨rfl, HS.out.bel⟩
theorem allB_ptr {xs : List PtrD} {f : PtrD → Bool} : ∀ n, n ≤ xs.length → allB (fun k => f (xs.getD k PtrD.zero)) n = (xs.take n).all f
  | 0, _ => by simp [allB]
  | n + 1, h => by
    show (allB _ n && f (xs.getD n PtrD.zero)) = _
    rw [allB_ptr n (by omega), List.take_succ_eq_append_getElem (by omega), List.all_append, List.getD_eq_getElem?_getD, List.getElem?_eq_getElem (by omega)]
    simp
theorem allB_holes (xs : List PtrD) : allB (fun k => !!(xs.getD k PtrD.zero).hole) xs.length = xs.all (fun p => p.hole) := by
  have := allB_ptr (xs := xs) (f := fun p => p.hole) xs.length (Nat.le_refl _)
  rw [List.take_length] at this
  rw [← this]
  congr 1
  funext k
  rw [Bool.not_not]
def fanPutF (l : List PtrD) : ByteArray × Bool := if l.length = 4 ∧ l.all (fun p => p.hole) = false ∧ l.all (fun p => p.ok) = true then (fanB l, true) else (ByteArray.empty, false)
theorem fanPutF_yes {l : List PtrD} (h1 : l.length = 4) (h2 : l.all (fun p => p.hole) = false) (h3 : l.all (fun p => p.ok) = true) : fanPutF l = (fanB l, true) := if_pos ⟨h1, h2, h3⟩
theorem fanPutF_len {l : List PtrD} (h : l.length ≠ 4) : fanPutF l = (ByteArray.empty, false) := if_neg fun e => h e.1
theorem fanPutF_holes {l : List PtrD} (h : l.all (fun p => p.hole) = true) : fanPutF l = (ByteArray.empty, false) := if_neg fun e => by rw [h] at e; cases e.2.1
theorem fanPutF_bad {l : List PtrD} {k : Nat} (hk : k < l.length) (h : (l.getD k PtrD.zero).ok = false) : fanPutF l = (ByteArray.empty, false) := if_neg fun e => by
  have := List.all_eq_true.1 e.2.2 (l.getD k PtrD.zero) (by rw [List.getD_eq_getElem?_getD, List.getElem?_eq_getElem hk]; exact List.getElem_mem hk)
  rw [h] at this; cases this
theorem fanPutF_is {s : ByteArray} {l : List PtrD} : IsFan s l ↔ fanPutF l = (s, true) := by
  unfold fanPutF
  constructor
  · intro h
    rw [if_pos ⟨h.n, h.some, List.all_eq_true.2 h.ok⟩, h.is]
  · intro h
    split at h
    · next e => exact ⟨e.1, List.all_eq_true.1 e.2.2, e.2.1, (Prod.mk.inj h).1⟩
    · cases (Prod.mk.inj h).2
theorem take_map_snoc {l : List PtrD} {k : Nat} (h : k < l.length) : (l.take k).map ptrB ++ [ptrB (l.getD k PtrD.zero)] = (l.take (k + 1)).map ptrB := by
  rw [List.take_succ_eq_append_getElem h, List.map_append, List.getD_eq_getElem?_getD, List.getElem?_eq_getElem h]; rfl
theorem take_all_snoc {l : List PtrD} {k : Nat} {f : PtrD → Bool} (h : k < l.length) (ha : (l.take k).all f = true) (hf : f (l.getD k PtrD.zero) = true) : (l.take (k + 1)).all f = true := by
  rw [List.take_succ_eq_append_getElem h, List.all_append, ha]
  rw [List.getD_eq_getElem?_getD, List.getElem?_eq_getElem h, Option.getD_some] at hf
  simp [hf]
theorem szs_map (l : List PtrD) : szs (l.map ptrB) := fun k => by
  by_cases hk : k < (l.map ptrB).length
  · rw [List.getD_eq_getElem?_getD, List.getElem?_eq_getElem hk, Option.getD_some, List.getElem_map]; exact Nat.le_trans (ptrB_le _) (by decide)
  · rw [List.getD_eq_getElem?_getD, List.getElem?_eq_none (by omega)]; decide
theorem implFanPut_any (a0 : Option Addr) (c0 : Nat) (l : List PtrD) (w0 : World) (hT : TabP w0) (hl : l.length ≤ 1048576) (hR : Rd PtrD.cells 5 w0 a0 l.length l) : Calls Tryz.prog 133 #[.slice a0 l.length c0] w0 fun e w' => e = .returned (.tuple #[.string (fanPutF l).1, .bool (fanPutF l).2]) ∧ Below w0.heap.size w0 w' := by
 have HR := Bx.mk hR; have HT := Bx.mk hT; clear hR hT
 have HS := Bx.mk (St.start w0)
 refine wc_enter Tryz.func133 rfl Tryz.ntmps133 [(0, .slice a0 l.length c0)] ⟨rfl, trivial⟩ rfl ?_
 refine xsr<|xr 2 rfl<|xne<|xsq<|xsr<|xr 1 rfl<|xy rfl (vn 35 5 rfl)<|xr 2 rfl<|xcs 10 rfl (fun cc1=>?_) fun cc1=>?_
 have dcc1 := bne_iff_ne.1 cc1
 refine xr 4 rfl<|xne<|xct rfl<|xsr<|xr 2 rfl<|xne<|xre<|xtr<|xb2 Tryz.results133 rfl rfl ?_
 exact ⟨by rw [fanPutF_len (by omega)] <;> rfl, HS.out.bel⟩
 have dcc1 := bne_eq_false_iff_eq.1 cc1
 refine xr 1 rfl ?_
 intro a HF
 refine ycBg (by have := containsFuncP_any a0 c0 l 155 #[] (fun k => !(l.getD k PtrD.zero).hole) _ hl (enter_of Tryz.func155 (by kernel_rfl) rfl) (HR.out.below HS.out.bel) (fun k hk w hb => fanPut1_any _ w); rw [allB_holes] at this; exact this) HF Tryz.func150 HS ?_; clear HF HS a; intro w1 a HS HF
 revert a;refine xr 2 rfl<|xne<|xcs 14 rfl (fun cc2=>?_) fun cc2=>?_
 have hho : l.all (fun p => p.hole) = true := by revert cc2; cases l.all (fun p => p.hole) <;> simp
 refine xct rfl<|xsr<|xr 2 rfl<|xne<|xre<|xtr<|xb2 Tryz.results133 rfl rfl ?_
 exact ⟨by rw [fanPutF_holes hho] <;> rfl, HS.out.bel⟩
 have hho : l.all (fun p => p.hole) = false := by revert cc2; cases l.all (fun p => p.hole) <;> simp
 refine xcf rfl<|xsk<|xet<|xsr<|xr 1 rfl<|xne<|xsq<|xsr<|xr 1 rfl<|xy rfl (vn 35 5 rfl)<|xr 1 rfl<|xne<|xbl ?_
 replace HS := Bx.mk (HS.out.nilRow encS 1 9 none)
 intro a HF
 refine wc_loop (ι := Nat) (fun k a w => ∃ (ao : Option Addr) (cp : Nat) (xs : List ByteArray), (k ≤ l.length ∧ xs = (l.take k).map ptrB ∧ (l.take k).all (fun p => p.ok) = true) ∧ Fr 32 a [(0, .slice a0 l.length c0), (15, .slice a0 l.length c0), (16, .int .i64 (l.length : Int)), (4, .slice ao xs.length cp), (17, .int .i64 (k : Int))] ∧ St w0 ([rowA encS 1 9 (.slice ao xs.length cp) xs]) w) (fun k => l.length - k) 0 ⟨_, _, [], ⟨Nat.zero_le _, rfl, rfl⟩, HF.less _ ⟨rfl, rfl, rfl, rfl, rfl, trivial⟩, HS.out⟩ ?_
 clear HF HS; clear a
 rintro k a w2 ⟨ao, cp, xs, ⟨hk, hq, hall⟩, HF, HS⟩
 replace HS := Bx.mk HS
 have hxl : xs.length = k := by rw [hq, List.length_map, List.length_take]; omega
 revert a;refine xsr<|xr 1 rfl<|xne<|xsq<|xcs 18 rfl (fun cc3=>?_) fun cc3=>?_
 have dcc3 := of_decide_eq_true cc3
 refine xct rfl<|xsk<|xet<|xsq<|xbl<|xsq ?_
 obtain ⟨g0, o0, r0⟩ := HR.out.opn; have R0 := Bx.mk r0; clear r0
 refine xrl<|xy rfl (vxr 35 k 5 rfl (R0.out.ao k (by omega)))<|xy rfl (fun a HF=>ylr (cs := pL (l.getD k PtrD.zero)) rfl (HF.ev rfl) (R0.out.elem HS.out (get_getD (xs := l) (j := k) (d := PtrD.zero) (by omega)))) ?_
 intro a HF
 refine yal z5 HF HS ?_;clear HF HS a;intro a w3 b1 HF HS
 refine yst HF HS 0 ?_;clear HS;intro w4 HS
 try dsimp only [List.set] at HS
 revert a;refine xne<|xsq<|xsr<|xy rfl (vw HS.out 0 5 rfl rfl) ?_
 intro a HF
 refine ycB (implPtrOk_any (l.getD k PtrD.zero) _) HF Tryz.func67 HS ?_; clear HF HS a; intro w5 a HS HF
 revert a;refine xr 1 rfl<|xne<|xcs 23 rfl (fun cc4=>?_) fun cc4=>?_
 refine xct rfl<|xsr<|xr 2 rfl<|xne<|xre<|xtr<|xbr<|xtr<|xtr<|xbr<|xtr<|xb2 Tryz.results133 rfl rfl ?_
 exact ⟨by rw [fanPutF_bad (k := k) (by omega) (by have := cc4; revert this; cases (l.getD k PtrD.zero).ok <;> simp)] <;> rfl, HS.out.bel⟩
 refine xcf rfl<|xsk<|xet<|xrl<|xr 1 rfl<|xy rfl (vw HS.out 0 5 rfl rfl) ?_
 intro a HF
 refine ycB (ptrPutI_any (l.getD k PtrD.zero) _ (HT.out.below HS.out.bel)) HF Tryz.func106 HS ?_; clear HF HS a; intro w6 a HS HF
 refine ybs encS 9 1 [ptrB (l.getD k PtrD.zero)] HF HS ?_;clear HF HS a;intro b2 a w7 HF HS
 refine yap elemS encS_len HS 2 HF (St.rdN HS.out encS_len 0 rfl) (cells_one_S _) ?_;clear HF HS a;intro ao3 cp4 w8 a HF HS
 try dsimp only [List.eraseIdx] at HS
 revert a;refine xr 1 rfl<|xni<|xeb<|xet<|xrl<|xy rfl (vad rfl)<|xr 1 rfl<|xne ?_
 have hz : xs.length + ([ptrB (l.getD k PtrD.zero)]).length = (xs ++ ([ptrB (l.getD k PtrD.zero)])).length := (List.length_append ..).symm
 intro a HF
 rw [hz] at HS HF
 have hnext : xs ++ ([ptrB (l.getD k PtrD.zero)]) = (l.take (k + 1)).map ptrB := by rw [hq]; exact take_map_snoc (by omega)
 have hok1 : (l.getD k PtrD.zero).ok = true := by have := cc4; revert this; cases (l.getD k PtrD.zero).ok <;> simp
 replace HS:=Bx.mk (HS.out.pick 2 rfl)
 exact ⟨k + 1, ⟨_, _, xs ++ ([ptrB (l.getD k PtrD.zero)]), ⟨by omega, hnext, take_all_snoc (by omega) hall hok1⟩, HF.less _ ⟨rfl, rfl, rfl, rfl, rfl, trivial⟩, ((HS.out.erase 2).erase 1)⟩, (by omega)⟩
 have dcc3 := of_decide_eq_false cc3
 refine xcf rfl<|xex<|xtx<|xtx<|xbh<|xet<|xsr<|xr 1 rfl ?_
 intro a HF
 refine ycB (join_any _ _ _ xs (⟨#[44]⟩ : ByteArray) _ (St.rdOf HS.out encS_len 0 rfl) (St.capLe HS.out 0 rfl) (by omega) (by rw [hq]; exact szs_map _) (by decide)) HF Tryz.func138 HS ?_; clear HF HS a; intro w9 a HS HF
 revert a;refine xr 2 rfl<|xne<|xre<|xb2 Tryz.results133 rfl rfl ?_
 have hkl : k = l.length := by omega
 exact ⟨by rw [fanPutF_yes (by omega) hho (by rw [hkl, List.take_length] at hall; exact hall), hq, hkl, List.take_length]; rfl, HS.out.bel⟩
open Go.RowKit
theorem piece_le (s : ByteArray) (c : UInt8) (k : Nat) : ((piecesB s c).getD k ByteArray.empty).size ≤ s.size := by
  have key : ∀ (l : List UInt8) (x : List UInt8), x ∈ splitL c l → x.length ≤ l.length := by
    intro l
    induction l with
    | nil => intro x hx; obtain rfl : x = [] := by simpa [splitL] using hx
             exact Nat.le_refl _
    | cons b t ih =>
      intro x hx
      by_cases hb : b = c
      · subst hb
        rw [splitL_eq] at hx
        rcases List.mem_cons.1 hx with rfl | hx
        · exact Nat.zero_le _
        · exact Nat.le_succ_of_le (ih x hx)
      · obtain ⟨h, r, e⟩ := splitL_ne c t
        rw [splitL_cons t hb e] at hx
        rcases List.mem_cons.1 hx with rfl | hx
        · exact Nat.succ_le_succ (ih h (by rw [e]; exact List.mem_cons_self ..))
        · exact Nat.le_succ_of_le (ih x (by rw [e]; exact List.mem_cons_of_mem _ hx))
  by_cases hk : k < (piecesB s c).length
  · rw [List.getD_eq_getElem?_getD, List.getElem?_eq_getElem hk, Option.getD_some]
    have hm := List.getElem_mem hk
    unfold piecesB at hm
    obtain ⟨x, hx, e⟩ := List.mem_map.1 hm
    have e2 : (piecesB s c)[k] = ⟨x.toArray⟩ := e.symm
    rw [e2, size_list, size_list]
    exact key _ x hx
  · rw [List.getD_eq_getElem?_getD, List.getElem?_eq_none (by omega)]; exact Nat.zero_le _
theorem pieces_many (s : ByteArray) (c : UInt8) : (piecesB s c).length ≤ s.size + 1 := by
  rw [pieces_len, size_list]
  exact Nat.succ_le_succ (List.count_le_length ..)
structure FanTo (s : ByteArray) (ys : List PtrD) : Prop where
  ok : ∀ p ∈ ys, p.ok = true
  is : ys.map ptrB = (piecesB s 44).take ys.length
theorem FanTo.nil (s : ByteArray) : FanTo s [] := ⟨fun p hp => (nomatch hp), rfl⟩
theorem FanTo.snoc {s : ByteArray} {ys : List PtrD} (h : FanTo s ys) (hk : ys.length < (piecesB s 44).length) {p : PtrD} (hp : p.ok = true) (ht : ptrB p = (piecesB s 44).getD ys.length ByteArray.empty) : FanTo s (ys ++ [p]) := by
  refine ⟨fun q hq => ?_, ?_⟩
  · rcases List.mem_append.1 hq with hq | hq
    · exact h.ok q hq
    · rw [List.mem_singleton.1 hq]; exact hp
  · rw [List.length_append, List.length_singleton, List.take_succ_eq_append_getElem hk, List.map_append, h.is, List.map_cons, List.map_nil, ht, List.getD_eq_getElem?_getD, List.getElem?_eq_getElem hk, Option.getD_some]
theorem FanTo.one {s : ByteArray} {ys l : List PtrD} (h : FanTo s ys) (hn : ys.length = (piecesB s 44).length) (hl : IsFan s l) : l = ys := by
  refine map_inj hl.ok h.ok ?_
  rw [← hl.pieces, h.is, hn, List.take_length]
theorem fan_bad {s : ByteArray} {k : Nat} (hk : k < (piecesB s 44).length) (h : ∀ p : PtrD, p.ok = true → ptrB p = (piecesB s 44).getD k ByteArray.empty → False) : ∀ l, ¬ IsFan s l := fun l hl => by
  have e := hl.pieces
  have hk2 : k < l.length := by rw [e, List.length_map] at hk; exact hk
  refine h l[k] (hl.ok _ (List.getElem_mem hk2)) ?_
  rw [e, List.getD_eq_getElem?_getD, List.getElem?_eq_getElem (by rw [List.length_map]; exact hk2), Option.getD_some, List.getElem_map]
theorem fan_four {s : ByteArray} (h : (piecesB s 44).length ≠ 4) : ∀ l, ¬ IsFan s l := fun l hl => by
  have e := hl.pieces
  rw [e, List.length_map] at h
  exact h hl.n
theorem FanTo.is_of {s : ByteArray} {ys : List PtrD} (h : FanTo s ys) (hn : ys.length = (piecesB s 44).length) (h4 : ys.length = 4) (hs : ys.all (fun p => p.hole) = false) : IsFan s ys := by
  refine ⟨h4, h.ok, hs, ?_⟩
  show joinT (ys.map ptrB) comB = s
  rw [h.is, hn, List.take_length]
  exact joinT_pieces s 44
theorem implFanGet_any (s : ByteArray) (w0 : World) (hT : TabP w0) (hM : MaxP w0) (hE : ErrP w0) (hs : s.size ≤ 1000000) : Calls Tryz.prog 149 #[.string s] w0 fun e w' => (∃ l, IsFan s l ∧ ∃ ao cp, e = .returned (.tuple #[.slice ao l.length cp, .bool true]) ∧ St w0 [rowA PtrD.cells 5 35 (.slice ao l.length cp) l] w') ∨ ((∀ l, ¬ IsFan s l) ∧ e = .returned (.tuple #[.slice none 0 0, .bool false]) ∧ Below w0.heap.size w0 w') := by
 have HT := Bx.mk hT; have HM := Bx.mk hM; have HE := Bx.mk hE; clear hT hM hE
 have hpm := pieces_many s 44
 have HS := Bx.mk (St.start w0)
 refine wc_enter Tryz.func149 rfl Tryz.ntmps149 [(0, .string s)] ⟨rfl, trivial⟩ rfl ?_
 refine xsr<|xr 2 rfl<|xne<|xsr<|xr 1 rfl<|xne<|xsq<|xsr<|xr 1 rfl ?_
 intro a HF
 refine yc (split_any s 44 _ (by omega) (HM.out.below HS.out.bel)) HF Tryz.func164 ?_
 rintro _ w1 ⟨ao1, cp1, rfl, hs⟩
 refine ⟨_, rfl, ?_⟩
 replace HS := Bx.mk (HS.out.add hs);clear hs HF a;intro a HF
 try dsimp only [List.eraseIdx] at HS
 revert a;refine xy rfl (vn 9 1 rfl)<|xr 1 rfl<|xne<|xbl ?_
 replace HS := Bx.mk (HS.out.nilRow PtrD.cells 5 35 none)
 intro a HF
 refine wc_loop (ι := Nat) (fun k a w => ∃ (ao : Option Addr) (cp : Nat) (ys : List PtrD), (k ≤ (piecesB s 44).length ∧ ys.length = k ∧ FanTo s ys) ∧ Fr 48 a [(0, .string s), (12, .slice ao1 ((piecesB s 44).length) cp1), (13, .int .i64 ((piecesB s 44).length : Int)), (4, .slice ao ys.length cp), (14, .int .i64 (k : Int))] ∧ St w0 ([rowA PtrD.cells 5 35 (.slice ao ys.length cp) ys, rowA encS 1 9 (.slice ao1 ((piecesB s 44).length) cp1) (piecesB s 44)]) w) (fun k => (piecesB s 44).length - k) 0 ⟨_, _, [], ⟨Nat.zero_le _, rfl, FanTo.nil s⟩, HF.less _ ⟨rfl, rfl, rfl, rfl, rfl, trivial⟩, HS.out⟩ ?_
 clear HF HS; clear a
 rintro k a w2 ⟨ao, cp, ys, ⟨hk, hyl, hft⟩, HF, HS⟩
 replace HS := Bx.mk HS
 revert a;refine xsr<|xr 1 rfl<|xne<|xsq<|xcs 15 rfl (fun cc1=>?_) fun cc1=>?_
 have dcc1 := of_decide_eq_true cc1
 refine xct rfl<|xsk<|xet<|xsq<|xbl<|xsq ?_
 obtain ⟨g2, rfl, _, _, _, _⟩ := HS.out.rowOpen 1 rfl (by omega)
 have hcap := HS.out.capLe 1 rfl
 refine xrl<|xy rfl (vx 9 k 1 rfl)<|xy rfl (fun a HF=>ylo (v := .string ((piecesB s 44).getD k ByteArray.empty)) rfl (HF.ev rfl) (HS.out.elem1 encS_len 1 rfl (get_getD (xs := piecesB s 44) (j := k) (d := ByteArray.empty) (by omega)) rfl))<|xr 1 rfl<|xne<|xsr<|xr 1 rfl ?_
 intro a HF
 refine yc (ptrGet_any ((piecesB s 44).getD k ByteArray.empty) _ (HT.out.below HS.out.bel) (HM.out.below HS.out.bel) (HE.out.below HS.out.bel) (by have := piece_le s 44 k; omega)) HF Tryz.func163 ?_
 rintro _ w3 (⟨p, hpo, hpt, rfl, hb⟩ | ⟨hpn, rfl, hb⟩)
 refine ⟨_, rfl, ?_⟩; replace HS := Bx.mk (HS.out.later hb);clear hb HF a
 refine xr 3 rfl ?_
 intro a HF
 refine yal z5 HF HS ?_;clear HF HS a;intro a w4 b3 HF HS
 refine yst HF HS 0 ?_;clear HS;intro w5 HS
 try dsimp only [List.set] at HS
 revert a;refine xr 1 rfl<|xne<|xsq<|xsr<|xr 4 rfl<|xy rfl (vn 35 5 rfl)<|xr 2 rfl<|xne<|xcs 29 rfl (fun cc2=>?_) fun cc2=>?_
 have dcc2 := eq_of_beq cc2
 refine xct rfl<|xsr<|xr 2 rfl<|xne<|xre<|xtr<|xbr<|xtr<|xtr<|xbr<|xtr<|xb2 Tryz.results149 rfl rfl ?_
 exact .inr ⟨fan_four (by omega), rfl, HS.out.bel⟩
 have dcc2 := ne_of_beq_false cc2
 refine xcf rfl<|xsk<|xet<|xrl<|xr 1 rfl<|xy rfl (vw HS.out 0 5 rfl rfl) ?_
 intro a HF
 refine ybs PtrD.cells 35 5 [p] HF HS ?_;clear HF HS a;intro b4 a w6 HF HS
 refine yap elemQ PtrD.cells_len HS 2 HF (St.rdN HS.out PtrD.cells_len 0 rfl) (cells_one_Q _) ?_;clear HF HS a;intro ao5 cp6 w7 a HF HS
 try dsimp only [List.eraseIdx] at HS
 revert a;refine xr 1 rfl<|xni<|xeb<|xet<|xrl<|xy rfl (vad rfl)<|xr 1 rfl<|xne ?_
 have hz : ys.length + ([p]).length = (ys ++ ([p])).length := (List.length_append ..).symm
 intro a HF
 rw [hz] at HS HF
 have hlen : (ys ++ ([p])).length = k + 1 := by rw [List.length_append, hyl]; rfl
 have hft2 : FanTo s (ys ++ ([p])) := hft.snoc (by omega) hpo (by rw [hyl]; exact hpt)
 replace HS:=Bx.mk ((HS.out.pick 3 rfl).pick 3 rfl)
 exact ⟨k + 1, ⟨_, _, ys ++ ([p]), ⟨by omega, hlen, hft2⟩, HF.less _ ⟨rfl, rfl, rfl, rfl, rfl, trivial⟩, ((HS.out.erase 3).erase 2)⟩, (by omega)⟩
 refine ⟨_, rfl, ?_⟩; replace HS := Bx.mk (HS.out.later hb);clear hb HF a
 refine xr 3 rfl ?_
 intro a HF
 refine yal z5 HF HS ?_;clear HF HS a;intro a w8 b7 HF HS
 refine yst HF HS 0 ?_;clear HS;intro w9 HS
 try dsimp only [List.set] at HS
 revert a;refine xr 1 rfl<|xne<|xsq<|xsr<|xr 7 rfl<|xne<|xct rfl<|xsr<|xr 2 rfl<|xne<|xre<|xtr<|xbr<|xtr<|xtr<|xbr<|xtr<|xb2 Tryz.results149 rfl rfl ?_
 exact .inr ⟨fan_bad (k := k) (by omega) hpn, rfl, HS.out.bel⟩
 have dcc1 := of_decide_eq_false cc1
 refine xcf rfl<|xex<|xtx<|xtx<|xbh<|xet<|xsq<|xsr<|xr 1 rfl ?_
 intro a HF
 refine ycB (implFanPut_any _ _ ys _ (HT.out.below HS.out.bel) (by omega) (St.rdOf HS.out PtrD.cells_len 0 rfl)) HF Tryz.func133 HS ?_; clear HF HS a; intro w10 a HS HF
 revert a;refine xr 5 rfl<|xne<|xsr<|xr 3 rfl<|xcs 42 rfl (fun cc3=>?_) fun cc3=>?_
 refine xr 4 rfl<|xne<|xct rfl<|xsr<|xr 2 rfl<|xne<|xre<|xtr<|xb2 Tryz.results149 rfl rfl ?_
 refine .inr ⟨fun l hl => ?_, rfl, HS.out.bel⟩; have e := hft.one (by omega) hl; subst e; have h2 := fanPutF_is.1 hl
 simp [h2] at cc3
 refine xr 2 rfl<|xy rfl (fun a HF=>yl_neqS rfl (HF.ev rfl) (HF.ev rfl))<|xr 1 rfl<|xne<|xcs 46 rfl (fun cc4=>?_) fun cc4=>?_
 refine xct rfl<|xsr<|xr 2 rfl<|xne<|xre<|xtr<|xb2 Tryz.results149 rfl rfl ?_
 refine .inr ⟨fun l hl => ?_, rfl, HS.out.bel⟩; have e := hft.one (by omega) hl; subst e; have h2 := fanPutF_is.1 hl
 simp [h2] at cc4
 refine xcf rfl<|xsk<|xet<|xsr<|xr 3 rfl<|xne<|xre<|xb2 Tryz.results149 rfl rfl ?_
 have hfan : IsFan s ys := fanPutF_is.2 (Prod.ext (bytes_toList (by simpa using cc4)) (by simpa using cc3))
 exact .inl ⟨ys, hfan, _, _, rfl, (HS.out.erase 1)⟩
structure NumTo (s : ByteArray) (ns : List Nat) : Prop where
  is : ∀ k, k < ns.length → numG ((piecesB s 46).getD k ByteArray.empty) = some (ns.getD k 0)
theorem NumTo.nil (s : ByteArray) : NumTo s [] := ⟨fun k hk => absurd hk (Nat.not_lt_zero _)⟩
theorem NumTo.snoc {s : ByteArray} {ns : List Nat} (h : NumTo s ns) {n : Nat} (hn : numG ((piecesB s 46).getD ns.length ByteArray.empty) = some n) : NumTo s (ns ++ [n]) := ⟨fun k hk => by
  rw [List.length_append, List.length_singleton] at hk
  rcases (by omega : k < ns.length ∨ k = ns.length) with h1 | rfl
  · rw [h.is k h1, List.getD_eq_getElem?_getD, List.getD_eq_getElem?_getD, List.getElem?_append_left h1]
  · rw [hn]; simp⟩
theorem toI_snoc (ns : List Nat) (n : Nat) : ns.map (fun n : Nat => (n : Int)) ++ [(n : Int)] = (ns ++ [n]).map (fun n : Nat => (n : Int)) := by rw [List.map_append]; rfl
theorem len5n {l : List Nat} (h : l.length = 5) : ∃ a b c d e, l = [a, b, c, d, e] := by
  match l, h with
  | [a, b, c, d, e], _ => exact ⟨a, b, c, d, e, rfl⟩
theorem ptr_five {s : ByteArray} (hd : (s.toList == (⟨#[45]⟩ : ByteArray).toList) = false) {p : PtrD} (hp : p.ok = true) (ht : ptrB p = s) : (piecesB s 46).length = 5 ∧ ∀ k, k < 5 → ∃ n : Nat, numG ((piecesB s 46).getD k ByteArray.empty) = some n := by
  have hh := ptr_dash hp ht hd
  have hb := PtrD.ok_all hp hh
  have e := ptr_pieces hp hh
  rw [ht] at e
  rw [e]
  refine ⟨rfl, fun k hk => ?_⟩
  rcases (by omega : k = 0 ∨ k = 1 ∨ k = 2 ∨ k = 3 ∨ k = 4) with rfl | rfl | rfl | rfl | rfl
  · exact ⟨_, numG_num (n := p.fAt) (by omega)⟩
  · exact ⟨_, numG_num (n := p.fBirth) (by omega)⟩
  · exact ⟨_, numG_num (n := p.fSize) (by omega)⟩
  · exact ⟨_, numG_num (n := p.fSum) (by omega)⟩
  · exact ⟨_, numG_num (n := p.fLevel) (by omega)⟩
theorem five_lt {s : ByteArray} {a b c d e : Nat} (h : NumTo s [a, b, c, d, e]) (h5 : (piecesB s 46).length = 5) : piecesB s 46 = [decB a, decB b, decB c, decB d, decB e] ∧ a ≤ 999999999 ∧ b ≤ 999999999 ∧ c ≤ 999999999 ∧ d ≤ 999999999 ∧ e ≤ 999999999 := by
  have hz : [a, b, c, d, e].length = 5 := rfl
  have h0 := numG_some (h.is 0 (by omega))
  have h1 := numG_some (h.is 1 (by omega))
  have h2 := numG_some (h.is 2 (by omega))
  have h3 := numG_some (h.is 3 (by omega))
  have h4 := numG_some (h.is 4 (by omega))
  obtain ⟨x0, x1, x2, x3, x4, e⟩ := len5 h5
  rw [e] at h0 h1 h2 h3 h4 ⊢
  have k0 : x0 = decB a := h0.2
  have k1 : x1 = decB b := h1.2
  have k2 : x2 = decB c := h2.2
  have k3 : x3 = decB d := h3.2
  have k4 : x4 = decB _ := h4.2
  exact ⟨by rw [k0, k1, k2, k3, k4]; rfl, h0.1, h1.1, h2.1, h3.1, h4.1⟩
theorem five_is {s : ByteArray} {a b c d e : Nat} (h : NumTo s [a, b, c, d, e]) (h5 : (piecesB s 46).length = 5) (hp : (⟨(a : Int), (b : Int), (c : Int), (d : Int), (e : Int)⟩ : PtrD).ok = true) (hh : (⟨(a : Int), (b : Int), (c : Int), (d : Int), (e : Int)⟩ : PtrD).hole = false) : ptrB ⟨(a : Int), (b : Int), (c : Int), (d : Int), (e : Int)⟩ = s := by
  obtain ⟨e1, b0, b1, b2, b3, b4⟩ := five_lt h h5
  have e2 := ptr_pieces hp hh
  have num : ∀ {n : Nat}, n ≤ 999999999 → numB (n : Int) = decB n := fun hn => by rw [numB_in (by omega) (by omega)]; rfl
  rw [num b0, num b1, num b2, num b3, num b4, ← e1] at e2
  have j1 := joinT_pieces (ptrB ⟨(a : Int), (b : Int), (c : Int), (d : Int), (e : Int)⟩) 46
  rw [e2, joinT_pieces] at j1
  exact j1.symm
theorem five_of {s : ByteArray} {a b c d e : Nat} (h : NumTo s [a, b, c, d, e]) (h5 : (piecesB s 46).length = 5) (hd : (s.toList == (⟨#[45]⟩ : ByteArray).toList) = false) {p : PtrD} (hp : p.ok = true) (ht : ptrB p = s) : p = ⟨(a : Int), (b : Int), (c : Int), (d : Int), (e : Int)⟩ ∧ p.hole = false := by
  have hh := ptr_dash hp ht hd
  have hb := PtrD.ok_all hp hh
  have e1 := ptr_pieces hp hh
  rw [ht] at e1
  have g : ∀ {k : Nat} {n m : Nat} {x : Int}, numG ((piecesB s 46).getD k ByteArray.empty) = some n → (piecesB s 46).getD k ByteArray.empty = numB x → 0 ≤ x ∧ x ≤ 999999999 → x = (n : Int) := fun h1 h2 h3 => by rw [h2] at h1; exact (num_read h3 h1).symm
  have hz : [a, b, c, d, e].length = 5 := rfl
  have i0 := g (m := 0) (h.is 0 (by omega)) (by rw [e1]; rfl) (x := p.fAt) (by omega)
  have i1 := g (m := 0) (h.is 1 (by omega)) (by rw [e1]; rfl) (x := p.fBirth) (by omega)
  have i2 := g (m := 0) (h.is 2 (by omega)) (by rw [e1]; rfl) (x := p.fSize) (by omega)
  have i3 := g (m := 0) (h.is 3 (by omega)) (by rw [e1]; rfl) (x := p.fSum) (by omega)
  have i4 := g (m := 0) (h.is 4 (by omega)) (by rw [e1]; rfl) (x := p.fLevel) (by omega)
  refine ⟨?_, hh⟩
  cases p
  simp only at i0 i1 i2 i3 i4
  rw [i0, i1, i2, i3, i4]; rfl
theorem specPtrGet_any (s : ByteArray) (w0 : World) (hs : s.size ≤ 1000000) : Calls Tryz.prog 117 #[.string s] w0 fun e w' => (∃ p : PtrD, p.ok = true ∧ ptrB p = s ∧ e = .returned (.tuple #[pV p, .bool true]) ∧ Below w0.heap.size w0 w') ∨ ((∀ p : PtrD, p.ok = true → ptrB p = s → False) ∧ e = .returned (.tuple #[az5, .bool false]) ∧ Below w0.heap.size w0 w') := by
 have hpm := pieces_many s 46
 have HS := Bx.mk (St.start w0)
 refine wc_enter Tryz.func117 rfl Tryz.ntmps117 [(0, .string s)] ⟨rfl, trivial⟩ rfl ?_
 refine xsr ?_
 intro a HF
 refine yal z5 HF HS ?_;clear HF HS a;intro a w1 b1 HF HS
 revert a;refine xr 1 rfl<|xne<|xsq<|xsr<|xr 1 rfl<|xy rfl (fun a HF=>yl_eqlS rfl (HF.ev rfl) (HF.ev rfl))<|xne<|xcs 11 rfl (fun cc1=>?_) fun cc1=>?_
 refine xct rfl<|xsr<|xy rfl (vb z5 rfl) ?_
 intro a HF
 refine yst HF HS 0 ?_;clear HS;intro w2 HS
 try dsimp only [List.set] at HS
 revert a;refine xr 1 rfl<|xne<|xre<|xtr ?_
 intro a HF
 refine bp_ret2 HF Tryz.results117 (HF.resBox rfl (HS.out.box 0 rfl) (by kernel_rfl)) (HF.res rfl) ?_
 exact .inl ⟨PtrD.zero, rfl, (bytes_toList cc1).symm, rfl, HS.out.bel⟩
 refine xcf rfl<|xsk<|xet<|xsr<|xr 1 rfl ?_
 intro a HF
 refine yc (l2Cut_any s 46 _ (by omega)) HF Tryz.func145 ?_
 rintro _ w3 ⟨ao2, cp2, rfl, hs⟩
 refine ⟨_, rfl, ?_⟩
 replace HS := Bx.mk (HS.out.add hs);clear hs HF a;intro a HF
 try dsimp only [List.eraseIdx] at HS
 revert a;refine xr 1 rfl<|xne<|xsq<|xsr<|xr 1 rfl<|xy rfl (vn 9 1 rfl)<|xr 1 rfl<|xne<|xcs 17 rfl (fun cc2=>?_) fun cc2=>?_
 have dcc2 := bne_iff_ne.1 cc2
 refine xct rfl<|xsr<|xy rfl (vb z5 rfl) ?_
 intro a HF
 refine yst HF HS 1 ?_;clear HS;intro w4 HS
 try dsimp only [List.set] at HS
 revert a;refine xr 1 rfl<|xne<|xre<|xtr ?_
 intro a HF
 refine bp_ret2 HF Tryz.results117 (HF.resBox rfl (HS.out.box 1 rfl) (by kernel_rfl)) (HF.res rfl) ?_
 refine .inr ⟨fun p hp ht => ?_, rfl, HS.out.bel⟩
 have h5 := ptr_five cc1 hp ht
 have := h5.1; omega
 have dcc2 := bne_eq_false_iff_eq.1 cc2
 refine xcf rfl<|xsk<|xet<|xsr ?_
 intro a HF
 refine yem 3 1 HF HS ?_;clear HF HS a;intro a w5 b3 HF HS
 revert a;refine xr 1 rfl<|xne<|xsq<|xsr<|xr 1 rfl<|xne<|xbl ?_
 replace HS := Bx.mk (HS.out.nilRow encI 1 3 (some ⟨b3, 0, none⟩))
 intro a HF
 refine wc_loop (ι := Nat) (fun k a w => ∃ (ao : Option Addr) (cp : Nat) (xs : List Int) (ns : List Nat), (k ≤ 5 ∧ xs = ns.map (fun n : Nat => (n : Int)) ∧ ns.length = k ∧ NumTo s ns) ∧ Fr 64 a [(0, .string s), (2, .pointer (some ⟨b1, 0, none⟩)), (3, .bool false), (4, .slice ao2 ((piecesB s 46).length) cp2), (5, .slice ao xs.length cp), (6, .int .i64 (k : Int))] ∧ St w0 ([rowA encI 1 3 (.slice ao xs.length cp) xs, rowA encS 1 9 (.slice ao2 ((piecesB s 46).length) cp2) (piecesB s 46), boxA b1 5 35 (az5)]) w) (fun k => 5 - k) 0 ⟨_, _, [], [], ⟨Nat.zero_le _, rfl, rfl, NumTo.nil s⟩, HF.less _ ⟨rfl, rfl, rfl, rfl, rfl, rfl, trivial⟩, HS.out⟩ ?_
 clear HF HS; clear a
 rintro k a w6 ⟨ao, cp, xs, ns, ⟨hk, hxs, hnl, hnt⟩, HF, HS⟩
 replace HS := Bx.mk HS
 have hxl : xs.length = k := by rw [hxs, List.length_map]; exact hnl
 revert a;refine xsq<|xsr<|xr 2 rfl<|xne<|xcs 21 rfl (fun cc3=>?_) fun cc3=>?_
 have dcc3 := of_decide_eq_true cc3
 refine xct rfl<|xsk<|xet<|xsq<|xbl<|xsq ?_
 obtain ⟨g4, rfl, _, _, _, _⟩ := HS.out.rowOpen 1 rfl (by omega)
 have hcap := HS.out.capLe 1 rfl
 refine xrl<|xr 2 rfl<|xy rfl (vx 9 k 1 rfl)<|xy rfl (fun a HF=>ylo (v := .string ((piecesB s 46).getD k ByteArray.empty)) rfl (HF.ev rfl) (HS.out.elem1 encS_len 1 rfl (get_getD (xs := piecesB s 46) (j := k) (d := ByteArray.empty) (by omega)) rfl)) ?_
 intro a HF
 refine yc (specNumGet_any ((piecesB s 46).getD k ByteArray.empty) _ (by have := piece_le s 46 k; omega)) HF Tryz.func116 ?_
 rintro _ w7 (⟨n1, hg1, rfl, hb⟩ | ⟨hg1, rfl, hb⟩)
 refine ⟨_, rfl, ?_⟩; replace HS := Bx.mk (HS.out.later hb);clear hb HF a
 refine xr 5 rfl<|xne<|xsq<|xsr<|xr 2 rfl<|xne<|xcf rfl<|xsk<|xet<|xrl<|xr 2 rfl ?_
 intro a HF
 refine ybs encI 3 1 [(n1 : Int)] HF HS ?_;clear HF HS a;intro b5 a w8 HF HS
 refine yap elemI encI_len HS 1 HF (St.rdN HS.out encI_len 0 rfl) (cells_one_I _) ?_;clear HF HS a;intro ao6 cp7 w9 a HF HS
 try dsimp only [List.eraseIdx] at HS
 revert a;refine xr 1 rfl<|xni<|xeb<|xet<|xrl<|xr 1 rfl<|xy rfl (vad rfl)<|xr 1 rfl<|xne ?_
 have hz : xs.length + ([(n1 : Int)] : List Int).length = (xs ++ [(n1 : Int)]).length := (List.length_append ..).symm
 intro a HF
 rw [hz] at HS HF
 have hnx : xs ++ [(n1 : Int)] = (ns ++ [n1]).map (fun n : Nat => (n : Int)) := by rw [hxs]; exact toI_snoc ns n1
 replace HS:=Bx.mk (((HS.out.pick 3 rfl).pick 3 rfl).pick 3 rfl)
 exact ⟨k + 1, ⟨_, _, xs ++ [(n1 : Int)], ns ++ [n1], ⟨by omega, hnx, by rw [List.length_append, hnl]; rfl, hnt.snoc (by rw [hnl]; exact hg1)⟩, HF.less _ ⟨rfl, rfl, rfl, rfl, rfl, rfl, trivial⟩, (HS.out.erase 3)⟩, (by omega)⟩
 refine ⟨_, rfl, ?_⟩; replace HS := Bx.mk (HS.out.later hb);clear hb HF a
 refine xr 5 rfl<|xne<|xsq<|xsr<|xr 2 rfl<|xne<|xct rfl<|xsr<|xy rfl (vb z5 rfl) ?_
 intro a HF
 refine yst HF HS 2 ?_;clear HS;intro w10 HS
 try dsimp only [List.set] at HS
 revert a;refine xr 1 rfl<|xne<|xre<|xtr<|xbr<|xtr<|xtr<|xbr<|xtr ?_
 intro a HF
 refine bp_ret2 HF Tryz.results117 (HF.resBox rfl (HS.out.box 2 rfl) (by kernel_rfl)) (HF.res rfl) ?_
 refine .inr ⟨fun p hp ht => ?_, rfl, HS.out.bel⟩
 have h5 := ptr_five cc1 hp ht
 obtain ⟨n, hn⟩ := h5.2 k (by omega); rw [hg1] at hn; cases hn
 have dcc3 := of_decide_eq_false cc3
 refine xcf rfl<|xex<|xtx<|xtx<|xbh<|xet<|xsq ?_
 have hk5 : ns.length = 5 := by omega
 obtain ⟨m0, m1, m2, m3, m4, rfl⟩ := len5n hk5
 obtain rfl : xs = [(m0 : Int), (m1 : Int), (m2 : Int), (m3 : Int), (m4 : Int)] := hxs
 intro a HF
 replace HF : Fr 64 a [(0, .string s), (2, .pointer (some ⟨b1, 0, none⟩)), (3, .bool false), (4, .slice ao2 ((piecesB s 46).length) cp2), (5, .slice ao 5 cp), (21, .bool false)] := HF.less _ ⟨rfl, rfl, rfl, rfl, rfl, rfl, trivial⟩
 try dsimp only [List.eraseIdx] at HS
 obtain ⟨g8, rfl, _, _, _, _⟩ := HS.out.rowOpen 0 rfl (Nat.succ_pos _)
 have hcap := HS.out.capLe 0 rfl
 refine wr_heldS (s := [rowA encI 1 3 (.slice (some ⟨g8, 0, none⟩) 5 cp) ([(m0 : Int), (m1 : Int), (m2 : Int), (m3 : Int), (m4 : Int)]), rowA encS 1 9 (.slice ao2 ((piecesB s 46).length) cp2) (piecesB s 46), boxA b1 5 35 (az5)]) (by kernel_rfl) (St.drew (HS.out)) ?_
 have HS2 := Bx.mk HS.out.drew; replace HS := Bx.mk (show St w0 ([rowA encI 1 3 (.slice (some ⟨g8, 0, none⟩) 5 cp) ([(m0 : Int), (m1 : Int), (m2 : Int), (m3 : Int), (m4 : Int)]), rowA encS 1 9 (.slice ao2 ((piecesB s 46).length) cp2) (piecesB s 46), boxA b1 5 35 (az5)]) _ from HS.out.drew)
 generalize World.drew _ = w11 at HS HS2 ⊢
 revert a;refine xh 0 HS.out rfl rfl rfl<|xhy 1 HS.out rfl rfl (fun HS=>vx 3 0 1 rfl)<|xhy 2 HS.out rfl rfl (fun HS=>ve encI_len HS 0 0 rfl rfl rfl rfl)<|xh 3 HS.out rfl rfl rfl<|xhy 4 HS.out rfl rfl (fun HS=>vx 3 1 1 rfl)<|xhy 5 HS.out rfl rfl (fun HS=>ve encI_len HS 0 1 rfl rfl rfl rfl)<|xh 6 HS.out rfl rfl rfl<|xhy 7 HS.out rfl rfl (fun HS=>vx 3 2 1 rfl)<|xhy 8 HS.out rfl rfl (fun HS=>ve encI_len HS 0 2 rfl rfl rfl rfl)<|xh 9 HS.out rfl rfl rfl<|xhy 10 HS.out rfl rfl (fun HS=>vx 3 3 1 rfl)<|xhy 11 HS.out rfl rfl (fun HS=>ve encI_len HS 0 3 rfl rfl rfl rfl)<|xh 12 HS.out rfl rfl rfl<|xhy 13 HS.out rfl rfl (fun HS=>vx 3 4 1 rfl)<|xhy 14 HS.out rfl rfl (fun HS=>ve encI_len HS 0 4 rfl rfl rfl rfl)<|xhy 15 HS.out rfl rfl (fun HS=>vb [.int .i64 (m0 : Int), .int .i64 (m1 : Int), .int .i64 (m2 : Int), .int .i64 (m3 : Int), .int .i64 (m4 : Int)] rfl) ?_
 intro a HF
 refine wh_one 16 (by kernel_rfl) ?_
 refine wo_alloc rfl rfl HF rfl rfl rfl (Z := z5) (by kernel_rfl) rfl HS2.out HS.out ?_; clear HF HS HS2 a; intro a w12 b9 HF HS2 HS; replace HS := Bx.mk HS; replace HS2 := Bx.mk HS2; refine ⟨HS.out, ?_⟩
 refine wh_one 17 (by kernel_rfl) ?_
 refine wo_storeBox rfl rfl rfl rfl (HF.ev rfl) (HF.ev rfl) HS2.out 0 rfl (cells_lit [.int .i64 (m0 : Int), .int .i64 (m1 : Int), .int .i64 (m2 : Int), .int .i64 (m3 : Int), .int .i64 (m4 : Int)] rfl rfl) (by kernel_rfl) ?_
 clear HS HS2; intro w13 HS2; replace HS2:=Bx.mk HS2;try dsimp only [List.set] at HS2
 have HS:=Bx.mk ((HS2.out.erase 0));refine ⟨HS.out,?_⟩
 refine wh_done (by kernel_rfl) ?_
 replace HS := HS2; clear HS2
 revert a;refine xet<|xsq<|xsr<|xy rfl (vw HS.out 0 5 rfl rfl) ?_
 intro a HF
 refine ycB (specPtrOk_any (⟨(m0 : Int), (m1 : Int), (m2 : Int), (m3 : Int), (m4 : Int)⟩ : PtrD) _) HF Tryz.func49 HS ?_; clear HF HS a; intro w14 a HS HF
 revert a;refine xr 2 rfl<|xcs 58 rfl (fun cc4=>?_) fun cc4=>?_
 refine xr 3 rfl<|xne<|xct rfl<|xsr<|xy rfl (vb z5 rfl) ?_
 intro a HF
 refine yst HF HS 3 ?_;clear HS;intro w15 HS
 try dsimp only [List.set] at HS
 revert a;refine xr 1 rfl<|xne<|xre<|xtr ?_
 intro a HF
 refine bp_ret2 HF Tryz.results117 (HF.resBox rfl (HS.out.box 3 rfl) (by kernel_rfl)) (HF.res rfl) ?_
 refine .inr ⟨fun p hp ht => ?_, rfl, HS.out.bel⟩
 obtain ⟨e1, e2⟩ := five_of hnt (by omega) cc1 hp ht; rw [e1] at hp e2
 simp [hp, e2] at cc4
 refine xy rfl (vw HS.out 0 5 rfl rfl) ?_
 intro a HF
 refine ycBg (specHole_any (⟨(m0 : Int), (m1 : Int), (m2 : Int), (m3 : Int), (m4 : Int)⟩ : PtrD) _) HF Tryz.func50 HS ?_; clear HF HS a; intro w16 a HS HF
 revert a;refine xr 1 rfl<|xne<|xcs 61 rfl (fun cc5=>?_) fun cc5=>?_
 refine xct rfl<|xsr<|xy rfl (vb z5 rfl) ?_
 intro a HF
 refine yst HF HS 3 ?_;clear HS;intro w17 HS
 try dsimp only [List.set] at HS
 revert a;refine xr 1 rfl<|xne<|xre<|xtr ?_
 intro a HF
 refine bp_ret2 HF Tryz.results117 (HF.resBox rfl (HS.out.box 3 rfl) (by kernel_rfl)) (HF.res rfl) ?_
 refine .inr ⟨fun p hp ht => ?_, rfl, HS.out.bel⟩
 obtain ⟨e1, e2⟩ := five_of hnt (by omega) cc1 hp ht; rw [e1] at hp e2
 simp [hp, e2] at cc5
 refine xcf rfl<|xsk<|xet<|xsr<|xy rfl (vw HS.out 0 5 rfl rfl) ?_
 intro a HF
 refine yst HF HS 3 ?_;clear HS;intro w18 HS
 try dsimp only [List.set] at HS
 revert a;refine xr 1 rfl<|xne<|xre ?_
 intro a HF
 refine bp_ret2 HF Tryz.results117 (HF.resBox rfl (HS.out.box 3 rfl) (by kernel_rfl)) (HF.res rfl) ?_
 exact .inl ⟨(⟨(m0 : Int), (m1 : Int), (m2 : Int), (m3 : Int), (m4 : Int)⟩ : PtrD), by simpa using cc4, five_is hnt (by omega) (by simpa using cc4) (by simpa using cc5), rfl, HS.out.bel⟩
theorem specFanGet_any (s : ByteArray) (w0 : World) (hs : s.size ≤ 1000000) : Calls Tryz.prog 118 #[.string s] w0 fun e w' => (∃ l, IsFan s l ∧ ∃ ao cp, e = .returned (.tuple #[.slice ao l.length cp, .bool true]) ∧ St w0 [rowA PtrD.cells 5 35 (.slice ao l.length cp) l] w') ∨ ((∀ l, ¬ IsFan s l) ∧ ∃ ao, e = .returned (.tuple #[.slice ao 0 0, .bool false]) ∧ Below w0.heap.size w0 w') := by
 have hpm := pieces_many s 44
 have HS := Bx.mk (St.start w0)
 refine wc_enter Tryz.func118 rfl Tryz.ntmps118 [(0, .string s)] ⟨rfl, trivial⟩ rfl ?_
 refine xsr<|xr 2 rfl<|xne<|xsr<|xr 1 rfl ?_
 intro a HF
 refine yc (l2Cut_any s 44 _ (by omega)) HF Tryz.func145 ?_
 rintro _ w1 ⟨ao1, cp1, rfl, hs⟩
 refine ⟨_, rfl, ?_⟩
 replace HS := Bx.mk (HS.out.add hs);clear hs HF a;intro a HF
 try dsimp only [List.eraseIdx] at HS
 revert a;refine xr 1 rfl<|xne<|xsr ?_
 intro a HF
 refine yem 35 5 HF HS ?_;clear HF HS a;intro a w2 b2 HF HS
 revert a;refine xr 1 rfl<|xne<|xsr<|xr 1 rfl<|xne<|xsq<|xsr<|xr 1 rfl<|xne<|xbl ?_
 replace HS := Bx.mk (HS.out.nilRow PtrD.cells 5 35 (some ⟨b2, 0, none⟩))
 intro a HF
 refine wc_loop (ι := Nat) (fun k a w => ∃ (ao : Option Addr) (cp : Nat) (ys : List PtrD), (k ≤ (piecesB s 44).length ∧ ys.length = k ∧ FanTo s ys) ∧ Fr 49 a [(0, .string s), (4, .slice ao1 ((piecesB s 44).length) cp1), (5, .slice ao ys.length cp), (7, .int .i64 (k : Int)), (6, .bool (!ys.all (fun p => p.hole)))] ∧ St w0 ([rowA PtrD.cells 5 35 (.slice ao ys.length cp) ys, rowA encS 1 9 (.slice ao1 ((piecesB s 44).length) cp1) (piecesB s 44)]) w) (fun k => (piecesB s 44).length - k) 0 ⟨_, _, [], ⟨Nat.zero_le _, rfl, FanTo.nil s⟩, HF.less _ ⟨rfl, rfl, rfl, rfl, rfl, trivial⟩, HS.out⟩ ?_
 clear HF HS; clear a
 rintro k a w3 ⟨ao, cp, ys, ⟨hk, hyl, hft⟩, HF, HS⟩
 replace HS := Bx.mk HS
 revert a;refine xsq<|xsr<|xr 2 rfl<|xy rfl (vn 9 1 rfl)<|xr 1 rfl<|xne<|xcs 16 rfl (fun cc1=>?_) fun cc1=>?_
 have dcc1 := of_decide_eq_true cc1
 refine xct rfl<|xsk<|xet<|xsq<|xbl<|xsq ?_
 obtain ⟨g3, rfl, _, _, _, _⟩ := HS.out.rowOpen 1 rfl (by omega)
 have hcap := HS.out.capLe 1 rfl
 refine xrl<|xr 2 rfl<|xy rfl (vx 9 k 1 rfl)<|xy rfl (fun a HF=>ylo (v := .string ((piecesB s 44).getD k ByteArray.empty)) rfl (HF.ev rfl) (HS.out.elem1 encS_len 1 rfl (get_getD (xs := piecesB s 44) (j := k) (d := ByteArray.empty) (by omega)) rfl)) ?_
 intro a HF
 refine yc (specPtrGet_any ((piecesB s 44).getD k ByteArray.empty) _ (by have := piece_le s 44 k; omega)) HF Tryz.func117 ?_
 rintro _ w4 (⟨p, hpo, hpt, rfl, hb⟩ | ⟨hpn, rfl, hb⟩)
 refine ⟨_, rfl, ?_⟩; replace HS := Bx.mk (HS.out.later hb);clear hb HF a
 refine xr 3 rfl ?_
 intro a HF
 refine yal z5 HF HS ?_;clear HF HS a;intro a w5 b4 HF HS
 refine yst HF HS 0 ?_;clear HS;intro w6 HS
 try dsimp only [List.set] at HS
 revert a;refine xr 1 rfl<|xne<|xsq<|xsr<|xr 2 rfl<|xne<|xcf rfl<|xsk<|xet<|xsr<|xr 2 rfl<|xcs 31 rfl (fun cc2=>?_) fun cc2=>?_
 refine xr 5 rfl<|xne<|xrl<|xr 1 rfl<|xy rfl (vw HS.out 0 5 rfl rfl) ?_
 intro a HF
 refine ybs PtrD.cells 35 5 [p] HF HS ?_;clear HF HS a;intro b5 a w7 HF HS
 refine yap elemQ PtrD.cells_len HS 2 HF (St.rdN HS.out PtrD.cells_len 0 rfl) (cells_one_Q _) ?_;clear HF HS a;intro ao6 cp7 w8 a HF HS
 try dsimp only [List.eraseIdx] at HS
 revert a;refine xr 1 rfl<|xni<|xeb<|xet<|xrl<|xr 1 rfl<|xy rfl (vad rfl)<|xr 1 rfl<|xne ?_
 have hz : ys.length + ([p]).length = (ys ++ ([p])).length := (List.length_append ..).symm
 intro a HF
 rw [hz] at HS HF
 have hlen : (ys ++ ([p])).length = k + 1 := by rw [List.length_append, hyl]; rfl
 have hft2 : FanTo s (ys ++ ([p])) := hft.snoc (by omega) hpo (by rw [hyl]; exact hpt)
 have hsm : (true : Bool) = (!(ys ++ [p]).all (fun p => p.hole)) := by rw [List.all_append]; skip; simp [cc1, cc2]
 replace HS:=Bx.mk ((HS.out.pick 3 rfl).pick 3 rfl)
 exact ⟨k + 1, ⟨_, _, ys ++ ([p]), ⟨by omega, hlen, hft2⟩, HF.less _ ⟨rfl, rfl, rfl, rfl, (congrArg (fun z => some (Value.bool z)) hsm), trivial⟩, ((HS.out.erase 3).erase 2)⟩, (by omega)⟩
 refine xy rfl (vw HS.out 0 5 rfl rfl) ?_
 intro a HF
 refine ycBg (specHole_any p _) HF Tryz.func50 HS ?_; clear HF HS a; intro w9 a HS HF
 revert a;refine xr 3 rfl<|xne<|xrl<|xr 1 rfl<|xy rfl (vw HS.out 0 5 rfl rfl) ?_
 intro a HF
 refine ybs PtrD.cells 35 5 [p] HF HS ?_;clear HF HS a;intro b8 a w10 HF HS
 refine yap elemQ PtrD.cells_len HS 2 HF (St.rdN HS.out PtrD.cells_len 0 rfl) (cells_one_Q _) ?_;clear HF HS a;intro ao9 cp10 w11 a HF HS
 try dsimp only [List.eraseIdx] at HS
 revert a;refine xr 1 rfl<|xni<|xeb<|xet<|xrl<|xr 1 rfl<|xy rfl (vad rfl)<|xr 1 rfl<|xne ?_
 have hz : ys.length + ([p]).length = (ys ++ ([p])).length := (List.length_append ..).symm
 intro a HF
 rw [hz] at HS HF
 have hlen : (ys ++ ([p])).length = k + 1 := by rw [List.length_append, hyl]; rfl
 have hft2 : FanTo s (ys ++ ([p])) := hft.snoc (by omega) hpo (by rw [hyl]; exact hpt)
 have hsm : (!p.hole : Bool) = (!(ys ++ [p]).all (fun p => p.hole)) := by rw [List.all_append]; skip; simp [cc1, cc2]
 replace HS:=Bx.mk ((HS.out.pick 3 rfl).pick 3 rfl)
 exact ⟨k + 1, ⟨_, _, ys ++ ([p]), ⟨by omega, hlen, hft2⟩, HF.less _ ⟨rfl, rfl, rfl, rfl, (congrArg (fun z => some (Value.bool z)) hsm), trivial⟩, ((HS.out.erase 3).erase 2)⟩, (by omega)⟩
 refine ⟨_, rfl, ?_⟩; replace HS := Bx.mk (HS.out.later hb);clear hb HF a
 refine xr 3 rfl ?_
 intro a HF
 refine yal z5 HF HS ?_;clear HF HS a;intro a w12 b11 HF HS
 refine yst HF HS 0 ?_;clear HS;intro w13 HS
 try dsimp only [List.set] at HS
 revert a;refine xr 1 rfl<|xne<|xsq<|xsr<|xr 2 rfl<|xne<|xct rfl<|xsr ?_
 intro a HF
 refine yem 35 5 HF HS ?_;clear HF HS a;intro a w14 b12 HF HS
 revert a;refine xr 2 rfl<|xne<|xre<|xtr<|xbr<|xtr<|xtr<|xbr<|xtr<|xb2 Tryz.results118 rfl rfl ?_
 exact .inr ⟨fan_bad (k := k) (by omega) hpn, _, rfl, HS.out.bel⟩
 have dcc1 := of_decide_eq_false cc1
 refine xcf rfl<|xex<|xtx<|xtx<|xbh<|xet<|xsq<|xsr<|xr 1 rfl<|xy rfl (vn 35 5 rfl)<|xr 2 rfl<|xcs 43 rfl (fun cc3=>?_) fun cc3=>?_
 have dcc3 := bne_iff_ne.1 cc3
 refine xr 3 rfl<|xne<|xct rfl<|xsr ?_
 intro a HF
 refine yem 35 5 HF HS ?_;clear HF HS a;intro a w15 b13 HF HS
 revert a;refine xr 2 rfl<|xne<|xre<|xtr<|xb2 Tryz.results118 rfl rfl ?_
 exact .inr ⟨fan_four (by omega), _, rfl, HS.out.bel⟩
 have dcc3 := bne_eq_false_iff_eq.1 cc3
 refine xr 3 rfl<|xne<|xcs 46 rfl (fun cc4=>?_) fun cc4=>?_
 refine xct rfl<|xsr ?_
 intro a HF
 refine yem 35 5 HF HS ?_;clear HF HS a;intro a w16 b14 HF HS
 revert a;refine xr 2 rfl<|xne<|xre<|xtr<|xb2 Tryz.results118 rfl rfl ?_
 exact .inr ⟨fun l hl => (by have e := hft.one (by omega) hl; subst e; have h2 := hl.some; simp [h2] at cc4), _, rfl, HS.out.bel⟩
 refine xcf rfl<|xsk<|xet<|xsr<|xr 3 rfl<|xne<|xre<|xb2 Tryz.results118 rfl rfl ?_
 have hfan : IsFan s ys := hft.is_of (by omega) (by omega) (by simpa using cc4)
 exact .inl ⟨ys, hfan, _, _, rfl, (HS.out.erase 1)⟩
open Go.RowKit
structure RowsOk (st : StoreD) : Prop where
  n : st.fRows.length = 64
  z : ∀ i, (st.fRows.getD i ByteArray.empty).size ≤ 1000000
theorem readT_le {st : StoreD} (h : RowsOk st) (p : PtrD) : (readT st p).size ≤ 1000000 := by
  unfold readT
  cases p.hole
  · cases fitsB p (rowAt st p)
    · exact Nat.zero_le _
    · exact h.z _
  · exact Nat.zero_le _
section
variable {P : Program} {o : Oper} {a : Act} {w : World} {e : TypeId}
theorem yl_sliceH3 {t : TypeId} {x y z : Operand} (ho : o.op = .slice t x none (some y) (some z)) {ao : Option Addr} {n cap : Nat} (hx : a.eval x = .slice ao n cap) {kk kl : IntKind} {m l : Int} (hy : a.eval y = .int kk m) (hz : a.eval z = .int kl l) {size : Nat} (hu : elemOf? P t = some (e, size)) {k : Nat} (hm : m = (k : Int)) (hl : l = (k : Int)) (hk : k ≤ cap) : Yl P w o a (.slice ao k k) := by
  unfold elemOf? at hu
  split at hu
  · rename_i e' hu'
    split at hu
    · rename_i inf hq
      subst hm; subst hl
      have h2 : ((k : Int) ≤ (cap : Int)) := by omega
      unfold Yl execOp
      simp only [ho, hx, hy, hz, Option.map_some, Option.map_none, Instr.sliceAt, Instr.slice, Sem.run_bind, run_underlying hu' w, Result.andThen_ok]
      simp [Instr.slice, Instr.sliceBounds, Instr.sliceBound, asIntOf, go_sem, run_underlying hu' w, sizeOf, typeInfo, hq, h2]
      try (intro hlt; omega)
    · cases hu
  · cases hu
end
theorem stRead_any (a0 : Option Addr) (c0 : Nat) (a1 : Option Addr) (c1 : Nat) (a2 : Option Addr) (c2 : Nat) (a4 : Option Addr) (c4 : Nat) (a6 : Option Addr) (c6 : Nat) (st : StoreD) (p : PtrD) (b : Nat) (w0 : World) (hB : Box w0 b 8 33 (sV a0 c0 a1 c1 a2 c2 a4 c4 a6 c6 st)) (hR : Rd encS 1 w0 a0 st.fRows.length st.fRows) (hrow : RowsOk st) (hp : p.ok = true) : Calls Tryz.prog 96 #[.pointer (some ⟨b, 0, none⟩), pV p] w0 fun e w' => e = .returned (.tuple #[.string (readT st p), .bool (readB st p)]) ∧ Below w0.heap.size w0 w' := by
 have HB := Bx.mk hB
 have HR := Bx.mk hR; clear hR
 have HS := Bx.mk (St.start w0)
 refine wc_enter Tryz.func96 rfl Tryz.ntmps96 [(0, .pointer (some ⟨b, 0, none⟩)), (1, pV p)] ⟨rfl, rfl, trivial⟩ rfl ?_; intro a HF
 have hrn := hrow.n; obtain ⟨g0, o0, r0⟩ := HR.out.opn; have R0 := Bx.mk r0; clear r0
 refine wp_sr ?_
 refine ybx HF HS ?_;clear HF HS a;intro a w1 b1 HF HS
 revert a;refine xr 2 rfl<|xne<|xsq<|xbl<|xsr<|xy rfl (vw HS.out 0 5 rfl rfl) ?_
 intro a HF
 refine ycB (implHole_any p _) HF Tryz.func68 HS ?_; clear HF HS a; intro w2 a HS HF
 revert a;refine xr 1 rfl<|xne<|xcs 6 rfl (fun cc1=>?_) fun cc1=>?_
 refine xct rfl<|xsr<|xr 2 rfl<|xne<|xre<|xbr<|xtr<|xb2 Tryz.results96 rfl rfl ?_
 exact ⟨by rw [readT_hole cc1, readB_hole cc1] <;> rfl, HS.out.bel⟩
 have hpb := PtrD.ok_all hp cc1
 refine xcf rfl<|xsq ?_
 intro a HF
 refine wr_quiet (by kernel_rfl) (by kernel_rfl) HS.out ?_
 revert a;refine xq rfl (fun HS=>vw HS 0 5 rfl rfl)<|xqr 2 rfl<|xq rfl (fun HS=>vf 0 rfl)<|xq rfl (fun HS a HF=>ylo (v := .slice a0 st.fRows.length c0) rfl (HF.ev rfl) (((HB.out.below HS.bel (Nat.le_refl _)).cell 0).trans rfl))<|xq rfl (fun HS=>vf 0 rfl)<|xq rfl (fun HS=>vc HS 0 rfl rfl)<|xq rfl (fun HS a HF=>yl_indexAddrR (e := 9) (i := p.fAt.toNat) (size := 1) rfl (HF.ev rfl) (HF.ev rfl) (by kernel_rfl) (by omega) (by omega) (R0.out.ao p.fAt.toNat (by omega)))<|xq rfl (fun HS a HF=>ylo (v := .string (st.fRows.getD p.fAt.toNat ByteArray.empty)) rfl (HF.ev rfl) (R0.out.elem1 HS (get_getD (xs := st.fRows) (j := p.fAt.toNat) (d := ByteArray.empty) (by omega)) rfl)) ?_
 intro a HF
 refine yq (v := .bool (fitsB p (rowAt st p))) (fun _ HS => implPtrFits_any p (st.fRows.getD p.fAt.toNat ByteArray.empty) _ (by have := hrow.z p.fAt.toNat; omega)) HF Tryz.func126 ?_; clear HF a
 refine xqr 2 rfl ?_
 intro a HF
 refine wpQuiet_nil ?_; intro w3 HS; replace HS := Bx.mk HS
 revert a;refine xet<|xcs 9 rfl (fun cc2=>?_) fun cc2=>?_
 refine xct rfl<|xsr<|xr 2 rfl<|xne<|xre<|xbr<|xtr<|xb2 Tryz.results96 rfl rfl ?_
 have hf := cc2; simp only [Bool.not_eq_true', Bool.not_eq_false'] at hf
 exact ⟨by rw [readT_no cc1 hf, readB_is cc1, hf] <;> rfl, HS.out.bel⟩
 refine xcf rfl<|xsk<|xeb<|xet<|xsq ?_
 intro a HF
 refine wr_quiet (by kernel_rfl) (by kernel_rfl) HS.out ?_
 revert a;refine xqr 2 rfl<|xq rfl (fun HS=>vf 0 rfl)<|xq rfl (fun HS a HF=>ylo (v := .slice a0 st.fRows.length c0) rfl (HF.ev rfl) (((HB.out.below HS.bel (Nat.le_refl _)).cell 0).trans rfl))<|xq rfl (fun HS=>vf 0 rfl)<|xq rfl (fun HS=>vc HS 0 rfl rfl)<|xq rfl (fun HS a HF=>yl_indexAddrR (e := 9) (i := p.fAt.toNat) (size := 1) rfl (HF.ev rfl) (HF.ev rfl) (by kernel_rfl) (by omega) (by omega) (R0.out.ao p.fAt.toNat (by omega)))<|xq rfl (fun HS a HF=>ylo (v := .string (st.fRows.getD p.fAt.toNat ByteArray.empty)) rfl (HF.ev rfl) (R0.out.elem1 HS (get_getD (xs := st.fRows) (j := p.fAt.toNat) (d := ByteArray.empty) (by omega)) rfl))<|xqr 2 rfl ?_
 intro a HF
 refine wpQuiet_nil ?_; intro w4 HS; replace HS := Bx.mk HS
 revert a;refine xet<|xre<|xb2 Tryz.results96 rfl rfl ?_
 have hf := cc2; simp only [Bool.not_eq_true', Bool.not_eq_false'] at hf
 exact ⟨by rw [readT_yes cc1 hf, readB_is cc1, hf] <;> rfl, HS.out.bel⟩
theorem l7Read_any (a0 : Option Addr) (c0 : Nat) (a1 : Option Addr) (c1 : Nat) (a2 : Option Addr) (c2 : Nat) (a4 : Option Addr) (c4 : Nat) (a6 : Option Addr) (c6 : Nat) (st : StoreD) (p : PtrD) (w0 : World) (hR : Rd encS 1 w0 a0 st.fRows.length st.fRows) (hrow : RowsOk st) (hp : p.ok = true) : Calls Tryz.prog 63 #[sV a0 c0 a1 c1 a2 c2 a4 c4 a6 c6 st, pV p] w0 fun e w' => e = .returned (.tuple #[.string (readT st p), .bool (readB st p)]) ∧ Below w0.heap.size w0 w' := by
 have HR := Bx.mk hR; clear hR
 have HS := Bx.mk (St.start w0)
 refine wc_enter Tryz.func63 rfl Tryz.ntmps63 [(0, sV a0 c0 a1 c1 a2 c2 a4 c4 a6 c6 st), (1, pV p)] ⟨rfl, rfl, trivial⟩ rfl ?_; intro a HF
 have hrn := hrow.n; obtain ⟨g0, o0, r0⟩ := HR.out.opn; have R0 := Bx.mk r0; clear r0
 refine wp_sr ?_
 refine ybx HF HS ?_;clear HF HS a;intro a w1 b1 HF HS
 refine ybx HF HS ?_;clear HF HS a;intro a w2 b2 HF HS
 revert a;refine xr 2 rfl<|xne<|xsq<|xsr<|xy rfl (vw HS.out 0 5 rfl rfl) ?_
 intro a HF
 refine ycB (specHole_any p _) HF Tryz.func50 HS ?_; clear HF HS a; intro w3 a HS HF
 revert a;refine xne<|xcs 7 rfl (fun cc1=>?_) fun cc1=>?_
 refine xct rfl<|xsr<|xr 2 rfl<|xne<|xre<|xtr<|xb2 Tryz.results63 rfl rfl ?_
 exact ⟨by rw [readT_hole cc1, readB_hole cc1] <;> rfl, HS.out.bel⟩
 have hpb := PtrD.ok_all hp cc1
 refine xcf rfl<|xsk<|xet<|xsq<|xsq ?_
 intro a HF
 refine wr_quiet (by kernel_rfl) (by kernel_rfl) HS.out ?_
 revert a;refine xq rfl (fun HS=>vw HS 0 5 rfl rfl)<|xq rfl (fun HS=>vf 0 rfl)<|xq rfl (fun HS=>vc HS 1 rfl rfl)<|xq rfl (fun HS=>vf 0 rfl)<|xq rfl (fun HS=>vc HS 0 rfl rfl)<|xq rfl (fun HS a HF=>yl_indexAddrR (e := 9) (i := p.fAt.toNat) (size := 1) rfl (HF.ev rfl) (HF.ev rfl) (by kernel_rfl) (by omega) (by omega) (R0.out.ao p.fAt.toNat (by omega)))<|xq rfl (fun HS a HF=>ylo (v := .string (st.fRows.getD p.fAt.toNat ByteArray.empty)) rfl (HF.ev rfl) (R0.out.elem1 HS (get_getD (xs := st.fRows) (j := p.fAt.toNat) (d := ByteArray.empty) (by omega)) rfl)) ?_
 intro a HF
 refine yq (v := .bool (fitsB p (rowAt st p))) (fun _ HS => specPtrFits_any p (st.fRows.getD p.fAt.toNat ByteArray.empty) _ (by have := hrow.z p.fAt.toNat; omega)) HF Tryz.func88 ?_; clear HF a
 refine xqr 1 rfl ?_
 intro a HF
 refine wpQuiet_nil ?_; intro w4 HS; replace HS := Bx.mk HS
 revert a;refine xet<|xcs 16 rfl (fun cc2=>?_) fun cc2=>?_
 refine xct rfl<|xsr<|xr 2 rfl<|xne<|xre<|xtr<|xb2 Tryz.results63 rfl rfl ?_
 have hf := cc2; simp only [Bool.not_eq_true', Bool.not_eq_false'] at hf
 exact ⟨by rw [readT_no cc1 hf, readB_is cc1, hf] <;> rfl, HS.out.bel⟩
 refine xcf rfl<|xsk<|xet<|xsr<|xy rfl (vf 0 rfl)<|xy rfl (vc HS.out 1 rfl rfl)<|xy rfl (vf 0 rfl)<|xy rfl (vc HS.out 0 rfl rfl)<|xy rfl (fun a HF=>yl_indexAddrR (e := 9) (i := p.fAt.toNat) (size := 1) rfl (HF.ev rfl) (HF.ev rfl) (by kernel_rfl) (by omega) (by omega) (R0.out.ao p.fAt.toNat (by omega)))<|xy rfl (fun a HF=>ylo (v := .string (st.fRows.getD p.fAt.toNat ByteArray.empty)) rfl (HF.ev rfl) (R0.out.elem1 HS.out (get_getD (xs := st.fRows) (j := p.fAt.toNat) (d := ByteArray.empty) (by omega)) rfl))<|xr 2 rfl<|xne<|xre<|xb2 Tryz.results63 rfl rfl ?_
 have hf := cc2; simp only [Bool.not_eq_true', Bool.not_eq_false'] at hf
 exact ⟨by rw [readT_yes cc1 hf, readB_is cc1, hf] <;> rfl, HS.out.bel⟩
theorem fanOf1_any (k p : PtrD) (b : Nat) (w0 : World) (hB : Box w0 b 5 35 (pV p)) : Calls Tryz.prog 151 #[pV k, .pointer (some ⟨b, 0, none⟩)] w0 fun e w' => e = .returned (.bool (decide (p.fBirth < k.fBirth))) ∧ Below w0.heap.size w0 w' := by
 have HB := Bx.mk hB
 have HS := Bx.mk (St.start w0)
 refine wc_enter Tryz.func151 rfl Tryz.ntmps151 [(0, pV k), (1, .pointer (some ⟨b, 0, none⟩))] ⟨rfl, rfl, trivial⟩ rfl ?_
 refine xsr ?_
 intro a HF
 refine ybx HF HS ?_;clear HF HS a;intro a w1 b1 HF HS
 revert a;refine xr 1 rfl<|xne<|xsr<|xy rfl (vf 1 rfl)<|xy rfl (vc HS.out 0 rfl rfl)<|xy rfl (vf 1 rfl)<|xy rfl (fun a HF=>ylo (v := .int .i64 p.fBirth) rfl (HF.ev rfl) (((HB.out.below HS.out.bel (Nat.le_refl _)).cell 1).trans rfl))<|xr 2 rfl<|xne<|xre<|xb1 Tryz.results151 rfl ?_
 exact ⟨rfl, HS.out.bel⟩
theorem allB_any {xs : List PtrD} {f : PtrD → Bool} : (!allB (fun k => !f (xs.getD k PtrD.zero)) xs.length) = xs.any f := by
  have h := allB_ptr (xs := xs) (f := fun p => !f p) xs.length (Nat.le_refl _)
  rw [List.take_length] at h
  rw [show allB (fun k => !f (xs.getD k PtrD.zero)) xs.length = xs.all (fun p => !f p) from h, List.not_all_eq_any_not]
  simp
theorem fanOf_any (a0 : Option Addr) (c0 : Nat) (a1 : Option Addr) (c1 : Nat) (a2 : Option Addr) (c2 : Nat) (a4 : Option Addr) (c4 : Nat) (a6 : Option Addr) (c6 : Nat) (st : StoreD) (p : PtrD) (level : Int) (b : Nat) (w0 : World) (hT : TabP w0) (hM : MaxP w0) (hE : ErrP w0) (hB : Box w0 b 8 33 (sV a0 c0 a1 c1 a2 c2 a4 c4 a6 c6 st)) (hR : Rd encS 1 w0 a0 st.fRows.length st.fRows) (hrow : RowsOk st) (hp : p.ok = true) : Calls Tryz.prog 124 #[.pointer (some ⟨b, 0, none⟩), pV p, .int .i64 level] w0 fun e w' => (∃ l, kids st p level = some l ∧ ∃ ao cp, e = .returned (.tuple #[.slice ao l.length cp, .bool true]) ∧ St w0 [rowA PtrD.cells 5 35 (.slice ao l.length cp) l] w') ∨ (kids st p level = none ∧ ∃ ao n cp, e = .returned (.tuple #[.slice ao n cp, .bool false]) ∧ Below w0.heap.size w0 w') := by
 have HT := Bx.mk hT; have HM := Bx.mk hM; have HE := Bx.mk hE; have HB := Bx.mk hB; have HR := Bx.mk hR; clear hT hM hE hR
 have HS := Bx.mk (St.start w0)
 refine wc_enter Tryz.func124 rfl Tryz.ntmps124 [(0, .pointer (some ⟨b, 0, none⟩)), (1, pV p), (2, .int .i64 level)] ⟨rfl, rfl, rfl, trivial⟩ rfl ?_
 refine xsr ?_
 intro a HF
 refine ybx HF HS ?_;clear HF HS a;intro a w1 b1 HF HS
 revert a;refine xr 2 rfl<|xne<|xsq<|xsr<|xy rfl (vw HS.out 0 5 rfl rfl) ?_
 intro a HF
 refine ycB (implHole_any p _) HF Tryz.func68 HS ?_; clear HF HS a; intro w2 a HS HF
 revert a;refine xne<|xcs 13 rfl (fun cc1=>?_) fun cc1=>?_
 refine xct rfl<|xsr ?_
 intro a HF
 refine wl_makeN (enc := PtrD.cells) (n := 4) rfl HF rfl rfl rfl elemQ (HF.ev rfl) (HF.ev rfl) (by omega) (by omega) (by omega) (by unfold maxLen; omega) PtrD.zero (u := az5) (by kernel_rfl) rfl rfl HS.out ?_; clear HF HS a; intro b2 a w3 HF HS; replace HS := Bx.mk HS
 revert a;refine xr 2 rfl<|xne<|xre<|xtr<|xb2 Tryz.results124 rfl rfl ?_
 exact .inl ⟨holes4, kids_hole cc1, _, _, rfl, (HS.out.erase 1)⟩
 have hpb := PtrD.ok_all hp cc1
 refine xcf rfl<|xsk<|xet<|xsr<|xr 1 rfl<|xy rfl (vw HS.out 0 5 rfl rfl) ?_
 intro a HF
 refine ycB (stRead_any a0 c0 a1 c1 a2 c2 a4 c4 a6 c6 st p b _ (HB.out.below HS.out.bel (Nat.le_refl _)) (HR.out.below HS.out.bel) hrow hp) HF Tryz.func96 HS ?_; clear HF HS a; intro w4 a HS HF
 revert a;refine xr 5 rfl<|xne<|xsq<|xsr<|xr 3 rfl<|xcs 23 rfl (fun cc2=>?_) fun cc2=>?_
 refine xr 5 rfl<|xne<|xct rfl<|xsr<|xr 2 rfl<|xne<|xre<|xtr<|xb2 Tryz.results124 rfl rfl ?_
 exact .inr ⟨kids_unread cc1 (by simpa using cc2), _, _, _, rfl, HS.out.bel⟩
 refine xy rfl (vf 4 rfl)<|xy rfl (vc HS.out 0 rfl rfl)<|xr 3 rfl<|xne<|xcs 28 rfl (fun cc3=>?_) fun cc3=>?_
 have dcc3 := bne_iff_ne.1 cc3
 refine xct rfl<|xsr<|xr 2 rfl<|xne<|xre<|xtr<|xb2 Tryz.results124 rfl rfl ?_
 exact .inr ⟨kids_level cc1 (by simpa using cc3), _, _, _, rfl, HS.out.bel⟩
 have dcc3 := bne_eq_false_iff_eq.1 cc3
 refine xcf rfl<|xsk<|xet<|xsr<|xr 1 rfl ?_
 intro a HF
 refine yc (implFanGet_any (readT st p) _ (HT.out.below HS.out.bel) (HM.out.below HS.out.bel) (HE.out.below HS.out.bel) (readT_le hrow p)) HF Tryz.func149 ?_
 rintro _ w5 (⟨l, hfan, ao, cp, rfl, hs1⟩ | ⟨hno, rfl, hb⟩)
 refine ⟨_, rfl, ?_⟩; replace HS := Bx.mk (HS.out.add hs1);clear hs1 HF a;intro a HF
 try dsimp only [List.eraseIdx] at HS
 revert a;refine xr 5 rfl<|xne<|xsr<|xr 4 rfl<|xy rfl (fun a HF=>yl_makeFunc HF rfl (cs := #[.pointer (some ⟨b1, 0, none⟩)]) rfl) ?_
 intro a HF
 refine ycBg (by have := containsFuncP_any ao cp l 151 #[.pointer (some ⟨b1, 0, none⟩)] (fun k => decide (p.fBirth < (l.getD k PtrD.zero).fBirth)) _ (by have := hfan.n; omega) (enter_of Tryz.func151 (by kernel_rfl) rfl) (St.rdOf HS.out PtrD.cells_len 0 rfl) (fun k hk w hb => fanOf1_any _ p b1 w ((HS.out.box 1 rfl).below hb (Nat.le_refl _))); rw [allB_any (f := fun k => decide (p.fBirth < k.fBirth))] at this; exact this) HF Tryz.func150 HS ?_; clear HF HS a; intro w6 a HS HF
 revert a;refine xr 4 rfl<|xne<|xre<|xb2 Tryz.results124 rfl rfl ?_
 cases hany : l.any (fun k => decide (p.fBirth < k.fBirth)) with
 | false => exact .inl ⟨l, kids_yes cc1 (by simpa using cc2) (by simpa using cc3) hfan hany, _, _, rfl, (HS.out.erase 1)⟩
 | true => exact .inr ⟨kids_born cc1 hfan hany, _, _, _, rfl, HS.out.bel⟩
 refine ⟨_, rfl, ?_⟩; replace HS := Bx.mk (HS.out.later hb);clear hb HF a
 refine xr 5 rfl<|xne<|xsr<|xr 10 rfl<|xne<|xre<|xb2 Tryz.results124 rfl rfl ?_
 exact .inr ⟨kids_nofan cc1 hno, _, _, _, rfl, HS.out.bel⟩
theorem l8Holes_any (n : Nat) (hn : n ≤ 100) (w0 : World) : Calls Tryz.prog 107 #[.int .i64 (n : Int)] w0 fun e w' => ∃ ao cp, e = .returned (.slice ao n cp) ∧ St w0 [rowA PtrD.cells 5 35 (.slice ao n cp) (List.replicate n PtrD.zero)] w' := by
 have HS := Bx.mk (St.start w0)
 refine wc_enter Tryz.func107 rfl Tryz.ntmps107 [(0, .int .i64 (n : Int))] ⟨rfl, trivial⟩ rfl ?_
 refine xsr<|xr 1 rfl<|xne<|xsr<|xr 1 rfl ?_
 intro a HF
 refine wl_makeN (enc := PtrD.cells) (n := n) rfl HF rfl rfl rfl elemQ (HF.ev rfl) (HF.ev rfl) (by omega) (by omega) (by omega) (by unfold maxLen; omega) PtrD.zero (u := az5) (by kernel_rfl) rfl rfl HS.out ?_; clear HF HS a; intro b1 a w1 HF HS; replace HS := Bx.mk HS
 revert a;refine xr 1 rfl<|xne<|xre<|xb1 Tryz.results107 rfl ?_
 exact ⟨_, _, rfl, HS.out⟩
theorem l8Below_any (a0 : Option Addr) (c0 : Nat) (a1 : Option Addr) (c1 : Nat) (a2 : Option Addr) (c2 : Nat) (a4 : Option Addr) (c4 : Nat) (a6 : Option Addr) (c6 : Nat) (st : StoreD) (p : PtrD) (level : Int) (w0 : World) (hR : Rd encS 1 w0 a0 st.fRows.length st.fRows) (hrow : RowsOk st) : Calls Tryz.prog 87 #[sV a0 c0 a1 c1 a2 c2 a4 c4 a6 c6 st, pV p, .int .i64 level] w0 fun e w' => (∃ l, kidsS st p level = some l ∧ ∃ ao cp, e = .returned (.tuple #[.slice ao l.length cp, .bool true]) ∧ St w0 [rowA PtrD.cells 5 35 (.slice ao l.length cp) l] w') ∨ (kidsS st p level = none ∧ ∃ ao n cp, e = .returned (.tuple #[.slice ao n cp, .bool false]) ∧ Below w0.heap.size w0 w') := by
 have HR := Bx.mk hR; clear hR
 have HS := Bx.mk (St.start w0)
 refine wc_enter Tryz.func87 rfl Tryz.ntmps87 [(0, sV a0 c0 a1 c1 a2 c2 a4 c4 a6 c6 st), (1, pV p), (2, .int .i64 level)] ⟨rfl, rfl, rfl, trivial⟩ rfl ?_
 refine xsr ?_
 intro a HF
 refine ybx HF HS ?_;clear HF HS a;intro a w1 b1 HF HS
 refine ybx HF HS ?_;clear HF HS a;intro a w2 b2 HF HS
 revert a;refine xr 2 rfl<|xne<|xsq<|xsr<|xy rfl (vw HS.out 0 5 rfl rfl) ?_
 intro a HF
 refine ycB (specHole_any p _) HF Tryz.func50 HS ?_; clear HF HS a; intro w3 a HS HF
 revert a;refine xne<|xcs 14 rfl (fun cc1=>?_) fun cc1=>?_
 refine xct rfl<|xsr ?_
 intro a HF
 refine yc (l8Holes_any 4 (by omega) _) HF Tryz.func107 ?_
 rintro _ w4 ⟨ao3, cp3, rfl, hs⟩
 refine ⟨_, rfl, ?_⟩
 replace HS := Bx.mk (HS.out.add hs);clear hs HF a;intro a HF
 try dsimp only [List.eraseIdx] at HS
 revert a;refine xr 2 rfl<|xne<|xre<|xtr<|xb2 Tryz.results87 rfl rfl ?_
 exact .inl ⟨holes4, kidsS_hole cc1, _, _, rfl, ((HS.out.erase 2).erase 1)⟩
 refine xcf rfl<|xsk<|xet<|xsq<|xsr<|xy rfl (vw HS.out 0 5 rfl rfl) ?_
 intro a HF
 refine ycB (specPtrOk_any p _) HF Tryz.func49 HS ?_; clear HF HS a; intro w5 a HS HF
 revert a;refine xr 2 rfl<|xcs 19 rfl (fun cc2=>?_) fun cc2=>?_
 refine xr 12 rfl<|xne<|xct rfl<|xsr ?_
 intro a HF
 refine yem 35 5 HF HS ?_;clear HF HS a;intro a w6 b4 HF HS
 revert a;refine xr 2 rfl<|xne<|xre<|xtr<|xb2 Tryz.results87 rfl rfl ?_
 have hbad : (p.ok && ((p.fLevel == level) && decide (p.fBirth ≤ st.fTxg))) = false := by
   have hl : p.ok = false := (by simpa using cc2); rw [hl]; rfl
 exact .inr ⟨kidsS_no cc1 hbad, _, _, _, rfl, HS.out.bel⟩
 have hp : p.ok = true := by simpa using cc2
 refine xy rfl (vf 4 rfl)<|xy rfl (vc HS.out 0 rfl rfl)<|xr 4 rfl<|xcs 25 rfl (fun cc3=>?_) fun cc3=>?_
 have dcc3 := bne_iff_ne.1 cc3
 refine xr 6 rfl<|xne<|xct rfl<|xsr ?_
 intro a HF
 refine yem 35 5 HF HS ?_;clear HF HS a;intro a w7 b5 HF HS
 revert a;refine xr 2 rfl<|xne<|xre<|xtr<|xb2 Tryz.results87 rfl rfl ?_
 have hbad : (p.ok && ((p.fLevel == level) && decide (p.fBirth ≤ st.fTxg))) = false := by
   have hl : (p.fLevel == level) = false := (by simpa using cc3); rw [hl]; simp
 exact .inr ⟨kidsS_no cc1 hbad, _, _, _, rfl, HS.out.bel⟩
 have dcc3 := bne_eq_false_iff_eq.1 cc3
 refine xy rfl (vf 1 rfl)<|xy rfl (vc HS.out 0 rfl rfl)<|xy rfl (vf 3 rfl)<|xy rfl (vc HS.out 1 rfl rfl)<|xr 2 rfl<|xne<|xcs 31 rfl (fun cc4=>?_) fun cc4=>?_
 have dcc4 := of_decide_eq_true cc4
 refine xct rfl<|xsr ?_
 intro a HF
 refine yem 35 5 HF HS ?_;clear HF HS a;intro a w8 b6 HF HS
 revert a;refine xr 2 rfl<|xne<|xre<|xtr<|xb2 Tryz.results87 rfl rfl ?_
 have hbad : (p.ok && ((p.fLevel == level) && decide (p.fBirth ≤ st.fTxg))) = false := by
   rw [decide_eq_false (show ¬ p.fBirth ≤ st.fTxg by omega)]; simp
 exact .inr ⟨kidsS_no cc1 hbad, _, _, _, rfl, HS.out.bel⟩
 have dcc4 := of_decide_eq_false cc4
 refine xcf rfl<|xsk<|xet<|xsr<|xy rfl (vw HS.out 1 8 rfl rfl)<|xy rfl (vw HS.out 0 5 rfl rfl) ?_
 intro a HF
 refine ycB (l7Read_any a0 c0 a1 c1 a2 c2 a4 c4 a6 c6 st p _  (HR.out.below HS.out.bel) hrow hp) HF Tryz.func63 HS ?_; clear HF HS a; intro w9 a HS HF
 revert a;refine xr 5 rfl<|xne<|xsq<|xsr<|xr 2 rfl<|xne<|xcs 40 rfl (fun cc5=>?_) fun cc5=>?_
 refine xct rfl<|xsr ?_
 intro a HF
 refine yem 35 5 HF HS ?_;clear HF HS a;intro a w10 b7 HF HS
 revert a;refine xr 2 rfl<|xne<|xre<|xtr<|xb2 Tryz.results87 rfl rfl ?_
 have hks := kidsS_eq (n := level) hp (show p.fBirth ≤ st.fTxg by omega)
 exact .inr ⟨hks.trans (kids_unread cc1 (by simpa using cc5)), _, _, _, rfl, HS.out.bel⟩
 refine xcf rfl<|xsk<|xet<|xsr<|xr 1 rfl ?_
 intro a HF
 refine yc (specFanGet_any (readT st p) _ (readT_le hrow p)) HF Tryz.func118 ?_
 rintro _ w11 (⟨l, hfan, ao, cp, rfl, hs1⟩ | ⟨hno, ae, rfl, hb⟩)
 refine ⟨_, rfl, ?_⟩; replace HS := Bx.mk (HS.out.add hs1);clear hs1 HF a;intro a HF
 try dsimp only [List.eraseIdx] at HS
 revert a;refine xr 5 rfl<|xne<|xsq<|xsr<|xr 1 rfl<|xne<|xbl ?_
 intro a HF
 refine wc_loop (ι := Nat) (fun k a w => (k ≤ l.length ∧ ∀ i, i < k → decide (p.fBirth < (l.getD i PtrD.zero).fBirth) = false) ∧ Fr 64 a [(0, sV a0 c0 a1 c1 a2 c2 a4 c4 a6 c6 st), (1, pV p), (2, .int .i64 level), (3, .pointer (some ⟨b1, 0, none⟩)), (4, .pointer (some ⟨b2, 0, none⟩)), (6, .slice none 0 0), (7, .bool false), (10, .slice ao l.length cp), (11, .bool true), (12, .int .i64 (k : Int))] ∧ St w0 ([rowA PtrD.cells 5 35 (.slice ao l.length cp) l, boxA b2 5 35 (pV p), boxA b1 8 33 (sV a0 c0 a1 c1 a2 c2 a4 c4 a6 c6 st)]) w) (fun k => l.length - k) 0 ⟨⟨Nat.zero_le _, fun i hi => absurd hi (Nat.not_lt_zero _)⟩, HF.less _ ⟨rfl, rfl, rfl, rfl, rfl, rfl, rfl, rfl, rfl, rfl, trivial⟩, HS.out⟩ ?_
 clear HF HS; clear a
 rintro k a w12 ⟨⟨hk, hno⟩, HF, HS⟩
 replace HS := Bx.mk HS
 have hl4 := hfan.n
 revert a;refine xsq<|xsr<|xr 2 rfl<|xy rfl (vn 35 5 rfl)<|xr 1 rfl<|xne<|xcs 50 rfl (fun cc6=>?_) fun cc6=>?_
 have dcc6 := of_decide_eq_true cc6
 refine xct rfl<|xsk<|xet<|xsq<|xbl<|xsq ?_
 obtain ⟨g8, rfl, _, _, _, _⟩ := HS.out.rowOpen 0 rfl (by omega)
 intro a HF
 refine wr_quiet (by kernel_rfl) (by kernel_rfl) HS.out ?_
 revert a;refine xqr 2 rfl<|xq rfl (fun HS=>vx 35 k 5 rfl)<|xq rfl (fun HS=>vf 1 rfl)<|xq rfl (fun HS a HF=>ylo (v := .int .i64 ((l.getD k PtrD.zero).fBirth)) rfl (HF.ev rfl) (HS.elem PtrD.cells_len 0 rfl (get_getD (xs := l) (j := k) (d := PtrD.zero) (by omega)) 1 _ rfl))<|xq rfl (fun HS=>vf 1 rfl)<|xq rfl (fun HS=>vc HS 1 rfl rfl)<|xqr 1 rfl ?_
 intro a HF
 refine wpQuiet_nil ?_; intro w13 HS; replace HS := Bx.mk HS
 revert a;refine xet<|xcs 60 rfl (fun cc7=>?_) fun cc7=>?_
 have dcc7 := of_decide_eq_true cc7
 refine xct rfl<|xsr ?_
 intro a HF
 refine yem 35 5 HF HS ?_;clear HF HS a;intro a w14 b9 HF HS
 revert a;refine xr 2 rfl<|xne<|xre<|xbr<|xtr<|xtr<|xbr<|xtr<|xb2 Tryz.results87 rfl rfl ?_
 have hks := kidsS_eq (n := level) hp (show p.fBirth ≤ st.fTxg by omega)
 have hany : l.any (fun k => decide (p.fBirth < k.fBirth)) = true := List.any_eq_true.2 ⟨l.getD k PtrD.zero, (by rw [List.getD_eq_getElem?_getD, List.getElem?_eq_getElem (show k < l.length by omega)]; exact List.getElem_mem _), cc7⟩
 exact .inr ⟨hks.trans (kids_born cc1 hfan hany), _, _, _, rfl, HS.out.bel⟩
 have dcc7 := of_decide_eq_false cc7
 refine xcf rfl<|xsk<|xeb<|xet<|xrl<|xr 1 rfl<|xy rfl (vad rfl)<|xr 1 rfl<|xne ?_
 have hno1 : ∀ i, i < k + 1 → decide (p.fBirth < (l.getD i PtrD.zero).fBirth) = false := fun i hi => (by omega : i < k ∨ i = k).elim (hno i) fun e => by subst e; exact cc7
 intro a HF
 exact ⟨k + 1, ⟨⟨by omega, hno1⟩, HF.less _ ⟨rfl, rfl, rfl, rfl, rfl, rfl, rfl, rfl, rfl, rfl, trivial⟩, HS.out⟩, (by omega)⟩
 have dcc6 := of_decide_eq_false cc6
 refine xcf rfl<|xex<|xtx<|xtx<|xbh<|xet<|xsr<|xr 4 rfl<|xne<|xre<|xb2 Tryz.results87 rfl rfl ?_
 have hks := kidsS_eq (n := level) hp (show p.fBirth ≤ st.fTxg by omega)
 have hany : l.any (fun k => decide (p.fBirth < k.fBirth)) = false := List.any_eq_false.2 fun x hx => by
   obtain ⟨i, hi, e⟩ := List.mem_iff_getElem.1 hx
   have h1 := hno i (by omega); rw [List.getD_eq_getElem?_getD, List.getElem?_eq_getElem hi, Option.getD_some, e] at h1; rw [h1]; simp
 exact .inl ⟨l, hks.trans (kids_yes cc1 (by simpa using cc5) (by simpa using cc3) hfan hany), _, _, rfl, ((HS.out.erase 2).erase 1)⟩
 refine ⟨_, rfl, ?_⟩; replace HS := Bx.mk (HS.out.later hb);clear hb HF a
 refine xr 5 rfl<|xne<|xsq<|xsr<|xr 1 rfl<|xne<|xbl ?_
 intro a HF
 refine wc_loop (ι := Nat) (fun k a w => (k = 0) ∧ Fr 64 a [(0, sV a0 c0 a1 c1 a2 c2 a4 c4 a6 c6 st), (1, pV p), (2, .int .i64 level), (3, .pointer (some ⟨b1, 0, none⟩)), (4, .pointer (some ⟨b2, 0, none⟩)), (6, .slice none 0 0), (7, .bool false), (10, .slice ae 0 0), (11, .bool false), (12, .int .i64 (k : Int))] ∧ St w0 ([boxA b2 5 35 (pV p), boxA b1 8 33 (sV a0 c0 a1 c1 a2 c2 a4 c4 a6 c6 st)]) w) (fun k => 0) 0 ⟨rfl, HF.less _ ⟨rfl, rfl, rfl, rfl, rfl, rfl, rfl, rfl, rfl, rfl, trivial⟩, HS.out⟩ ?_
 clear HF HS; clear a
 rintro k a w15 ⟨hk0, HF, HS⟩
 replace HS := Bx.mk HS
 revert a;refine xsq<|xsr<|xr 2 rfl<|xy rfl (vn 35 5 rfl)<|xr 1 rfl<|xne<|xcs 50 rfl (fun cc8=>?_) fun cc8=>?_
 have dcc8 := of_decide_eq_true cc8
 exact absurd dcc8 (by omega)
 have dcc8 := of_decide_eq_false cc8
 refine xcf rfl<|xex<|xtx<|xtx<|xbh<|xet<|xsr<|xr 4 rfl<|xne<|xre<|xb2 Tryz.results87 rfl rfl ?_
 have hks := kidsS_eq (n := level) hp (show p.fBirth ≤ st.fTxg by omega)
 exact .inr ⟨hks.trans (kids_nofan cc1 hno), _, _, _, rfl, HS.out.bel⟩
open Go.RowKit
def good (refs : List Int) (t : Int) (p : PtrD) : Bool := ptrIn p t && (refs.getD p.fAt.toNat 0 != 0)
set_option maxHeartbeats 2000000 in
theorem given_any (ao : Option Addr) (len cap : Nat) (ps0 ps : List PtrD) (t : Int) (refs : List Int) (a1 : Option Addr) (c1 : Nat) (cs : Array Value) (s g m : Nat) (W w : World)
    (hlen : len ≤ 1048576) (h0 : ps0.length ≤ 1048576) (h64 : refs.length = 64) (hsg : s < g) (hgm : g < m) (hWg : W.heap.size ≤ g)
    (hb : Below W.heap.size W w) (hcs : cs[1]? = some (.slice a1 refs.length c1)) (r1 : Rd encI 1 W a1 refs.length refs) (r4 : Rd PtrD.cells 5 W ao len ps)
    (hA : w.heap[s]? = some (.cells cs 33 (0, 0))) (hM : w.heap[m]? = some (.cells #[.slice (some ⟨g, 0, none⟩) 64 64] 23 (0, 0)))
    (ho : w.ownsRow g 3 1 (.slice (some ⟨g, 0, none⟩) 64 64) 64 (cntCells ps0)) :
    Calls Tryz.prog 122 #[.slice ao len cap, .int .i64 t, .pointer (some ⟨s, 0, none⟩), .pointer (some ⟨m, 0, none⟩)] w fun e w' => e = .returned (.bool (ps.all (good refs t))) ∧ Below W.heap.size W w' ∧
      (ps.all (good refs t) = true → w'.heap[s]? = some (.cells cs 33 (0, 0)) ∧ w'.heap[m]? = some (.cells #[.slice (some ⟨g, 0, none⟩) 64 64] 23 (0, 0)) ∧ w'.ownsRow g 3 1 (.slice (some ⟨g, 0, none⟩) 64 64) 64 (cntCells (ps0 ++ ps))) := by
  have HA0 := Lib.hid hA
  have HM0 := Lib.hid hM
  have HO0 := Lib.hid ho
  have hps := r4.len
  have H64 := Lib.hid h64
  clear hA hM ho h64
  go_enter Tryz.func122, Tryz.ntmps122
  go_wp2
  go_loopw [11] (fun i wr => ∃ k : Nat, k ≤ len ∧ i = .int .i64 k ∧ (ps.take k).all (good refs t) = true ∧ Below W.heap.size W wr ∧ wr.heap[s]? = some (.cells cs 33 (0, 0)) ∧ wr.heap[m]? = some (.cells #[.slice (some ⟨g, 0, none⟩) 64 64] 23 (0, 0)) ∧ wr.ownsRow g 3 1 (.slice (some ⟨g, 0, none⟩) 64 64) 64 (cntCells (ps0 ++ ps.take k))) (fun i _ => len - (intOf i).toNat)
  case atStart => exact ⟨0, Nat.zero_le _, rfl, rfl, hb, HA0.out, HM0.out, by simpa using HO0.out⟩
  case round =>
    obtain ⟨k, hk, rfl, hall, hb1, hA, hM, ho⟩ := hrel
    clear hb HA0 HM0 HO0
    by_cases hlt : k < len
    · obtain ⟨b, off, p, hp, rfl, hbl, hrg⟩ := r4.at_ k (by omega)
      obtain ⟨d0, d1, d2, d3, d4⟩ := PtrD.at_ (rangeAt_below hrg hb1 hbl)
      obtain ⟨hkp, hpe⟩ := List.getElem?_eq_some_iff.1 hp
      have hsn : Hid (ps.take (k + 1) = ps.take k ++ [p]) := by show _ = _; rw [List.take_succ_eq_append_getElem hkp, hpe]
      have hfail : Hid (good refs t p = false → ps.all (good refs t) = false) := fun h => by rw [List.all_eq_false]; exact ⟨p, by rw [← hpe]; exact List.getElem_mem _, by rw [h]; decide⟩
      have hnext : Hid (good refs t p = true → (ps.take (k + 1)).all (good refs t) = true) := fun h => by rw [hsn.out, List.all_append, hall]; simp [h]
      have hgood : Hid (good refs t p = ((p.ok && (!p.hole && decide (p.fBirth ≤ t))) && (refs.getD p.fAt.toNat 0 != 0))) := rfl
      have hcj : (ps0 ++ ps.take k).length ≤ 2097152 := by rw [List.length_append, List.length_take]; omega
      have HA := Lib.hid hA
      have HM := Lib.hid hM
      have HO := Lib.hid ho
      have hsw := blk_lt hA
      have hmw := blk_lt hM
      clear hp hrg hall hA hM ho hpe hkp
      go_wp2_with fail
      have hba := hb1.alloc hb1.size (.cells #[.int .i64 p.fAt, .int .i64 p.fBirth, .int .i64 p.fSize, .int .i64 p.fSum, .int .i64 p.fLevel] 35)
      refine (implPtrOk_any p _).mono ?_
      rintro e w2 ⟨rfl, b2⟩
      have hb2 := hba.trans (b2.mono hba.size)
      have q2 := blk_below (blk_new wr (.cells #[.int .i64 p.fAt, .int .i64 p.fBirth, .int .i64 p.fSize, .int .i64 p.fSum, .int .i64 p.fLevel] 35) _ rfl) b2 (Nat.le_refl _)
      have f0 : w2.cell? ⟨wr.heap.size, 0, none⟩ = some (.int .i64 p.fAt) := blk_cell q2 0
      have f1 : w2.cell? ⟨wr.heap.size, 1, none⟩ = some (.int .i64 p.fBirth) := blk_cell q2 1
      have f2 : w2.cell? ⟨wr.heap.size, 2, none⟩ = some (.int .i64 p.fSize) := blk_cell q2 2
      have f3 : w2.cell? ⟨wr.heap.size, 3, none⟩ = some (.int .i64 p.fSum) := blk_cell q2 3
      have f4 : w2.cell? ⟨wr.heap.size, 4, none⟩ = some (.int .i64 p.fLevel) := blk_cell q2 4
      cases h1 : p.ok
      · have HR : Hid (good refs t p = false) := by show _ = _; rw [hgood.out, h1]; rfl
        go_wp2
        go_ret
        exact ⟨ret_bool (hfail.out HR.out).symm, hb2, fun h => absurd ((hfail.out HR.out).symm.trans h) (by decide)⟩
      · go_wp2_with fail
        refine (implHole_any p _).mono ?_
        rintro e w3 ⟨rfl, b3⟩
        have hb3 := hb2.trans (b3.mono hb2.size)
        have q3 := blk_below q2 b3 (Nat.le_refl _)
        clear f0 f1 f2 f3 f4
        cases h2 : p.hole
        rotate_left
        · have HR : Hid (good refs t p = false) := by show _ = _; rw [hgood.out, h1, h2]; rfl
          go_wp2
          go_ret
          exact ⟨ret_bool (hfail.out HR.out).symm, hb3, fun h => absurd ((hfail.out HR.out).symm.trans h) (by decide)⟩
        · by_cases h3 : p.fBirth ≤ t
          rotate_left
          · have HR : Hid (good refs t p = false) := by show _ = _; rw [hgood.out, h1, h2]; simp [h3]
            have f1 : w3.cell? ⟨wr.heap.size, 1, none⟩ = some (.int .i64 p.fBirth) := blk_cell q3 1
            have h3' : decide (t < p.fBirth) = true := by simp; omega
            go_wp2
            go_ret
            exact ⟨ret_bool (hfail.out HR.out).symm, hb3, fun h => absurd ((hfail.out HR.out).symm.trans h) (by decide)⟩
          · have hat := ptrIn_at (p := p) (m := t) (by simp [ptrIn, h1, h2, h3])
            obtain ⟨a, ha⟩ : ∃ a : Nat, p.fAt = (a : Int) := ⟨p.fAt.toNat, by omega⟩
            have ha1 : a < 64 := by omega
            have Ha := Lib.hid ha
            have Hat := Lib.hid hat
            clear ha hat
            have f0 : w3.cell? ⟨wr.heap.size, 0, none⟩ = some (.int .i64 (a : Int)) := by rw [← Ha.out]; exact blk_cell q3 0
            have f1 : w3.cell? ⟨wr.heap.size, 1, none⟩ = some (.int .i64 p.fBirth) := blk_cell q3 1
            have hA3 := blk_below (blk_below (blk_alloc HA.out (.cells #[.int .i64 p.fAt, .int .i64 p.fBirth, .int .i64 p.fSize, .int .i64 p.fSum, .int .i64 p.fLevel] 35)) b2 (Nat.le_refl _)) b3 (Nat.le_refl _)
            have hM3 := blk_below (blk_below (blk_alloc HM.out (.cells #[.int .i64 p.fAt, .int .i64 p.fBirth, .int .i64 p.fSize, .int .i64 p.fSum, .int .i64 p.fLevel] 35)) b2 (Nat.le_refl _)) b3 (Nat.le_refl _)
            have ho3 := owns_below (owns_below (HO.out.alloc (.cells #[.int .i64 p.fAt, .int .i64 p.fBirth, .int .i64 p.fSize, .int .i64 p.fSum, .int .i64 p.fLevel] 35)) b2 (Nat.le_refl _)) b3 (Nat.le_refl _)
            have hca : w3.cell? ⟨g, a, none⟩ = some (.int .i64 (cnt (ps0 ++ ps.take k) a : Nat)) := by rw [ho3.cellAt a (by omega)]; exact cntCells_get _ _ ha1
            have hfa := ho3.frozenAt a
            have hcl := cnt_le (ps0 ++ ps.take k) a
            obtain ⟨b1, off1, r, hx1, rfl, hbl1, hrg1⟩ := r1.at_ a (by rw [H64.out]; exact ha1)
            have g1 := (rangeAt_below hrg1 hb3 hbl1) 0 _ rfl
            simp only [Nat.mul_one, Nat.add_zero] at g1
            have e1 := Lib.hid (getD_of (d := (0 : Int)) hx1)
            have hl1 : a < refs.length := by rw [H64.out]; exact ha1
            have p1 : w3.cell? ⟨s, 1, none⟩ = some (.slice (some ⟨b1, off1, none⟩) refs.length c1) := by rw [blk_cell hA3 1]; exact hcs
            have pm : w3.cell? ⟨m, 0, none⟩ = some (.slice (some ⟨g, 0, none⟩) 64 64) := blk_cell hM3 0
            have HA3 := Lib.hid hA3
            have HM3 := Lib.hid hM3
            have HO3 := Lib.hid ho3
            clear hx1 hrg1 hA3 hM3 ho3 q2 q3 b2 b3 HA HM HO hb1 hb2 hba
            have h3' : decide (t < p.fBirth) = false := by simp; omega
            cases gr : (r == 0)
            rotate_left
            · have HR : Hid (good refs t p = false) := by
                show _ = _
                rw [hgood.out, Ha.out, Int.toNat_natCast, e1.out]
                simp only [bne, gr]; simp
              go_wp2
              go_ret
              exact ⟨ret_bool (hfail.out HR.out).symm, hb3, fun h => absurd ((hfail.out HR.out).symm.trans h) (by decide)⟩
            · have HR : Hid (good refs t p = true) := by
                show _ = _
                rw [hgood.out, Ha.out, Int.toNat_natCast, e1.out, h1, h2]
                simp only [bne, gr]; simp [h3]
              generalize hcd : cnt (ps0 ++ ps.take k) a = cn at hca hcl
              have HCD := Lib.hid hcd
              clear hcd
              go_wp2
              go_roundw
              case rel =>
                obtain ⟨ho4, _⟩ := HO3.out.stored a (.int .i64 ((cn : Int) + 1))
                refine ⟨k + 1, by omega, by go_num, hnext.out HR.out, hb3.setCell (p := ⟨g, a, none⟩) hWg _, ?_, ?_, ?_⟩
                · exact blk_set_other HA3.out (p := ⟨g, a, none⟩) (Nat.ne_of_lt hsg) _
                · exact blk_set_other HM3.out (p := ⟨g, a, none⟩) (Nat.ne_of_gt hgm) _
                · rw [hsn.out, ← List.append_assoc, ← cntCells_snoc _ p a Ha.out ha1, HCD.out]; exact ho4
              case measure => simp [intOf]; omega
    · have hk' : k = len := by omega
      subst hk'
      have htk : Hid (ps.take k = ps) := List.take_of_length_le (by omega)
      have HR := Lib.hid hall
      have HA := Lib.hid hA
      have HM := Lib.hid hM
      have HO := Lib.hid ho
      clear hall hA hM ho
      go_wp2
      go_ret
      rw [htk.out] at HR HO
      exact ⟨ret_bool HR.out.symm, hb1, fun _ => ⟨HA.out, HM.out, HO.out⟩⟩
open Go.RowKit
structure Later (W : World) where
  val : World
  below : Below W.heap.size W val
instance (W : World) : Inhabited (Later W) := ⟨⟨W, Below.refl _ _⟩⟩
theorem wp_region_later_lit {P : Program} {id : Nat} {Q : Exit → Act → World → Prop} {a : Act} {w : World} {l : List Oper} (hm : P.follows .mixedOrders = true) (hB : Region.lexB .any l.toArray = true)
    (h : wpQuiet P l.toArray (fun w' => ∃ n : Later w, w' = n.val) (fun a' => ∀ w', (∃ n : Later w, w' = n.val) → Q .normal a' w') l a) : (Code.region id l.toArray true).wp P Q a w :=
  wp_region_quiet (C := fun w' => ∃ n : Later w, w' = n.val) hm hB ⟨⟨w.drew, (Below.refl _ _).drew⟩, rfl⟩ (by simpa using h)
theorem later_of {P : Program} {f : FuncId} {args : Array Value} {W : World} {n : Later W} {v : Value}
    (h : Calls P f args n.val fun e w' => e = .returned v ∧ Below n.val.heap.size n.val w') : Calls P f args n.val fun e w'' => e = .returned v ∧ ∃ m : Later W, w'' = m.val :=
  h.mono fun _ w'' ⟨he, hb⟩ => ⟨he, ⟨w'', n.below.trans (hb.mono n.below.size)⟩, rfl⟩
theorem later_of_same {P : Program} {f : FuncId} {args : Array Value} {W : World} {n : Later W} {v : Value}
    (h : Calls P f args n.val fun e w' => e = .returned v ∧ n.val = w') : Calls P f args n.val fun e w'' => e = .returned v ∧ ∃ m : Later W, w'' = m.val :=
  h.mono fun _ _ ⟨he, hm⟩ => ⟨he, n, hm.symm⟩
theorem later_cell {W : World} {a : Addr} {v : Value} (h : W.cell? a = some v) (n : Later W) : n.val.cell? a = some v :=
  (n.below.cell (World.block_lt_of_cell? W a h)).trans h
open Go.RowKit
def maxT (xs : List Int) (k : Nat) : Int := (xs.take k).foldl max (xs.getD 0 0)
theorem maxT_succ (xs : List Int) (k : Nat) {x : Int} (h : xs[k]? = some x) : maxT xs (k + 1) = max (maxT xs k) x := by
  obtain ⟨hk, rfl⟩ := List.getElem?_eq_some_iff.1 h
  unfold maxT
  rw [List.take_succ_eq_append_getElem hk, List.foldl_append]
  rfl
theorem maxT_one (xs : List Int) {x : Int} (h : xs[0]? = some x) : maxT xs 1 = x := by
  rw [show (1 : Nat) = 0 + 1 from rfl, maxT_succ xs 0 h]
  simp [maxT, List.getD, h]
theorem maxT_le (xs : List Int) (t : Int) : ∀ k, k ≤ xs.length → 0 < k → (maxT xs k ≤ t ↔ ∀ i, i < k → xs.getD i 0 ≤ t)
  | 0, _, h => absurd h (Nat.lt_irrefl _)
  | 1, h1, _ => by
    have h0 : xs[0]? = some xs[0] := List.getElem?_eq_getElem (by omega)
    rw [maxT_one xs h0]
    constructor
    · intro h i hi
      obtain rfl : i = 0 := by omega
      simpa [List.getD, h0] using h
    · intro h
      have := h 0 (by omega)
      simpa [List.getD, h0] using this
  | k + 2, h1, _ => by
    have h0 : xs[k + 1]? = some xs[k + 1] := List.getElem?_eq_getElem (by omega)
    rw [maxT_succ xs (k + 1) h0]
    have ih := maxT_le xs t (k + 1) (by omega) (by omega)
    constructor
    · intro h i hi
      by_cases hik : i = k + 1
      · subst hik
        have : xs[k + 1] ≤ t := by omega
        simpa [List.getD, h0] using this
      · exact ih.1 (by omega) i (by omega)
    · intro h
      have h2 := ih.2 (fun i hi => h i (by omega))
      have h3 := h (k + 1) (by omega)
      have h4 : xs[k + 1] ≤ t := by simpa [List.getD, h0] using h3
      omega
theorem maxS_any (ao : Option Addr) (len cap : Nat) (xs : List Int) (w : World) (hlen : len ≤ 1048576) (hpos : 0 < len) (hr : Rd encI 1 w ao len xs) :
    Calls Tryz.prog 121 #[.slice ao len cap] w fun e w' => e = .returned (.int .i64 (maxT xs len)) ∧ w = w' := by
  obtain ⟨b, off, x, hx0, rfl, hbl, hrg⟩ := hr.at_ 0 (by rw [hr.len]; exact hpos)
  have c0 := hrg 0 _ rfl
  simp only [Nat.zero_mul, Nat.add_zero] at c0
  have H1 := Lib.hid (maxT_one xs hx0)
  clear hrg hx0
  go_enter Tryz.func121, Tryz.ntmps121
  go_wp2
  go_loop [3, 4] (fun m i => ∃ k : Nat, 1 ≤ k ∧ k ≤ len ∧ i = .int .i64 k ∧ m = .int .i64 (maxT xs k)) (fun _ i => len - (intOf i).toNat)
  case atStart => exact ⟨1, by omega, by omega, rfl, by rw [H1.out]⟩
  case round =>
    obtain ⟨k, hk1, hk, rfl, rfl⟩ := hrel
    by_cases hlt : k < len
    · obtain ⟨b2, off2, y, hy0, hao, hbl2, hrg2⟩ := hr.at_ k (by rw [hr.len]; exact hlt)
      simp only [Option.some.injEq, Addr.mk.injEq, and_true] at hao
      obtain ⟨rfl, rfl⟩ := hao
      have c1 := hrg2 0 _ rfl
      simp only [Nat.mul_one, Nat.add_zero] at c1
      have H2 := Lib.hid (maxT_succ xs k hy0)
      clear hy0 hrg2
      go_wp2
      go_round
      case rel => exact ⟨k + 1, by omega, by omega, by go_num, by first | (rw [H2.out, ifmax]) | (rw [H2.out])⟩
      case measure => simp [intOf]; omega
    · have hk' : k = len := by omega
      subst hk'
      go_wp2
      go_ret
      exact ⟨rfl, rfl⟩
theorem owed_pos {refs : List Int} {ps : List PtrD} (h : owedOk refs ps = true) {p : PtrD} (hp : p ∈ ps) {m : Int} (hin : ptrIn p m = true) : refs.getD p.fAt.toNat 0 ≠ 0 := by
  obtain ⟨h1, h2, _⟩ := ptrIn_at hin
  obtain ⟨a, ha⟩ : ∃ a : Nat, p.fAt = (a : Int) := ⟨p.fAt.toNat, by omega⟩
  simp only [owedOk, List.all_eq_true] at h
  have h3 := h a (List.mem_range.2 (by omega))
  simp only [decide_eq_true_eq] at h3
  have h4 : 0 < cnt ps a := List.length_pos_of_mem (List.mem_filter.2 ⟨hp, by simp [ha]⟩)
  rw [ha, Int.toNat_natCast]
  omega
theorem all_good {refs : List Int} {ps qs : List PtrD} (h : owedOk refs qs = true) (hs : ∀ p ∈ ps, p ∈ qs) (m : Int) : ps.all (fun p => ptrIn p m) = ps.all (good refs m) := by
  rw [Bool.eq_iff_iff, List.all_eq_true, List.all_eq_true]
  refine ⟨fun k p hp => ?_, fun k p hp => ?_⟩
  · have h1 := k p hp
    have h2 := owed_pos h (hs p hp) h1
    rw [good, h1, Bool.true_and, bne_iff_ne]
    exact h2
  · have h1 := k p hp
    simp only [good, Bool.and_eq_true] at h1
    exact h1.1
theorem ok_good (st : StoreD) : (st.fGone.all (fun p => ptrIn p (st.fTxg - 1)) && (st.fDead.all (fun p => ptrIn p st.fKeep) && owedOk st.fSpace.fRefs (st.fGone ++ st.fDead))) =
    (st.fGone.all (good st.fSpace.fRefs (st.fTxg - 1)) && (st.fDead.all (good st.fSpace.fRefs st.fKeep) && owedOk st.fSpace.fRefs (st.fGone ++ st.fDead))) := by
  cases h : owedOk st.fSpace.fRefs (st.fGone ++ st.fDead)
  · simp
  · rw [all_good h (fun p hp => List.mem_append_left _ hp), all_good h (fun p hp => List.mem_append_right _ hp)]
def owedTo (refs : List Int) (ps : List PtrD) (k : Nat) : Bool := (List.range k).all fun i => decide ((cnt ps i : Int) ≤ refs.getD i 0)
theorem owedTo_succ (refs : List Int) (ps : List PtrD) (k : Nat) : owedTo refs ps (k + 1) = (owedTo refs ps k && decide ((cnt ps k : Int) ≤ refs.getD k 0)) := by simp [owedTo, List.range_succ]
theorem owed_bad {refs : List Int} {ps : List PtrD} {k : Nat} (hk : k < 64) (h : refs.getD k 0 < (cnt ps k : Int)) : owedOk refs ps = false := by
  unfold owedOk
  rw [List.all_eq_false]
  exact ⟨k, List.mem_range.2 hk, by simp only [decide_eq_true_eq]; omega⟩
theorem last_bad {st : StoreD} (hl : st.fSpace.fLast.length = 64) (h : ¬ maxT st.fSpace.fLast st.fSpace.fLast.length ≤ st.fTxg) : rowsSt st 64 = false := by
  rw [maxT_le _ _ _ (Nat.le_refl _) (by omega)] at h
  cases hr : rowsSt st 64 with
  | false => rfl
  | true =>
    refine absurd (fun i hi => ?_) h
    have := rowsSt_le hr (k := i) (by omega)
    simp only [rowSt, Bool.and_eq_true, decide_eq_true_eq] at this
    exact this.2.2
theorem last_good {st : StoreD} (hl : st.fSpace.fLast.length = 64) (h : maxT st.fSpace.fLast st.fSpace.fLast.length ≤ st.fTxg) : ∀ i, i < 64 → st.fSpace.fLast.getD i 0 ≤ st.fTxg := by
  rw [maxT_le _ _ _ (Nat.le_refl _) (by omega)] at h
  exact fun i hi => h i (by omega)
set_option maxHeartbeats 4000000 in
theorem implStoreOk_any (v : Value) (st : StoreD) (w : World) (hr : StoreD.Reads w v st) (hf : st.Fit) :
    Calls Tryz.prog 89 #[v] w fun e w' => e = .returned (.bool st.ok) ∧ Below w.heap.size w w' := by
  obtain ⟨a0, c0, a1, c1, a2, c2, a4, c4, a6, c6, rfl, r0, r1, r2, r4, r6⟩ := hr
  have hl0 := hf.f0
  have hb0 : Below w.heap.size w (w.alloc (.cells #[.slice a0 st.fRows.length c0, .slice a1 st.fSpace.fRefs.length c1, .slice a2 st.fSpace.fLast.length c2, .int .i64 st.fTxg, .slice a4 st.fGone.length c4, .int .i64 st.fKeep, .slice a6 st.fDead.length c6, .bool st.fSame] 33)) := (Below.refl _ _).alloc (Nat.le_refl _) _
  have hA0 := blk_new w (.cells #[.slice a0 st.fRows.length c0, .slice a1 st.fSpace.fRefs.length c1, .slice a2 st.fSpace.fLast.length c2, .int .i64 st.fTxg, .slice a4 st.fGone.length c4, .int .i64 st.fKeep, .slice a6 st.fDead.length c6, .bool st.fSame] 33) _ rfl
  have HSg : Bx (∀ n : Later (w.alloc (.cells #[.slice a0 st.fRows.length c0, .slice a1 st.fSpace.fRefs.length c1, .slice a2 st.fSpace.fLast.length c2, .int .i64 st.fTxg, .slice a4 st.fGone.length c4, .int .i64 st.fKeep, .slice a6 st.fDead.length c6, .bool st.fSame] 33)), Calls Tryz.prog 120 #[.agg #[.slice a1 st.fSpace.fRefs.length c1, .slice a2 st.fSpace.fLast.length c2]] n.val fun e w'' => e = .returned (.bool st.fSpace.ok) ∧ ∃ m : Later (w.alloc (.cells #[.slice a0 st.fRows.length c0, .slice a1 st.fSpace.fRefs.length c1, .slice a2 st.fSpace.fLast.length c2, .int .i64 st.fTxg, .slice a4 st.fGone.length c4, .int .i64 st.fKeep, .slice a6 st.fDead.length c6, .bool st.fSame] 33)), w'' = m.val) := ⟨fun n =>
    later_of (implSpaceOk_any _ st.fSpace _ ⟨_, _, _, _, rfl, (r1.below hb0).below n.below, (r2.below hb0).below n.below⟩ ⟨hf.f1, hf.f2⟩)⟩
  have HW1g : Bx (∀ n : Later (w.alloc (.cells #[.slice a0 st.fRows.length c0, .slice a1 st.fSpace.fRefs.length c1, .slice a2 st.fSpace.fLast.length c2, .int .i64 st.fTxg, .slice a4 st.fGone.length c4, .int .i64 st.fKeep, .slice a6 st.fDead.length c6, .bool st.fSame] 33)), Calls Tryz.prog 42 #[.int .i64 st.fTxg, .int .i64 1, .int .i64 900] n.val fun e w'' => e = .returned (.bool (inB st.fTxg 1 900)) ∧ ∃ m : Later (w.alloc (.cells #[.slice a0 st.fRows.length c0, .slice a1 st.fSpace.fRefs.length c1, .slice a2 st.fSpace.fLast.length c2, .int .i64 st.fTxg, .slice a4 st.fGone.length c4, .int .i64 st.fKeep, .slice a6 st.fDead.length c6, .bool st.fSame] 33)), w'' = m.val) := ⟨fun n => later_of_same (within_any _ _ _ _)⟩
  have HW2g : Bx (∀ n : Later (w.alloc (.cells #[.slice a0 st.fRows.length c0, .slice a1 st.fSpace.fRefs.length c1, .slice a2 st.fSpace.fLast.length c2, .int .i64 st.fTxg, .slice a4 st.fGone.length c4, .int .i64 st.fKeep, .slice a6 st.fDead.length c6, .bool st.fSame] 33)), Calls Tryz.prog 42 #[.int .i64 st.fKeep, .int .i64 0, .int .i64 (st.fTxg - 1)] n.val fun e w'' => e = .returned (.bool (inB st.fKeep 0 (st.fTxg - 1))) ∧ ∃ m : Later (w.alloc (.cells #[.slice a0 st.fRows.length c0, .slice a1 st.fSpace.fRefs.length c1, .slice a2 st.fSpace.fLast.length c2, .int .i64 st.fTxg, .slice a4 st.fGone.length c4, .int .i64 st.fKeep, .slice a6 st.fDead.length c6, .bool st.fSame] 33)), w'' = m.val) := ⟨fun n => later_of_same (within_any _ _ _ _)⟩
  have HMg : Bx (0 < st.fSpace.fLast.length → ∀ n : Later (w.alloc (.cells #[.slice a0 st.fRows.length c0, .slice a1 st.fSpace.fRefs.length c1, .slice a2 st.fSpace.fLast.length c2, .int .i64 st.fTxg, .slice a4 st.fGone.length c4, .int .i64 st.fKeep, .slice a6 st.fDead.length c6, .bool st.fSame] 33)), Calls Tryz.prog 121 #[.slice a2 st.fSpace.fLast.length c2] n.val fun e w'' => e = .returned (.int .i64 (maxT st.fSpace.fLast st.fSpace.fLast.length)) ∧ ∃ m : Later (w.alloc (.cells #[.slice a0 st.fRows.length c0, .slice a1 st.fSpace.fRefs.length c1, .slice a2 st.fSpace.fLast.length c2, .int .i64 st.fTxg, .slice a4 st.fGone.length c4, .int .i64 st.fKeep, .slice a6 st.fDead.length c6, .bool st.fSame] 33)), w'' = m.val) := ⟨fun hp n => later_of_same (maxS_any a2 _ c2 st.fSpace.fLast n.val hf.f2 hp ((r2.below hb0).below n.below))⟩
  have H0 := Bx.mk hb0
  have HF := Bx.mk hf
  have q0 : ∀ n : Later (w.alloc (.cells #[.slice a0 st.fRows.length c0, .slice a1 st.fSpace.fRefs.length c1, .slice a2 st.fSpace.fLast.length c2, .int .i64 st.fTxg, .slice a4 st.fGone.length c4, .int .i64 st.fKeep, .slice a6 st.fDead.length c6, .bool st.fSame] 33)), n.val.cell? ⟨w.heap.size, 0, none⟩ = some (.slice a0 st.fRows.length c0) := later_cell (blk_cell hA0 0)
  have q1 : ∀ n : Later (w.alloc (.cells #[.slice a0 st.fRows.length c0, .slice a1 st.fSpace.fRefs.length c1, .slice a2 st.fSpace.fLast.length c2, .int .i64 st.fTxg, .slice a4 st.fGone.length c4, .int .i64 st.fKeep, .slice a6 st.fDead.length c6, .bool st.fSame] 33)), n.val.cell? ⟨w.heap.size, 1, none⟩ = some (.slice a1 st.fSpace.fRefs.length c1) := later_cell (blk_cell hA0 1)
  have q2 : ∀ n : Later (w.alloc (.cells #[.slice a0 st.fRows.length c0, .slice a1 st.fSpace.fRefs.length c1, .slice a2 st.fSpace.fLast.length c2, .int .i64 st.fTxg, .slice a4 st.fGone.length c4, .int .i64 st.fKeep, .slice a6 st.fDead.length c6, .bool st.fSame] 33)), n.val.cell? ⟨w.heap.size, 2, none⟩ = some (.slice a2 st.fSpace.fLast.length c2) := later_cell (blk_cell hA0 2)
  have q3 : ∀ n : Later (w.alloc (.cells #[.slice a0 st.fRows.length c0, .slice a1 st.fSpace.fRefs.length c1, .slice a2 st.fSpace.fLast.length c2, .int .i64 st.fTxg, .slice a4 st.fGone.length c4, .int .i64 st.fKeep, .slice a6 st.fDead.length c6, .bool st.fSame] 33)), n.val.cell? ⟨w.heap.size, 3, none⟩ = some (.int .i64 st.fTxg) := later_cell (blk_cell hA0 3)
  have q5 : ∀ n : Later (w.alloc (.cells #[.slice a0 st.fRows.length c0, .slice a1 st.fSpace.fRefs.length c1, .slice a2 st.fSpace.fLast.length c2, .int .i64 st.fTxg, .slice a4 st.fGone.length c4, .int .i64 st.fKeep, .slice a6 st.fDead.length c6, .bool st.fSame] 33)), n.val.cell? ⟨w.heap.size, 5, none⟩ = some (.int .i64 st.fKeep) := later_cell (blk_cell hA0 5)
  have HA0 := Bx.mk hA0
  clear hA0 hb0
  by_cases h64 : st.fRows.length = 64
  rotate_left
  · have hl : ((st.fRows.length : Int) != 64) = true := by simp [bne]; omega
    have HB : Bx (st.ok = false) := ⟨by show _ = _; unfold StoreD.ok; simp [h64]⟩
    clear hf
    go_enter Tryz.func89, Tryz.ntmps89
    go_wp2_with fail
    generalize w.alloc (.cells #[.slice a0 st.fRows.length c0, .slice a1 st.fSpace.fRefs.length c1, .slice a2 st.fSpace.fLast.length c2, .int .i64 st.fTxg, .slice a4 st.fGone.length c4, .int .i64 st.fKeep, .slice a6 st.fDead.length c6, .bool st.fSame] 33) = W0 at *
    refine wp_region_later_lit (by kernel_rfl) (by kernel_rfl) ?_
    repeat (go_big_quiet_step (first | (go_at_call 120; with_reducible exact HS.out _) | (go_at_call 42; first | with_reducible exact HW1.out _ | with_reducible exact HW2.out _) | (go_at_call 121; with_reducible exact HM.out _)))
    refine wpQuiet_nil ?_
    intro _ hw'
    obtain ⟨nq, hw''⟩ := hw'
    subst hw''
    go_wp2
    go_ret
    exact ⟨ret_bool HB.out.symm, H0.out.trans (nq.below.mono H0.out.size)⟩
  · have hl : ((st.fRows.length : Int) != 64) = false := by simp [h64]
    have H64 := Bx.mk h64
    clear h64
    cases hsp : st.fSpace.ok
    · have HS := HSg.out
      rw [hsp] at HS
      have HS := Bx.mk HS
      have HB : Bx (st.ok = false) := ⟨by show _ = _; unfold StoreD.ok; simp [hsp]⟩
      clear hf hsp
      go_enter Tryz.func89, Tryz.ntmps89
      go_wp2_with fail
      generalize w.alloc (.cells #[.slice a0 st.fRows.length c0, .slice a1 st.fSpace.fRefs.length c1, .slice a2 st.fSpace.fLast.length c2, .int .i64 st.fTxg, .slice a4 st.fGone.length c4, .int .i64 st.fKeep, .slice a6 st.fDead.length c6, .bool st.fSame] 33) = W0 at *
      refine wp_region_later_lit (by kernel_rfl) (by kernel_rfl) ?_
      repeat (go_big_quiet_step (first | (go_at_call 120; with_reducible exact HS.out _) | (go_at_call 42; first | with_reducible exact HW1.out _ | with_reducible exact HW2.out _) | (go_at_call 121; with_reducible exact HM.out _)))
      refine wpQuiet_nil ?_
      intro _ hw'
      obtain ⟨nq, hw''⟩ := hw'
      subst hw''
      go_wp2
      go_ret
      exact ⟨ret_bool HB.out.symm, H0.out.trans (nq.below.mono H0.out.size)⟩
    · have HS := HSg.out
      rw [hsp] at HS
      have HS := Bx.mk HS
      cases htx : inB st.fTxg 1 900
      · have HW1 := HW1g.out
        rw [htx] at HW1
        have HW1 := Bx.mk HW1
        have HB : Bx (st.ok = false) := ⟨by show _ = _; unfold StoreD.ok; simp [htx]⟩
        clear hf hsp htx
        go_enter Tryz.func89, Tryz.ntmps89
        go_wp2_with fail
        generalize w.alloc (.cells #[.slice a0 st.fRows.length c0, .slice a1 st.fSpace.fRefs.length c1, .slice a2 st.fSpace.fLast.length c2, .int .i64 st.fTxg, .slice a4 st.fGone.length c4, .int .i64 st.fKeep, .slice a6 st.fDead.length c6, .bool st.fSame] 33) = W0 at *
        refine wp_region_later_lit (by kernel_rfl) (by kernel_rfl) ?_
        repeat (go_big_quiet_step (first | (go_at_call 120; with_reducible exact HS.out _) | (go_at_call 42; first | with_reducible exact HW1.out _ | with_reducible exact HW2.out _) | (go_at_call 121; with_reducible exact HM.out _)))
        refine wpQuiet_nil ?_
        intro _ hw'
        obtain ⟨nq, hw''⟩ := hw'
        subst hw''
        go_wp2
        go_ret
        exact ⟨ret_bool HB.out.symm, H0.out.trans (nq.below.mono H0.out.size)⟩
      · have HW1 := HW1g.out
        rw [htx] at HW1
        have HW1 := Bx.mk HW1
        have hbt := inB_true htx
        cases hkp : inB st.fKeep 0 (st.fTxg - 1)
        · have HW2 := HW2g.out
          rw [hkp] at HW2
          have HW2 := Bx.mk HW2
          have HB : Bx (st.ok = false) := ⟨by show _ = _; unfold StoreD.ok; simp [hkp]⟩
          clear hf hsp htx hkp
          go_enter Tryz.func89, Tryz.ntmps89
          go_wp2_with fail
          generalize w.alloc (.cells #[.slice a0 st.fRows.length c0, .slice a1 st.fSpace.fRefs.length c1, .slice a2 st.fSpace.fLast.length c2, .int .i64 st.fTxg, .slice a4 st.fGone.length c4, .int .i64 st.fKeep, .slice a6 st.fDead.length c6, .bool st.fSame] 33) = W0 at *
          refine wp_region_later_lit (by kernel_rfl) (by kernel_rfl) ?_
          repeat (go_big_quiet_step (first | (go_at_call 120; with_reducible exact HS.out _) | (go_at_call 42; first | with_reducible exact HW1.out _ | with_reducible exact HW2.out _) | (go_at_call 121; with_reducible exact HM.out _)))
          refine wpQuiet_nil ?_
          intro _ hw'
          obtain ⟨nq, hw''⟩ := hw'
          subst hw''
          go_wp2
          go_ret
          exact ⟨ret_bool HB.out.symm, H0.out.trans (nq.below.mono H0.out.size)⟩
        · have HW2 := HW2g.out
          rw [hkp] at HW2
          have HW2 := Bx.mk HW2
          have hbk := inB_true hkp
          have HSP := Bx.mk (SpaceD.ok_spec hsp)
          have HM := HMg.out (by rw [HSP.out.last]; decide)
          have HLB := Bx.mk (fun h => last_bad (st := st) HSP.out.last h)
          have HLG := Bx.mk (fun h => last_good (st := st) HSP.out.last h)
          have HST : Bx (st.ok = (rowsSt st 64 && (st.fGone.all (good st.fSpace.fRefs (st.fTxg - 1)) && (st.fDead.all (good st.fSpace.fRefs st.fKeep) && owedOk st.fSpace.fRefs (st.fGone ++ st.fDead))))) := ⟨by show _ = _; rw [← ok_good]; simp [StoreD.ok, H64.out, hsp, htx, hkp]⟩
          generalize maxT st.fSpace.fLast st.fSpace.fLast.length = mx at HM HLB HLG
          have HM := Bx.mk HM
          by_cases hmx : mx ≤ st.fTxg
          rotate_left
          · have hmx' : decide (st.fTxg < mx) = true := by simp; omega
            have HB : Bx (st.ok = false) := ⟨by show _ = _; rw [HST.out, HLB.out hmx]; rfl⟩
            clear hf hsp htx hkp
            go_enter Tryz.func89, Tryz.ntmps89
            go_wp2_with fail
            generalize w.alloc (.cells #[.slice a0 st.fRows.length c0, .slice a1 st.fSpace.fRefs.length c1, .slice a2 st.fSpace.fLast.length c2, .int .i64 st.fTxg, .slice a4 st.fGone.length c4, .int .i64 st.fKeep, .slice a6 st.fDead.length c6, .bool st.fSame] 33) = W0 at *
            refine wp_region_later_lit (by kernel_rfl) (by kernel_rfl) ?_
            repeat (go_big_quiet_step (first | (go_at_call 120; with_reducible exact HS.out _) | (go_at_call 42; first | with_reducible exact HW1.out _ | with_reducible exact HW2.out _) | (go_at_call 121; with_reducible exact HM.out _)))
            refine wpQuiet_nil ?_
            intro _ hw'
            obtain ⟨nq, hw''⟩ := hw'
            subst hw''
            go_wp2
            go_ret
            exact ⟨ret_bool HB.out.symm, H0.out.trans (nq.below.mono H0.out.size)⟩
          · have hmx' : decide (st.fTxg < mx) = false := by simp; omega
            have HLG := Bx.mk (HLG.out hmx)
            have hg4 := hf.f4
            have hg6 := hf.f6
            clear hf hsp htx hkp
            go_enter Tryz.func89, Tryz.ntmps89
            go_wp2_with fail
            generalize w.alloc (.cells #[.slice a0 st.fRows.length c0, .slice a1 st.fSpace.fRefs.length c1, .slice a2 st.fSpace.fLast.length c2, .int .i64 st.fTxg, .slice a4 st.fGone.length c4, .int .i64 st.fKeep, .slice a6 st.fDead.length c6, .bool st.fSame] 33) = W0 at *
            refine wp_region_later_lit (by kernel_rfl) (by kernel_rfl) ?_
            repeat (go_big_quiet_step (first | (go_at_call 120; with_reducible exact HS.out _) | (go_at_call 42; first | with_reducible exact HW1.out _ | with_reducible exact HW2.out _) | (go_at_call 121; with_reducible exact HM.out _)))
            refine wpQuiet_nil ?_
            intro _ hw'
            obtain ⟨nq, hw''⟩ := hw'
            subst hw''
            have hA1 := blk_below HA0.out nq.below (Nat.le_refl _)
            have hb1 := H0.out.trans (nq.below.mono H0.out.size)
            clear q0 q1 q2 q3 q5
            generalize nq.val = w1 at hA1 hb1 ⊢
            have p0 : w1.cell? ⟨w.heap.size, 0, none⟩ = some (.slice a0 st.fRows.length c0) := blk_cell hA1 0
            go_wp2
            clear p0
            go_loopw [46] (fun i wr => ∃ k : Nat, k ≤ 64 ∧ i = .int .i64 k ∧ rowsSt st k = true ∧ Below w.heap.size w wr ∧ wr.heap[w.heap.size]? = some (.cells #[.slice a0 st.fRows.length c0, .slice a1 st.fSpace.fRefs.length c1, .slice a2 st.fSpace.fLast.length c2, .int .i64 st.fTxg, .slice a4 st.fGone.length c4, .int .i64 st.fKeep, .slice a6 st.fDead.length c6, .bool st.fSame] 33 (0, 0))) (fun i _ => 64 - (intOf i).toNat)
            case atStart => exact ⟨0, by omega, rfl, rfl, hb1, hA1⟩
            case round =>
              obtain ⟨k, hk, rfl, hok, hb, hA⟩ := hrel
              have HOK := Bx.mk hok
              clear hok hb1 hA1
              by_cases hlt : k < 64
              · obtain ⟨b, off, s, hx0, rfl, hbl, hrg⟩ := r0.at_ k (by rw [H64.out]; exact hlt)
                have d0 := (rangeAt_below hrg hb hbl) 0 _ rfl
                obtain ⟨b1, off1, r, hx1, rfl, hbl1, hrg1⟩ := r1.at_ k (by rw [HSP.out.refs]; exact hlt)
                have d1 := (rangeAt_below hrg1 hb hbl1) 0 _ rfl
                simp only [Nat.mul_one, Nat.add_zero] at d0 d1
                have e0 := getD_of (d := ByteArray.empty) hx0
                have e1 := getD_of (d := (0 : Int)) hx1
                have hrow : Bx (rowSt st k = (decide (s.size ≤ 128) && ((s.size == 0) == (r == 0) && decide (st.fSpace.fLast.getD k 0 ≤ st.fTxg)))) := ⟨by show _ = _; unfold rowSt; rw [e0, e1]⟩
                have hlast : Bx (rowSt st k = false → st.ok = false) := ⟨fun h => by rw [HST.out, rowsSt_bad hlt h]; rfl⟩
                have hnext : Bx (rowSt st k = true → rowsSt st (k + 1) = true) := ⟨fun h => by rw [rowsSt_succ, HOK.out, h]; rfl⟩
                have hlk := Bx.mk (decide_eq_true (HLG.out k hlt))
                have hlen0 : k < st.fRows.length := by rw [H64.out]; exact hlt
                have hlen1 : k < st.fSpace.fRefs.length := by rw [HSP.out.refs]; exact hlt
                have p1 : wr.cell? ⟨w.heap.size, 1, none⟩ = some (.slice (some ⟨b1, off1, none⟩) st.fSpace.fRefs.length c1) := blk_cell hA 1
                have HA := Bx.mk hA
                clear hx0 hx1 hrg hrg1 hA e0 e1
                by_cases g1 : s.size ≤ 128
                rotate_left
                · have HR : Bx (rowSt st k = false) := ⟨by show _ = _; rw [hrow.out]; simp [g1]⟩
                  have g1' : decide ((128 : Int) < (s.size : Int)) = true := by simp; omega
                  go_wp2
                  go_ret
                  exact ⟨ret_bool (hlast.out HR.out).symm, hb⟩
                · have g1' : decide ((128 : Int) < (s.size : Int)) = false := by simp; omega
                  have e1 : ∀ (cb : Bool), (s.size == 0) = cb → s.toList.isEmpty = cb := fun cb h => str_empty s cb h
                  cases gs : (s.size == 0)
                  all_goals
                    have gs2 := e1 _ gs
                    clear e1
                    cases gr : (r == 0)
                  · have HR : Bx (rowSt st k = true) := ⟨by show _ = _; rw [hrow.out, hlk.out, gs, gr]; simp [g1]⟩
                    go_wp2
                    go_roundw
                    case rel => exact ⟨k + 1, by omega, by go_num, hnext.out HR.out, hb, HA.out⟩
                    case measure => simp [intOf]; omega
                  · have HR : Bx (rowSt st k = false) := ⟨by show _ = _; rw [hrow.out]; simp [gs, gr]⟩
                    go_wp2
                    go_ret
                    exact ⟨ret_bool (hlast.out HR.out).symm, hb⟩
                  · have HR : Bx (rowSt st k = false) := ⟨by show _ = _; rw [hrow.out]; simp [gs, gr]⟩
                    go_wp2
                    go_ret
                    exact ⟨ret_bool (hlast.out HR.out).symm, hb⟩
                  · have HR : Bx (rowSt st k = true) := ⟨by show _ = _; rw [hrow.out, hlk.out, gs, gr]; simp [g1]⟩
                    go_wp2
                    go_roundw
                    case rel => exact ⟨k + 1, by omega, by go_num, hnext.out HR.out, hb, HA.out⟩
                    case measure => simp [intOf]; omega
              · have hk' : k = 64 := by omega
                subst hk'
                have hmf : ∀ (fn : Fn) (first cap : Array Value) (w : World), (Instr.makeFunc fn first cap).run Tryz.prog w = .ok (.func fn first cap) w := fun _ _ _ _ => rfl
                have hlen : ((st.fRows.length : Nat) : Int) = 64 := by rw [H64.out]; rfl
                obtain ⟨i0, hi, hz0, hz1, hz2⟩ := info_parts Tryz.infoIntS
                go_wp2_with (refine wpList_make_full _ rfl (.const (.int .i64 64)) (.const (.int .i64 64)) 23 rfl wr.heap.size 3 i0 _ 1 Tryz.underlying23 hi hz0 hz1 .i64 .i64 _ _ 64 rfl rfl rfl rfl ?b2 ?b3 ?b4 ?_)
                case b2 => rw [hz2]; omega
                case b3 => unfold maxLen; omega
                case b4 => exact Nat.le_refl _
                intro wm hown hg
                have hbm : Below w.heap.size w wm := hb.grown hg hb.size (by simp)
                have hAm := blk_grown hA hg (by simp)
                have hgm : w.heap.size < wr.heap.size := blk_lt hA
                have hown : wm.ownsRow wr.heap.size 3 1 (.slice (some ⟨wr.heap.size, 0, none⟩) 64 64) 64 (cntCells ([] : List PtrD)) := by rw [show ([] : List PtrD) = (([] : List PtrD).take 0) from rfl, ← cnt_start]; exact hown
                generalize wr.heap.size = g at hown hgm ⊢
                have hgw : g < wm.heap.size := (hown.lt g (by simp [Value.ownBlock])).2
                have hsw := blk_lt hAm
                have p3 : wm.cell? ⟨w.heap.size, 3, none⟩ = some (.int .i64 st.fTxg) := blk_cell hAm 3
                have p4 : wm.cell? ⟨w.heap.size, 4, none⟩ = some (.slice a4 st.fGone.length c4) := blk_cell hAm 4
                clear hb hA hg hi hz0 hz1 hz2 hlt hk r0 r2
                go_wp2_with fail
                have hM := blk_new wm (.cells #[.slice (some ⟨g, 0, none⟩) 64 64] 23) _ rfl
                have hAa := blk_alloc hAm (.cells #[.slice (some ⟨g, 0, none⟩) 64 64] 23)
                have hoa := hown.alloc (.cells #[.slice (some ⟨g, 0, none⟩) 64 64] 23)
                have hba := hbm.alloc hbm.size (.cells #[.slice (some ⟨g, 0, none⟩) 64 64] 23)
                refine (given_any a4 _ c4 [] st.fGone (st.fTxg - 1) st.fSpace.fRefs a1 c1 #[.slice a0 st.fRows.length c0, .slice a1 st.fSpace.fRefs.length c1, .slice a2 st.fSpace.fLast.length c2, .int .i64 st.fTxg, .slice a4 st.fGone.length c4, .int .i64 st.fKeep, .slice a6 st.fDead.length c6, .bool st.fSame] w.heap.size g wm.heap.size w _ hg4 (by simp) HSP.out.refs hgm hgw (Nat.le_of_lt hgm) hba rfl r1 r4 hAa hM hoa).mono ?_
                rintro e w2 ⟨rfl, hb2, hif2⟩
                have HIF2 := Bx.mk hif2
                have HGW := Bx.mk hgw
                clear hif2 hM hAa hoa hba hown hbm hAm p3 p4 hsw
                generalize wm.heap.size = m at *
                cases hg1 : st.fGone.all (good st.fSpace.fRefs (st.fTxg - 1))
                · have HB : Bx (st.ok = false) := ⟨by show _ = _; rw [HST.out, hg1]; simp⟩
                  go_wp2
                  go_ret
                  exact ⟨ret_bool HB.out.symm, hb2⟩
                · obtain ⟨hA2, hM2, ho2⟩ := HIF2.out hg1
                  simp only [List.nil_append] at ho2
                  have p5 : w2.cell? ⟨w.heap.size, 5, none⟩ = some (.int .i64 st.fKeep) := blk_cell hA2 5
                  have p6 : w2.cell? ⟨w.heap.size, 6, none⟩ = some (.slice a6 st.fDead.length c6) := blk_cell hA2 6
                  clear HIF2
                  go_wp2_with fail
                  refine (given_any a6 _ c6 st.fGone st.fDead st.fKeep st.fSpace.fRefs a1 c1 #[.slice a0 st.fRows.length c0, .slice a1 st.fSpace.fRefs.length c1, .slice a2 st.fSpace.fLast.length c2, .int .i64 st.fTxg, .slice a4 st.fGone.length c4, .int .i64 st.fKeep, .slice a6 st.fDead.length c6, .bool st.fSame] w.heap.size g m w _ hg6 hg4 HSP.out.refs hgm HGW.out (Nat.le_of_lt hgm) hb2 rfl r1 r6 hA2 hM2 ho2).mono ?_
                  rintro e w3 ⟨rfl, hb3, hif3⟩
                  have HIF3 := Bx.mk hif3
                  clear hif3 hb2 hA2 hM2 ho2 p5 p6
                  cases hg2 : st.fDead.all (good st.fSpace.fRefs st.fKeep)
                  · have HB : Bx (st.ok = false) := ⟨by show _ = _; rw [HST.out, hg2]; simp⟩
                    go_wp2
                    go_ret
                    exact ⟨ret_bool HB.out.symm, hb3⟩
                  · obtain ⟨hA3, hM3, ho3⟩ := HIF3.out hg2
                    have pm : w3.cell? ⟨m, 0, none⟩ = some (.slice (some ⟨g, 0, none⟩) 64 64) := blk_cell hM3 0
                    have p1 : w3.cell? ⟨w.heap.size, 1, none⟩ = some (.slice a1 st.fSpace.fRefs.length c1) := blk_cell hA3 1
                    have HST2 : Bx (st.ok = owedOk st.fSpace.fRefs (st.fGone ++ st.fDead)) := ⟨by show _ = _; rw [HST.out, HOK.out, hg1, hg2]; simp⟩
                    have HO3 := Bx.mk ho3
                    have HG1 := Bx.mk hg1
                    have HG2 := Bx.mk hg2
                    clear HIF3 hA3 hM3 ho3 hg1 hg2
                    go_wp2
                    go_loop [88] (fun i => ∃ k : Nat, k ≤ 64 ∧ i = .int .i64 k ∧ owedTo st.fSpace.fRefs (st.fGone ++ st.fDead) k = true) (fun i => 64 - (intOf i).toNat)
                    case atStart => exact ⟨0, by omega, rfl, rfl⟩
                    case round =>
                      obtain ⟨k, hk, rfl, how⟩ := hrel
                      have HOW := Bx.mk how
                      clear how
                      by_cases hlt : k < 64
                      · have hca : w3.cell? ⟨g, k, none⟩ = some (.int .i64 (cnt (st.fGone ++ st.fDead) k : Nat)) := by rw [HO3.out.cellAt k (by omega)]; exact cntCells_get _ _ hlt
                        have hbad : Bx (st.fSpace.fRefs.getD k 0 < (cnt (st.fGone ++ st.fDead) k : Int) → st.ok = false) := ⟨fun h => by rw [HST2.out, owed_bad hlt h]⟩
                        have hnext : Bx ((cnt (st.fGone ++ st.fDead) k : Int) ≤ st.fSpace.fRefs.getD k 0 → owedTo st.fSpace.fRefs (st.fGone ++ st.fDead) (k + 1) = true) := ⟨fun h => by rw [owedTo_succ, HOW.out]; simpa using h⟩
                        obtain ⟨b1, off1, r, hx1, rfl, hbl1, hrg1⟩ := r1.at_ k (by rw [HSP.out.refs]; exact hlt)
                        have g1 := (rangeAt_below hrg1 hb3 hbl1) 0 _ rfl
                        simp only [Nat.mul_one, Nat.add_zero] at g1
                        rw [getD_of (d := (0 : Int)) hx1] at hbad hnext
                        have hl1 : k < st.fSpace.fRefs.length := by rw [HSP.out.refs]; exact hlt
                        have hcl := cnt_le (st.fGone ++ st.fDead) k
                        rw [List.length_append] at hcl
                        clear hx1 hrg1
                        generalize cnt (st.fGone ++ st.fDead) k = cn at hca hbad hnext hcl
                        by_cases hle : (cn : Int) ≤ r
                        · have hcmp : decide (r < (cn : Int)) = false := by simp; omega
                          go_wp2
                          go_round
                          case rel => exact ⟨k + 1, by omega, by go_num, hnext.out hle⟩
                          case measure => simp [intOf]; omega
                        · have hcmp : decide (r < (cn : Int)) = true := by simp; omega
                          go_wp2
                          go_ret
                          exact ⟨ret_bool (hbad.out (by omega)).symm, hb3⟩
                      · have hk' : k = 64 := by omega
                        subst hk'
                        go_wp2
                        go_ret
                        exact ⟨ret_bool (HST2.out.trans HOW.out).symm, hb3⟩
open Go.RowKit
theorem depthOf_any (n : Int) (w0 : World) : Calls Tryz.prog 66 #[.int .i64 n] w0 fun e w' => e = .returned (.int .i64 ((depthN n : Nat) : Int)) ∧ Below w0.heap.size w0 w' := by
 have HS := Bx.mk (St.start w0)
 refine wc_enter Tryz.func66 rfl Tryz.ntmps66 [(0, .int .i64 n)] ⟨rfl, trivial⟩ rfl ?_
 refine xsr<|xr 1 rfl<|xne<|xsq<|xbl<|xsr<|xr 3 rfl<|xne<|xcs 3 rfl (fun cc1=>?_) fun cc1=>?_
 have dcc1 := of_decide_eq_true cc1
 refine xct rfl<|xsr<|xr 1 rfl<|xne<|xre<|xbr<|xtr<|xb1 Tryz.results66 rfl ?_
 have hd : ((depthN n : Nat) : Int) = 0 := by unfold depthN; rw [if_pos (by omega)]; rfl
 exact ⟨by rw [hd], HS.out.bel⟩
 have dcc1 := of_decide_eq_false cc1
 refine xcf rfl<|xsr<|xr 3 rfl<|xne<|xcs 6 rfl (fun cc2=>?_) fun cc2=>?_
 have dcc2 := of_decide_eq_true cc2
 refine xct rfl<|xsr<|xr 1 rfl<|xne<|xre<|xbr<|xtr<|xb1 Tryz.results66 rfl ?_
 have hd : ((depthN n : Nat) : Int) = 1 := by unfold depthN; rw [if_neg (by omega), if_pos (by omega)]; rfl
 exact ⟨by rw [hd], HS.out.bel⟩
 have dcc2 := of_decide_eq_false cc2
 refine xcf rfl<|xsk<|xeb<|xet<|xsr<|xr 1 rfl<|xne<|xre<|xb1 Tryz.results66 rfl ?_
 have hd : ((depthN n : Nat) : Int) = 2 := by unfold depthN; rw [if_neg (by omega), if_neg (by omega)]; rfl
 exact ⟨by rw [hd], HS.out.bel⟩
theorem l8Depth_any (n : Int) (w0 : World) : Calls Tryz.prog 61 #[.int .i64 n] w0 fun e w' => e = .returned (.int .i64 ((depthN n : Nat) : Int)) ∧ Below w0.heap.size w0 w' := by
 have HS := Bx.mk (St.start w0)
 refine wc_enter Tryz.func61 rfl Tryz.ntmps61 [(0, .int .i64 n)] ⟨rfl, trivial⟩ rfl ?_
 refine xsr<|xr 1 rfl<|xne<|xsq<|xbl<|xsr<|xr 3 rfl<|xne<|xcs 3 rfl (fun cc1=>?_) fun cc1=>?_
 have dcc1 := of_decide_eq_true cc1
 refine xct rfl<|xsr<|xr 1 rfl<|xne<|xre<|xbr<|xtr<|xb1 Tryz.results61 rfl ?_
 have hd : ((depthN n : Nat) : Int) = 0 := by unfold depthN; rw [if_pos (by omega)]; rfl
 exact ⟨by rw [hd], HS.out.bel⟩
 have dcc1 := of_decide_eq_false cc1
 refine xcf rfl<|xsr<|xr 3 rfl<|xne<|xcs 6 rfl (fun cc2=>?_) fun cc2=>?_
 have dcc2 := of_decide_eq_true cc2
 refine xct rfl<|xsr<|xr 1 rfl<|xne<|xre<|xbr<|xtr<|xb1 Tryz.results61 rfl ?_
 have hd : ((depthN n : Nat) : Int) = 1 := by unfold depthN; rw [if_neg (by omega), if_pos (by omega)]; rfl
 exact ⟨by rw [hd], HS.out.bel⟩
 have dcc2 := of_decide_eq_false cc2
 refine xcf rfl<|xsk<|xeb<|xet<|xsr<|xr 1 rfl<|xne<|xre<|xb1 Tryz.results61 rfl ?_
 have hd : ((depthN n : Nat) : Int) = 2 := by unfold depthN; rw [if_neg (by omega), if_neg (by omega)]; rfl
 exact ⟨by rw [hd], HS.out.bel⟩
theorem drop_cons {xs : List PtrD} {i : Nat} (h : i < xs.length) : xs.drop i = xs.getD i PtrD.zero :: xs.drop (i + 1) := by
  rw [List.drop_eq_getElem_cons h, List.getD_eq_getElem?_getD, List.getElem?_eq_getElem h, Option.getD_some]
theorem next_step {f : PtrD → Option (List PtrD)} {xs ys k : List PtrD} {i : Nat} (h : nextL f xs = (nextL f (xs.drop i)).map (ys ++ ·)) (hi : i < xs.length) (hk : f (xs.getD i PtrD.zero) = some k) : nextL f xs = (nextL f (xs.drop (i + 1))).map ((ys ++ k) ++ ·) := by
  rw [h, drop_cons hi, nextL_yes hk, map_app]
theorem next_stop {f : PtrD → Option (List PtrD)} {xs ys : List PtrD} {i : Nat} (h : nextL f xs = (nextL f (xs.drop i)).map (ys ++ ·)) (hi : i < xs.length) (hk : f (xs.getD i PtrD.zero) = none) : nextL f xs = none := by
  rw [h, drop_cons hi, nextL_no hk]; rfl
theorem next_end {f : PtrD → Option (List PtrD)} {xs ys : List PtrD} {i : Nat} (h : nextL f xs = (nextL f (xs.drop i)).map (ys ++ ·)) (hi : ¬ i < xs.length) : nextL f xs = some ys := by
  rw [h, List.drop_eq_nil_of_le (by omega)]
  show some (ys ++ []) = _
  rw [List.append_nil]
theorem next_begin {f : PtrD → Option (List PtrD)} {xs : List PtrD} : nextL f xs = (nextL f (xs.drop 0)).map (([] : List PtrD) ++ ·) := by
  rw [List.drop_zero]
  cases nextL f xs <;> rfl
theorem leaves_step {st : StoreD} {many : Int} {xs : List PtrD} {i : Nat} (h : leavesB st many 0 xs = leavesB st many i (xs.drop i)) (hi : i < xs.length) : leavesB st many 0 xs = (leafB st many i (xs.getD i PtrD.zero) && leavesB st many (i + 1) (xs.drop (i + 1))) := by
  rw [h, drop_cons hi]; rfl
theorem leaves_end {st : StoreD} {many : Int} {xs : List PtrD} {i : Nat} (h : leavesB st many 0 xs = leavesB st many i (xs.drop i)) (hi : ¬ i < xs.length) : leavesB st many 0 xs = true := by
  rw [h, List.drop_eq_nil_of_le (by omega)]; rfl
theorem getD_mem {xs : List PtrD} {i : Nat} (h : i < xs.length) : xs.getD i PtrD.zero ∈ xs := by
  rw [List.getD_eq_getElem?_getD, List.getElem?_eq_getElem h]; exact List.getElem_mem h
theorem pow4 {n : Nat} (h : n ≤ 2) : 4 ^ n ≤ 16 := by
  rcases (by omega : n = 0 ∨ n = 1 ∨ n = 2) with rfl | rfl | rfl <;> decide
theorem pow4_step {xs ys : List PtrD} {n i : Nat} (h : xs.length * 4 ^ (n + 1) ≤ 16) (hy : ys.length = 4 * i) (hi : i = xs.length) : ys.length * 4 ^ n ≤ 16 := by
  subst hi
  rw [hy]
  rw [Nat.pow_succ] at h
  have e : 4 * xs.length * 4 ^ n = xs.length * (4 ^ n * 4) := by rw [Nat.mul_comm 4 xs.length, Nat.mul_assoc, Nat.mul_comm 4 (4 ^ n)]
  omega
theorem pow4_le {xs : List PtrD} {n : Nat} (h : xs.length * 4 ^ n ≤ 16) : xs.length ≤ 16 := by
  have h1 : 1 ≤ 4 ^ n := Nat.pos_of_ne_zero (by simp)
  have : xs.length * 1 ≤ xs.length * 4 ^ n := Nat.mul_le_mul_left _ h1
  omega
theorem kidsS_len {st : StoreD} {p : PtrD} {n : Int} {k : List PtrD} (h : kidsS st p n = some k) : k.length = 4 := kids_len (kidsS_are h).1
theorem l8Leaves_any (a0 : Option Addr) (c0 : Nat) (a1 : Option Addr) (c1 : Nat) (a2 : Option Addr) (c2 : Nat) (a4 : Option Addr) (c4 : Nat) (a6 : Option Addr) (c6 : Nat) (st : StoreD) (t : TreeD) (hdep : t.fDepth = ((depthN t.fMany : Nat) : Int)) (w0 : World) (hR : Rd encS 1 w0 a0 st.fRows.length st.fRows) (hrow : RowsOk st) : Calls Tryz.prog 62 #[sV a0 c0 a1 c1 a2 c2 a4 c4 a6 c6 st, tV t] w0 fun e w' => (∃ l, downL (kidsS st) (depthN t.fMany) [t.fRoot] = some l ∧ ∃ ao cp, e = .returned (.tuple #[.slice ao l.length cp, .bool true]) ∧ St w0 [rowA PtrD.cells 5 35 (.slice ao l.length cp) l] w') ∨ (downL (kidsS st) (depthN t.fMany) [t.fRoot] = none ∧ ∃ ao n cp, e = .returned (.tuple #[.slice ao n cp, .bool false]) ∧ Below w0.heap.size w0 w') := by
 have HR := Bx.mk hR; clear hR
 have HS := Bx.mk (St.start w0)
 refine wc_enter Tryz.func62 rfl Tryz.ntmps62 [(0, sV a0 c0 a1 c1 a2 c2 a4 c4 a6 c6 st), (1, tV t)] ⟨rfl, rfl, trivial⟩ rfl ?_
 refine xsr ?_
 intro a HF
 refine ybx HF HS ?_;clear HF HS a;intro a w1 b1 HF HS
 refine ybx HF HS ?_;clear HF HS a;intro a w2 b2 HF HS
 revert a;refine xr 2 rfl<|xne<|xsr<|xy rfl (vf 0 rfl)<|xy rfl (vw HS.out 0 5 rfl rfl) ?_
 intro a HF
 refine ybs PtrD.cells 35 5 [t.fRoot] HF HS ?_;clear HF HS a;intro b3 a w3 HF HS
 revert a;refine xr 1 rfl<|xne<|xsq<|xsr<|xy rfl (vf 5 rfl)<|xy rfl (vc HS.out 1 rfl rfl)<|xr 1 rfl<|xne<|xbl ?_
 replace HS:=Bx.mk (HS.out.pick 0 rfl)
 intro a HF
 refine wc_loop (ι := Nat) (fun n a w => ∃ (ao : Option Addr) (cp : Nat) (xs : List PtrD), (downL (kidsS st) (depthN t.fMany) [t.fRoot] = downL (kidsS st) n xs ∧ xs.length * 4 ^ n ≤ 16 ∧ n ≤ 2) ∧ Fr 46 a [(0, sV a0 c0 a1 c1 a2 c2 a4 c4 a6 c6 st), (1, tV t), (2, .pointer (some ⟨b1, 0, none⟩)), (3, .pointer (some ⟨b2, 0, none⟩)), (4, .slice none 0 0), (5, .bool false), (6, .slice ao xs.length cp), (7, .int .i64 (n : Int))] ∧ St w0 ([rowA PtrD.cells 5 35 (.slice ao xs.length cp) xs, boxA b2 7 37 (tV t), boxA b1 8 33 (sV a0 c0 a1 c1 a2 c2 a4 c4 a6 c6 st)]) w) (fun n => n) (depthN t.fMany) ⟨_, _, [t.fRoot], ⟨rfl, by simpa using pow4 (depthN_le t.fMany), depthN_le _⟩, HF.less _ ⟨rfl, rfl, rfl, rfl, rfl, rfl, rfl, (by show some (Value.int .i64 _) = some (Value.int .i64 _); exact congrArg (fun z => some (Value.int .i64 z)) hdep), trivial⟩, HS.out⟩ ?_
 clear HF HS; clear a
 rintro n a w4 ⟨ao, cp, xs, ⟨hd, hp4, hn2⟩, HF, HS⟩
 replace HS := Bx.mk HS
 have hx16 := pow4_le hp4
 revert a;refine xsq<|xsr<|xr 2 rfl<|xne<|xcs 18 rfl (fun cc1=>?_) fun cc1=>?_
 have dcc1 := of_decide_eq_true cc1
 obtain ⟨n, rfl⟩ : ∃ m, n = m + 1 := ⟨n - 1, by omega⟩
 refine xct rfl<|xsk<|xet<|xsq<|xbl<|xsr ?_
 intro a HF
 refine yem 35 5 HF HS ?_;clear HF HS a;intro a w5 b4 HF HS
 revert a;refine xr 1 rfl<|xne<|xsq<|xsr<|xr 1 rfl<|xne<|xbl ?_
 replace HS := Bx.mk (HS.out.nilRow PtrD.cells 5 35 (some ⟨b4, 0, none⟩))
 intro a HF
 refine wc_loop (ι := Nat) (fun i a w => ∃ (ay : Option Addr) (cy : Nat) (ys : List PtrD), (i ≤ xs.length ∧ nextL (fun p => kidsS st p ((n + 1 : Nat) : Int)) xs = (nextL (fun p => kidsS st p ((n + 1 : Nat) : Int)) (xs.drop i)).map (ys ++ ·) ∧ ys.length = 4 * i) ∧ Fr 46 a [(0, sV a0 c0 a1 c1 a2 c2 a4 c4 a6 c6 st), (1, tV t), (2, .pointer (some ⟨b1, 0, none⟩)), (3, .pointer (some ⟨b2, 0, none⟩)), (4, .slice none 0 0), (5, .bool false), (6, .slice ao xs.length cp), (7, .int .i64 ((n + 1 : Nat) : Int)), (8, .slice ay ys.length cy), (9, .int .i64 (i : Int))] ∧ St w0 ([rowA PtrD.cells 5 35 (.slice ay ys.length cy) ys, rowA PtrD.cells 5 35 (.slice ao xs.length cp) xs, boxA b2 7 37 (tV t), boxA b1 8 33 (sV a0 c0 a1 c1 a2 c2 a4 c4 a6 c6 st)]) w) (fun i => xs.length - i) 0 ⟨_, _, [], ⟨Nat.zero_le _, next_begin, rfl⟩, HF.less _ ⟨rfl, rfl, rfl, rfl, rfl, rfl, rfl, rfl, rfl, rfl, trivial⟩, HS.out⟩ ?_
 clear HF HS; clear a
 rintro i a w6 ⟨ay, cy, ys, ⟨hi, hnx, hyl⟩, HF, HS⟩
 replace HS := Bx.mk HS
 revert a;refine xsq<|xsr<|xr 2 rfl<|xy rfl (vn 35 5 rfl)<|xr 1 rfl<|xne<|xcs 25 rfl (fun cc2=>?_) fun cc2=>?_
 have dcc2 := of_decide_eq_true cc2
 refine xct rfl<|xsk<|xet<|xsq<|xbl<|xsq ?_
 obtain ⟨g5, rfl, _, _, _, _⟩ := HS.out.rowOpen 1 rfl (by omega)
 intro a HF
 refine wr_heldS (s := [rowA PtrD.cells 5 35 (.slice ay ys.length cy) ys, rowA PtrD.cells 5 35 (.slice (some ⟨g5, 0, none⟩) xs.length cp) xs, boxA b2 7 37 (tV t), boxA b1 8 33 (sV a0 c0 a1 c1 a2 c2 a4 c4 a6 c6 st)]) (by kernel_rfl) (St.drew (HS.out)) ?_
 have HS2 := Bx.mk HS.out.drew; replace HS := Bx.mk (show St w0 ([rowA PtrD.cells 5 35 (.slice ay ys.length cy) ys, rowA PtrD.cells 5 35 (.slice (some ⟨g5, 0, none⟩) xs.length cp) xs, boxA b2 7 37 (tV t), boxA b1 8 33 (sV a0 c0 a1 c1 a2 c2 a4 c4 a6 c6 st)]) _ from HS.out.drew)
 generalize World.drew _ = w7 at HS HS2 ⊢
 revert a;refine xhy 0 HS.out rfl rfl (fun HS=>vw HS 3 8 rfl rfl)<|xh 1 HS.out rfl rfl rfl<|xh 2 HS.out rfl rfl rfl<|xhy 3 HS.out rfl rfl (fun HS=>vx 35 i 5 rfl)<|xhy 4 HS.out rfl rfl (fun HS a HF=>ylr (cs := pL (xs.getD i PtrD.zero)) rfl (HF.ev rfl) (HS.elem PtrD.cells_len 1 rfl (get_getD (xs := xs) (j := i) (d := PtrD.zero) (by omega))))<|xh 5 HS.out rfl rfl rfl ?_
 intro a HF
 refine wh_one 6 (by kernel_rfl) ?_
 refine yo (l8Below_any a0 c0 a1 c1 a2 c2 a4 c4 a6 c6 st (xs.getD i PtrD.zero) ((n + 1 : Nat) : Int) _ (HR.out.below HS2.out.bel) hrow) HF Tryz.func87 ?_
 rintro _ w9 (⟨l6, hk6, ao6, cp6, rfl, hs1⟩ | ⟨hk6, ao6, nn6, cp6, rfl, hb⟩)
 have hll6 := kidsS_len hk6
 refine ⟨_, rfl, ?_⟩; replace HS := Bx.mk (HS.out.later hs1.bel); replace HS2 := Bx.mk (HS2.out.add hs1);clear hs1 HF a;intro a HF
 replace HS2 : Bx (St w0 ([rowA PtrD.cells 5 35 (.slice ao6 l6.length cp6) l6, rowA PtrD.cells 5 35 (.slice ay ys.length cy) ys, rowA PtrD.cells 5 35 (.slice (some ⟨g5, 0, none⟩) xs.length cp) xs, boxA b2 7 37 (tV t), boxA b1 8 33 (sV a0 c0 a1 c1 a2 c2 a4 c4 a6 c6 st)]) _) := ⟨HS2.out⟩; refine ⟨HS.out, ?_⟩
 revert a;refine xh 7 HS.out rfl rfl rfl<|xh 8 HS.out rfl rfl rfl<|xh 9 HS.out rfl rfl rfl<|xh 10 HS.out rfl rfl rfl<|xh 11 HS.out rfl rfl rfl ?_
 intro a HF
 refine wh_done (by kernel_rfl) ?_
 replace HS := HS2; clear HS2
 revert a;refine xet<|xsq<|xsr<|xr 2 rfl<|xne<|xcf rfl<|xsk<|xet<|xrl<|xr 2 rfl ?_
 intro a HF
 refine yap elemQ PtrD.cells_len HS 1 HF (St.rdOf HS.out PtrD.cells_len 0 rfl) (cells_one_Q _) ?_;clear HF HS a;intro ao7 cp8 w10 a HF HS
 try dsimp only [List.eraseIdx] at HS
 revert a;refine xr 1 rfl<|xni<|xeb<|xet<|xrl<|xr 1 rfl<|xy rfl (vad rfl)<|xr 1 rfl<|xne ?_
 have hz : ys.length + l6.length = (ys ++ l6).length := (List.length_append ..).symm
 intro a HF
 rw [hz] at HS HF
 have hl4 := kidsS_len hk6; have hyl2 : (ys ++ l6).length = 4 * (i + 1) := by rw [List.length_append]; omega
 replace HS:=Bx.mk ((((HS.out.pick 4 rfl).pick 4 rfl).pick 4 rfl).pick 4 rfl)
 exact ⟨i + 1, ⟨_, _, ys ++ l6, ⟨by omega, next_step hnx (by omega) hk6, hyl2⟩, HF.less _ ⟨rfl, rfl, rfl, rfl, rfl, rfl, rfl, rfl, rfl, rfl, trivial⟩, (HS.out.erase 4)⟩, (by omega)⟩
 refine ⟨_, rfl, ?_⟩; replace HS := Bx.mk (HS.out.later hb); replace HS2 := Bx.mk (HS2.out.later hb);clear hb HF a;intro a HF; refine ⟨HS.out, ?_⟩
 revert a;refine xh 7 HS.out rfl rfl rfl<|xh 8 HS.out rfl rfl rfl<|xh 9 HS.out rfl rfl rfl<|xh 10 HS.out rfl rfl rfl<|xh 11 HS.out rfl rfl rfl ?_
 intro a HF
 refine wh_done (by kernel_rfl) ?_
 replace HS := HS2; clear HS2
 revert a;refine xet<|xsq<|xsr<|xr 2 rfl<|xne<|xct rfl<|xsr ?_
 intro a HF
 refine yem 35 5 HF HS ?_;clear HF HS a;intro a w11 b9 HF HS
 revert a;refine xr 2 rfl<|xne<|xre<|xtr<|xbr<|xtr<|xtr<|xbr<|xtr<|xbr<|xtr<|xtr<|xbr<|xtr<|xb2 Tryz.results62 rfl rfl ?_
 exact .inr ⟨hd.trans (downL_no (next_stop hnx (by omega) hk6)), _, _, _, rfl, HS.out.bel⟩
 have dcc2 := of_decide_eq_false cc2
 refine xcf rfl<|xex<|xtx<|xtx<|xbh<|xet<|xrl<|xr 2 rfl<|xni<|xeb<|xet<|xrl<|xr 1 rfl<|xy rfl (fun a HF=>yl_subI (r := (n : Int)) rfl (HF.ev rfl) (HF.ev rfl) ((i64w (by omega)).trans (by omega)))<|xr 1 rfl<|xne ?_
 replace HS:=Bx.mk (((HS.out.pick 3 rfl).pick 3 rfl).pick 2 rfl)
 intro a HF
 exact ⟨n, ⟨_, _, ys, ⟨(hd.trans (downL_yes (next_end hnx (by omega)))), pow4_step hp4 hyl (by omega), by omega⟩, HF.less _ ⟨rfl, rfl, rfl, rfl, rfl, rfl, rfl, rfl, trivial⟩, (HS.out.erase 3)⟩, (Nat.lt_succ_self _)⟩
 have dcc1 := of_decide_eq_false cc1
 obtain rfl : n = 0 := by omega
 refine xcf rfl<|xex<|xtx<|xtx<|xbh<|xet<|xsr<|xr 3 rfl<|xne<|xre<|xb2 Tryz.results62 rfl rfl ?_
 exact .inl ⟨xs, hd, _, _, rfl, ((HS.out.erase 2).erase 1)⟩
open Go.RowKit
theorem l10Each_any (kind : Int) (w0 : World) : Calls Tryz.prog 85 #[.int .i64 kind] w0 fun e w' => e = .returned (.int .i64 (eachN kind)) ∧ Below w0.heap.size w0 w' := by
 have HS := Bx.mk (St.start w0)
 refine wc_enter Tryz.func85 rfl Tryz.ntmps85 [(0, .int .i64 kind)] ⟨rfl, trivial⟩ rfl ?_
 refine xsr<|xr 1 rfl<|xne<|xsq<|xsr<|xr 1 rfl<|xne<|xbl<|xsr<|xr 2 rfl<|xne<|xcs 4 rfl (fun cc1=>?_) fun cc1=>?_
 have dcc1 := eq_of_beq cc1
 refine xct rfl<|xsr<|xr 1 rfl<|xne<|xre<|xbr<|xtr<|xb1 Tryz.results85 rfl ?_
 have he : eachN kind = 12 := by rw [dcc1]; rfl
 exact ⟨by rw [he], HS.out.bel⟩
 have dcc1 := ne_of_beq_false cc1
 refine xcf rfl<|xsr<|xr 2 rfl<|xne<|xcs 6 rfl (fun cc2=>?_) fun cc2=>?_
 have dcc2 := eq_of_beq cc2
 refine xct rfl<|xsr<|xr 1 rfl<|xne<|xre<|xbr<|xtr<|xb1 Tryz.results85 rfl ?_
 have he : eachN kind = 128 := by rw [dcc2]; rfl
 exact ⟨by rw [he], HS.out.bel⟩
 have dcc2 := ne_of_beq_false cc2
 refine xcf rfl<|xsk<|xeb<|xet<|xsr<|xr 1 rfl<|xne<|xre<|xb1 Tryz.results85 rfl ?_
 have he : eachN kind = 0 := eachN_none dcc1 dcc2
 exact ⟨by rw [he], HS.out.bel⟩
theorem l10Pieces_any (size each : Int) (h0 : 0 ≤ size) (h1 : 1 ≤ each) (hs : size ≤ 1000000) (he : each ≤ 1000000) (w0 : World) : Calls Tryz.prog 86 #[.int .i64 size, .int .i64 each] w0 fun e w' => e = .returned (.int .i64 ((size + each - (1 : Int)) / each)) ∧ Below w0.heap.size w0 w' := by
 have HS := Bx.mk (St.start w0)
 refine wc_enter Tryz.func86 rfl Tryz.ntmps86 [(0, .int .i64 size), (1, .int .i64 each)] ⟨rfl, rfl, trivial⟩ rfl ?_
 refine xsr<|xr 1 rfl<|xne<|xsr<|xr 2 rfl<|xy rfl (vad rfl)<|xy rfl (fun a HF=>yl_subI rfl (HF.ev rfl) (HF.ev rfl) (i64w (by omega)))<|xr 1 rfl<|xy rfl (fun a HF=>yl_quoI rfl (HF.ev rfl) (HF.ev rfl) (by omega) (quo_pos (by omega) (by omega) (by omega)))<|xr 1 rfl<|xne<|xre<|xb1 Tryz.results86 rfl ?_
 exact ⟨rfl, HS.out.bel⟩
theorem eachN_le (k : Int) : 0 ≤ eachN k ∧ eachN k ≤ 128 := by
  unfold eachN
  split
  · omega
  · split <;> omega
theorem implNodePieces_any (kind size : Int) (w0 : World) : Calls Tryz.prog 65 #[.int .i64 kind, .int .i64 size] w0 fun e w' => e = .returned (.int .i64 (piecesN kind size)) ∧ Below w0.heap.size w0 w' := by
 have HS := Bx.mk (St.start w0)
 refine wc_enter Tryz.func65 rfl Tryz.ntmps65 [(0, .int .i64 kind), (1, .int .i64 size)] ⟨rfl, rfl, trivial⟩ rfl ?_
 refine xsr<|xr 1 rfl<|xne<|xsr<|xr 1 rfl<|xne<|xsq<|xsq ?_
 have hel := eachN_le kind
 refine xrl<|xr 1 rfl<|xne<|xbl<|xsr<|xr 2 rfl<|xne<|xcs 7 rfl (fun cc1=>?_) fun cc1=>?_
 have dcc1 := eq_of_beq cc1
 refine xct rfl<|xrl<|xr 1 rfl<|xni<|xeb<|xet<|xsq<|xsr<|xr 3 rfl ?_
 intro a HF
 replace HF := HF.know (k := 13) (c := false) rfl (by decide)
 revert a;refine xr 2 rfl<|xy rfl (fun a HF=>yl_mulI (r := 192) rfl (HF.ev rfl) (HF.ev rfl) (by decide)) ?_
 intro a HF
 refine ycBg ((within_any size 0 192 _).mono fun _ _ h => ⟨h.1, h.2 ▸ Below.refl _ _⟩) HF Tryz.func42 HS ?_; clear HF HS a; intro w1 a HS HF
 revert a;refine xr 2 rfl<|xne<|xcs 19 rfl (fun cc2=>?_) fun cc2=>?_
 have hin : inB size 0 192 = false := by simpa using cc2
 refine xct rfl<|xsr<|xr 1 rfl<|xne<|xre<|xtr<|xb1 Tryz.results65 rfl ?_
 have he : eachN kind = 12 := by rw [dcc1]; rfl
 have hp : piecesN kind size = -1 := piecesN_out (fun h => by rw [he] at h; rw [inB_yes h.1 (by omega)] at hin; cases hin)
 exact ⟨by rw [hp], HS.out.bel⟩
 have hin : inB size 0 192 = true := by simpa using cc2
 have hib := inB_true hin
 refine xcf rfl<|xsk<|xet<|xsr<|xr 2 rfl<|xy rfl (vad rfl)<|xy rfl (fun a HF=>yl_subI rfl (HF.ev rfl) (HF.ev rfl) (i64w (by omega)))<|xr 1 rfl<|xy rfl (fun a HF=>yl_quoI rfl (HF.ev rfl) (HF.ev rfl) (by omega) (quo_pos (by omega) (by omega) (by omega)))<|xr 1 rfl<|xne<|xre<|xb1 Tryz.results65 rfl ?_
 have he : eachN kind = 12 := by rw [dcc1]; rfl
 have hp : piecesN kind size = ((size + 12) - 1) / 12 := by rw [piecesN_in (k := kind) (by omega) (by omega) (by omega), he]
 exact ⟨by rw [hp], HS.out.bel⟩
 have dcc1 := ne_of_beq_false cc1
 refine xcf rfl<|xsr<|xr 2 rfl<|xne<|xcs 9 rfl (fun cc3=>?_) fun cc3=>?_
 have dcc3 := eq_of_beq cc3
 refine xct rfl<|xrl<|xr 1 rfl<|xni<|xeb<|xet<|xsq<|xsr<|xr 3 rfl ?_
 intro a HF
 replace HF := HF.know (k := 13) (c := false) rfl (by decide)
 revert a;refine xr 2 rfl<|xy rfl (fun a HF=>yl_mulI (r := 2048) rfl (HF.ev rfl) (HF.ev rfl) (by decide)) ?_
 intro a HF
 refine ycBg ((within_any size 0 2048 _).mono fun _ _ h => ⟨h.1, h.2 ▸ Below.refl _ _⟩) HF Tryz.func42 HS ?_; clear HF HS a; intro w2 a HS HF
 revert a;refine xr 2 rfl<|xne<|xcs 19 rfl (fun cc4=>?_) fun cc4=>?_
 have hin : inB size 0 2048 = false := by simpa using cc4
 refine xct rfl<|xsr<|xr 1 rfl<|xne<|xre<|xtr<|xb1 Tryz.results65 rfl ?_
 have he : eachN kind = 128 := by rw [dcc3]; rfl
 have hp : piecesN kind size = -1 := piecesN_out (fun h => by rw [he] at h; rw [inB_yes h.1 (by omega)] at hin; cases hin)
 exact ⟨by rw [hp], HS.out.bel⟩
 have hin : inB size 0 2048 = true := by simpa using cc4
 have hib := inB_true hin
 refine xcf rfl<|xsk<|xet<|xsr<|xr 2 rfl<|xy rfl (vad rfl)<|xy rfl (fun a HF=>yl_subI rfl (HF.ev rfl) (HF.ev rfl) (i64w (by omega)))<|xr 1 rfl<|xy rfl (fun a HF=>yl_quoI rfl (HF.ev rfl) (HF.ev rfl) (by omega) (quo_pos (by omega) (by omega) (by omega)))<|xr 1 rfl<|xne<|xre<|xb1 Tryz.results65 rfl ?_
 have he : eachN kind = 128 := by rw [dcc3]; rfl
 have hp : piecesN kind size = ((size + 128) - 1) / 128 := by rw [piecesN_in (k := kind) (by omega) (by omega) (by omega), he]
 exact ⟨by rw [hp], HS.out.bel⟩
 have dcc3 := ne_of_beq_false cc3
 refine xcf rfl<|xsk<|xeb<|xet<|xsq<|xsr<|xr 3 rfl ?_
 intro a HF
 replace HF := HF.know (k := 13) (c := true) rfl (by decide)
 revert a;refine xr 6 rfl<|xne<|xct rfl<|xsr<|xr 1 rfl<|xne<|xre<|xtr<|xb1 Tryz.results65 rfl ?_
 have he : eachN kind = 0 := eachN_none dcc1 dcc3
 have hp : piecesN kind size = -1 := piecesN_no (he)
 exact ⟨by rw [hp], HS.out.bel⟩
theorem specNodePieces_any (kind size : Int) (w0 : World) : Calls Tryz.prog 60 #[.int .i64 kind, .int .i64 size] w0 fun e w' => e = .returned (.int .i64 (piecesN kind size)) ∧ Below w0.heap.size w0 w' := by
 have HS := Bx.mk (St.start w0)
 refine wc_enter Tryz.func60 rfl Tryz.ntmps60 [(0, .int .i64 kind), (1, .int .i64 size)] ⟨rfl, rfl, trivial⟩ rfl ?_
 refine xsr<|xr 1 rfl<|xne<|xsr<|xr 1 rfl ?_
 intro a HF
 refine ycB (l10Each_any kind _) HF Tryz.func85 HS ?_; clear HF HS a; intro w1 a HS HF
 revert a;refine xr 1 rfl<|xne<|xsq<|xsq ?_
 have hel := eachN_le kind
 refine xrl<|xr 3 rfl<|xcs 10 rfl (fun cc1=>?_) fun cc1=>?_
 have dcc1 := eq_of_beq cc1
 refine xr 6 rfl<|xne<|xct rfl<|xsr<|xr 1 rfl<|xne<|xre<|xtr<|xb1 Tryz.results60 rfl ?_
 have hp : piecesN kind size = -1 := piecesN_no (by omega)
 exact ⟨by rw [hp], HS.out.bel⟩
 have dcc1 := ne_of_beq_false cc1
 refine xr 2 rfl<|xy rfl (fun a HF=>yl_mulI rfl (HF.ev rfl) (HF.ev rfl) (i64w (by omega))) ?_
 intro a HF
 refine ycBg ((l6In_any size 0 ((16 : Int) * (eachN kind)) _).mono fun _ _ h => ⟨h.1, h.2 ▸ Below.refl _ _⟩) HF Tryz.func37 HS ?_; clear HF HS a; intro w2 a HS HF
 revert a;refine xr 2 rfl<|xne<|xcs 16 rfl (fun cc2=>?_) fun cc2=>?_
 have hin : inB size 0 ((16 : Int) * (eachN kind)) = false := by simpa using cc2
 refine xct rfl<|xsr<|xr 1 rfl<|xne<|xre<|xtr<|xb1 Tryz.results60 rfl ?_
 have hp : piecesN kind size = -1 := piecesN_out (fun h => by rw [inB_yes h.1 (by omega)] at hin; cases hin)
 exact ⟨by rw [hp], HS.out.bel⟩
 have hin : inB size 0 ((16 : Int) * (eachN kind)) = true := by simpa using cc2
 have hib := inB_true hin
 refine xcf rfl<|xsk<|xet<|xsr<|xr 2 rfl ?_
 intro a HF
 refine ycB (l10Pieces_any size (eachN kind) (by omega) (by omega) (by omega) (by omega) _) HF Tryz.func86 HS ?_; clear HF HS a; intro w3 a HS HF
 revert a;refine xr 1 rfl<|xne<|xre<|xb1 Tryz.results60 rfl ?_
 have hp : piecesN kind size = ((size + (eachN kind) - (1 : Int)) / (eachN kind)) := piecesN_in (k := kind) (by omega) (by omega) (by omega)
 exact ⟨by rw [hp], HS.out.bel⟩
theorem implNodeOk_any (n : NodeD) (w0 : World) : Calls Tryz.prog 43 #[nV n] w0 fun e w' => e = .returned (.bool n.ok) ∧ Below w0.heap.size w0 w' := by
 have HS := Bx.mk (St.start w0)
 refine wc_enter Tryz.func43 rfl Tryz.ntmps43 [(0, nV n)] ⟨rfl, trivial⟩ rfl ?_
 refine xsr ?_
 intro a HF
 refine ybx HF HS ?_;clear HF HS a;intro a w1 b1 HF HS
 revert a;refine xr 1 rfl<|xne<|xsr<|xy rfl (vf 0 rfl)<|xy rfl (vc HS.out 0 rfl rfl)<|xy rfl (vf 2 rfl)<|xy rfl (vc HS.out 0 rfl rfl) ?_
 intro a HF
 refine ycB (implNodePieces_any n.fKind n.fSize _) HF Tryz.func65 HS ?_; clear HF HS a; intro w2 a HS HF
 revert a;refine xr 1 rfl<|xne<|xsr<|xr 1 rfl<|xne<|xsq<|xsr<|xy rfl (vf 0 rfl)<|xy rfl (vc HS.out 0 rfl rfl)<|xr 1 rfl<|xne<|xcs 12 rfl (fun cc1=>?_) fun cc1=>?_
 have dcc1 := eq_of_beq cc1
 refine xct rfl<|xrl<|xr 1 rfl<|xne<|xsq ?_
 intro a HF
 refine wr_quiet (by kernel_rfl) (by kernel_rfl) HS.out ?_
 revert a;refine xqr 3 rfl<|xcs 15 rfl (fun cc2=>?_) fun cc2=>?_
 have dcc2 := of_decide_eq_true cc2
 refine xq rfl (fun HS=>vf 1 rfl)<|xq rfl (fun HS=>vc HS 0 rfl rfl)<|xqr 1 rfl ?_
 intro a HF
 refine yqg (fun _ HS => ((within_any n.fLinks 1 1 _).mono fun _ _ h => ⟨h.1, h.2 ▸ Below.refl _ _⟩)) HF Tryz.func42 ?_; clear HF a
 refine xqr 2 rfl<|xcs 21 rfl (fun cc3=>?_) fun cc3=>?_
 refine xq rfl (fun HS=>vf 3 rfl)<|xq rfl (fun HS=>vf 6 rfl)<|xq rfl (fun HS=>vc HS 0 rfl rfl)<|xqr 4 rfl<|xcs 28 rfl (fun cc4=>?_) fun cc4=>?_
 have dcc4 := eq_of_beq cc4
 refine xq rfl (fun HS=>vf 3 rfl)<|xq rfl (fun HS=>vf 5 rfl)<|xq rfl (fun HS=>vc HS 0 rfl rfl)<|xqr 1 rfl ?_
 intro a HF
 refine yqg (fun _ HS => depthOf_any (piecesN n.fKind n.fSize) _) HF Tryz.func66 ?_; clear HF a
 refine xqr 3 rfl<|xcs 36 rfl (fun cc5=>?_) fun cc5=>?_
 have dcc5 := eq_of_beq cc5
 refine xq rfl (fun HS=>vf 3 rfl)<|xq rfl (fun HS=>vf 0 rfl)<|xq rfl (fun HS=>vw HS 0 5 rfl rfl) ?_
 intro a HF
 refine yqg (fun _ HS => implPtrOk_any n.fTree.fRoot _) HF Tryz.func67 ?_; clear HF a
 refine xqr 2 rfl<|xcs 42 rfl (fun cc6=>?_) fun cc6=>?_
 refine xq rfl (fun HS=>vf 3 rfl)<|xq rfl (fun HS=>vf 0 rfl)<|xq rfl (fun HS=>vw HS 0 5 rfl rfl) ?_
 intro a HF
 refine yqg (fun _ HS => implHole_any n.fTree.fRoot _) HF Tryz.func68 ?_; clear HF a
 refine xqr 1 rfl<|xcs 47 rfl (fun cc7=>?_) fun cc7=>?_
 refine xqr 11 rfl ?_
 intro a HF
 refine wpQuiet_nil ?_; intro w3 HS; replace HS := Bx.mk HS
 revert a;refine xet<|xre<|xb1 Tryz.results43 rfl ?_
 have hok : n.ok = true := NodeD.ok_yes ⟨by omega, by have h := inB_true (by simpa using cc3); rw [if_pos dcc1]; exact h, by simpa using dcc4, by simpa using dcc5, by simpa using cc6, .inl (by simpa using cc7)⟩
 exact ⟨by rw [hok], HS.out.bel⟩
 refine xq rfl (fun HS=>vf 3 rfl)<|xq rfl (fun HS=>vf 0 rfl)<|xq rfl (fun HS=>vf 4 rfl)<|xq rfl (fun HS=>vc HS 0 rfl rfl)<|xq rfl (fun HS=>vf 3 rfl)<|xq rfl (fun HS=>vf 5 rfl)<|xq rfl (fun HS=>vc HS 0 rfl rfl)<|xqr 4 rfl ?_
 intro a HF
 refine wpQuiet_nil ?_; intro w4 HS; replace HS := Bx.mk HS
 revert a;refine xet<|xre<|xb1 Tryz.results43 rfl ?_
 cases hlast : (n.fTree.fRoot.fLevel == n.fTree.fDepth) with
 | true =>
   have hok : n.ok = true := NodeD.ok_yes ⟨by omega, by have h := inB_true (by simpa using cc3); rw [if_pos dcc1]; exact h, by simpa using dcc4, by simpa using dcc5, by simpa using cc6, .inr (eq_of_beq hlast)⟩
   exact ⟨by rw [hok] <;> rfl, HS.out.bel⟩
 | false =>
   have hok : n.ok = false := NodeD.ok_no fun h => by
     rcases h.level with h | h
     · rw [h] at cc7; simp at cc7
     · rw [h] at hlast; simp at hlast
   exact ⟨by rw [hok] <;> rfl, HS.out.bel⟩
 refine xqr 16 rfl ?_
 intro a HF
 refine wpQuiet_nil ?_; intro w5 HS; replace HS := Bx.mk HS
 revert a;refine xet<|xre<|xb1 Tryz.results43 rfl ?_
 have hok : n.ok = false := NodeD.ok_no fun h => by
   rw [h.root] at cc6; simp at cc6
 exact ⟨by rw [hok], HS.out.bel⟩
 have dcc5 := ne_of_beq_false cc5
 refine xqr 22 rfl ?_
 intro a HF
 refine wpQuiet_nil ?_; intro w6 HS; replace HS := Bx.mk HS
 revert a;refine xet<|xre<|xb1 Tryz.results43 rfl ?_
 have hok : n.ok = false := NodeD.ok_no fun h => by
   exact dcc5 h.depth
 exact ⟨by rw [hok], HS.out.bel⟩
 have dcc4 := ne_of_beq_false cc4
 refine xqr 30 rfl ?_
 intro a HF
 refine wpQuiet_nil ?_; intro w7 HS; replace HS := Bx.mk HS
 revert a;refine xet<|xre<|xb1 Tryz.results43 rfl ?_
 have hok : n.ok = false := NodeD.ok_no fun h => by
   exact dcc4 h.tmany
 exact ⟨by rw [hok], HS.out.bel⟩
 refine xqr 37 rfl ?_
 intro a HF
 refine wpQuiet_nil ?_; intro w8 HS; replace HS := Bx.mk HS
 revert a;refine xet<|xre<|xb1 Tryz.results43 rfl ?_
 have hok : n.ok = false := NodeD.ok_no fun h => by
   have h1 := h.links; rw [if_pos dcc1] at h1; rw [inB_yes h1.1 h1.2] at cc3; simp at cc3
 exact ⟨by rw [hok], HS.out.bel⟩
 have dcc2 := of_decide_eq_false cc2
 refine xqr 43 rfl ?_
 intro a HF
 refine wpQuiet_nil ?_; intro w9 HS; replace HS := Bx.mk HS
 revert a;refine xet<|xre<|xb1 Tryz.results43 rfl ?_
 have hok : n.ok = false := NodeD.ok_no fun h => by
   have := h.many; omega
 exact ⟨by rw [hok], HS.out.bel⟩
 have dcc1 := ne_of_beq_false cc1
 refine xcf rfl<|xsk<|xet<|xsq ?_
 intro a HF
 refine wr_quiet (by kernel_rfl) (by kernel_rfl) HS.out ?_
 revert a;refine xqr 3 rfl<|xcs 15 rfl (fun cc8=>?_) fun cc8=>?_
 have dcc8 := of_decide_eq_true cc8
 refine xq rfl (fun HS=>vf 1 rfl)<|xq rfl (fun HS=>vc HS 0 rfl rfl)<|xqr 1 rfl ?_
 intro a HF
 refine yqg (fun _ HS => ((within_any n.fLinks 1 9 _).mono fun _ _ h => ⟨h.1, h.2 ▸ Below.refl _ _⟩)) HF Tryz.func42 ?_; clear HF a
 refine xqr 2 rfl<|xcs 21 rfl (fun cc9=>?_) fun cc9=>?_
 refine xq rfl (fun HS=>vf 3 rfl)<|xq rfl (fun HS=>vf 6 rfl)<|xq rfl (fun HS=>vc HS 0 rfl rfl)<|xqr 4 rfl<|xcs 28 rfl (fun cc10=>?_) fun cc10=>?_
 have dcc10 := eq_of_beq cc10
 refine xq rfl (fun HS=>vf 3 rfl)<|xq rfl (fun HS=>vf 5 rfl)<|xq rfl (fun HS=>vc HS 0 rfl rfl)<|xqr 1 rfl ?_
 intro a HF
 refine yqg (fun _ HS => depthOf_any (piecesN n.fKind n.fSize) _) HF Tryz.func66 ?_; clear HF a
 refine xqr 3 rfl<|xcs 36 rfl (fun cc11=>?_) fun cc11=>?_
 have dcc11 := eq_of_beq cc11
 refine xq rfl (fun HS=>vf 3 rfl)<|xq rfl (fun HS=>vf 0 rfl)<|xq rfl (fun HS=>vw HS 0 5 rfl rfl) ?_
 intro a HF
 refine yqg (fun _ HS => implPtrOk_any n.fTree.fRoot _) HF Tryz.func67 ?_; clear HF a
 refine xqr 2 rfl<|xcs 42 rfl (fun cc12=>?_) fun cc12=>?_
 refine xq rfl (fun HS=>vf 3 rfl)<|xq rfl (fun HS=>vf 0 rfl)<|xq rfl (fun HS=>vw HS 0 5 rfl rfl) ?_
 intro a HF
 refine yqg (fun _ HS => implHole_any n.fTree.fRoot _) HF Tryz.func68 ?_; clear HF a
 refine xqr 1 rfl<|xcs 47 rfl (fun cc13=>?_) fun cc13=>?_
 refine xqr 11 rfl ?_
 intro a HF
 refine wpQuiet_nil ?_; intro w10 HS; replace HS := Bx.mk HS
 revert a;refine xet<|xre<|xb1 Tryz.results43 rfl ?_
 have hok : n.ok = true := NodeD.ok_yes ⟨by omega, by have h := inB_true (by simpa using cc9); rw [if_neg dcc1]; exact h, by simpa using dcc10, by simpa using dcc11, by simpa using cc12, .inl (by simpa using cc13)⟩
 exact ⟨by rw [hok], HS.out.bel⟩
 refine xq rfl (fun HS=>vf 3 rfl)<|xq rfl (fun HS=>vf 0 rfl)<|xq rfl (fun HS=>vf 4 rfl)<|xq rfl (fun HS=>vc HS 0 rfl rfl)<|xq rfl (fun HS=>vf 3 rfl)<|xq rfl (fun HS=>vf 5 rfl)<|xq rfl (fun HS=>vc HS 0 rfl rfl)<|xqr 4 rfl ?_
 intro a HF
 refine wpQuiet_nil ?_; intro w11 HS; replace HS := Bx.mk HS
 revert a;refine xet<|xre<|xb1 Tryz.results43 rfl ?_
 cases hlast : (n.fTree.fRoot.fLevel == n.fTree.fDepth) with
 | true =>
   have hok : n.ok = true := NodeD.ok_yes ⟨by omega, by have h := inB_true (by simpa using cc9); rw [if_neg dcc1]; exact h, by simpa using dcc10, by simpa using dcc11, by simpa using cc12, .inr (eq_of_beq hlast)⟩
   exact ⟨by rw [hok] <;> rfl, HS.out.bel⟩
 | false =>
   have hok : n.ok = false := NodeD.ok_no fun h => by
     rcases h.level with h | h
     · rw [h] at cc13; simp at cc13
     · rw [h] at hlast; simp at hlast
   exact ⟨by rw [hok] <;> rfl, HS.out.bel⟩
 refine xqr 16 rfl ?_
 intro a HF
 refine wpQuiet_nil ?_; intro w12 HS; replace HS := Bx.mk HS
 revert a;refine xet<|xre<|xb1 Tryz.results43 rfl ?_
 have hok : n.ok = false := NodeD.ok_no fun h => by
   rw [h.root] at cc12; simp at cc12
 exact ⟨by rw [hok], HS.out.bel⟩
 have dcc11 := ne_of_beq_false cc11
 refine xqr 22 rfl ?_
 intro a HF
 refine wpQuiet_nil ?_; intro w13 HS; replace HS := Bx.mk HS
 revert a;refine xet<|xre<|xb1 Tryz.results43 rfl ?_
 have hok : n.ok = false := NodeD.ok_no fun h => by
   exact dcc11 h.depth
 exact ⟨by rw [hok], HS.out.bel⟩
 have dcc10 := ne_of_beq_false cc10
 refine xqr 30 rfl ?_
 intro a HF
 refine wpQuiet_nil ?_; intro w14 HS; replace HS := Bx.mk HS
 revert a;refine xet<|xre<|xb1 Tryz.results43 rfl ?_
 have hok : n.ok = false := NodeD.ok_no fun h => by
   exact dcc10 h.tmany
 exact ⟨by rw [hok], HS.out.bel⟩
 refine xqr 37 rfl ?_
 intro a HF
 refine wpQuiet_nil ?_; intro w15 HS; replace HS := Bx.mk HS
 revert a;refine xet<|xre<|xb1 Tryz.results43 rfl ?_
 have hok : n.ok = false := NodeD.ok_no fun h => by
   have h1 := h.links; rw [if_neg dcc1] at h1; rw [inB_yes h1.1 h1.2] at cc9; simp at cc9
 exact ⟨by rw [hok], HS.out.bel⟩
 have dcc8 := of_decide_eq_false cc8
 refine xqr 43 rfl ?_
 intro a HF
 refine wpQuiet_nil ?_; intro w16 HS; replace HS := Bx.mk HS
 revert a;refine xet<|xre<|xb1 Tryz.results43 rfl ?_
 have hok : n.ok = false := NodeD.ok_no fun h => by
   have := h.many; omega
 exact ⟨by rw [hok], HS.out.bel⟩
theorem specNodeOk_any (n : NodeD) (w0 : World) : Calls Tryz.prog 38 #[nV n] w0 fun e w' => e = .returned (.bool n.ok) ∧ Below w0.heap.size w0 w' := by
 have HS := Bx.mk (St.start w0)
 refine wc_enter Tryz.func38 rfl Tryz.ntmps38 [(0, nV n)] ⟨rfl, trivial⟩ rfl ?_
 refine xsr ?_
 intro a HF
 refine ybx HF HS ?_;clear HF HS a;intro a w1 b1 HF HS
 revert a;refine xr 1 rfl<|xne<|xsr<|xy rfl (vf 0 rfl)<|xy rfl (vc HS.out 0 rfl rfl)<|xy rfl (vf 2 rfl)<|xy rfl (vc HS.out 0 rfl rfl) ?_
 intro a HF
 refine ycB (specNodePieces_any n.fKind n.fSize _) HF Tryz.func60 HS ?_; clear HF HS a; intro w2 a HS HF
 revert a;refine xr 1 rfl<|xne<|xsq<|xsq ?_
 intro a HF
 refine wr_quiet (by kernel_rfl) (by kernel_rfl) HS.out ?_
 revert a;refine xqr 3 rfl<|xcs 12 rfl (fun cc1=>?_) fun cc1=>?_
 have dcc1 := of_decide_eq_true cc1
 refine xqr 21 rfl ?_
 intro a HF
 refine wpQuiet_nil ?_; intro w3 HS; replace HS := Bx.mk HS
 revert a;refine xet<|xct rfl<|xsr<|xr 1 rfl<|xne<|xre<|xtr<|xb1 Tryz.results38 rfl ?_
 have hok : n.ok = false := NodeD.ok_no fun h => by
   have := h.many; omega
 exact ⟨by rw [hok], HS.out.bel⟩
 have dcc1 := of_decide_eq_false cc1
 refine xq rfl (fun HS=>vf 3 rfl)<|xq rfl (fun HS=>vf 6 rfl)<|xq rfl (fun HS=>vc HS 0 rfl rfl)<|xqr 4 rfl<|xcs 19 rfl (fun cc2=>?_) fun cc2=>?_
 have dcc2 := bne_iff_ne.1 cc2
 refine xqr 14 rfl ?_
 intro a HF
 refine wpQuiet_nil ?_; intro w4 HS; replace HS := Bx.mk HS
 revert a;refine xet<|xct rfl<|xsr<|xr 1 rfl<|xne<|xre<|xtr<|xb1 Tryz.results38 rfl ?_
 have hok : n.ok = false := NodeD.ok_no fun h => by
   exact dcc2 h.tmany
 exact ⟨by rw [hok], HS.out.bel⟩
 have dcc2 := bne_eq_false_iff_eq.1 cc2
 refine xq rfl (fun HS=>vf 3 rfl)<|xq rfl (fun HS=>vf 5 rfl)<|xq rfl (fun HS=>vc HS 0 rfl rfl)<|xqr 1 rfl ?_
 intro a HF
 refine yqg (fun _ HS => l8Depth_any (piecesN n.fKind n.fSize) _) HF Tryz.func61 ?_; clear HF a
 refine xqr 3 rfl<|xcs 27 rfl (fun cc3=>?_) fun cc3=>?_
 have dcc3 := bne_iff_ne.1 cc3
 refine xqr 6 rfl ?_
 intro a HF
 refine wpQuiet_nil ?_; intro w5 HS; replace HS := Bx.mk HS
 revert a;refine xet<|xct rfl<|xsr<|xr 1 rfl<|xne<|xre<|xtr<|xb1 Tryz.results38 rfl ?_
 have hok : n.ok = false := NodeD.ok_no fun h => by
   exact dcc3 h.depth
 exact ⟨by rw [hok], HS.out.bel⟩
 have dcc3 := bne_eq_false_iff_eq.1 cc3
 refine xq rfl (fun HS=>vf 3 rfl)<|xq rfl (fun HS=>vf 0 rfl)<|xq rfl (fun HS=>vw HS 0 5 rfl rfl) ?_
 intro a HF
 refine yqg (fun _ HS => specPtrOk_any n.fTree.fRoot _) HF Tryz.func49 ?_; clear HF a
 refine xqr 2 rfl ?_
 intro a HF
 refine wpQuiet_nil ?_; intro w6 HS; replace HS := Bx.mk HS
 revert a;refine xet<|xcs 33 rfl (fun cc4=>?_) fun cc4=>?_
 refine xct rfl<|xsr<|xr 1 rfl<|xne<|xre<|xtr<|xb1 Tryz.results38 rfl ?_
 have hok : n.ok = false := NodeD.ok_no fun h => by
   rw [h.root] at cc4; simp at cc4
 exact ⟨by rw [hok], HS.out.bel⟩
 refine xcf rfl<|xsk<|xet<|xsr<|xr 1 rfl<|xne<|xsq<|xsr<|xy rfl (vf 0 rfl)<|xy rfl (vc HS.out 0 rfl rfl)<|xr 1 rfl<|xne<|xcs 36 rfl (fun cc5=>?_) fun cc5=>?_
 have dcc5 := eq_of_beq cc5
 refine xct rfl<|xrl<|xr 1 rfl<|xne<|xsr<|xy rfl (vf 1 rfl)<|xy rfl (vc HS.out 0 rfl rfl)<|xr 1 rfl ?_
 intro a HF
 refine ycB ((l6In_any n.fLinks 1 1 _).mono fun _ _ h => ⟨h.1, h.2 ▸ Below.refl _ _⟩) HF Tryz.func37 HS ?_; clear HF HS a; intro w7 a HS HF
 revert a;refine xr 1 rfl<|xcs 41 rfl (fun cc6=>?_) fun cc6=>?_
 refine xy rfl (vf 3 rfl)<|xy rfl (vf 0 rfl)<|xy rfl (vw HS.out 0 5 rfl rfl) ?_
 intro a HF
 refine ycBg (specHole_any n.fTree.fRoot _) HF Tryz.func50 HS ?_; clear HF HS a; intro w8 a HS HF
 revert a;refine xr 1 rfl<|xcs 46 rfl (fun cc7=>?_) fun cc7=>?_
 refine xr 11 rfl<|xne<|xre<|xb1 Tryz.results38 rfl ?_
 have hok : n.ok = true := NodeD.ok_yes ⟨by omega, by have h := inB_true (by simpa using cc6); rw [if_pos dcc5]; exact h, by simpa using dcc2, by simpa using dcc3, by simpa using cc4, .inl (by simpa using cc7)⟩
 exact ⟨by rw [hok], HS.out.bel⟩
 refine xy rfl (vf 3 rfl)<|xy rfl (vf 0 rfl)<|xy rfl (vf 4 rfl)<|xy rfl (vc HS.out 0 rfl rfl)<|xy rfl (vf 3 rfl)<|xy rfl (vf 5 rfl)<|xy rfl (vc HS.out 0 rfl rfl)<|xr 4 rfl<|xne<|xre<|xb1 Tryz.results38 rfl ?_
 cases hlast : (n.fTree.fRoot.fLevel == n.fTree.fDepth) with
 | true =>
   have hok : n.ok = true := NodeD.ok_yes ⟨by omega, by have h := inB_true (by simpa using cc6); rw [if_pos dcc5]; exact h, by simpa using dcc2, by simpa using dcc3, by simpa using cc4, .inr (eq_of_beq hlast)⟩
   exact ⟨by rw [hok] <;> rfl, HS.out.bel⟩
 | false =>
   have hok : n.ok = false := NodeD.ok_no fun h => by
     rcases h.level with h | h
     · rw [h] at cc7; simp at cc7
     · rw [h] at hlast; simp at hlast
   exact ⟨by rw [hok] <;> rfl, HS.out.bel⟩
 refine xr 16 rfl<|xne<|xre<|xb1 Tryz.results38 rfl ?_
 have hok : n.ok = false := NodeD.ok_no fun h => by
   have h1 := h.links; rw [if_pos dcc5] at h1; rw [inB_yes h1.1 h1.2] at cc6; simp at cc6
 exact ⟨by rw [hok], HS.out.bel⟩
 have dcc5 := ne_of_beq_false cc5
 refine xcf rfl<|xsk<|xet<|xsr<|xy rfl (vf 1 rfl)<|xy rfl (vc HS.out 0 rfl rfl)<|xr 1 rfl ?_
 intro a HF
 refine ycB ((l6In_any n.fLinks 1 9 _).mono fun _ _ h => ⟨h.1, h.2 ▸ Below.refl _ _⟩) HF Tryz.func37 HS ?_; clear HF HS a; intro w9 a HS HF
 revert a;refine xr 1 rfl<|xcs 41 rfl (fun cc8=>?_) fun cc8=>?_
 refine xy rfl (vf 3 rfl)<|xy rfl (vf 0 rfl)<|xy rfl (vw HS.out 0 5 rfl rfl) ?_
 intro a HF
 refine ycBg (specHole_any n.fTree.fRoot _) HF Tryz.func50 HS ?_; clear HF HS a; intro w10 a HS HF
 revert a;refine xr 1 rfl<|xcs 46 rfl (fun cc9=>?_) fun cc9=>?_
 refine xr 11 rfl<|xne<|xre<|xb1 Tryz.results38 rfl ?_
 have hok : n.ok = true := NodeD.ok_yes ⟨by omega, by have h := inB_true (by simpa using cc8); rw [if_neg dcc5]; exact h, by simpa using dcc2, by simpa using dcc3, by simpa using cc4, .inl (by simpa using cc9)⟩
 exact ⟨by rw [hok], HS.out.bel⟩
 refine xy rfl (vf 3 rfl)<|xy rfl (vf 0 rfl)<|xy rfl (vf 4 rfl)<|xy rfl (vc HS.out 0 rfl rfl)<|xy rfl (vf 3 rfl)<|xy rfl (vf 5 rfl)<|xy rfl (vc HS.out 0 rfl rfl)<|xr 4 rfl<|xne<|xre<|xb1 Tryz.results38 rfl ?_
 cases hlast : (n.fTree.fRoot.fLevel == n.fTree.fDepth) with
 | true =>
   have hok : n.ok = true := NodeD.ok_yes ⟨by omega, by have h := inB_true (by simpa using cc8); rw [if_neg dcc5]; exact h, by simpa using dcc2, by simpa using dcc3, by simpa using cc4, .inr (eq_of_beq hlast)⟩
   exact ⟨by rw [hok] <;> rfl, HS.out.bel⟩
 | false =>
   have hok : n.ok = false := NodeD.ok_no fun h => by
     rcases h.level with h | h
     · rw [h] at cc9; simp at cc9
     · rw [h] at hlast; simp at hlast
   exact ⟨by rw [hok] <;> rfl, HS.out.bel⟩
 refine xr 16 rfl<|xne<|xre<|xb1 Tryz.results38 rfl ?_
 have hok : n.ok = false := NodeD.ok_no fun h => by
   have h1 := h.links; rw [if_neg dcc5] at h1; rw [inB_yes h1.1 h1.2] at cc8; simp at cc8
 exact ⟨by rw [hok], HS.out.bel⟩
open Go.RowKit
theorem Box.putAt {w : World} {b n : Nat} {t : TypeId} {cs : List Value} (h : Box w b n t (.agg cs.toArray)) (k : Nat) (ds : List Value) (hk : k + ds.length ≤ cs.length) (g1 : ∀ u ∈ ds, u.oneCell' = true) :
    w.there b k ds.length ∧ Box (w.setCells b k ds) b n t (.agg (splice cs k ds).toArray) ∧ Outside b (b + 1) w (w.setCells b k ds) := by
  obtain ⟨cs', e, hl, h1, hh⟩ := h
  obtain rfl : cs = cs' := by simpa using e
  obtain ⟨k1, k2, k3⟩ := blk_setCells ds k w cs hh hk
  refine ⟨fun j hj => ⟨by rw [blk_cell hh]; simp; omega, blk_frozen hh _⟩, ⟨_, rfl, ?_, ?_, k1⟩, k2⟩
  · unfold splice; simp; omega
  · intro u hu
    unfold splice at hu
    rcases List.mem_append.1 hu with hu | hu
    · rcases List.mem_append.1 hu with hu | hu
      · exact h1 u (List.mem_of_mem_take hu)
      · exact g1 u hu
    · exact h1 u (List.mem_of_mem_drop hu)
section
variable {P : Program} {ops : Array Oper} {Q : Exit → Act → World → Prop} {rest : List Oper} {o : Oper} {a : Act} {W w : World} {s : List Asr}
theorem wl_storeSub (hg : o.guard = none) {t : TypeId} {x y : Operand} (ho : o.op = .store t x y) (hd : o.dst = none) {b n k : Nat} {T : TypeId} {cs ds rs : List Value} (hx : a.eval x = .pointer (some ⟨b, k, none⟩)) (hy : a.eval y = .agg ds.toArray) (hS : St W s w) (i : Nat) (hi : s[i]? = some (boxA b n T (.agg cs.toArray))) (hk : Nat.ble (k + ds.length) cs.length = true) (hv : (ds.all fun u => u.oneCell') = true) (hn : rowOf? P t ds.length = true) (hr : splice cs k ds = rs)
    (h : ∀ w', St W (s.set i (boxA b n T (.agg rs.toArray))) w' → wpList P ops Q rest a w') : wpList P ops Q (o :: rest) a w := by
  obtain ⟨k1, k2, k3⟩ := (hS.box i hi).putAt k ds (Nat.le_of_ble_eq_true hk) (List.all_eq_true.1 hv)
  refine wpList_plain hg fun K hK => wp_store_mid t x y ho b k ds.toArray hx hy (by simpa using k1) (by rw [(rowOf_spec hn).2]; simp) (by simpa using hv) ?_
  rw [hd]
  exact hK _ _ (h _ (by rw [← hr]; exact hS.putBox i hi k2 k3))
end
open Go.RowKit
theorem szs_nodeL (n : NodeD) : szs (nodeL n) := szs_cons (Nat.le_trans (numB_le _) (by decide)) (szs_cons (Nat.le_trans (numB_le _) (by decide)) (szs_cons (Nat.le_trans (numB_le _) (by decide)) (szs_cons (Nat.le_trans (ptrB_le _) (by decide)) (szs_cons (Nat.le_trans (numB_le _) (by decide)) (szs_cons (Nat.le_trans (numB_le _) (by decide)) (szs_cons (by decide) szs_nil))))))
theorem nodeL_len (n : NodeD) : (nodeL n).length = 7 := rfl
theorem implNodePut_any (n : NodeD) (w0 : World) (hT : TabP w0) : Calls Tryz.prog 46 #[nV n] w0 fun e w' => e = .returned (.string (nodeB n)) ∧ Below w0.heap.size w0 w' := by
 have HT := Bx.mk hT; clear hT
 have HS := Bx.mk (St.start w0)
 refine wc_enter Tryz.func46 rfl Tryz.ntmps46 [(0, nV n)] ⟨rfl, trivial⟩ rfl ?_
 refine xsr ?_
 intro a HF
 refine ybx HF HS ?_;clear HF HS a;intro a w1 b1 HF HS
 revert a;refine xr 1 rfl<|xne<|xsq<|xsr<|xy rfl (vw HS.out 0 10 rfl rfl) ?_
 intro a HF
 refine ycB (implNodeOk_any n _) HF Tryz.func43 HS ?_; clear HF HS a; intro w2 a HS HF
 revert a;refine xr 1 rfl<|xne<|xcs 7 rfl (fun cc1=>?_) fun cc1=>?_
 refine xct rfl<|xsr<|xr 1 rfl<|xne<|xre<|xtr<|xb1 Tryz.results46 rfl ?_
 exact ⟨by rw [nodeB_no (by simpa using cc1)]; rfl, HS.out.bel⟩
 refine xcf rfl<|xsk<|xet<|xsq ?_
 intro a HF
 refine wp_join (R := fun a w => ∃ (b7 : Nat) (ao4 : Option Addr) (cp4 : Nat) (ao8 : Option Addr) (cp9 : Nat) (b2 : Nat), Fr 27 a [(0, nV n), (1, .pointer (some ⟨b1, 0, none⟩)), (2, .string (⟨#[]⟩ : ByteArray)), (5, nV n), (6, .bool n.ok), (7, .bool false), (3, .string ((fieldsPut (nodeL n)).1))] ∧ St w0 ([rowA encS 1 9 (.slice (some ⟨b7, 0, none⟩) 1 1) ([(⟨#[101, 110, 100]⟩ : ByteArray)]), rowA encS 1 9 (.slice ao4 3 cp4) (treeB n.fTree), rowA encS 1 9 (.slice ao8 (((([n.fKind, n.fLinks, n.fSize]).map numB) ++ (treeB n.fTree)).length + ([(⟨#[101, 110, 100]⟩ : ByteArray)]).length) cp9) (((([n.fKind, n.fLinks, n.fSize]).map numB) ++ (treeB n.fTree)) ++ ([(⟨#[101, 110, 100]⟩ : ByteArray)])), rowA encI 1 3 (.slice (some ⟨b2, 0, none⟩) 3 3) ([n.fKind, n.fLinks, n.fSize]), boxA b1 10 53 (nV n)]) w) ?_ ?_
 have hok : n.ok = true := by simpa using cc1
 have hsm := (NodeD.ok_is hok).small; have k1 := hsm.links; have k2 := hsm.size; have k3 := hsm.many; have k4 := hsm.depth; have k5 := hsm.kind; have hel := eachN_le n.fKind
 refine wr_heldS (s := [boxA b1 10 53 (nV n)]) (by kernel_rfl) (St.drew (HS.out)) ?_
 have HS2 := Bx.mk HS.out.drew; replace HS := Bx.mk (show St w0 ([boxA b1 10 53 (nV n)]) _ from HS.out.drew)
 generalize World.drew _ = w3 at HS HS2 ⊢
 revert a;refine xhy 0 HS.out rfl rfl (fun HS=>vf 0 rfl)<|xhy 1 HS.out rfl rfl (fun HS=>vc HS 0 rfl rfl)<|xhy 2 HS.out rfl rfl (fun HS=>vf 1 rfl)<|xhy 3 HS.out rfl rfl (fun HS=>vc HS 0 rfl rfl)<|xhy 4 HS.out rfl rfl (fun HS=>vf 2 rfl)<|xhy 5 HS.out rfl rfl (fun HS=>vc HS 0 rfl rfl)<|xhy 8 HS.out rfl rfl (fun HS=>vf 3 rfl)<|xhy 9 HS.out rfl rfl (fun HS=>vw HS 0 7 rfl rfl) ?_
 intro a HF
 refine wh_two 6 12 (by kernel_rfl) ?_ ?_
 refine wo_buildS (enc := encI) (e := 3) (size := 1) rfl rfl HF rfl rfl rfl (ps := [(0, .int .i64 n.fKind), (1, .int .i64 n.fLinks), (2, .int .i64 n.fSize)]) rfl (cells := [.int .i64 n.fKind, .int .i64 n.fLinks, .int .i64 n.fSize]) (by kernel_rfl) [n.fKind, n.fLinks, n.fSize] rfl rfl (by unfold maxLen; omega) rfl HS2.out HS.out ?_; clear HF HS HS2 a; intro b2 a w5 HF HS2 HS; replace HS := Bx.mk HS; replace HS2 := Bx.mk HS2; refine ⟨HS.out, ?_⟩
 refine wh_two 7 12 (by kernel_rfl) ?_ ?_
 refine yo (numbers_any _ _ _ ([n.fKind, n.fLinks, n.fSize]) _ (HT.out.below HS2.out.bel) (by simp) (St.rdN HS2.out encI_len 0 rfl)) HF Tryz.func73 ?_
 rintro _ w7 ⟨ao3, cp3, rfl, hs⟩
 refine ⟨_, rfl, ?_⟩
 replace HS := Bx.mk (HS.out.later hs.bel); replace HS2 := Bx.mk (HS2.out.add hs);clear hs HF a;intro a HF
 replace HS2 : Bx (St w0 ([rowA encS 1 9 (.slice ao3 (([n.fKind, n.fLinks, n.fSize]).length) cp3) (([n.fKind, n.fLinks, n.fSize]).map numB), rowA encI 1 3 (.slice (some ⟨b2, 0, none⟩) 3 3) ([n.fKind, n.fLinks, n.fSize]), boxA b1 10 53 (nV n)]) _) := ⟨HS2.out⟩
 refine ⟨HS.out, ?_⟩
 refine wh_two 10 12 (by kernel_rfl) ?_ ?_
 refine yo (treeFields_any n.fTree _ (HT.out.below HS2.out.bel)) HF Tryz.func74 ?_
 rintro _ w9 ⟨ao4, cp4, rfl, hs⟩
 refine ⟨_, rfl, ?_⟩
 replace HS := Bx.mk (HS.out.later hs.bel); replace HS2 := Bx.mk (HS2.out.add hs);clear hs HF a;intro a HF
 replace HS2 : Bx (St w0 ([rowA encS 1 9 (.slice ao4 3 cp4) (treeB n.fTree), rowA encS 1 9 (.slice ao3 (([n.fKind, n.fLinks, n.fSize]).length) cp3) (([n.fKind, n.fLinks, n.fSize]).map numB), rowA encI 1 3 (.slice (some ⟨b2, 0, none⟩) 3 3) ([n.fKind, n.fLinks, n.fSize]), boxA b1 10 53 (nV n)]) _) := ⟨HS2.out⟩
 refine ⟨HS.out, ?_⟩
 refine wh_two 11 12 (by kernel_rfl) ?_ ?_
 refine wo_appL rfl rfl HF rfl rfl rfl (HF.ev rfl) (HF.ev rfl) elemS encS_len HS2.out 1 (xs := ([n.fKind, n.fLinks, n.fSize]).map numB) rfl (ys := treeB n.fTree) (St.rdN HS2.out encS_len 0 rfl) (cells_one_S _) (by unfold maxLen; (try simp only [List.length_append, List.length_cons, List.length_nil, List.nil_append, List.length_map, treeB_len, List.length_map]); omega) (by (try simp only [List.length_append, List.length_cons, List.length_nil, List.nil_append, List.length_map, treeB_len, List.length_map]); omega) ?_; clear HF HS HS2 a; intro ao5 cp6 w11 a HF HS2; replace HS2 := Bx.mk HS2
 replace HS2 : Bx (St w0 ([rowA encS 1 9 (.slice ao4 3 cp4) (treeB n.fTree), rowA encS 1 9 (.slice ao5 ((([n.fKind, n.fLinks, n.fSize]).map numB).length + (treeB n.fTree).length) cp6) ((([n.fKind, n.fLinks, n.fSize]).map numB) ++ (treeB n.fTree)), rowA encI 1 3 (.slice (some ⟨b2, 0, none⟩) 3 3) ([n.fKind, n.fLinks, n.fSize]), boxA b1 10 53 (nV n)]) _) := ⟨HS2.out⟩
 have HS:=Bx.mk ((((HS2.out.erase 2).erase 1).erase 0));refine ⟨HS.out,?_⟩
 refine wh_one 12 (by kernel_rfl) ?_
 refine wo_buildS (enc := encS) (e := 9) (size := 1) rfl rfl HF rfl rfl rfl (ps := [(0, .string (⟨#[101, 110, 100]⟩ : ByteArray))]) rfl (cells := [.string (⟨#[101, 110, 100]⟩ : ByteArray)]) (by kernel_rfl) [(⟨#[101, 110, 100]⟩ : ByteArray)] rfl rfl (by unfold maxLen; omega) rfl HS2.out HS.out ?_; clear HF HS HS2 a; intro b7 a w13 HF HS2 HS; replace HS := Bx.mk HS; replace HS2 := Bx.mk HS2; refine ⟨HS.out, ?_⟩
 refine wh_one 13 (by kernel_rfl) ?_
 refine wo_appL rfl rfl HF rfl rfl rfl (HF.ev rfl) (HF.ev rfl) elemS encS_len HS2.out 2 (xs := (([n.fKind, n.fLinks, n.fSize]).map numB) ++ (treeB n.fTree)) rfl (ys := [(⟨#[101, 110, 100]⟩ : ByteArray)]) (St.rdN HS2.out encS_len 0 rfl) (cells_one_S _) (by unfold maxLen; (try simp only [List.length_append, List.length_cons, List.length_nil, List.nil_append, List.length_map, treeB_len, List.length_map]); omega) (by (try simp only [List.length_append, List.length_cons, List.length_nil, List.nil_append, List.length_map, treeB_len, List.length_map]); omega) ?_; clear HF HS HS2 a; intro ao8 cp9 w15 a HF HS2; replace HS2 := Bx.mk HS2
 replace HS2 : Bx (St w0 ([rowA encS 1 9 (.slice (some ⟨b7, 0, none⟩) 1 1) ([(⟨#[101, 110, 100]⟩ : ByteArray)]), rowA encS 1 9 (.slice ao4 3 cp4) (treeB n.fTree), rowA encS 1 9 (.slice ao8 (((([n.fKind, n.fLinks, n.fSize]).map numB) ++ (treeB n.fTree)).length + ([(⟨#[101, 110, 100]⟩ : ByteArray)]).length) cp9) (((([n.fKind, n.fLinks, n.fSize]).map numB) ++ (treeB n.fTree)) ++ ([(⟨#[101, 110, 100]⟩ : ByteArray)])), rowA encI 1 3 (.slice (some ⟨b2, 0, none⟩) 3 3) ([n.fKind, n.fLinks, n.fSize]), boxA b1 10 53 (nV n)]) _) := ⟨HS2.out⟩
 have HS:=Bx.mk (((((HS2.out.erase 3).erase 2).erase 1).erase 0));refine ⟨HS.out,?_⟩
 refine wh_one 14 (by kernel_rfl) ?_
 refine yoB (fieldsPutI_any _ _ _ (nodeL n) _ (HT.out.below HS2.out.bel) (by rw [nodeL_len]; omega) (szs_nodeL n) (St.rdN HS2.out encS_len 2 rfl)) HF Tryz.func72 ?_
 intro w16 hb; replace HS := Bx.mk (HS.out.later hb); replace HS2 := Bx.mk (HS2.out.later hb);clear hb HF a;intro a HF; refine ⟨HS.out, ?_⟩
 revert a;refine xh 15 HS.out rfl rfl rfl<|xh 16 HS.out rfl rfl rfl<|xh 17 HS.out rfl rfl rfl<|xh 18 HS.out rfl rfl rfl<|xh 19 HS.out rfl rfl rfl ?_
 intro a HF
 refine wh_done (by kernel_rfl) ?_
 replace HS := HS2; clear HS2
 exact on_mk ⟨_, _, _, _, _, _, HF.less _ ⟨rfl, rfl, rfl, rfl, rfl, rfl, rfl, trivial⟩, HS.out⟩
 refine wo_buildS (enc := encS) (e := 9) (size := 1) rfl rfl HF rfl rfl rfl (ps := [(0, .string (⟨#[101, 110, 100]⟩ : ByteArray))]) rfl (cells := [.string (⟨#[101, 110, 100]⟩ : ByteArray)]) (by kernel_rfl) [(⟨#[101, 110, 100]⟩ : ByteArray)] rfl rfl (by unfold maxLen; omega) rfl HS2.out HS.out ?_; clear HF HS HS2 a; intro b10 a w18 HF HS2 HS; replace HS := Bx.mk HS; replace HS2 := Bx.mk HS2; refine ⟨HS.out, ?_⟩
 refine wh_one 11 (by kernel_rfl) ?_
 refine wo_appL rfl rfl HF rfl rfl rfl (HF.ev rfl) (HF.ev rfl) elemS encS_len HS2.out 2 (xs := ([n.fKind, n.fLinks, n.fSize]).map numB) rfl (ys := treeB n.fTree) (St.rdN HS2.out encS_len 1 rfl) (cells_one_S _) (by unfold maxLen; (try simp only [List.length_append, List.length_cons, List.length_nil, List.nil_append, List.length_map, treeB_len, List.length_map]); omega) (by (try simp only [List.length_append, List.length_cons, List.length_nil, List.nil_append, List.length_map, treeB_len, List.length_map]); omega) ?_; clear HF HS HS2 a; intro ao11 cp12 w20 a HF HS2; replace HS2 := Bx.mk HS2
 replace HS2 : Bx (St w0 ([rowA encS 1 9 (.slice (some ⟨b10, 0, none⟩) 1 1) ([(⟨#[101, 110, 100]⟩ : ByteArray)]), rowA encS 1 9 (.slice ao4 3 cp4) (treeB n.fTree), rowA encS 1 9 (.slice ao11 ((([n.fKind, n.fLinks, n.fSize]).map numB).length + (treeB n.fTree).length) cp12) ((([n.fKind, n.fLinks, n.fSize]).map numB) ++ (treeB n.fTree)), rowA encI 1 3 (.slice (some ⟨b2, 0, none⟩) 3 3) ([n.fKind, n.fLinks, n.fSize]), boxA b1 10 53 (nV n)]) _) := ⟨HS2.out⟩
 have HS:=Bx.mk (((((HS2.out.erase 3).erase 2).erase 1).erase 0));refine ⟨HS.out,?_⟩
 refine wh_one 13 (by kernel_rfl) ?_
 refine wo_appL rfl rfl HF rfl rfl rfl (HF.ev rfl) (HF.ev rfl) elemS encS_len HS2.out 2 (xs := (([n.fKind, n.fLinks, n.fSize]).map numB) ++ (treeB n.fTree)) rfl (ys := [(⟨#[101, 110, 100]⟩ : ByteArray)]) (St.rdN HS2.out encS_len 0 rfl) (cells_one_S _) (by unfold maxLen; (try simp only [List.length_append, List.length_cons, List.length_nil, List.nil_append, List.length_map, treeB_len, List.length_map]); omega) (by (try simp only [List.length_append, List.length_cons, List.length_nil, List.nil_append, List.length_map, treeB_len, List.length_map]); omega) ?_; clear HF HS HS2 a; intro ao13 cp14 w22 a HF HS2; replace HS2 := Bx.mk HS2
 replace HS2 : Bx (St w0 ([rowA encS 1 9 (.slice (some ⟨b10, 0, none⟩) 1 1) ([(⟨#[101, 110, 100]⟩ : ByteArray)]), rowA encS 1 9 (.slice ao4 3 cp4) (treeB n.fTree), rowA encS 1 9 (.slice ao13 (((([n.fKind, n.fLinks, n.fSize]).map numB) ++ (treeB n.fTree)).length + ([(⟨#[101, 110, 100]⟩ : ByteArray)]).length) cp14) (((([n.fKind, n.fLinks, n.fSize]).map numB) ++ (treeB n.fTree)) ++ ([(⟨#[101, 110, 100]⟩ : ByteArray)])), rowA encI 1 3 (.slice (some ⟨b2, 0, none⟩) 3 3) ([n.fKind, n.fLinks, n.fSize]), boxA b1 10 53 (nV n)]) _) := ⟨HS2.out⟩
 have HS:=Bx.mk (((((HS2.out.erase 3).erase 2).erase 1).erase 0));refine ⟨HS.out,?_⟩
 refine wh_one 14 (by kernel_rfl) ?_
 refine yoB (fieldsPutI_any _ _ _ (nodeL n) _ (HT.out.below HS2.out.bel) (by rw [nodeL_len]; omega) (szs_nodeL n) (St.rdN HS2.out encS_len 2 rfl)) HF Tryz.func72 ?_
 intro w23 hb; replace HS := Bx.mk (HS.out.later hb); replace HS2 := Bx.mk (HS2.out.later hb);clear hb HF a;intro a HF; refine ⟨HS.out, ?_⟩
 revert a;refine xh 15 HS.out rfl rfl rfl<|xh 16 HS.out rfl rfl rfl<|xh 17 HS.out rfl rfl rfl<|xh 18 HS.out rfl rfl rfl<|xh 19 HS.out rfl rfl rfl ?_
 intro a HF
 refine wh_done (by kernel_rfl) ?_
 replace HS := HS2; clear HS2
 exact on_mk ⟨_, _, _, _, _, _, HF.less _ ⟨rfl, rfl, rfl, rfl, rfl, rfl, rfl, trivial⟩, HS.out⟩
 refine wo_buildS (enc := encS) (e := 9) (size := 1) rfl rfl HF rfl rfl rfl (ps := [(0, .string (⟨#[101, 110, 100]⟩ : ByteArray))]) rfl (cells := [.string (⟨#[101, 110, 100]⟩ : ByteArray)]) (by kernel_rfl) [(⟨#[101, 110, 100]⟩ : ByteArray)] rfl rfl (by unfold maxLen; omega) rfl HS2.out HS.out ?_; clear HF HS HS2 a; intro b15 a w25 HF HS2 HS; replace HS := Bx.mk HS; replace HS2 := Bx.mk HS2; refine ⟨HS.out, ?_⟩
 refine wh_one 10 (by kernel_rfl) ?_
 refine yo (treeFields_any n.fTree _ (HT.out.below HS2.out.bel)) HF Tryz.func74 ?_
 rintro _ w27 ⟨ao16, cp16, rfl, hs⟩
 refine ⟨_, rfl, ?_⟩
 replace HS := Bx.mk (HS.out.later hs.bel); replace HS2 := Bx.mk (HS2.out.add hs);clear hs HF a;intro a HF
 replace HS2 : Bx (St w0 ([rowA encS 1 9 (.slice ao16 3 cp16) (treeB n.fTree), rowA encS 1 9 (.slice (some ⟨b15, 0, none⟩) 1 1) ([(⟨#[101, 110, 100]⟩ : ByteArray)]), rowA encS 1 9 (.slice ao3 (([n.fKind, n.fLinks, n.fSize]).length) cp3) (([n.fKind, n.fLinks, n.fSize]).map numB), rowA encI 1 3 (.slice (some ⟨b2, 0, none⟩) 3 3) ([n.fKind, n.fLinks, n.fSize]), boxA b1 10 53 (nV n)]) _) := ⟨HS2.out⟩
 refine ⟨HS.out, ?_⟩
 refine wh_one 11 (by kernel_rfl) ?_
 refine wo_appL rfl rfl HF rfl rfl rfl (HF.ev rfl) (HF.ev rfl) elemS encS_len HS2.out 2 (xs := ([n.fKind, n.fLinks, n.fSize]).map numB) rfl (ys := treeB n.fTree) (St.rdN HS2.out encS_len 0 rfl) (cells_one_S _) (by unfold maxLen; (try simp only [List.length_append, List.length_cons, List.length_nil, List.nil_append, List.length_map, treeB_len, List.length_map]); omega) (by (try simp only [List.length_append, List.length_cons, List.length_nil, List.nil_append, List.length_map, treeB_len, List.length_map]); omega) ?_; clear HF HS HS2 a; intro ao17 cp18 w29 a HF HS2; replace HS2 := Bx.mk HS2
 replace HS2 : Bx (St w0 ([rowA encS 1 9 (.slice ao16 3 cp16) (treeB n.fTree), rowA encS 1 9 (.slice (some ⟨b15, 0, none⟩) 1 1) ([(⟨#[101, 110, 100]⟩ : ByteArray)]), rowA encS 1 9 (.slice ao17 ((([n.fKind, n.fLinks, n.fSize]).map numB).length + (treeB n.fTree).length) cp18) ((([n.fKind, n.fLinks, n.fSize]).map numB) ++ (treeB n.fTree)), rowA encI 1 3 (.slice (some ⟨b2, 0, none⟩) 3 3) ([n.fKind, n.fLinks, n.fSize]), boxA b1 10 53 (nV n)]) _) := ⟨HS2.out⟩
 have HS:=Bx.mk (((((HS2.out.erase 3).erase 2).erase 1).erase 0));refine ⟨HS.out,?_⟩
 refine wh_one 13 (by kernel_rfl) ?_
 refine wo_appL rfl rfl HF rfl rfl rfl (HF.ev rfl) (HF.ev rfl) elemS encS_len HS2.out 2 (xs := (([n.fKind, n.fLinks, n.fSize]).map numB) ++ (treeB n.fTree)) rfl (ys := [(⟨#[101, 110, 100]⟩ : ByteArray)]) (St.rdN HS2.out encS_len 1 rfl) (cells_one_S _) (by unfold maxLen; (try simp only [List.length_append, List.length_cons, List.length_nil, List.nil_append, List.length_map, treeB_len, List.length_map]); omega) (by (try simp only [List.length_append, List.length_cons, List.length_nil, List.nil_append, List.length_map, treeB_len, List.length_map]); omega) ?_; clear HF HS HS2 a; intro ao19 cp20 w31 a HF HS2; replace HS2 := Bx.mk HS2
 replace HS2 : Bx (St w0 ([rowA encS 1 9 (.slice ao16 3 cp16) (treeB n.fTree), rowA encS 1 9 (.slice (some ⟨b15, 0, none⟩) 1 1) ([(⟨#[101, 110, 100]⟩ : ByteArray)]), rowA encS 1 9 (.slice ao19 (((([n.fKind, n.fLinks, n.fSize]).map numB) ++ (treeB n.fTree)).length + ([(⟨#[101, 110, 100]⟩ : ByteArray)]).length) cp20) (((([n.fKind, n.fLinks, n.fSize]).map numB) ++ (treeB n.fTree)) ++ ([(⟨#[101, 110, 100]⟩ : ByteArray)])), rowA encI 1 3 (.slice (some ⟨b2, 0, none⟩) 3 3) ([n.fKind, n.fLinks, n.fSize]), boxA b1 10 53 (nV n)]) _) := ⟨HS2.out⟩
 have HS:=Bx.mk (((((HS2.out.erase 3).erase 2).erase 1).erase 0));refine ⟨HS.out,?_⟩
 refine wh_one 14 (by kernel_rfl) ?_
 refine yoB (fieldsPutI_any _ _ _ (nodeL n) _ (HT.out.below HS2.out.bel) (by rw [nodeL_len]; omega) (szs_nodeL n) (St.rdN HS2.out encS_len 2 rfl)) HF Tryz.func72 ?_
 intro w32 hb; replace HS := Bx.mk (HS.out.later hb); replace HS2 := Bx.mk (HS2.out.later hb);clear hb HF a;intro a HF; refine ⟨HS.out, ?_⟩
 revert a;refine xh 15 HS.out rfl rfl rfl<|xh 16 HS.out rfl rfl rfl<|xh 17 HS.out rfl rfl rfl<|xh 18 HS.out rfl rfl rfl<|xh 19 HS.out rfl rfl rfl ?_
 intro a HF
 refine wh_done (by kernel_rfl) ?_
 replace HS := HS2; clear HS2
 replace HS:=Bx.mk (((((HS.out.pick 4 rfl).pick 4 rfl).pick 4 rfl).pick 3 rfl).pick 4 rfl)
 exact on_mk ⟨_, _, _, _, _, _, HF.less _ ⟨rfl, rfl, rfl, rfl, rfl, rfl, rfl, trivial⟩, HS.out⟩
 refine wo_buildS (enc := encS) (e := 9) (size := 1) rfl rfl HF rfl rfl rfl (ps := [(0, .string (⟨#[101, 110, 100]⟩ : ByteArray))]) rfl (cells := [.string (⟨#[101, 110, 100]⟩ : ByteArray)]) (by kernel_rfl) [(⟨#[101, 110, 100]⟩ : ByteArray)] rfl rfl (by unfold maxLen; omega) rfl HS2.out HS.out ?_; clear HF HS HS2 a; intro b21 a w34 HF HS2 HS; replace HS := Bx.mk HS; replace HS2 := Bx.mk HS2; refine ⟨HS.out, ?_⟩
 refine wh_one 7 (by kernel_rfl) ?_
 refine yo (numbers_any _ _ _ ([n.fKind, n.fLinks, n.fSize]) _ (HT.out.below HS2.out.bel) (by simp) (St.rdN HS2.out encI_len 1 rfl)) HF Tryz.func73 ?_
 rintro _ w36 ⟨ao22, cp22, rfl, hs⟩
 refine ⟨_, rfl, ?_⟩
 replace HS := Bx.mk (HS.out.later hs.bel); replace HS2 := Bx.mk (HS2.out.add hs);clear hs HF a;intro a HF
 replace HS2 : Bx (St w0 ([rowA encS 1 9 (.slice ao22 (([n.fKind, n.fLinks, n.fSize]).length) cp22) (([n.fKind, n.fLinks, n.fSize]).map numB), rowA encS 1 9 (.slice (some ⟨b21, 0, none⟩) 1 1) ([(⟨#[101, 110, 100]⟩ : ByteArray)]), rowA encI 1 3 (.slice (some ⟨b2, 0, none⟩) 3 3) ([n.fKind, n.fLinks, n.fSize]), boxA b1 10 53 (nV n)]) _) := ⟨HS2.out⟩
 refine ⟨HS.out, ?_⟩
 refine wh_one 10 (by kernel_rfl) ?_
 refine yo (treeFields_any n.fTree _ (HT.out.below HS2.out.bel)) HF Tryz.func74 ?_
 rintro _ w38 ⟨ao23, cp23, rfl, hs⟩
 refine ⟨_, rfl, ?_⟩
 replace HS := Bx.mk (HS.out.later hs.bel); replace HS2 := Bx.mk (HS2.out.add hs);clear hs HF a;intro a HF
 replace HS2 : Bx (St w0 ([rowA encS 1 9 (.slice ao23 3 cp23) (treeB n.fTree), rowA encS 1 9 (.slice ao22 (([n.fKind, n.fLinks, n.fSize]).length) cp22) (([n.fKind, n.fLinks, n.fSize]).map numB), rowA encS 1 9 (.slice (some ⟨b21, 0, none⟩) 1 1) ([(⟨#[101, 110, 100]⟩ : ByteArray)]), rowA encI 1 3 (.slice (some ⟨b2, 0, none⟩) 3 3) ([n.fKind, n.fLinks, n.fSize]), boxA b1 10 53 (nV n)]) _) := ⟨HS2.out⟩
 refine ⟨HS.out, ?_⟩
 refine wh_one 11 (by kernel_rfl) ?_
 refine wo_appL rfl rfl HF rfl rfl rfl (HF.ev rfl) (HF.ev rfl) elemS encS_len HS2.out 1 (xs := ([n.fKind, n.fLinks, n.fSize]).map numB) rfl (ys := treeB n.fTree) (St.rdN HS2.out encS_len 0 rfl) (cells_one_S _) (by unfold maxLen; (try simp only [List.length_append, List.length_cons, List.length_nil, List.nil_append, List.length_map, treeB_len, List.length_map]); omega) (by (try simp only [List.length_append, List.length_cons, List.length_nil, List.nil_append, List.length_map, treeB_len, List.length_map]); omega) ?_; clear HF HS HS2 a; intro ao24 cp25 w40 a HF HS2; replace HS2 := Bx.mk HS2
 replace HS2 : Bx (St w0 ([rowA encS 1 9 (.slice ao23 3 cp23) (treeB n.fTree), rowA encS 1 9 (.slice ao24 ((([n.fKind, n.fLinks, n.fSize]).map numB).length + (treeB n.fTree).length) cp25) ((([n.fKind, n.fLinks, n.fSize]).map numB) ++ (treeB n.fTree)), rowA encS 1 9 (.slice (some ⟨b21, 0, none⟩) 1 1) ([(⟨#[101, 110, 100]⟩ : ByteArray)]), rowA encI 1 3 (.slice (some ⟨b2, 0, none⟩) 3 3) ([n.fKind, n.fLinks, n.fSize]), boxA b1 10 53 (nV n)]) _) := ⟨HS2.out⟩
 have HS:=Bx.mk (((((HS2.out.erase 3).erase 2).erase 1).erase 0));refine ⟨HS.out,?_⟩
 refine wh_one 13 (by kernel_rfl) ?_
 refine wo_appL rfl rfl HF rfl rfl rfl (HF.ev rfl) (HF.ev rfl) elemS encS_len HS2.out 1 (xs := (([n.fKind, n.fLinks, n.fSize]).map numB) ++ (treeB n.fTree)) rfl (ys := [(⟨#[101, 110, 100]⟩ : ByteArray)]) (St.rdN HS2.out encS_len 2 rfl) (cells_one_S _) (by unfold maxLen; (try simp only [List.length_append, List.length_cons, List.length_nil, List.nil_append, List.length_map, treeB_len, List.length_map]); omega) (by (try simp only [List.length_append, List.length_cons, List.length_nil, List.nil_append, List.length_map, treeB_len, List.length_map]); omega) ?_; clear HF HS HS2 a; intro ao26 cp27 w42 a HF HS2; replace HS2 := Bx.mk HS2
 replace HS2 : Bx (St w0 ([rowA encS 1 9 (.slice ao23 3 cp23) (treeB n.fTree), rowA encS 1 9 (.slice ao26 (((([n.fKind, n.fLinks, n.fSize]).map numB) ++ (treeB n.fTree)).length + ([(⟨#[101, 110, 100]⟩ : ByteArray)]).length) cp27) (((([n.fKind, n.fLinks, n.fSize]).map numB) ++ (treeB n.fTree)) ++ ([(⟨#[101, 110, 100]⟩ : ByteArray)])), rowA encS 1 9 (.slice (some ⟨b21, 0, none⟩) 1 1) ([(⟨#[101, 110, 100]⟩ : ByteArray)]), rowA encI 1 3 (.slice (some ⟨b2, 0, none⟩) 3 3) ([n.fKind, n.fLinks, n.fSize]), boxA b1 10 53 (nV n)]) _) := ⟨HS2.out⟩
 have HS:=Bx.mk (((((HS2.out.erase 3).erase 2).erase 1).erase 0));refine ⟨HS.out,?_⟩
 refine wh_one 14 (by kernel_rfl) ?_
 refine yoB (fieldsPutI_any _ _ _ (nodeL n) _ (HT.out.below HS2.out.bel) (by rw [nodeL_len]; omega) (szs_nodeL n) (St.rdN HS2.out encS_len 1 rfl)) HF Tryz.func72 ?_
 intro w43 hb; replace HS := Bx.mk (HS.out.later hb); replace HS2 := Bx.mk (HS2.out.later hb);clear hb HF a;intro a HF; refine ⟨HS.out, ?_⟩
 revert a;refine xh 15 HS.out rfl rfl rfl<|xh 16 HS.out rfl rfl rfl<|xh 17 HS.out rfl rfl rfl<|xh 18 HS.out rfl rfl rfl<|xh 19 HS.out rfl rfl rfl ?_
 intro a HF
 refine wh_done (by kernel_rfl) ?_
 replace HS := HS2; clear HS2
 replace HS:=Bx.mk (((((HS.out.pick 4 rfl).pick 4 rfl).pick 3 rfl).pick 3 rfl).pick 4 rfl)
 exact on_mk ⟨_, _, _, _, _, _, HF.less _ ⟨rfl, rfl, rfl, rfl, rfl, rfl, rfl, trivial⟩, HS.out⟩
 refine wo_buildS (enc := encS) (e := 9) (size := 1) rfl rfl HF rfl rfl rfl (ps := [(0, .string (⟨#[101, 110, 100]⟩ : ByteArray))]) rfl (cells := [.string (⟨#[101, 110, 100]⟩ : ByteArray)]) (by kernel_rfl) [(⟨#[101, 110, 100]⟩ : ByteArray)] rfl rfl (by unfold maxLen; omega) rfl HS2.out HS.out ?_; clear HF HS HS2 a; intro b28 a w45 HF HS2 HS; replace HS := Bx.mk HS; replace HS2 := Bx.mk HS2; refine ⟨HS.out, ?_⟩
 refine wh_one 6 (by kernel_rfl) ?_
 refine wo_buildS (enc := encI) (e := 3) (size := 1) rfl rfl HF rfl rfl rfl (ps := [(0, .int .i64 n.fKind), (1, .int .i64 n.fLinks), (2, .int .i64 n.fSize)]) rfl (cells := [.int .i64 n.fKind, .int .i64 n.fLinks, .int .i64 n.fSize]) (by kernel_rfl) [n.fKind, n.fLinks, n.fSize] rfl rfl (by unfold maxLen; omega) rfl HS2.out HS.out ?_; clear HF HS HS2 a; intro b29 a w47 HF HS2 HS; replace HS := Bx.mk HS; replace HS2 := Bx.mk HS2; refine ⟨HS.out, ?_⟩
 refine wh_one 7 (by kernel_rfl) ?_
 refine yo (numbers_any _ _ _ ([n.fKind, n.fLinks, n.fSize]) _ (HT.out.below HS2.out.bel) (by simp) (St.rdN HS2.out encI_len 0 rfl)) HF Tryz.func73 ?_
 rintro _ w49 ⟨ao30, cp30, rfl, hs⟩
 refine ⟨_, rfl, ?_⟩
 replace HS := Bx.mk (HS.out.later hs.bel); replace HS2 := Bx.mk (HS2.out.add hs);clear hs HF a;intro a HF
 replace HS2 : Bx (St w0 ([rowA encS 1 9 (.slice ao30 (([n.fKind, n.fLinks, n.fSize]).length) cp30) (([n.fKind, n.fLinks, n.fSize]).map numB), rowA encI 1 3 (.slice (some ⟨b29, 0, none⟩) 3 3) ([n.fKind, n.fLinks, n.fSize]), rowA encS 1 9 (.slice (some ⟨b28, 0, none⟩) 1 1) ([(⟨#[101, 110, 100]⟩ : ByteArray)]), boxA b1 10 53 (nV n)]) _) := ⟨HS2.out⟩
 refine ⟨HS.out, ?_⟩
 refine wh_one 10 (by kernel_rfl) ?_
 refine yo (treeFields_any n.fTree _ (HT.out.below HS2.out.bel)) HF Tryz.func74 ?_
 rintro _ w51 ⟨ao31, cp31, rfl, hs⟩
 refine ⟨_, rfl, ?_⟩
 replace HS := Bx.mk (HS.out.later hs.bel); replace HS2 := Bx.mk (HS2.out.add hs);clear hs HF a;intro a HF
 replace HS2 : Bx (St w0 ([rowA encS 1 9 (.slice ao31 3 cp31) (treeB n.fTree), rowA encS 1 9 (.slice ao30 (([n.fKind, n.fLinks, n.fSize]).length) cp30) (([n.fKind, n.fLinks, n.fSize]).map numB), rowA encI 1 3 (.slice (some ⟨b29, 0, none⟩) 3 3) ([n.fKind, n.fLinks, n.fSize]), rowA encS 1 9 (.slice (some ⟨b28, 0, none⟩) 1 1) ([(⟨#[101, 110, 100]⟩ : ByteArray)]), boxA b1 10 53 (nV n)]) _) := ⟨HS2.out⟩
 refine ⟨HS.out, ?_⟩
 refine wh_one 11 (by kernel_rfl) ?_
 refine wo_appL rfl rfl HF rfl rfl rfl (HF.ev rfl) (HF.ev rfl) elemS encS_len HS2.out 1 (xs := ([n.fKind, n.fLinks, n.fSize]).map numB) rfl (ys := treeB n.fTree) (St.rdN HS2.out encS_len 0 rfl) (cells_one_S _) (by unfold maxLen; (try simp only [List.length_append, List.length_cons, List.length_nil, List.nil_append, List.length_map, treeB_len, List.length_map]); omega) (by (try simp only [List.length_append, List.length_cons, List.length_nil, List.nil_append, List.length_map, treeB_len, List.length_map]); omega) ?_; clear HF HS HS2 a; intro ao32 cp33 w53 a HF HS2; replace HS2 := Bx.mk HS2
 replace HS2 : Bx (St w0 ([rowA encS 1 9 (.slice ao31 3 cp31) (treeB n.fTree), rowA encS 1 9 (.slice ao32 ((([n.fKind, n.fLinks, n.fSize]).map numB).length + (treeB n.fTree).length) cp33) ((([n.fKind, n.fLinks, n.fSize]).map numB) ++ (treeB n.fTree)), rowA encI 1 3 (.slice (some ⟨b29, 0, none⟩) 3 3) ([n.fKind, n.fLinks, n.fSize]), rowA encS 1 9 (.slice (some ⟨b28, 0, none⟩) 1 1) ([(⟨#[101, 110, 100]⟩ : ByteArray)]), boxA b1 10 53 (nV n)]) _) := ⟨HS2.out⟩
 have HS:=Bx.mk (((((HS2.out.erase 3).erase 2).erase 1).erase 0));refine ⟨HS.out,?_⟩
 refine wh_one 13 (by kernel_rfl) ?_
 refine wo_appL rfl rfl HF rfl rfl rfl (HF.ev rfl) (HF.ev rfl) elemS encS_len HS2.out 1 (xs := (([n.fKind, n.fLinks, n.fSize]).map numB) ++ (treeB n.fTree)) rfl (ys := [(⟨#[101, 110, 100]⟩ : ByteArray)]) (St.rdN HS2.out encS_len 3 rfl) (cells_one_S _) (by unfold maxLen; (try simp only [List.length_append, List.length_cons, List.length_nil, List.nil_append, List.length_map, treeB_len, List.length_map]); omega) (by (try simp only [List.length_append, List.length_cons, List.length_nil, List.nil_append, List.length_map, treeB_len, List.length_map]); omega) ?_; clear HF HS HS2 a; intro ao34 cp35 w55 a HF HS2; replace HS2 := Bx.mk HS2
 replace HS2 : Bx (St w0 ([rowA encS 1 9 (.slice ao31 3 cp31) (treeB n.fTree), rowA encS 1 9 (.slice ao34 (((([n.fKind, n.fLinks, n.fSize]).map numB) ++ (treeB n.fTree)).length + ([(⟨#[101, 110, 100]⟩ : ByteArray)]).length) cp35) (((([n.fKind, n.fLinks, n.fSize]).map numB) ++ (treeB n.fTree)) ++ ([(⟨#[101, 110, 100]⟩ : ByteArray)])), rowA encI 1 3 (.slice (some ⟨b29, 0, none⟩) 3 3) ([n.fKind, n.fLinks, n.fSize]), rowA encS 1 9 (.slice (some ⟨b28, 0, none⟩) 1 1) ([(⟨#[101, 110, 100]⟩ : ByteArray)]), boxA b1 10 53 (nV n)]) _) := ⟨HS2.out⟩
 have HS:=Bx.mk (((((HS2.out.erase 3).erase 2).erase 1).erase 0));refine ⟨HS.out,?_⟩
 refine wh_one 14 (by kernel_rfl) ?_
 refine yoB (fieldsPutI_any _ _ _ (nodeL n) _ (HT.out.below HS2.out.bel) (by rw [nodeL_len]; omega) (szs_nodeL n) (St.rdN HS2.out encS_len 1 rfl)) HF Tryz.func72 ?_
 intro w56 hb; replace HS := Bx.mk (HS.out.later hb); replace HS2 := Bx.mk (HS2.out.later hb);clear hb HF a;intro a HF; refine ⟨HS.out, ?_⟩
 revert a;refine xh 15 HS.out rfl rfl rfl<|xh 16 HS.out rfl rfl rfl<|xh 17 HS.out rfl rfl rfl<|xh 18 HS.out rfl rfl rfl<|xh 19 HS.out rfl rfl rfl ?_
 intro a HF
 refine wh_done (by kernel_rfl) ?_
 replace HS := HS2; clear HS2
 replace HS:=Bx.mk (((((HS.out.pick 4 rfl).pick 3 rfl).pick 3 rfl).pick 3 rfl).pick 4 rfl)
 exact on_mk ⟨_, _, _, _, _, _, HF.less _ ⟨rfl, rfl, rfl, rfl, rfl, rfl, rfl, trivial⟩, HS.out⟩
 clear HF HS a; rintro a w57 ⟨b7, ao4, cp4, ao8, cp9, b2, HF, HS⟩; replace HS := Bx.mk HS
 revert a;refine xet<|xsr<|xr 2 rfl<|xne<|xre<|xb1 Tryz.results46 rfl ?_
 have hok : n.ok = true := by simpa using cc1
 exact ⟨by rw [nodeB_yes hok] <;> rfl, HS.out.bel⟩
theorem specNodePut_any (n : NodeD) (w0 : World) : Calls Tryz.prog 52 #[nV n] w0 fun e w' => e = .returned (.string (nodeB n)) ∧ Below w0.heap.size w0 w' := by
 have HS := Bx.mk (St.start w0)
 refine wc_enter Tryz.func52 rfl Tryz.ntmps52 [(0, nV n)] ⟨rfl, trivial⟩ rfl ?_
 refine xsr ?_
 intro a HF
 refine ybx HF HS ?_;clear HF HS a;intro a w1 b1 HF HS
 revert a;refine xr 1 rfl<|xne<|xsq<|xsr<|xy rfl (vw HS.out 0 10 rfl rfl) ?_
 intro a HF
 refine ycB (specNodeOk_any n _) HF Tryz.func38 HS ?_; clear HF HS a; intro w2 a HS HF
 revert a;refine xr 1 rfl<|xne<|xcs 7 rfl (fun cc1=>?_) fun cc1=>?_
 refine xct rfl<|xsr<|xr 1 rfl<|xne<|xre<|xtr<|xb1 Tryz.results52 rfl ?_
 exact ⟨by rw [nodeB_no (by simpa using cc1)]; rfl, HS.out.bel⟩
 refine xcf rfl<|xsk<|xet<|xsq ?_
 have hok : n.ok = true := by simpa using cc1
 have hsm := (NodeD.ok_is hok).small; have k1 := hsm.links; have k2 := hsm.size; have k3 := hsm.many; have k4 := hsm.depth; have k5 := hsm.kind; have hel := eachN_le n.fKind
 have hz_fKind : (decB n.fKind.toNat).size ≤ 9 := decB_9 (by omega)
 have hz_fLinks : (decB n.fLinks.toNat).size ≤ 9 := decB_9 (by omega)
 have hz_fSize : (decB n.fSize.toNat).size ≤ 9 := decB_9 (by omega)
 have hz_fTree_fDepth : (decB n.fTree.fDepth.toNat).size ≤ 9 := decB_9 (by omega)
 have hz_fTree_fMany : (decB n.fTree.fMany.toNat).size ≤ 9 := decB_9 (by omega)
 intro a HF
 refine wr_heldS (s := [boxA b1 10 53 (nV n)]) (by kernel_rfl) (St.drew (HS.out)) ?_
 have HS2 := Bx.mk HS.out.drew; replace HS := Bx.mk (show St w0 ([boxA b1 10 53 (nV n)]) _ from HS.out.drew)
 generalize World.drew _ = w3 at HS HS2 ⊢
 revert a;refine xhy 0 HS.out rfl rfl (fun HS=>vf 0 rfl)<|xhy 1 HS.out rfl rfl (fun HS=>vc HS 0 rfl rfl)<|xhy 3 HS.out rfl rfl (fun HS=>vf 1 rfl)<|xhy 4 HS.out rfl rfl (fun HS=>vc HS 0 rfl rfl)<|xhy 6 HS.out rfl rfl (fun HS=>vf 2 rfl)<|xhy 7 HS.out rfl rfl (fun HS=>vc HS 0 rfl rfl)<|xhy 9 HS.out rfl rfl (fun HS=>vf 3 rfl)<|xhy 10 HS.out rfl rfl (fun HS=>vf 0 rfl)<|xhy 11 HS.out rfl rfl (fun HS=>vw HS 0 5 rfl rfl)<|xhy 13 HS.out rfl rfl (fun HS=>vf 3 rfl)<|xhy 14 HS.out rfl rfl (fun HS=>vf 5 rfl)<|xhy 15 HS.out rfl rfl (fun HS=>vc HS 0 rfl rfl)<|xhy 17 HS.out rfl rfl (fun HS=>vf 3 rfl)<|xhy 18 HS.out rfl rfl (fun HS=>vf 6 rfl)<|xhy 19 HS.out rfl rfl (fun HS=>vc HS 0 rfl rfl) ?_
 intro a HF
 refine wh_one 2 (by kernel_rfl) ?_
 refine yoB (l6DecI_any n.fKind (by omega) (by omega) _) HF Tryz.func81 ?_
 intro w4 hb; replace HS := Bx.mk (HS.out.later hb); replace HS2 := Bx.mk (HS2.out.later hb);clear hb HF a;intro a HF; refine ⟨HS.out, ?_⟩
 refine wh_one 5 (by kernel_rfl) ?_
 refine yoB (l6DecI_any n.fLinks (by omega) (by omega) _) HF Tryz.func81 ?_
 intro w5 hb; replace HS := Bx.mk (HS.out.later hb); replace HS2 := Bx.mk (HS2.out.later hb);clear hb HF a;intro a HF; refine ⟨HS.out, ?_⟩
 refine wh_one 8 (by kernel_rfl) ?_
 refine yoB (l6DecI_any n.fSize (by omega) (by omega) _) HF Tryz.func81 ?_
 intro w6 hb; replace HS := Bx.mk (HS.out.later hb); replace HS2 := Bx.mk (HS2.out.later hb);clear hb HF a;intro a HF; refine ⟨HS.out, ?_⟩
 refine wh_one 12 (by kernel_rfl) ?_
 refine yoB (ptrPutS_any n.fTree.fRoot _) HF Tryz.func82 ?_
 intro w7 hb; replace HS := Bx.mk (HS.out.later hb); replace HS2 := Bx.mk (HS2.out.later hb);clear hb HF a;intro a HF; refine ⟨HS.out, ?_⟩
 refine wh_one 16 (by kernel_rfl) ?_
 refine yoB (l6DecI_any n.fTree.fDepth (by omega) (by omega) _) HF Tryz.func81 ?_
 intro w8 hb; replace HS := Bx.mk (HS.out.later hb); replace HS2 := Bx.mk (HS2.out.later hb);clear hb HF a;intro a HF; refine ⟨HS.out, ?_⟩
 refine wh_one 20 (by kernel_rfl) ?_
 refine yoB (l6DecI_any n.fTree.fMany (by omega) (by omega) _) HF Tryz.func81 ?_
 intro w9 hb; replace HS := Bx.mk (HS.out.later hb); replace HS2 := Bx.mk (HS2.out.later hb);clear hb HF a;intro a HF; refine ⟨HS.out, ?_⟩
 refine wh_one 21 (by kernel_rfl) ?_
 refine wo_buildS (enc := encS) (e := 9) (size := 1) rfl rfl HF rfl rfl rfl (ps := [(0, .string (decB n.fKind.toNat)), (1, .string (decB n.fLinks.toNat)), (2, .string (decB n.fSize.toNat)), (3, .string (ptrB n.fTree.fRoot)), (4, .string (decB n.fTree.fDepth.toNat)), (5, .string (decB n.fTree.fMany.toNat)), (6, .string (⟨#[101, 110, 100]⟩ : ByteArray))]) rfl (cells := [.string (decB n.fKind.toNat), .string (decB n.fLinks.toNat), .string (decB n.fSize.toNat), .string (ptrB n.fTree.fRoot), .string (decB n.fTree.fDepth.toNat), .string (decB n.fTree.fMany.toNat), .string (⟨#[101, 110, 100]⟩ : ByteArray)]) (by kernel_rfl) [decB n.fKind.toNat, decB n.fLinks.toNat, decB n.fSize.toNat, ptrB n.fTree.fRoot, decB n.fTree.fDepth.toNat, decB n.fTree.fMany.toNat, (⟨#[101, 110, 100]⟩ : ByteArray)] rfl rfl (by unfold maxLen; omega) rfl HS2.out HS.out ?_; clear HF HS HS2 a; intro b2 a w11 HF HS2 HS; replace HS := Bx.mk HS; replace HS2 := Bx.mk HS2; refine ⟨HS.out, ?_⟩
 refine wh_one 22 (by kernel_rfl) ?_
 refine yoB (fieldsPutS_any _ _ _ ([decB n.fKind.toNat, decB n.fLinks.toNat, decB n.fSize.toNat, ptrB n.fTree.fRoot, decB n.fTree.fDepth.toNat, decB n.fTree.fMany.toNat, (⟨#[101, 110, 100]⟩ : ByteArray)]) _ (by (try simp only [List.length_append, List.length_cons, List.length_nil, List.nil_append, List.length_map]); omega) (szs_cons (by omega) (szs_cons (by omega) (szs_cons (by omega) (szs_cons (Nat.le_trans (ptrB_le _) (by decide)) (szs_cons (by omega) (szs_cons (by omega) (szs_cons (by decide) szs_nil))))))) (St.rdN HS2.out encS_len 0 rfl)) HF Tryz.func80 ?_
 intro w12 hb; replace HS := Bx.mk (HS.out.later hb); replace HS2 := Bx.mk (HS2.out.later hb);clear hb HF a;intro a HF; refine ⟨HS.out, ?_⟩
 revert a;refine xh 23 HS.out rfl rfl rfl<|xh 24 HS.out rfl rfl rfl<|xh 25 HS.out rfl rfl rfl<|xh 26 HS.out rfl rfl rfl<|xh 27 HS.out rfl rfl rfl ?_
 intro a HF
 refine wh_done (by kernel_rfl) ?_
 replace HS := HS2; clear HS2
 revert a;refine xet<|xsr<|xr 2 rfl<|xne<|xre<|xb1 Tryz.results52 rfl ?_
 have hok : n.ok = true := by simpa using cc1
 have hsm := (NodeD.ok_is hok).small; have k1 := hsm.links; have k2 := hsm.size; have k3 := hsm.many; have k4 := hsm.depth; have k5 := hsm.kind; have hel := eachN_le n.fKind
 have hL : nodeL n = [decB n.fKind.toNat, decB n.fLinks.toNat, decB n.fSize.toNat, ptrB n.fTree.fRoot, decB n.fTree.fDepth.toNat, decB n.fTree.fMany.toNat, endB] := by unfold nodeL; rw [numB_in (n := n.fKind) (by omega) (by omega), numB_in (n := n.fLinks) (by omega) (by omega), numB_in (n := n.fSize) (by omega) (by omega), numB_in (n := n.fTree.fDepth) (by omega) (by omega), numB_in (n := n.fTree.fMany) (by omega) (by omega)]
 exact ⟨by rw [nodeB_yes hok, hL] <;> rfl, HS.out.bel⟩
theorem lenS7 {α : Type} {l : List α} (h : l.length = 7) : ∃ a b c d e f g, l = [a, b, c, d, e, f, g] := by
  match l, h with
  | [a, b, c, d, e, f, g], _ => exact ⟨a, b, c, d, e, f, g, rfl⟩
theorem node_tree {n : NodeD} (h : n.ok = true) : IsTree (ptrB n.fTree.fRoot) (numB n.fTree.fDepth) (numB n.fTree.fMany) n.fTree := by
  have a := NodeD.ok_is h
  have s := a.small
  have k3 := s.many; have k4 := s.depth
  exact ⟨a.root, rfl, ⟨by omega, by omega, rfl⟩, ⟨by omega, by omega, rfl⟩⟩
theorem implNodeGet_any (s : ByteArray) (w0 : World) (hT : TabP w0) (hM : MaxP w0) (hE : ErrP w0) (hs : s.size ≤ 1000000) : Calls Tryz.prog 123 #[.string s] w0 fun e w' => (∃ n : NodeD, n.ok = true ∧ nodeB n = s ∧ e = .returned (.tuple #[nV n, .bool true]) ∧ Below w0.heap.size w0 w') ∨ ((∀ n : NodeD, n.ok = true → nodeB n = s → False) ∧ e = .returned (.tuple #[az10, .bool false]) ∧ Below w0.heap.size w0 w') := by
 have HT := Bx.mk hT; have HM := Bx.mk hM; have HE := Bx.mk hE; clear hT hM hE
 have HS := Bx.mk (St.start w0)
 refine wc_enter Tryz.func123 rfl Tryz.ntmps123 [(0, .string s)] ⟨rfl, trivial⟩ rfl ?_
 refine xsr ?_
 intro a HF
 refine yal z10 HF HS ?_;clear HF HS a;intro a w1 b1 HF HS
 revert a;refine xr 1 rfl<|xne<|xsr<|xr 1 rfl ?_
 intro a HF
 refine yc (fieldsGet_any s _ (HT.out.below HS.out.bel) (HM.out.below HS.out.bel) (HE.out.below HS.out.bel) (by omega)) HF Tryz.func146 ?_
 rintro _ w2 (⟨xs, hrec, hsz, ao, cp, rfl, hs1⟩ | ⟨hno, rfl, hb⟩)
 refine ⟨_, rfl, ?_⟩; replace HS := Bx.mk (HS.out.add hs1);clear hs1 HF a;intro a HF
 try dsimp only [List.eraseIdx] at HS
 revert a;refine xr 5 rfl<|xne<|xsq<|xsr<|xr 4 rfl<|xy rfl (vn 9 1 rfl)<|xr 2 rfl<|xne<|xcs 20 rfl (fun cc1=>?_) fun cc1=>?_
 have dcc1 := bne_iff_ne.1 cc1
 refine xct rfl<|xsr<|xy rfl (vb z10 rfl) ?_
 intro a HF
 refine yst HF HS 1 ?_;clear HS;intro w3 HS
 try dsimp only [List.set] at HS
 revert a;refine xr 1 rfl<|xne<|xre<|xtr ?_
 intro a HF
 refine bp_ret2 HF Tryz.results123 (HF.resBox rfl (HS.out.box 1 rfl) (by kernel_rfl)) (HF.res rfl) ?_
 refine .inr ⟨fun x hx hxs => ?_, rfl, HS.out.bel⟩
 have hl6 := node_rec hx; rw [hxs] at hl6; have hx2 := nodeB_size x; rw [hxs] at hx2; have hsm := (node_five hx).1; have k1 := hsm.links; have k2 := hsm.size; have k3 := hsm.many; have k4 := hsm.depth; have k5 := hsm.kind; have hel := eachN_le x.fKind
 have hone := hrec.one hl6
 rw [hone] at dcc1; exact dcc1 rfl
 have dcc1 := bne_eq_false_iff_eq.1 cc1
 refine xcf rfl<|xsk<|xet<|xsq ?_
 obtain ⟨y0, y1, y2, y3, y4, y5, y6, rfl⟩ := lenS7 (l := xs) (by omega)
 intro a HF
 replace HF : Fr 63 a [(0, .string s), (2, .pointer (some ⟨b1, 0, none⟩)), (3, .bool false), (10, .string s), (12, .slice ao 7 cp), (13, .bool true), (4, .slice ao 7 cp), (5, .bool true), (14, .bool true), (15, .bool false), (16, .bool false), (17, .slice ao 7 cp), (20, .bool false)] := HF.less _ ⟨rfl, rfl, rfl, rfl, rfl, rfl, rfl, rfl, rfl, rfl, rfl, rfl, rfl, trivial⟩
 try dsimp only [List.eraseIdx] at HS
 obtain ⟨g2, rfl, _, _, _, _⟩ := HS.out.rowOpen 0 rfl (Nat.succ_pos _)
 have hcap := HS.out.capLe 0 rfl
 have hy0 : y0.size ≤ 2048 := by have := recB_elem [y0, y1, y2, y3, y4, y5, y6] (k := 0) (by simp only [List.length_cons, List.length_nil]; omega); rw [hrec.is] at this; have e : ([y0, y1, y2, y3, y4, y5, y6] : List ByteArray).getD 0 ByteArray.empty = y0 := rfl; rw [e] at this; omega
 have hy1 : y1.size ≤ 2048 := by have := recB_elem [y0, y1, y2, y3, y4, y5, y6] (k := 1) (by simp only [List.length_cons, List.length_nil]; omega); rw [hrec.is] at this; have e : ([y0, y1, y2, y3, y4, y5, y6] : List ByteArray).getD 1 ByteArray.empty = y1 := rfl; rw [e] at this; omega
 have hy2 : y2.size ≤ 2048 := by have := recB_elem [y0, y1, y2, y3, y4, y5, y6] (k := 2) (by simp only [List.length_cons, List.length_nil]; omega); rw [hrec.is] at this; have e : ([y0, y1, y2, y3, y4, y5, y6] : List ByteArray).getD 2 ByteArray.empty = y2 := rfl; rw [e] at this; omega
 have hy3 : y3.size ≤ 2048 := by have := recB_elem [y0, y1, y2, y3, y4, y5, y6] (k := 3) (by simp only [List.length_cons, List.length_nil]; omega); rw [hrec.is] at this; have e : ([y0, y1, y2, y3, y4, y5, y6] : List ByteArray).getD 3 ByteArray.empty = y3 := rfl; rw [e] at this; omega
 have hy4 : y4.size ≤ 2048 := by have := recB_elem [y0, y1, y2, y3, y4, y5, y6] (k := 4) (by simp only [List.length_cons, List.length_nil]; omega); rw [hrec.is] at this; have e : ([y0, y1, y2, y3, y4, y5, y6] : List ByteArray).getD 4 ByteArray.empty = y4 := rfl; rw [e] at this; omega
 have hy5 : y5.size ≤ 2048 := by have := recB_elem [y0, y1, y2, y3, y4, y5, y6] (k := 5) (by simp only [List.length_cons, List.length_nil]; omega); rw [hrec.is] at this; have e : ([y0, y1, y2, y3, y4, y5, y6] : List ByteArray).getD 5 ByteArray.empty = y5 := rfl; rw [e] at this; omega
 have hy6 : y6.size ≤ 2048 := by have := recB_elem [y0, y1, y2, y3, y4, y5, y6] (k := 6) (by simp only [List.length_cons, List.length_nil]; omega); rw [hrec.is] at this; have e : ([y0, y1, y2, y3, y4, y5, y6] : List ByteArray).getD 6 ByteArray.empty = y6 := rfl; rw [e] at this; omega
 refine wp_region_lit ?_
 refine yal z10 HF HS ?_;clear HF HS a;intro a w4 b3 HF HS
 revert a;refine xne<|xsq<|xsr<|xy rfl (vf 0 rfl)<|xy rfl (vf 1 rfl)<|xy rfl (vf 2 rfl) ?_
 intro a HF
 refine ybs encA 161 1 [(some ⟨b3, 0 + 0, none⟩), (some ⟨b3, 0 + 1, none⟩), (some ⟨b3, 0 + 2, none⟩)] HF HS ?_;clear HF HS a;intro b4 a w5 HF HS
 revert a;refine xy rfl (vn 161 1 rfl)<|xr 1 rfl<|xne<|xbl ?_
 intro a HF
 refine wc_rounds 5 ?_
 revert a;refine xsr<|xr 1 rfl<|xne<|xsq ?_
 intro a HF
 replace HF := HF.know (k := 28) (c := true) rfl (by decide)
 revert a;refine xct rfl<|xsk<|xet<|xsq<|xbl<|xsr<|xr 1 rfl<|xy rfl (vx 161 0 1 rfl)<|xy rfl (ve encA_len HS.out 0 0 rfl rfl rfl rfl)<|xr 2 rfl<|xne<|xsr<|xr 3 rfl<|xy rfl (vx 9 0 1 rfl)<|xy rfl (ve encS_len HS.out 2 0 rfl rfl rfl rfl) ?_
 intro a HF
 refine yc (implNumGet_any y0 _ (HT.out.below HS.out.bel) (HE.out.below HS.out.bel)) HF Tryz.func147 ?_
 rintro _ w6 (⟨n5, hg5, rfl, hb⟩ | ⟨hg5, rfl, hb⟩)
 refine ⟨_, rfl, ?_⟩; replace HS := Bx.mk (HS.out.later hb);clear hb HF a
 refine xr 4 rfl ?_
 intro a HF
 refine wl_storeF rfl rfl rfl (HF.ev rfl) (HF.ev rfl) (by kernel_rfl) HS.out 1 rfl rfl rfl ?_; clear HS; intro w7 HS; replace HS := Bx.mk HS
 try dsimp only [List.set] at HS
 revert a;refine xr 1 rfl<|xne<|xsr<|xr 2 rfl<|xne<|xcf rfl<|xsk<|xeb<|xet<|xrl<|xy rfl (fun a HF=>yl_addI (r := 1) rfl (HF.ev rfl) (HF.ev rfl) (by decide))<|xr 1 rfl<|xne ?_
 intro a HF
 refine wc_round 4 ?_
 revert a;refine xsr<|xr 1 rfl<|xne<|xsq ?_
 intro a HF
 replace HF := HF.know (k := 28) (c := true) rfl (by decide)
 revert a;refine xct rfl<|xsk<|xet<|xsq<|xbl<|xsr<|xr 1 rfl<|xy rfl (vx 161 1 1 rfl)<|xy rfl (ve encA_len HS.out 0 1 rfl rfl rfl rfl)<|xr 2 rfl<|xne<|xsr<|xr 3 rfl<|xy rfl (vx 9 1 1 rfl)<|xy rfl (ve encS_len HS.out 2 1 rfl rfl rfl rfl) ?_
 intro a HF
 refine yc (implNumGet_any y1 _ (HT.out.below HS.out.bel) (HE.out.below HS.out.bel)) HF Tryz.func147 ?_
 rintro _ w8 (⟨n6, hg6, rfl, hb⟩ | ⟨hg6, rfl, hb⟩)
 refine ⟨_, rfl, ?_⟩; replace HS := Bx.mk (HS.out.later hb);clear hb HF a
 refine xr 4 rfl ?_
 intro a HF
 refine wl_storeF rfl rfl rfl (HF.ev rfl) (HF.ev rfl) (by kernel_rfl) HS.out 1 rfl rfl rfl ?_; clear HS; intro w9 HS; replace HS := Bx.mk HS
 try dsimp only [List.set] at HS
 revert a;refine xr 1 rfl<|xne<|xsr<|xr 2 rfl<|xne<|xcf rfl<|xsk<|xeb<|xet<|xrl<|xy rfl (fun a HF=>yl_addI (r := 2) rfl (HF.ev rfl) (HF.ev rfl) (by decide))<|xr 1 rfl<|xne ?_
 intro a HF
 refine wc_round 3 ?_
 revert a;refine xsr<|xr 1 rfl<|xne<|xsq ?_
 intro a HF
 replace HF := HF.know (k := 28) (c := true) rfl (by decide)
 revert a;refine xct rfl<|xsk<|xet<|xsq<|xbl<|xsr<|xr 1 rfl<|xy rfl (vx 161 2 1 rfl)<|xy rfl (ve encA_len HS.out 0 2 rfl rfl rfl rfl)<|xr 2 rfl<|xne<|xsr<|xr 3 rfl<|xy rfl (vx 9 2 1 rfl)<|xy rfl (ve encS_len HS.out 2 2 rfl rfl rfl rfl) ?_
 intro a HF
 refine yc (implNumGet_any y2 _ (HT.out.below HS.out.bel) (HE.out.below HS.out.bel)) HF Tryz.func147 ?_
 rintro _ w10 (⟨n7, hg7, rfl, hb⟩ | ⟨hg7, rfl, hb⟩)
 refine ⟨_, rfl, ?_⟩; replace HS := Bx.mk (HS.out.later hb);clear hb HF a
 refine xr 4 rfl ?_
 intro a HF
 refine wl_storeF rfl rfl rfl (HF.ev rfl) (HF.ev rfl) (by kernel_rfl) HS.out 1 rfl rfl rfl ?_; clear HS; intro w11 HS; replace HS := Bx.mk HS
 try dsimp only [List.set] at HS
 revert a;refine xr 1 rfl<|xne<|xsr<|xr 2 rfl<|xne<|xcf rfl<|xsk<|xeb<|xet<|xrl<|xy rfl (fun a HF=>yl_addI (r := 3) rfl (HF.ev rfl) (HF.ev rfl) (by decide))<|xr 1 rfl<|xne ?_
 intro a HF
 refine wc_round 2 ?_
 revert a;refine xsr<|xr 1 rfl<|xne<|xsq ?_
 intro a HF
 replace HF := HF.know (k := 28) (c := false) rfl (by decide)
 revert a;refine xcf rfl<|xex<|xtx<|xtx<|xbh<|xet<|xsr<|xr 1 rfl<|xy rfl (fun a HF=>yl_sliceLH (e := 9) (size := 1) (k := 3) (j := 6) rfl (HF.ev rfl) (HF.ev rfl) (HF.ev rfl) (by kernel_rfl) rfl rfl (by decide) (by omega) (by omega)) ?_
 intro a HF
 refine yc (treeOf_any _ _ y3 y4 y5 _ (HT.out.below HS.out.bel) (HM.out.below HS.out.bel) (HE.out.below HS.out.bel) (by omega) (((St.rdN HS.out encS_len 2 rfl).drop (k := 3) (by simp)).take (k := 3) (by simp))) HF Tryz.func148 ?_
 rintro _ w12 (⟨t, htr, rfl, hb⟩ | ⟨t, htn, rfl, hb⟩)
 refine ⟨_, rfl, ?_⟩; replace HS := Bx.mk (HS.out.later hb);clear hb HF a
 refine xr 3 rfl<|xy rfl (vf 3 rfl) ?_
 intro a HF
 refine wl_storeSub rfl rfl rfl (HF.ev rfl) (HF.ev rfl) HS.out 1 rfl (by kernel_rfl) rfl (by kernel_rfl) (rs := [.int .i64 (n5 : Int), .int .i64 (n6 : Int), .int .i64 (n7 : Int), .int .i64 t.fRoot.fAt, .int .i64 t.fRoot.fBirth, .int .i64 t.fRoot.fSize, .int .i64 t.fRoot.fSum, .int .i64 t.fRoot.fLevel, .int .i64 t.fDepth, .int .i64 t.fMany]) rfl ?_; clear HS; intro w13 HS; replace HS := Bx.mk HS
 try dsimp only [List.set] at HS
 revert a;refine xr 1 rfl<|xne<|xsq<|xsr<|xr 3 rfl<|xy rfl (vw HS.out 1 10 rfl rfl) ?_
 intro a HF
 refine ycBg (implNodePut_any (⟨(n5 : Int), (n6 : Int), (n7 : Int), ⟨t.fRoot, t.fDepth, t.fMany⟩⟩ : NodeD) _ (HT.out.below HS.out.bel)) HF Tryz.func46 HS ?_; clear HF HS a; intro w14 a HS HF
 revert a;refine xr 1 rfl<|xy rfl (fun a HF=>yl_neqS rfl (HF.ev rfl) (HF.ev rfl))<|xr 1 rfl<|xne<|xcs 60 rfl (fun cc2=>?_) fun cc2=>?_
 refine xct rfl<|xsr<|xy rfl (vb z10 rfl) ?_
 intro a HF
 refine yst HF HS 3 ?_;clear HS;intro w15 HS
 try dsimp only [List.set] at HS
 revert a;refine xr 1 rfl<|xne<|xre<|xtr ?_
 intro a HF
 refine bp_ret2 HF Tryz.results123 (HF.resBox rfl (HS.out.box 3 rfl) (by kernel_rfl)) (HF.res rfl) ?_
 refine .inr ⟨fun x hx hxs => ?_, rfl, HS.out.bel⟩
 have hl6 := node_rec hx; rw [hxs] at hl6; have hx2 := nodeB_size x; rw [hxs] at hx2; have hsm := (node_five hx).1; have k1 := hsm.links; have k2 := hsm.size; have k3 := hsm.many; have k4 := hsm.depth; have k5 := hsm.kind; have hel := eachN_le x.fKind
 have hone := hrec.one hl6
 simp only [nodeL, List.cons.injEq, and_true] at hone; obtain ⟨z0, z1, z2, z3, z4, z5, _⟩ := hone
 have hxt := node_tree hx; rw [← z3, ← z4, ← z5] at hxt
 have e0 : (n5 : Int) = x.fKind := num_one (num_back hg5) ⟨by omega, by omega, z0.symm⟩
 have e1 : (n6 : Int) = x.fLinks := num_one (num_back hg6) ⟨by omega, by omega, z1.symm⟩
 have e2 : (n7 : Int) = x.fSize := num_one (num_back hg7) ⟨by omega, by omega, z2.symm⟩
 have e4 := htr.one hxt; have e3 : (⟨(n5 : Int), (n6 : Int), (n7 : Int), t⟩ : NodeD) = x := by rw [e0, e1, e2, e4]
 rw [e3, hxs] at cc2; simp at cc2
 refine xcf rfl<|xsk<|xet<|xsr<|xy rfl (vw HS.out 1 10 rfl rfl) ?_
 intro a HF
 refine yst HF HS 3 ?_;clear HS;intro w16 HS
 try dsimp only [List.set] at HS
 revert a;refine xr 1 rfl<|xne<|xre ?_
 intro a HF
 refine bp_ret2 HF Tryz.results123 (HF.resBox rfl (HS.out.box 3 rfl) (by kernel_rfl)) (HF.res rfl) ?_
 have hrt : nodeB (⟨(n5 : Int), (n6 : Int), (n7 : Int), t⟩ : NodeD) = s := bytes_toList (by simpa using cc2)
 have hro : (⟨(n5 : Int), (n6 : Int), (n7 : Int), t⟩ : NodeD).ok = true := by
     cases ho : (⟨(n5 : Int), (n6 : Int), (n7 : Int), t⟩ : NodeD).ok with
     | true => rfl
     | false =>
       rw [nodeB_no ho] at hrt
       have := hrec.is
       rw [← hrt] at this
       exact absurd (by rw [this]; rfl) (recB_ne y0 [y1, y2, y3, y4, y5, y6])
 exact .inl ⟨_, hro, hrt, rfl, HS.out.bel⟩
 refine ⟨_, rfl, ?_⟩; replace HS := Bx.mk (HS.out.later hb);clear hb HF a
 refine xr 3 rfl<|xy rfl (vf 3 rfl) ?_
 intro a HF
 refine wl_storeSub rfl rfl rfl (HF.ev rfl) (HF.ev rfl) HS.out 1 rfl (by kernel_rfl) rfl (by kernel_rfl) (rs := [.int .i64 (n5 : Int), .int .i64 (n6 : Int), .int .i64 (n7 : Int), .int .i64 t.fRoot.fAt, .int .i64 t.fRoot.fBirth, .int .i64 t.fRoot.fSize, .int .i64 t.fRoot.fSum, .int .i64 t.fRoot.fLevel, .int .i64 t.fDepth, .int .i64 t.fMany]) rfl ?_; clear HS; intro w17 HS; replace HS := Bx.mk HS
 try dsimp only [List.set] at HS
 revert a;refine xr 1 rfl<|xne<|xsq<|xsr<|xr 8 rfl<|xne<|xct rfl<|xsr<|xy rfl (vb z10 rfl) ?_
 intro a HF
 refine yst HF HS 3 ?_;clear HS;intro w18 HS
 try dsimp only [List.set] at HS
 revert a;refine xr 1 rfl<|xne<|xre<|xtr ?_
 intro a HF
 refine bp_ret2 HF Tryz.results123 (HF.resBox rfl (HS.out.box 3 rfl) (by kernel_rfl)) (HF.res rfl) ?_
 refine .inr ⟨fun x hx hxs => ?_, rfl, HS.out.bel⟩
 have hl6 := node_rec hx; rw [hxs] at hl6; have hx2 := nodeB_size x; rw [hxs] at hx2; have hsm := (node_five hx).1; have k1 := hsm.links; have k2 := hsm.size; have k3 := hsm.many; have k4 := hsm.depth; have k5 := hsm.kind; have hel := eachN_le x.fKind
 have hone := hrec.one hl6
 simp only [nodeL, List.cons.injEq, and_true] at hone; obtain ⟨z0, z1, z2, z3, z4, z5, _⟩ := hone
 have hxt := node_tree hx; rw [← z3, ← z4, ← z5] at hxt
 exact htn _ hxt
 refine ⟨_, rfl, ?_⟩; replace HS := Bx.mk (HS.out.later hb);clear hb HF a
 refine xr 4 rfl ?_
 intro a HF
 refine wl_storeF rfl rfl rfl (HF.ev rfl) (HF.ev rfl) (by kernel_rfl) HS.out 1 rfl rfl rfl ?_; clear HS; intro w19 HS; replace HS := Bx.mk HS
 try dsimp only [List.set] at HS
 revert a;refine xr 1 rfl<|xne<|xsr<|xr 2 rfl<|xne<|xct rfl<|xsr<|xy rfl (vb z10 rfl) ?_
 intro a HF
 refine yst HF HS 3 ?_;clear HS;intro w20 HS
 try dsimp only [List.set] at HS
 revert a;refine xr 1 rfl<|xne<|xre<|xbr<|xtr<|xtr<|xbr<|xtr ?_
 intro a HF
 refine bp_ret2 HF Tryz.results123 (HF.resBox rfl (HS.out.box 3 rfl) (by kernel_rfl)) (HF.res rfl) ?_
 refine .inr ⟨fun x hx hxs => ?_, rfl, HS.out.bel⟩
 have hl6 := node_rec hx; rw [hxs] at hl6; have hx2 := nodeB_size x; rw [hxs] at hx2; have hsm := (node_five hx).1; have k1 := hsm.links; have k2 := hsm.size; have k3 := hsm.many; have k4 := hsm.depth; have k5 := hsm.kind; have hel := eachN_le x.fKind
 have hone := hrec.one hl6
 simp only [nodeL, List.cons.injEq, and_true] at hone; obtain ⟨z0, z1, z2, z3, z4, z5, _⟩ := hone
 exact no_num (n := x.fSize) ⟨by omega, by omega, z2.symm⟩ hg7
 refine ⟨_, rfl, ?_⟩; replace HS := Bx.mk (HS.out.later hb);clear hb HF a
 refine xr 4 rfl ?_
 intro a HF
 refine wl_storeF rfl rfl rfl (HF.ev rfl) (HF.ev rfl) (by kernel_rfl) HS.out 1 rfl rfl rfl ?_; clear HS; intro w21 HS; replace HS := Bx.mk HS
 try dsimp only [List.set] at HS
 revert a;refine xr 1 rfl<|xne<|xsr<|xr 2 rfl<|xne<|xct rfl<|xsr<|xy rfl (vb z10 rfl) ?_
 intro a HF
 refine yst HF HS 3 ?_;clear HS;intro w22 HS
 try dsimp only [List.set] at HS
 revert a;refine xr 1 rfl<|xne<|xre<|xbr<|xtr<|xtr<|xbr<|xtr ?_
 intro a HF
 refine bp_ret2 HF Tryz.results123 (HF.resBox rfl (HS.out.box 3 rfl) (by kernel_rfl)) (HF.res rfl) ?_
 refine .inr ⟨fun x hx hxs => ?_, rfl, HS.out.bel⟩
 have hl6 := node_rec hx; rw [hxs] at hl6; have hx2 := nodeB_size x; rw [hxs] at hx2; have hsm := (node_five hx).1; have k1 := hsm.links; have k2 := hsm.size; have k3 := hsm.many; have k4 := hsm.depth; have k5 := hsm.kind; have hel := eachN_le x.fKind
 have hone := hrec.one hl6
 simp only [nodeL, List.cons.injEq, and_true] at hone; obtain ⟨z0, z1, z2, z3, z4, z5, _⟩ := hone
 exact no_num (n := x.fLinks) ⟨by omega, by omega, z1.symm⟩ hg6
 refine ⟨_, rfl, ?_⟩; replace HS := Bx.mk (HS.out.later hb);clear hb HF a
 refine xr 4 rfl ?_
 intro a HF
 refine wl_storeF rfl rfl rfl (HF.ev rfl) (HF.ev rfl) (by kernel_rfl) HS.out 1 rfl rfl rfl ?_; clear HS; intro w23 HS; replace HS := Bx.mk HS
 try dsimp only [List.set] at HS
 revert a;refine xr 1 rfl<|xne<|xsr<|xr 2 rfl<|xne<|xct rfl<|xsr<|xy rfl (vb z10 rfl) ?_
 intro a HF
 refine yst HF HS 3 ?_;clear HS;intro w24 HS
 try dsimp only [List.set] at HS
 revert a;refine xr 1 rfl<|xne<|xre<|xbr<|xtr<|xtr<|xbr<|xtr ?_
 intro a HF
 refine bp_ret2 HF Tryz.results123 (HF.resBox rfl (HS.out.box 3 rfl) (by kernel_rfl)) (HF.res rfl) ?_
 refine .inr ⟨fun x hx hxs => ?_, rfl, HS.out.bel⟩
 have hl6 := node_rec hx; rw [hxs] at hl6; have hx2 := nodeB_size x; rw [hxs] at hx2; have hsm := (node_five hx).1; have k1 := hsm.links; have k2 := hsm.size; have k3 := hsm.many; have k4 := hsm.depth; have k5 := hsm.kind; have hel := eachN_le x.fKind
 have hone := hrec.one hl6
 simp only [nodeL, List.cons.injEq, and_true] at hone; obtain ⟨z0, z1, z2, z3, z4, z5, _⟩ := hone
 exact no_num (n := x.fKind) ⟨by omega, by omega, z0.symm⟩ hg5
 refine ⟨_, rfl, ?_⟩; replace HS := Bx.mk (HS.out.later hb);clear hb HF a
 refine xr 5 rfl<|xne<|xsq<|xsr<|xr 7 rfl<|xne<|xct rfl<|xsr<|xy rfl (vb z10 rfl) ?_
 intro a HF
 refine yst HF HS 0 ?_;clear HS;intro w25 HS
 try dsimp only [List.set] at HS
 revert a;refine xr 1 rfl<|xne<|xre<|xtr ?_
 intro a HF
 refine bp_ret2 HF Tryz.results123 (HF.resBox rfl (HS.out.box 0 rfl) (by kernel_rfl)) (HF.res rfl) ?_
 refine .inr ⟨fun x hx hxs => ?_, rfl, HS.out.bel⟩
 have hl6 := node_rec hx; rw [hxs] at hl6; have hx2 := nodeB_size x; rw [hxs] at hx2; have hsm := (node_five hx).1; have k1 := hsm.links; have k2 := hsm.size; have k3 := hsm.many; have k4 := hsm.depth; have k5 := hsm.kind; have hel := eachN_le x.fKind
 exact hno _ hl6 (by omega)
open Classical in
noncomputable def ptrG (s : ByteArray) : Option PtrD := if h : ∃ p : PtrD, p.ok = true ∧ ptrB p = s then some h.choose else none
open Go.RowKit
def zerosB (n : Nat) : ByteArray := ⟨(List.replicate n (0 : UInt8)).toArray⟩
def longN (size : Int) (k : Nat) : Nat := (min 12 (size - (k : Int) * 12)).toNat
def lastZ (s : ByteArray) : Bool := s.data.toList.getLast? == some 0
def padB (s : ByteArray) (n : Nat) : ByteArray := s ++ zerosB (n - s.size)
def pieceB (s : ByteArray) (n : Nat) : Bool := decide (s.size ≤ n) && !lastZ s
noncomputable def fileL (st : StoreD) (size : Int) : Nat → List PtrD → Option ByteArray
  | _, [] => some ByteArray.empty
  | k, p :: r => bif pieceB (readT st p) (longN size k) then (fileL st size (k + 1) r).map (padB (readT st p) (longN size k) ++ ·) else none
noncomputable def fileF (st : StoreD) (n : NodeD) : Option ByteArray := bif n.ok && (n.fKind == 1) then (leavesF st n.fTree).bind (fileL st n.fSize 0) else none
open Go.RowKit
theorem leafB_read {st : StoreD} {many : Int} {i : Nat} {p : PtrD} (h : readB st p = false) : leafB st many i p = false := by
  unfold leafB
  cases hh : p.hole with
  | true => rw [readB_hole hh] at h; cases h
  | false => rw [h]; rfl
theorem leafB_level {st : StoreD} {many : Int} {i : Nat} {p : PtrD} (h : (p.fLevel == 0) = false) : leafB st many i p = false := by
  unfold leafB
  cases hh : p.hole with
  | true => rw [h]; rfl
  | false => rw [h]; simp
theorem leafB_out {st : StoreD} {many : Int} {i : Nat} {p : PtrD} (hh : p.hole = false) (h : ¬ (i : Int) < many) : leafB st many i p = false := by
  unfold leafB
  rw [hh, decide_eq_false h]; simp
theorem leafB_yes {st : StoreD} {many : Int} {i : Nat} {p : PtrD} (h1 : readB st p = true) (h2 : (p.fLevel == 0) = true) (h3 : p.hole = true ∨ (i : Int) < many) : leafB st many i p = true := by
  unfold leafB
  cases hh : p.hole with
  | true => exact h2
  | false =>
    rcases h3 with h3 | h3
    · rw [hh] at h3; cases h3
    · rw [h1, h2, decide_eq_true h3]; rfl
theorem reads_rows {w : World} {a0 : Option Addr} {c0 : Nat} {a1 : Option Addr} {c1 : Nat} {a2 : Option Addr} {c2 : Nat} {a4 : Option Addr} {c4 : Nat} {a6 : Option Addr} {c6 : Nat} {st : StoreD} (h : StoreD.Reads w (.agg #[.slice a0 st.fRows.length c0, .slice a1 st.fSpace.fRefs.length c1, .slice a2 st.fSpace.fLast.length c2, .int .i64 st.fTxg, .slice a4 st.fGone.length c4, .int .i64 st.fKeep, .slice a6 st.fDead.length c6, .bool st.fSame]) st) : Rd encS 1 w a0 st.fRows.length st.fRows := by
  obtain ⟨b0, d0, b1, d1, b2, d2, b4, d4, b6, d6, e, r, _⟩ := h
  simp only [Value.agg.injEq, Array.mk.injEq, List.cons.injEq, Value.slice.injEq] at e
  rw [e.1.1]; exact r
theorem ok_rows {st : StoreD} (h : st.ok = true) : RowsOk st := by
  have ho := StoreD.ok_spec h
  refine ⟨ho.rows, fun i => ?_⟩
  by_cases hi : i < 64
  · have := rowsSt_le ho.each hi
    unfold rowSt at this
    rw [Bool.and_eq_true] at this
    have := of_decide_eq_true this.1
    omega
  · rw [List.getD_eq_getElem?_getD, List.getElem?_eq_none (by rw [ho.rows]; omega)]
    exact Nat.zero_le _
theorem clonePtr_row (ao : Option Addr) (cap : Nat) (xs : List PtrD) (w : World) (hlen : xs.length ≤ 1048576) (hr : Rd PtrD.cells 5 w ao xs.length xs) :
    Calls Tryz.prog 93 #[.slice ao xs.length cap] w fun e w' => ∃ ao' cap', e = .returned (.slice ao' xs.length cap') ∧ St w [rowA PtrD.cells 5 35 (.slice ao' xs.length cap') xs] w' := by
  refine (cloneP_any ao cap xs w hlen hr).mono ?_
  rintro e w' ⟨⟨ao', cap', rfl, ho⟩, hb⟩
  exact ⟨_, _, rfl, St.ofRow ho hb⟩
theorem leaves_any (a0 : Option Addr) (c0 : Nat) (a1 : Option Addr) (c1 : Nat) (a2 : Option Addr) (c2 : Nat) (a4 : Option Addr) (c4 : Nat) (a6 : Option Addr) (c6 : Nat) (st : StoreD) (t : TreeD) (b : Nat) (w0 : World) (hT : TabP w0) (hM : MaxP w0) (hE : ErrP w0) (hB : Box w0 b 8 33 (sV a0 c0 a1 c1 a2 c2 a4 c4 a6 c6 st)) (hR : Rd encS 1 w0 a0 st.fRows.length st.fRows) (hrow : RowsOk st) : Calls Tryz.prog 92 #[.pointer (some ⟨b, 0, none⟩), tV t] w0 fun e w' => (∃ l, leavesF st t = some l ∧ ∃ ao, e = .returned (.tuple #[.slice ao l.length l.length, .bool true]) ∧ St w0 [holdsA (fun w => Rd PtrD.cells 5 w ao l.length l)] w') ∨ (leavesF st t = none ∧ e = .returned (.tuple #[.slice none 0 0, .bool false]) ∧ Below w0.heap.size w0 w') := by
 have HT := Bx.mk hT; have HM := Bx.mk hM; have HE := Bx.mk hE; have HB := Bx.mk hB; have HR := Bx.mk hR; clear hT hM hE hR
 have HS := Bx.mk (St.start w0)
 refine wc_enter Tryz.func92 rfl Tryz.ntmps92 [(0, .pointer (some ⟨b, 0, none⟩)), (1, tV t)] ⟨rfl, rfl, trivial⟩ rfl ?_
 refine xsr ?_
 intro a HF
 refine ybx HF HS ?_;clear HF HS a;intro a w1 b1 HF HS
 revert a;refine xr 2 rfl<|xne<|xsq<|xsq ?_
 intro a HF
 refine wr_quiet (by kernel_rfl) (by kernel_rfl) HS.out ?_
 revert a;refine xq rfl (fun HS=>vf 6 rfl)<|xq rfl (fun HS=>vc HS 0 rfl rfl) ?_
 intro a HF
 refine yq (fun _ HS => ((within_any t.fMany 0 16 _).mono fun _ _ h => ⟨h.1, h.2 ▸ Below.refl _ _⟩)) HF Tryz.func42 ?_; clear HF a
 refine xqr 2 rfl<|xcs 21 rfl (fun cc1=>?_) fun cc1=>?_
 refine xqr 23 rfl ?_
 intro a HF
 refine wpQuiet_nil ?_; intro w2 HS; replace HS := Bx.mk HS
 revert a;refine xet<|xct rfl<|xsr<|xr 2 rfl<|xne<|xre<|xtr<|xb2 Tryz.results92 rfl rfl ?_
 have htop : topB st t = false := by
   have h : inB t.fMany 0 16 = false := (by simpa using cc1); unfold topB; rw [h]; rfl
 exact .inr ⟨leavesF_top htop, rfl, HS.out.bel⟩
 have inT : inB t.fMany 0 16 = true := by simpa using cc1
 refine xq rfl (fun HS=>vf 5 rfl)<|xq rfl (fun HS=>vc HS 0 rfl rfl)<|xq rfl (fun HS=>vf 6 rfl)<|xq rfl (fun HS=>vc HS 0 rfl rfl) ?_
 intro a HF
 refine yqg (fun _ HS => depthOf_any t.fMany _) HF Tryz.func66 ?_; clear HF a
 refine xqr 3 rfl<|xcs 29 rfl (fun cc2=>?_) fun cc2=>?_
 have dcc2 := bne_iff_ne.1 cc2
 refine xqr 15 rfl ?_
 intro a HF
 refine wpQuiet_nil ?_; intro w3 HS; replace HS := Bx.mk HS
 revert a;refine xet<|xct rfl<|xsr<|xr 2 rfl<|xne<|xre<|xtr<|xb2 Tryz.results92 rfl rfl ?_
 have htop : topB st t = false := by
   have h : (t.fDepth == ((depthN t.fMany : Nat) : Int)) = false := (by simpa using dcc2); unfold topB; rw [h]; simp
 exact .inr ⟨leavesF_top htop, rfl, HS.out.bel⟩
 have dcc2 := bne_eq_false_iff_eq.1 cc2
 have hdep : t.fDepth = ((depthN t.fMany : Nat) : Int) := dcc2
 refine xq rfl (fun HS=>vf 0 rfl)<|xq rfl (fun HS=>vw HS 0 5 rfl rfl) ?_
 intro a HF
 refine yqg (fun _ HS => implPtrOk_any t.fRoot _) HF Tryz.func67 ?_; clear HF a
 refine xqr 3 rfl<|xcs 35 rfl (fun cc3=>?_) fun cc3=>?_
 refine xqr 9 rfl ?_
 intro a HF
 refine wpQuiet_nil ?_; intro w4 HS; replace HS := Bx.mk HS
 revert a;refine xet<|xct rfl<|xsr<|xr 2 rfl<|xne<|xre<|xtr<|xb2 Tryz.results92 rfl rfl ?_
 have htop : topB st t = false := by
   have h : t.fRoot.ok = false := (by simpa using cc3); unfold topB; rw [h]; simp
 exact .inr ⟨leavesF_top htop, rfl, HS.out.bel⟩
 have hok : t.fRoot.ok = true := by simpa using cc3
 refine xq rfl (fun HS=>vf 0 rfl)<|xq rfl (fun HS=>vf 1 rfl)<|xq rfl (fun HS=>vc HS 0 rfl rfl)<|xqr 2 rfl<|xq rfl (fun HS=>vf 3 rfl)<|xq rfl (fun HS a HF=>ylo (v := .int .i64 st.fTxg) rfl (HF.ev rfl) (((HB.out.below HS.bel (Nat.le_refl _)).cell 3).trans rfl))<|xqr 2 rfl ?_
 intro a HF
 refine wpQuiet_nil ?_; intro w5 HS; replace HS := Bx.mk HS
 revert a;refine xet<|xcs 44 rfl (fun cc4=>?_) fun cc4=>?_
 have dcc4 := of_decide_eq_true cc4
 refine xct rfl<|xsr<|xr 2 rfl<|xne<|xre<|xtr<|xb2 Tryz.results92 rfl rfl ?_
 have htop : topB st t = false := by
   unfold topB; rw [decide_eq_false (show ¬ t.fRoot.fBirth ≤ st.fTxg by omega)]; simp
 exact .inr ⟨leavesF_top htop, rfl, HS.out.bel⟩
 have dcc4 := of_decide_eq_false cc4
 have htop : topB st t = true := (by unfold topB; rw [hok, inT, beq_iff_eq.2 hdep, decide_eq_true (show t.fRoot.fBirth ≤ st.fTxg by omega)]; rfl); have hin := inB_true inT
 refine xcf rfl<|xsk<|xet<|xsr<|xy rfl (vf 0 rfl)<|xy rfl (vw HS.out 0 5 rfl rfl) ?_
 intro a HF
 refine ybs PtrD.cells 35 5 [t.fRoot] HF HS ?_;clear HF HS a;intro b2 a w6 HF HS
 revert a;refine xr 1 rfl<|xne<|xsq<|xsr<|xy rfl (vf 5 rfl)<|xy rfl (vc HS.out 1 rfl rfl)<|xr 1 rfl<|xne<|xbl ?_
 replace HS:=Bx.mk (HS.out.pick 0 rfl)
 intro a HF
 refine wc_loop (ι := Nat) (fun n a w => ∃ (ao : Option Addr) (cp : Nat) (xs : List PtrD), (downL (kids st) (depthN t.fMany) [t.fRoot] = downL (kids st) n xs ∧ xs.length * 4 ^ n ≤ 16 ∧ (∀ p ∈ xs, p.ok = true) ∧ n ≤ 2) ∧ Fr 112 a [(0, .pointer (some ⟨b, 0, none⟩)), (1, tV t), (3, .pointer (some ⟨b1, 0, none⟩)), (4, .slice none 0 0), (5, .bool false), (6, .slice ao xs.length cp), (7, .int .i64 (n : Int))] ∧ St w0 ([rowA PtrD.cells 5 35 (.slice ao xs.length cp) xs, boxA b1 7 37 (tV t)]) w) (fun n => n) (depthN t.fMany) ⟨_, _, [t.fRoot], ⟨rfl, by simpa using pow4 (depthN_le t.fMany), (fun p hp => by rw [List.mem_singleton.1 hp]; exact hok), depthN_le _⟩, HF.less _ ⟨rfl, rfl, rfl, rfl, rfl, rfl, (by show some (Value.int .i64 _) = some (Value.int .i64 _); exact congrArg (fun z => some (Value.int .i64 z)) hdep), trivial⟩, HS.out⟩ ?_
 clear HF HS; clear a
 rintro n a w7 ⟨ao, cp, xs, ⟨hd, hp4, hoks, hn2⟩, HF, HS⟩
 replace HS := Bx.mk HS
 have hx16 := pow4_le hp4
 revert a;refine xsq<|xsr<|xr 2 rfl<|xne<|xcs 51 rfl (fun cc5=>?_) fun cc5=>?_
 have dcc5 := of_decide_eq_true cc5
 obtain ⟨n, rfl⟩ : ∃ m, n = m + 1 := ⟨n - 1, by omega⟩
 refine xct rfl<|xsk<|xet<|xsq<|xbl<|xsr<|xr 1 rfl<|xne<|xsq<|xsr<|xr 1 rfl<|xy rfl (vn 35 5 rfl)<|xr 1 rfl<|xne<|xbl ?_
 replace HS := Bx.mk (HS.out.nilRow PtrD.cells 5 35 none)
 intro a HF
 refine wc_loop (ι := Nat) (fun i a w => ∃ (ay : Option Addr) (cy : Nat) (ys : List PtrD), (i ≤ xs.length ∧ nextL (fun p => kids st p ((n + 1 : Nat) : Int)) xs = (nextL (fun p => kids st p ((n + 1 : Nat) : Int)) (xs.drop i)).map (ys ++ ·) ∧ ys.length = 4 * i ∧ ∀ p ∈ ys, p.ok = true) ∧ Fr 112 a [(0, .pointer (some ⟨b, 0, none⟩)), (1, tV t), (3, .pointer (some ⟨b1, 0, none⟩)), (4, .slice none 0 0), (5, .bool false), (6, .slice ao xs.length cp), (7, .int .i64 ((n + 1 : Nat) : Int)), (54, .slice ao xs.length cp), (55, .int .i64 (xs.length : Int)), (8, .slice ay ys.length cy), (56, .int .i64 (i : Int))] ∧ St w0 ([rowA PtrD.cells 5 35 (.slice ay ys.length cy) ys, rowA PtrD.cells 5 35 (.slice ao xs.length cp) xs, boxA b1 7 37 (tV t)]) w) (fun i => xs.length - i) 0 ⟨_, _, [], ⟨Nat.zero_le _, next_begin, rfl, (fun p hp => nomatch hp)⟩, HF.less _ ⟨rfl, rfl, rfl, rfl, rfl, rfl, rfl, rfl, rfl, rfl, rfl, trivial⟩, HS.out⟩ ?_
 clear HF HS; clear a
 rintro i a w8 ⟨ay, cy, ys, ⟨hi, hnx, hyl, hoky⟩, HF, HS⟩
 replace HS := Bx.mk HS
 revert a;refine xsr<|xr 1 rfl<|xne<|xsq<|xcs 57 rfl (fun cc6=>?_) fun cc6=>?_
 have dcc6 := of_decide_eq_true cc6
 refine xct rfl<|xsk<|xet<|xsq<|xbl<|xsq ?_
 obtain ⟨g3, rfl, _, _, _, _⟩ := HS.out.rowOpen 1 rfl (by omega)
 refine xrl<|xy rfl (vx 35 i 5 rfl)<|xy rfl (fun a HF=>ylr (cs := pL (xs.getD i PtrD.zero)) rfl (HF.ev rfl) (HS.out.elem PtrD.cells_len 1 rfl (get_getD (xs := xs) (j := i) (d := PtrD.zero) (by omega)))) ?_
 intro a HF
 refine yal z5 HF HS ?_;clear HF HS a;intro a w9 b4 HF HS
 refine yst HF HS 0 ?_;clear HS;intro w10 HS
 try dsimp only [List.set] at HS
 revert a;refine xne<|xsr<|xr 1 rfl<|xy rfl (vw HS.out 0 5 rfl rfl)<|xr 1 rfl ?_
 intro a HF
 refine yc (fanOf_any a0 c0 a1 c1 a2 c2 a4 c4 a6 c6 st (xs.getD i PtrD.zero) ((n + 1 : Nat) : Int) b _ (HT.out.below HS.out.bel) (HM.out.below HS.out.bel) (HE.out.below HS.out.bel) (HB.out.below HS.out.bel (Nat.le_refl _)) (HR.out.below HS.out.bel) hrow (hoks _ (getD_mem (by omega)))) HF Tryz.func124 ?_
 rintro _ w11 (⟨l5, hk5, ao5, cp5, rfl, hs1⟩ | ⟨hk5, ao5, nn5, cp5, rfl, hb⟩)
 have hll5 := kids_len hk5
 refine ⟨_, rfl, ?_⟩; replace HS := Bx.mk (HS.out.add hs1);clear hs1 HF a;intro a HF
 try dsimp only [List.eraseIdx] at HS
 revert a;refine xr 5 rfl<|xne<|xsq<|xsr<|xr 2 rfl<|xne<|xcf rfl<|xsk<|xet<|xrl<|xr 2 rfl ?_
 intro a HF
 refine yap elemQ PtrD.cells_len HS 2 HF (St.rdOf HS.out PtrD.cells_len 0 rfl) (cells_one_Q _) ?_;clear HF HS a;intro ao6 cp7 w12 a HF HS
 try dsimp only [List.eraseIdx] at HS
 revert a;refine xr 1 rfl<|xni<|xeb<|xet<|xrl<|xy rfl (vad rfl)<|xr 1 rfl<|xne ?_
 have hz : ys.length + l5.length = (ys ++ l5).length := (List.length_append ..).symm
 intro a HF
 rw [hz] at HS HF
 have hl4 := kids_len hk5; have hyl2 : (ys ++ l5).length = 4 * (i + 1) := by rw [List.length_append]; omega
 have hoky2 : ∀ p ∈ ys ++ l5, p.ok = true := fun p hp => (List.mem_append.1 hp).elim (hoky p) ((kids_are hk5).2.1 p)
 replace HS:=Bx.mk (((HS.out.pick 4 rfl).pick 4 rfl).pick 4 rfl)
 exact ⟨i + 1, ⟨_, _, ys ++ l5, ⟨by omega, next_step hnx (by omega) hk5, hyl2, hoky2⟩, HF.less _ ⟨rfl, rfl, rfl, rfl, rfl, rfl, rfl, rfl, rfl, rfl, rfl, trivial⟩, ((HS.out.erase 4).erase 3)⟩, (by omega)⟩
 refine ⟨_, rfl, ?_⟩; replace HS := Bx.mk (HS.out.later hb);clear hb HF a
 refine xr 5 rfl<|xne<|xsq<|xsr<|xr 2 rfl<|xne<|xct rfl<|xsr<|xr 2 rfl<|xne<|xre<|xtr<|xbr<|xtr<|xtr<|xbr<|xtr<|xbr<|xtr<|xtr<|xbr<|xtr<|xb2 Tryz.results92 rfl rfl ?_
 exact .inr ⟨leavesF_down (hd.trans (downL_no (next_stop hnx (by omega) hk5))), rfl, HS.out.bel⟩
 have dcc6 := of_decide_eq_false cc6
 refine xcf rfl<|xex<|xtx<|xtx<|xbh<|xet<|xrl<|xr 2 rfl<|xni<|xeb<|xet<|xrl<|xr 1 rfl<|xy rfl (fun a HF=>yl_subI (r := (n : Int)) rfl (HF.ev rfl) (HF.ev rfl) ((i64w (by omega)).trans (by omega)))<|xr 1 rfl<|xne ?_
 replace HS:=Bx.mk ((HS.out.pick 2 rfl).pick 1 rfl)
 intro a HF
 exact ⟨n, ⟨_, _, ys, ⟨(hd.trans (downL_yes (next_end hnx (by omega)))), pow4_step hp4 hyl (by omega), hoky, by omega⟩, HF.less _ ⟨rfl, rfl, rfl, rfl, rfl, rfl, rfl, trivial⟩, (HS.out.erase 2)⟩, (Nat.lt_succ_self _)⟩
 have dcc5 := of_decide_eq_false cc5
 obtain rfl : n = 0 := by omega
 refine xcf rfl<|xex<|xtx<|xtx<|xbh<|xet<|xsq<|xsr<|xr 1 rfl<|xy rfl (vn 35 5 rfl)<|xr 1 rfl<|xne<|xbl ?_
 intro a HF
 refine wc_loop (ι := Nat) (fun i a w => (i ≤ xs.length ∧ leavesB st t.fMany 0 xs = leavesB st t.fMany i (xs.drop i)) ∧ Fr 112 a [(0, .pointer (some ⟨b, 0, none⟩)), (1, tV t), (3, .pointer (some ⟨b1, 0, none⟩)), (4, .slice none 0 0), (5, .bool false), (6, .slice ao xs.length cp), (74, .slice ao xs.length cp), (75, .int .i64 (xs.length : Int)), (76, .int .i64 (i : Int))] ∧ St w0 ([rowA PtrD.cells 5 35 (.slice ao xs.length cp) xs, boxA b1 7 37 (tV t)]) w) (fun i => xs.length - i) 0 ⟨⟨Nat.zero_le _, by rw [List.drop_zero]⟩, HF.less _ ⟨rfl, rfl, rfl, rfl, rfl, rfl, rfl, rfl, rfl, trivial⟩, HS.out⟩ ?_
 clear HF HS; clear a
 rintro i a w13 ⟨⟨hi, hlv⟩, HF, HS⟩
 replace HS := Bx.mk HS
 revert a;refine xsr<|xr 1 rfl<|xne<|xsq<|xcs 77 rfl (fun cc7=>?_) fun cc7=>?_
 have dcc7 := of_decide_eq_true cc7
 refine xct rfl<|xsk<|xet<|xsq<|xbl<|xsq ?_
 obtain ⟨g8, rfl, _, _, _, _⟩ := HS.out.rowOpen 0 rfl (by omega)
 refine xrl<|xr 1 rfl<|xy rfl (vx 35 i 5 rfl)<|xy rfl (fun a HF=>ylr (cs := pL (xs.getD i PtrD.zero)) rfl (HF.ev rfl) (HS.out.elem PtrD.cells_len 0 rfl (get_getD (xs := xs) (j := i) (d := PtrD.zero) (by omega)))) ?_
 intro a HF
 refine yal z5 HF HS ?_;clear HF HS a;intro a w14 b9 HF HS
 revert a;refine xr 1 rfl ?_
 intro a HF
 refine yst HF HS 0 ?_;clear HS;intro w15 HS
 try dsimp only [List.set] at HS
 revert a;refine xne<|xsr<|xr 1 rfl<|xy rfl (vw HS.out 0 5 rfl rfl) ?_
 intro a HF
 refine ycB (stRead_any a0 c0 a1 c1 a2 c2 a4 c4 a6 c6 st (xs.getD i PtrD.zero) b _ (HB.out.below HS.out.bel (Nat.le_refl _)) (HR.out.below HS.out.bel) hrow (hoks _ (getD_mem (by omega)))) HF Tryz.func96 HS ?_; clear HF HS a; intro w16 a HS HF
 revert a;refine xr 5 rfl<|xne<|xsr<|xr 3 rfl<|xcs 89 rfl (fun cc8=>?_) fun cc8=>?_
 refine xr 15 rfl<|xne<|xct rfl<|xsr<|xr 2 rfl<|xne<|xre<|xbr<|xtr<|xtr<|xbr<|xtr<|xb2 Tryz.results92 rfl rfl ?_
 have hd0 : downL (kids st) (depthN t.fMany) [t.fRoot] = some xs := hd; have hst := leaves_step hlv (show i < xs.length by omega)
 rw [leafB_read (p := (xs.getD i PtrD.zero)) (by simpa using cc8)] at hst
 exact .inr ⟨leavesF_bad hd0 hst, rfl, HS.out.bel⟩
 refine xy rfl (vf 4 rfl)<|xy rfl (vc HS.out 0 rfl rfl)<|xr 3 rfl<|xcs 94 rfl (fun cc9=>?_) fun cc9=>?_
 have dcc9 := bne_iff_ne.1 cc9
 refine xr 10 rfl<|xne<|xct rfl<|xsr<|xr 2 rfl<|xne<|xre<|xbr<|xtr<|xtr<|xbr<|xtr<|xb2 Tryz.results92 rfl rfl ?_
 have hd0 : downL (kids st) (depthN t.fMany) [t.fRoot] = some xs := hd; have hst := leaves_step hlv (show i < xs.length by omega)
 rw [leafB_level (p := (xs.getD i PtrD.zero)) (by simpa using dcc9)] at hst
 exact .inr ⟨leavesF_bad hd0 hst, rfl, HS.out.bel⟩
 have dcc9 := bne_eq_false_iff_eq.1 cc9
 refine xr 1 rfl<|xy rfl (vf 6 rfl)<|xy rfl (vc HS.out 2 rfl rfl)<|xr 2 rfl<|xcs 99 rfl (fun cc10=>?_) fun cc10=>?_
 have dcc10 := of_decide_eq_true cc10
 refine xy rfl (vw HS.out 0 5 rfl rfl) ?_
 intro a HF
 refine ycBg (implHole_any (xs.getD i PtrD.zero) _) HF Tryz.func68 HS ?_; clear HF HS a; intro w17 a HS HF
 revert a;refine xr 3 rfl<|xne<|xcs 104 rfl (fun cc11=>?_) fun cc11=>?_
 refine xct rfl<|xsr<|xr 2 rfl<|xne<|xre<|xbr<|xtr<|xtr<|xbr<|xtr<|xb2 Tryz.results92 rfl rfl ?_
 have hd0 : downL (kids st) (depthN t.fMany) [t.fRoot] = some xs := hd; have hst := leaves_step hlv (show i < xs.length by omega)
 rw [leafB_out (p := (xs.getD i PtrD.zero)) (by simpa using cc11) (by omega)] at hst
 exact .inr ⟨leavesF_bad hd0 hst, rfl, HS.out.bel⟩
 refine xcf rfl<|xsk<|xeb<|xet<|xrl<|xy rfl (vad rfl)<|xr 1 rfl<|xne ?_
 have hst := leaves_step hlv (show i < xs.length by omega)
 rw [leafB_yes (p := (xs.getD i PtrD.zero)) (by simpa using cc8) (by simpa using cc9) (.inl (by simpa using cc11)), Bool.true_and] at hst
 replace HS:=Bx.mk ((HS.out.pick 2 rfl).pick 2 rfl)
 intro a HF
 exact ⟨i + 1, ⟨⟨by omega, hst⟩, HF.less _ ⟨rfl, rfl, rfl, rfl, rfl, rfl, rfl, rfl, rfl, trivial⟩, (HS.out.erase 2)⟩, (by omega)⟩
 have dcc10 := of_decide_eq_false cc10
 refine xr 5 rfl<|xne<|xcf rfl<|xsk<|xeb<|xet<|xrl<|xy rfl (vad rfl)<|xr 1 rfl<|xne ?_
 have hst := leaves_step hlv (show i < xs.length by omega)
 rw [leafB_yes (p := (xs.getD i PtrD.zero)) (by simpa using cc8) (by simpa using cc9) (.inr (by omega)), Bool.true_and] at hst
 replace HS:=Bx.mk ((HS.out.pick 2 rfl).pick 2 rfl)
 intro a HF
 exact ⟨i + 1, ⟨⟨by omega, hst⟩, HF.less _ ⟨rfl, rfl, rfl, rfl, rfl, rfl, rfl, rfl, rfl, trivial⟩, (HS.out.erase 2)⟩, (by omega)⟩
 have dcc7 := of_decide_eq_false cc7
 refine xcf rfl<|xex<|xtx<|xtx<|xbh<|xet<|xsq ?_
 have hall := leaves_end hlv (by omega); have hd0 : downL (kids st) (depthN t.fMany) [t.fRoot] = some xs := hd; have hxl : xs.length = 4 ^ depthN t.fMany := by rw [downL_len (fun p n k => kids_len) hd0]; simp
 have hfan := depthN_fan hin.2; have htk : (xs.take t.fMany.toNat).length = t.fMany.toNat := by rw [List.length_take]; omega
 have hmle : t.fMany.toNat ≤ xs.length := by omega
 refine xrl<|xr 1 rfl<|xy rfl (vf 6 rfl)<|xy rfl (vc HS.out 1 rfl rfl)<|xy rfl (vf 6 rfl)<|xy rfl (vc HS.out 1 rfl rfl)<|xy rfl (fun a HF=>yl_sliceH3 (e := 35) (size := 5) (k := t.fMany.toNat) rfl (HF.ev rfl) (HF.ev rfl) (HF.ev rfl) (by kernel_rfl) (by omega) (by omega) (Nat.le_trans (by omega) (St.capLe HS.out 0 rfl)))<|xr 2 rfl<|xne<|xre<|xb2 Tryz.results92 rfl rfl ?_
 replace HS:=Bx.mk (HS.out.pick 0 rfl)
 have hh := HS.out.hold (P := fun w => Rd PtrD.cells 5 w ao (xs.take t.fMany.toNat).length (xs.take t.fMany.toNat)) (fun w f h => by rw [htk]; exact (row_reads PtrD.cells_len h).take hmle)
 exact .inl ⟨xs.take t.fMany.toNat, leavesF_yes htop hd0 hall, ao, by rw [htk], (hh.erase 1)⟩
theorem leavesF_16 {st : StoreD} {t : TreeD} {l : List PtrD} (h : leavesF st t = some l) : l.length ≤ 16 := by
  obtain ⟨x, ht, hd, _, rfl, hx, hn⟩ := leavesF_is h
  unfold topB at ht
  rw [Bool.and_eq_true] at ht
  have := inB_true ht.1
  omega
noncomputable def leavesT (st : StoreD) (t : TreeD) : Option (List PtrD) := bif st.ok then leavesF st t else none
theorem leavesT_ok {st : StoreD} {t : TreeD} (h : st.ok = true) : leavesT st t = leavesF st t := by unfold leavesT; rw [h]; rfl
theorem leavesT_no {st : StoreD} {t : TreeD} (h : st.ok = false) : leavesT st t = none := by unfold leavesT; rw [h]; rfl
theorem treeLeaves_any (a0 : Option Addr) (c0 : Nat) (a1 : Option Addr) (c1 : Nat) (a2 : Option Addr) (c2 : Nat) (a4 : Option Addr) (c4 : Nat) (a6 : Option Addr) (c6 : Nat) (st : StoreD) (t : TreeD) (w0 : World) (hT : TabP w0) (hM : MaxP w0) (hE : ErrP w0) (hV0 : StoreD.Reads w0 (sV a0 c0 a1 c1 a2 c2 a4 c4 a6 c6 st) st) (hf : st.Fit) : Calls Tryz.prog 69 #[sV a0 c0 a1 c1 a2 c2 a4 c4 a6 c6 st, tV t] w0 fun e w' => (∃ l, leavesT st t = some l ∧ ∃ ao cp, e = .returned (.tuple #[.slice ao l.length cp, .bool true]) ∧ St w0 [rowA PtrD.cells 5 35 (.slice ao l.length cp) l] w') ∨ (leavesT st t = none ∧ ∃ ao cp, e = .returned (.tuple #[.slice ao 0 cp, .bool false]) ∧ Below w0.heap.size w0 w') := by
 have HT := Bx.mk hT; have HM := Bx.mk hM; have HE := Bx.mk hE; have hV := Bx.mk hV0; clear hT hM hE hV0
 have HS := Bx.mk (St.start w0)
 refine wc_enter Tryz.func69 rfl Tryz.ntmps69 [(0, sV a0 c0 a1 c1 a2 c2 a4 c4 a6 c6 st), (1, tV t)] ⟨rfl, rfl, trivial⟩ rfl ?_
 refine xsr ?_
 intro a HF
 refine ybx HF HS ?_;clear HF HS a;intro a w1 b1 HF HS
 refine ybx HF HS ?_;clear HF HS a;intro a w2 b2 HF HS
 revert a;refine xr 2 rfl<|xne<|xsq<|xsr<|xy rfl (vw HS.out 1 8 rfl rfl) ?_
 intro a HF
 refine ycB (implStoreOk_any _ st _ (hV.out.below HS.out.bel) hf) HF Tryz.func89 HS ?_; clear HF HS a; intro w3 a HS HF
 revert a;refine xr 1 rfl<|xne<|xcs 10 rfl (fun cc1=>?_) fun cc1=>?_
 have hsok : st.ok = false := by simpa using cc1
 refine xct rfl<|xsr<|xr 2 rfl<|xne<|xre<|xtr<|xb2 Tryz.results69 rfl rfl ?_
 exact .inr ⟨leavesT_no hsok, none, 0, rfl, HS.out.bel⟩
 have hsok : st.ok = true := by simpa using cc1
 refine xcf rfl<|xsk<|xet<|xsr<|xy rfl (vw HS.out 0 7 rfl rfl) ?_
 intro a HF
 refine yc (leaves_any a0 c0 a1 c1 a2 c2 a4 c4 a6 c6 st t b1 _ (HT.out.below HS.out.bel) (HM.out.below HS.out.bel) (HE.out.below HS.out.bel) (HS.out.box 1 rfl) ((reads_rows hV.out).below HS.out.bel) (ok_rows hsok)) HF Tryz.func92 ?_
 rintro _ w4 (⟨l, hlf, ao, rfl, hs1⟩ | ⟨hlf, rfl, hb⟩)
 refine ⟨_, rfl, ?_⟩; replace HS := Bx.mk (HS.out.add hs1);clear hs1 HF a;intro a HF
 try dsimp only [List.eraseIdx] at HS
 revert a;refine xr 5 rfl<|xne<|xsr<|xr 1 rfl ?_
 intro a HF
 refine yc (clonePtr_row ao _ l _ (by have := leavesF_16 hlf; omega) (HS.out.holds 0 rfl)) HF Tryz.func93 ?_
 rintro _ w5 ⟨ao3, cp3, rfl, hs⟩
 refine ⟨_, rfl, ?_⟩
 replace HS := Bx.mk (HS.out.add hs);clear hs HF a;intro a HF
 try dsimp only [List.eraseIdx] at HS
 revert a;refine xr 3 rfl<|xne<|xre<|xb2 Tryz.results69 rfl rfl ?_
 exact .inl ⟨l, (leavesT_ok hsok).trans hlf, _, _, rfl, (((HS.out.erase 3).erase 2).erase 1)⟩
 refine ⟨_, rfl, ?_⟩; replace HS := Bx.mk (HS.out.later hb);clear hb HF a
 refine xr 5 rfl<|xne<|xsr<|xr 1 rfl ?_
 intro a HF
 refine yc (clonePtr_row none 0 [] _ (by decide) (rd_of_nil _ _ _ _)) HF Tryz.func93 ?_
 rintro _ w6 ⟨ao4, cp4, rfl, hs⟩
 refine ⟨_, rfl, ?_⟩
 replace HS := Bx.mk (HS.out.add hs);clear hs HF a;intro a HF
 try dsimp only [List.eraseIdx] at HS
 revert a;refine xr 3 rfl<|xne<|xre<|xb2 Tryz.results69 rfl rfl ?_
 exact .inr ⟨(leavesT_ok hsok).trans hlf, _, _, rfl, HS.out.bel⟩
noncomputable def okT (st : StoreD) (t : TreeD) : Bool := (leavesT st t).isSome
theorem implTreeOk_any (a0 : Option Addr) (c0 : Nat) (a1 : Option Addr) (c1 : Nat) (a2 : Option Addr) (c2 : Nat) (a4 : Option Addr) (c4 : Nat) (a6 : Option Addr) (c6 : Nat) (st : StoreD) (t : TreeD) (w0 : World) (hT : TabP w0) (hM : MaxP w0) (hE : ErrP w0) (hV0 : StoreD.Reads w0 (sV a0 c0 a1 c1 a2 c2 a4 c4 a6 c6 st) st) (hf : st.Fit) : Calls Tryz.prog 44 #[sV a0 c0 a1 c1 a2 c2 a4 c4 a6 c6 st, tV t] w0 fun e w' => e = .returned (.bool (okT st t)) ∧ Below w0.heap.size w0 w' := by
 have HT := Bx.mk hT; have HM := Bx.mk hM; have HE := Bx.mk hE; have hV := Bx.mk hV0; clear hT hM hE hV0
 have HS := Bx.mk (St.start w0)
 refine wc_enter Tryz.func44 rfl Tryz.ntmps44 [(0, sV a0 c0 a1 c1 a2 c2 a4 c4 a6 c6 st), (1, tV t)] ⟨rfl, rfl, trivial⟩ rfl ?_
 refine xsr ?_
 intro a HF
 refine ybx HF HS ?_;clear HF HS a;intro a w1 b1 HF HS
 refine ybx HF HS ?_;clear HF HS a;intro a w2 b2 HF HS
 revert a;refine xr 1 rfl<|xne<|xsr<|xy rfl (vw HS.out 1 8 rfl rfl)<|xy rfl (vw HS.out 0 7 rfl rfl) ?_
 intro a HF
 refine yc (treeLeaves_any a0 c0 a1 c1 a2 c2 a4 c4 a6 c6 st t _ (HT.out.below HS.out.bel) (HM.out.below HS.out.bel) (HE.out.below HS.out.bel) (hV.out.below HS.out.bel) hf) HF Tryz.func69 ?_
 rintro _ w3 (⟨l, hlf, ao, cp, rfl, hs1⟩ | ⟨hlf, ao, cp, rfl, hb⟩)
 refine ⟨_, rfl, ?_⟩; replace HS := Bx.mk (HS.out.add hs1);clear hs1 HF a;intro a HF
 try dsimp only [List.eraseIdx] at HS
 revert a;refine xr 5 rfl<|xne<|xsr<|xr 2 rfl<|xne<|xre<|xb1 Tryz.results44 rfl ?_
 have h : okT st t = true := by unfold okT; rw [hlf]; rfl
 exact ⟨by rw [h] <;> rfl, HS.out.bel⟩
 refine ⟨_, rfl, ?_⟩; replace HS := Bx.mk (HS.out.later hb);clear hb HF a
 refine xr 5 rfl<|xne<|xsr<|xr 2 rfl<|xne<|xre<|xb1 Tryz.results44 rfl ?_
 have h : okT st t = false := by unfold okT; rw [hlf]; rfl
 exact ⟨by rw [h] <;> rfl, HS.out.bel⟩
end Go.Proofs.YtdlmlagcniifjaaGreatDoor
