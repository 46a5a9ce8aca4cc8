/- A part of the proof in YtdlmlagcniifjaaGreatDoorFnZ32. -/
import Derived.LoopIn
import Derived.LoopNIn
import Derived.OwnWalkIn
import Derived.RangeFuncLeaves
import Derived.RangeFuncNested
import Derived.Shelf.Abstract
import Derived.TacticsInMore
import Derived.Test.YtdlmlagcniifjaaGreatDoorFnZ18
namespace Go.Proofs.YtdlmlagcniifjaaGreatDoor
set_option linter.unusedVariables false
set_option linter.unusedSimpArgs false
set_option maxHeartbeats 1000000
set_option maxRecDepth 100000
open Go.RowKit
structure HD where
  a0 : Option Addr
  c0 : Nat
  a1 : Option Addr
  c1 : Nat
  d : DiskD
def HD.cells (p : HD) : List Value := [.slice p.a0 p.d.fCells.length p.c0, .slice p.a1 p.d.fWaits.length p.c1, .bool p.d.fGone]
theorem HD.cells_len (p : HD) : p.cells.length = 3 := rfl
instance : Inhabited DiskD := ⟨⟨[], [], false⟩⟩
instance : Inhabited HD := ⟨⟨none, 0, none, 0, default⟩⟩
structure HD.reads (w : World) (p : HD) : Prop where
  rc : Rd encS 1 w p.a0 p.d.fCells.length p.d.fCells
  rw : Rd WaitD.cells 2 w p.a1 p.d.fWaits.length p.d.fWaits
theorem HD.reads.below {w w' : World} {p : HD} (h : p.reads w) (hb : Below w.heap.size w w') : p.reads w' := ⟨h.rc.below hb, h.rw.below hb⟩
open Go.RowKit
structure DiskD.fits (d : DiskD) : Prop where
  c : d.fCells.length ≤ 1048576
  w : d.fWaits.length ≤ 1048576
  cz : ∀ k, (d.fCells.getD k ByteArray.empty).size ≤ 9223372036854775807
  wz : ∀ k, (d.fWaits.getD k default).fText.size ≤ 9223372036854775807
def dsOf (ps : List HD) : List DiskD := ps.map HD.d
theorem dsOf_len (ps : List HD) : (dsOf ps).length = ps.length := List.length_map ..
open Go.RowKit
theorem St.swap {W w : World} {a b : Asr} {F : List Asr} (h : St W (a :: b :: F) w) : St W (b :: a :: F) w := h.perm (List.Perm.swap ..)
theorem getD_get {α : Type} [Inhabited α] {xs : List α} {k : Nat} (h : k < xs.length) : xs.getD k default = xs[k] := by simp [List.getD, h]
open Go.RowKit
section
variable {P : Program} {ops : Array Oper} {Q : Exit → Act → World → Prop} {a : Act} {w W : World} {s : List Asr} {fuel m N : Nat} {listed : Array Bool} {oi : Oper} {l : List (Nat × Value)} {K : Act → World → Prop}
theorem wo_y {i : Nat} (hi : ops[i]? = some oi) (hg : oi.guard = none) (hF : Fr N a l) {d : Nat} (hd : oi.dst = some d) (hN : Nat.blt d N = true) {v : Value} (hy : Yl P w oi a v) (h : ∀ a', Fr N a' ((d, v) :: l) → K a' w) : wpOp P ops Q i K a w := by
  refine wo_of hi hg ?_
  unfold Oper.wp
  rw [hy]
  show K (a.put oi.dst v) w
  rw [hd]
  exact h _ (hF.put (Nat.le_of_ble_eq_true hN) v)
end
def holdsA (P : World → Prop) : Asr := ⟨fun w f => ∀ w', w.heap.size ≤ w'.heap.size → (∀ b, b ∈ f → w'.heap[b]? = w.heap[b]?) → P w', fun w w' f hs hb h w2 hs2 hb2 => h w2 (Nat.le_trans hs hs2) fun b hm => (hb2 b hm).trans (hb b hm)⟩
theorem St.hold {W w : World} {A : Asr} {F : List Asr} {P : World → Prop} (h : St W (A :: F) w) (hP : ∀ w f, A.P w f → P w) : St W (holdsA P :: F) w := by
  obtain ⟨f, ⟨f1, f2, rfl, h1, h2⟩, hn, hb⟩ := h.sep
  exact ⟨h.bel, f1 ++ f2, ⟨f1, f2, rfl, fun w' hs hb => hP w' f1 (A.loc _ _ _ hs hb h1), h2⟩, hn, hb⟩
theorem St.holds {W w : World} {s : List Asr} {P : World → Prop} (h : St W s w) (i : Nat) (hi : s[i]? = some (holdsA P)) : P w := by
  obtain ⟨f, h1, _⟩ := h.get i hi
  exact h1 w (Nat.le_refl _) fun _ _ => rfl
theorem Rd.drop {α : Type} {enc : α → List Value} {size : Nat} {w : World} {g o n : Nat} {xs : List α} (h : Rd enc size w (some ⟨g, o, none⟩) n xs) {k : Nat} (hk : k ≤ xs.length) : Rd enc size w (some ⟨g, o + k * size, none⟩) (n - k) (xs.drop k) := by
  refine ⟨by rw [List.length_drop, h.len], fun i hi => ?_⟩
  rw [List.length_drop] at hi
  obtain ⟨b, off, x, hx, e, hlt, hr⟩ := h.at_ (k + i) (by omega)
  simp only [Option.some.injEq, Addr.mk.injEq, and_true] at e
  obtain ⟨rfl, rfl⟩ := e
  exact ⟨g, o + k * size, x, by rw [List.getElem?_drop]; exact hx, rfl, hlt, by rw [Nat.add_assoc, ← Nat.add_mul]; exact hr⟩
structure DiskD.nice (n : Nat) (d : DiskD) : Prop where
  g : d.fGone = false
  c : d.fCells.length = 64
  w : d.fWaits.length ≤ n
  a : ∀ k, k < d.fWaits.length → 0 ≤ (d.fWaits.getD k default).fAt ∧ (d.fWaits.getD k default).fAt < 64
  z : ∀ x, x ∈ d.fCells → x.size ≤ 1000
  u : ∀ x, x ∈ d.fWaits → x.fText.size ≤ 1000
theorem getD_le {xs : List ByteArray} {m : Nat} (h : ∀ x, x ∈ xs → x.size ≤ m) (k : Nat) : (xs.getD k ByteArray.empty).size ≤ m := by
  by_cases hk : k < xs.length
  · rw [show xs.getD k ByteArray.empty = xs[k] by simp [List.getD, hk]]
    exact h _ (List.getElem_mem hk)
  · rw [show xs.getD k ByteArray.empty = ByteArray.empty by simp [List.getD, List.getElem?_eq_none (Nat.le_of_not_lt hk)]]
    exact Nat.zero_le _
theorem waits_le {xs : List WaitD} {m : Nat} (h : ∀ x, x ∈ xs → x.fText.size ≤ m) (k : Nat) : (xs.getD k default).fText.size ≤ m := by
  by_cases hk : k < xs.length
  · rw [show xs.getD k default = xs[k] by simp [List.getD, hk]]
    exact h _ (List.getElem_mem hk)
  · rw [show xs.getD k default = default by simp [List.getD, List.getElem?_eq_none (Nat.le_of_not_lt hk)]]
    exact Nat.zero_le _
theorem DiskD.nice.fits {n : Nat} {d : DiskD} (h : d.nice n) (hn : n ≤ 1000) : d.fits := ⟨by rw [h.c]; omega, by have := h.w; omega, fun k => by have := getD_le h.z k; omega, fun k => by have := waits_le h.u k; omega⟩
theorem row_reads {α : Type} {enc : α → List Value} {size : Nat} {T : TypeId} (he : ∀ x, (enc x).length = size) {w : World} {f : List Nat} {ao : Option Addr} {n c : Nat} {xs : List α} (h : (rowA enc size T (.slice ao n c) xs).P w f) : Rd enc size w ao n xs := by
  obtain ⟨_, B1, r⟩ := h
  obtain ⟨u, e0, k0, d0⟩ := r.rd he
  simp only [Value.slice.injEq] at k0
  obtain ⟨rfl, hn, rfl⟩ := k0
  rw [hn]; exact d0
def niceS (n : Nat) (ds : List DiskD) : Prop := ds.length = 3 ∧ ∀ d, d ∈ ds → d.nice n
theorem niceS.at {n : Nat} {ds : List DiskD} (h : niceS n ds) {k : Nat} (hk : k < 3) : (ds.getD k default).nice n := by
  rw [getD_get (by rw [h.1]; exact hk)]; exact h.2 _ (List.getElem_mem _)
open Go.RowKit
theorem numPutI_any (n : Int) (w0 : World) (hT : TabP w0) : Calls Tryz.prog 105 #[.int .i64 n] w0 fun e w' => e = .returned (.string (numB n)) ∧ Below w0.heap.size w0 w' := by
 have HT := Bx.mk hT; clear hT
 have HS := Bx.mk (St.start w0)
 refine wc_enter Tryz.func105 rfl Tryz.ntmps105 [(0, .int .i64 n)] ⟨rfl, trivial⟩ rfl ?_
 refine xsr<|xr 1 rfl<|xne<|xsq<|xsr<|xr 1 rfl ?_
 intro a HF
 refine ycB ((within_any n 0 999999999 _).mono fun _ _ h => ⟨h.1, h.2 ▸ Below.refl _ _⟩) HF Tryz.func42 HS ?_; clear HF HS a; intro w1 a HS HF
 revert a;refine xr 1 rfl<|xne<|xcs 5 rfl (fun cc1=>?_) fun cc1=>?_
 refine xct rfl<|xsr<|xr 1 rfl<|xne<|xre<|xtr<|xb1 Tryz.results105 rfl ?_
 exact ⟨by rw [numB_out (by have := cc1; simp [inB] at this; omega)]; rfl, HS.out.bel⟩
 refine xcf rfl<|xsk<|xet<|xsq ?_
 have hin : inB n 0 999999999 = true := by simpa using cc1
 obtain ⟨hn0, hn1⟩ : 0 ≤ n ∧ n ≤ 999999999 := by unfold inB at hin; simpa using hin
 obtain ⟨m, rfl⟩ : ∃ m : Nat, n = (m : Int) := ⟨n.toNat, by omega⟩
 refine xrl<|xr 1 rfl ?_
 intro a HF
 refine ycB (itoa_any m (by omega) _ (HT.out.below HS.out.bel)) HF Tryz.func101 HS ?_; clear HF HS a; intro w2 a HS HF
 revert a;refine xr 1 rfl<|xne<|xre<|xb1 Tryz.results105 rfl ?_
 exact ⟨by rw [numB_in hn0 hn1, Int.toNat_natCast], HS.out.bel⟩
theorem size1 (x : UInt8) : (⟨#[x]⟩ : ByteArray).size = 1 := rfl
theorem le_of_cmp {n : Nat} (h : decide ((2048 : Int) < (n : Int)) = false) : n ≤ 2048 := by have := of_decide_eq_false h; omega
theorem gt_of_cmp {n : Nat} (h : decide ((2048 : Int) < (n : Int)) = true) : ¬ n ≤ 2048 := by have := of_decide_eq_true h; omega
theorem fieldsPutI_any (a0 : Option Addr) (n c0 : Nat) (xs : List ByteArray) (w0 : World) (hT : TabP w0) (hl : xs.length ≤ 1048576) (hx : szs xs) (hR : Rd encS 1 w0 a0 n xs) : Calls Tryz.prog 72 #[.slice a0 n c0] w0 fun e w' => e = .returned (.tuple #[.string (fieldsPut xs).1, .bool (fieldsPut xs).2]) ∧ Below w0.heap.size w0 w' := by
 obtain rfl := hR.len
 obtain ⟨g0, o0, r0⟩ := hR.opn; have R0 := Bx.mk r0; clear r0 hR
 have HT := Bx.mk hT; clear hT
 have HS := Bx.mk (St.start w0)
 refine wc_enter Tryz.func72 rfl Tryz.ntmps72 [(0, .slice a0 xs.length c0)] ⟨rfl, trivial⟩ rfl ?_
 refine xsr<|xr 2 rfl<|xne<|xsq<|xsr<|xr 1 rfl<|xy rfl (vn 9 1 rfl)<|xr 1 rfl<|xne<|xcs 9 rfl (fun cc1=>?_) fun cc1=>?_
 have dcc1 := of_decide_eq_true cc1
 refine xct rfl<|xsr<|xr 2 rfl<|xne<|xre<|xtr<|xb2 Tryz.results72 rfl rfl ?_
 exact ⟨by rw [fieldsPut_long (by omega)]; rfl, HS.out.bel⟩
 have dcc1 := of_decide_eq_false cc1
 refine xcf rfl<|xsk<|xet<|xsr ?_
 intro a HF
 refine yal [.pointer none, .slice none 0 0] HF HS ?_;clear HF HS a;intro a w1 b1 HF HS
 revert a;refine xne<|xsq<|xsr<|xr 1 rfl<|xy rfl (vn 9 1 rfl)<|xr 1 rfl<|xne<|xbl ?_
 replace HS := Bx.mk HS.out.bldNew
 intro a HF
 refine wc_loop (ι := Nat) (fun k a w => (k ≤ xs.length ∧ (recB (xs.take k)).size ≤ 2048) ∧ Fr 27 a [(4, .pointer (some ⟨b1, 0, none⟩)), (10, .slice a0 xs.length c0), (11, .int .i64 (xs.length : Int)), (12, .int .i64 (k : Int))] ∧ St w0 ([bldA b1 (recB (xs.take k)).data.toList]) w) (fun k => xs.length - k) 0 ⟨⟨Nat.zero_le _, by simp [recB]⟩, HF.less _ ⟨rfl, rfl, rfl, rfl, trivial⟩, HS.out⟩ ?_
 clear HF HS; clear a
 rintro k a w2 ⟨⟨hk, hr⟩, HF, HS⟩
 replace HS := Bx.mk HS
 have hxk := hx k; have hdec := decB_20 (n := (xs.getD k ByteArray.empty).size) (by omega)
 revert a;refine xsr<|xr 1 rfl<|xne<|xsq<|xcs 13 rfl (fun cc2=>?_) fun cc2=>?_
 have dcc2 := of_decide_eq_true cc2
 refine xct rfl<|xsk<|xet<|xsq<|xbl<|xsr<|xy rfl (vxr 9 k 1 rfl (R0.out.ao k (by omega)))<|xy rfl (fun a HF=>ylo (v := .string (xs.getD k ByteArray.empty)) rfl (HF.ev rfl) (R0.out.elem1 HS.out (get_getD (xs := xs) (j := k) (d := ByteArray.empty) (by omega)) rfl))<|xr 1 rfl<|xne<|xsr<|xr 1 rfl<|xy rfl (fun a HF=>yl_lenS rfl (HF.ev rfl) (by kernel_rfl)) ?_
 intro a HF
 refine ycB (itoa_any ((xs.getD k ByteArray.empty).size) (by omega) _ (HT.out.below HS.out.bel)) HF Tryz.func101 HS ?_; clear HF HS a; intro w3 a HS HF
 replace HS : Bx (St w0 ([bldA b1 (recB (xs.take k)).data.toList]) _) := ⟨(HS.out).pick 0 rfl⟩
 refine yc (writeS_any w0 _ b1 ((recB (xs.take k)).data.toList) (decB ((xs.getD k ByteArray.empty).size)) (by simp only [List.length_append, List.length_cons, List.length_nil, ← size_list]; omega) HS.out) HF Tryz.func100 ?_
 rintro _ w4 ⟨rfl, hs1⟩
 refine ⟨_, rfl, ?_⟩; replace HS := Bx.mk hs1;clear hs1 HF a;intro a HF
 try dsimp only [List.eraseIdx] at HS
 refine wl_ne<|wp_sr ?_
 replace HS : Bx (St w0 ([bldA b1 ((recB (xs.take k)).data.toList ++ (decB ((xs.getD k ByteArray.empty).size)).data.toList)]) _) := ⟨(HS.out).pick 0 rfl⟩
 refine yc (writeB_any w0 _ b1 ((recB (xs.take k)).data.toList ++ (decB ((xs.getD k ByteArray.empty).size)).data.toList) (58 : UInt8) (by simp only [List.length_append, List.length_cons, List.length_nil, ← size_list]; omega) HS.out) HF Tryz.func102 ?_
 rintro _ w5 ⟨rfl, hs1⟩
 refine ⟨_, rfl, ?_⟩; replace HS := Bx.mk hs1;clear hs1 HF a;intro a HF
 try dsimp only [List.eraseIdx] at HS
 revert a;refine xne<|xsr<|xr 1 rfl ?_
 replace HS : Bx (St w0 ([bldA b1 (((recB (xs.take k)).data.toList ++ (decB ((xs.getD k ByteArray.empty).size)).data.toList) ++ [(58 : UInt8)])]) _) := ⟨(HS.out).pick 0 rfl⟩
 intro a HF
 refine yc (writeS_any w0 _ b1 (((recB (xs.take k)).data.toList ++ (decB ((xs.getD k ByteArray.empty).size)).data.toList) ++ [(58 : UInt8)]) (xs.getD k ByteArray.empty) (by simp only [List.length_append, List.length_cons, List.length_nil, ← size_list]; omega) HS.out) HF Tryz.func100 ?_
 rintro _ w6 ⟨rfl, hs1⟩
 refine ⟨_, rfl, ?_⟩; replace HS := Bx.mk hs1;clear hs1 HF a;intro a HF
 try dsimp only [List.eraseIdx] at HS
 refine wl_ne<|wp_sr ?_
 refine ycB (bldLen_any w0 _ b1 ((((recB (xs.take k)).data.toList ++ (decB ((xs.getD k ByteArray.empty).size)).data.toList) ++ [(58 : UInt8)]) ++ (xs.getD k ByteArray.empty).data.toList) HS.out) HF Tryz.func103 HS ?_; clear HF HS a; intro w7 a HS HF
 revert a;refine xr 1 rfl<|xne<|xcs 24 rfl (fun cc3=>?_) fun cc3=>?_
 have dcc3 := of_decide_eq_true cc3
 refine xct rfl<|xsr<|xr 2 rfl<|xne<|xre<|xbr<|xtr<|xtr<|xbr<|xtr<|xb2 Tryz.results72 rfl rfl ?_
 have hgt : ¬ (recB (xs.take (k + 1))).size ≤ 2048 := by rw [recB_step xs (by omega), size_list, list_append, list_append, list_append]; exact gt_of_cmp cc3
 exact ⟨by rw [fieldsPut_big hgt]; rfl, HS.out.bel⟩
 have dcc3 := of_decide_eq_false cc3
 refine xcf rfl<|xsk<|xeb<|xet<|xrl<|xy rfl (vad rfl)<|xr 1 rfl<|xne ?_
 replace HS : Bx (St w0 [bldA b1 (recB (xs.take (k + 1))).data.toList] _) := ⟨by rw [recB_step xs (by omega), list_append, list_append, list_append]; exact HS.out⟩
 have hle : (recB (xs.take (k + 1))).size ≤ 2048 := by rw [recB_step xs (by omega), size_list, list_append, list_append, list_append]; exact le_of_cmp cc3
 intro a HF
 exact ⟨k + 1, ⟨⟨by omega, hle⟩, HF.less _ ⟨rfl, rfl, rfl, rfl, trivial⟩, HS.out⟩, (by omega)⟩
 have dcc2 := of_decide_eq_false cc2
 refine xcf rfl<|xex<|xtx<|xtx<|xbh<|xet<|xsr ?_
 replace HS : Bx (St w0 ([bldA b1 (recB (xs.take k)).data.toList]) _) := ⟨(HS.out).pick 0 rfl⟩
 intro a HF
 refine yc (bldStr_any w0 _ b1 ((recB (xs.take k)).data.toList) HS.out) HF Tryz.func104 ?_
 rintro _ w8 ⟨rfl, hs1⟩
 refine ⟨_, rfl, ?_⟩; replace HS := Bx.mk hs1;clear hs1 HF a;intro a HF
 try dsimp only [List.eraseIdx] at HS
 revert a;refine xr 2 rfl<|xne<|xre<|xb2 Tryz.results72 rfl rfl ?_
 obtain rfl : k = xs.length := by omega
 rw [List.take_length] at hr
 exact ⟨by rw [fieldsPut_yes (by omega) hr]; simp [List.take_length], HS.out.bel⟩
theorem l6Dec_any (n : Nat) (hn : n ≤ 9223372036854775807) (w0 : World) : Calls Tryz.prog 81 #[.int .i64 (n : Int)] w0 fun e w' => e = .returned (.string (decB n)) ∧ Below w0.heap.size w0 w' := by
 induction n using Nat.strongRecOn generalizing w0
 rename_i n ih
 have hd := decB_20 (n := n / 10) (by omega)
 have HS := Bx.mk (St.start w0)
 refine wc_enter Tryz.func81 rfl Tryz.ntmps81 [(0, .int .i64 (n : Int))] ⟨rfl, trivial⟩ rfl ?_
 refine xsr<|xr 1 rfl<|xne<|xsq<|xsr<|xr 2 rfl<|xne<|xcs 4 rfl (fun cc1=>?_) fun cc1=>?_
 have dcc1 := of_decide_eq_true cc1
 omega
 have dcc1 := of_decide_eq_false cc1
 refine xcf rfl<|xsk<|xet<|xsq<|xsr<|xr 2 rfl<|xne<|xcs 6 rfl (fun cc2=>?_) fun cc2=>?_
 have dcc2 := of_decide_eq_true cc2
 omega
 have dcc2 := of_decide_eq_false cc2
 refine xcf rfl<|xsk<|xet<|xsq<|xsr<|xr 2 rfl<|xne<|xcs 12 rfl (fun cc3=>?_) fun cc3=>?_
 have dcc3 := of_decide_eq_true cc3
 refine xct rfl<|xsr<|xr 1 rfl<|xy rfl (vad rfl)<|xy rfl (fun a HF=>yl_toU8 (b := UInt8.ofNat ((48 : Int) + (n : Int)).toNat) rfl (HF.ev rfl) (by omega) rfl (by kernel_rfl) (by kernel_rfl)) ?_
 intro a HF
 refine ybs encB 5 1 [(UInt8.ofNat ((48 : Int) + (n : Int)).toNat)] HF HS ?_;clear HF HS a;intro b1 a w1 HF HS
 revert a;refine xy rfl (fun a HF=>yl_convBS (e1 := 5) rfl (HF.ev rfl) (by kernel_rfl) (by kernel_rfl) (by kernel_rfl) (xs := [(UInt8.ofNat ((48 : Int) + (n : Int)).toNat)]) (St.rdN HS.out encB_len 0 rfl))<|xr 1 rfl<|xne<|xre<|xtr<|xb1 Tryz.results81 rfl ?_
 exact ⟨by rw [decB_small (by omega), show UInt8.ofNat (48 + (n : Int)).toNat = UInt8.ofNat (48 + n) from congrArg UInt8.ofNat (by omega)], HS.out.bel⟩
 have dcc3 := of_decide_eq_false cc3
 refine xcf rfl<|xsk<|xet<|xsq ?_
 intro a HF
 refine wr_heldS (s := []) (by kernel_rfl) (St.drew (HS.out)) ?_
 have HS2 := Bx.mk HS.out.drew; replace HS := Bx.mk (show St w0 ([]) _ from HS.out.drew)
 generalize World.drew _ = w2 at HS HS2 ⊢
 revert a;refine xh 0 HS.out rfl rfl rfl<|xhy 1 HS.out rfl rfl (fun HS a HF=>yl_quoI rfl (HF.ev rfl) (HF.ev rfl) (by omega) (quo_pos (by omega) (by omega) (by omega)))<|xh 3 HS.out rfl rfl rfl<|xhy 4 HS.out rfl rfl (fun HS a HF=>yl_remI rfl (HF.ev rfl) (HF.ev rfl) (by omega) (rem_pos (by omega) (by omega)))<|xhy 5 HS.out rfl rfl (fun HS=>vad rfl)<|xhy 6 HS.out rfl rfl (fun HS a HF=>yl_toU8 (b := UInt8.ofNat ((48 : Int) + ((n : Int) % 10)).toNat) rfl (HF.ev rfl) (by omega) rfl (by kernel_rfl) (by kernel_rfl)) ?_
 intro a HF
 refine wh_two 2 7 (by kernel_rfl) ?_ ?_
 refine yoB (ih (n / 10) (by omega) (by omega) _) HF Tryz.func81 ?_
 intro w3 hb; replace HS := Bx.mk (HS.out.later hb); replace HS2 := Bx.mk (HS2.out.later hb);clear hb HF a;intro a HF; refine ⟨HS.out, ?_⟩
 refine wh_one 7 (by kernel_rfl) ?_
 refine wo_buildS (enc := encB) (e := 5) (size := 1) rfl rfl HF rfl rfl rfl (ps := [(0, .int .u8 ((UInt8.ofNat ((48 : Int) + ((n : Int) % 10)).toNat).toNat : Int))]) rfl (cells := [.int .u8 ((UInt8.ofNat ((48 : Int) + ((n : Int) % 10)).toNat).toNat : Int)]) (by kernel_rfl) [(UInt8.ofNat ((48 : Int) + ((n : Int) % 10)).toNat)] rfl rfl (by unfold maxLen; omega) rfl HS2.out HS.out ?_; clear HF HS HS2 a; intro b2 a w5 HF HS2 HS; replace HS := Bx.mk HS; replace HS2 := Bx.mk HS2; refine ⟨HS.out, ?_⟩
 refine wh_one 8 (by kernel_rfl) ?_
 refine wo_y rfl rfl HF rfl rfl (yl_convBS (e1 := 5) rfl (HF.ev rfl) (by kernel_rfl) (by kernel_rfl) (by kernel_rfl) (xs := [(UInt8.ofNat ((48 : Int) + ((n : Int) % 10)).toNat)]) (St.rdN HS2.out encB_len 0 rfl)) ?_; clear HF a; intro a HF; refine ⟨HS.out, ?_⟩
 revert a;refine xhy 9 HS.out rfl rfl (fun HS a HF=>yl_addS rfl (HF.ev rfl) (HF.ev rfl) (by (try simp only [size1, app_size]); omega))<|xh 10 HS.out rfl rfl rfl ?_
 intro a HF
 refine wh_done (by kernel_rfl) ?_
 replace HS := HS2; clear HS2
 revert a;refine xet<|xre<|xb1 Tryz.results81 rfl ?_
 exact ⟨by rw [decB_big (n := n) (by omega), show UInt8.ofNat (48 + (n : Int) % (10 : Int)).toNat = UInt8.ofNat (48 + n % 10) from congrArg UInt8.ofNat (by omega)], HS.out.bel⟩
 refine wo_buildS (enc := encB) (e := 5) (size := 1) rfl rfl HF rfl rfl rfl (ps := [(0, .int .u8 ((UInt8.ofNat ((48 : Int) + ((n : Int) % 10)).toNat).toNat : Int))]) rfl (cells := [.int .u8 ((UInt8.ofNat ((48 : Int) + ((n : Int) % 10)).toNat).toNat : Int)]) (by kernel_rfl) [(UInt8.ofNat ((48 : Int) + ((n : Int) % 10)).toNat)] rfl rfl (by unfold maxLen; omega) rfl HS2.out HS.out ?_; clear HF HS HS2 a; intro b3 a w8 HF HS2 HS; replace HS := Bx.mk HS; replace HS2 := Bx.mk HS2; refine ⟨HS.out, ?_⟩
 refine wh_two 2 8 (by kernel_rfl) ?_ ?_
 refine yoB (ih (n / 10) (by omega) (by omega) _) HF Tryz.func81 ?_
 intro w9 hb; replace HS := Bx.mk (HS.out.later hb); replace HS2 := Bx.mk (HS2.out.later hb);clear hb HF a;intro a HF; refine ⟨HS.out, ?_⟩
 refine wh_one 8 (by kernel_rfl) ?_
 refine wo_y rfl rfl HF rfl rfl (yl_convBS (e1 := 5) rfl (HF.ev rfl) (by kernel_rfl) (by kernel_rfl) (by kernel_rfl) (xs := [(UInt8.ofNat ((48 : Int) + ((n : Int) % 10)).toNat)]) (St.rdN HS2.out encB_len 0 rfl)) ?_; clear HF a; intro a HF; refine ⟨HS.out, ?_⟩
 revert a;refine xhy 9 HS.out rfl rfl (fun HS a HF=>yl_addS rfl (HF.ev rfl) (HF.ev rfl) (by (try simp only [size1, app_size]); omega))<|xh 10 HS.out rfl rfl rfl ?_
 intro a HF
 refine wh_done (by kernel_rfl) ?_
 replace HS := HS2; clear HS2
 revert a;refine xet<|xre<|xb1 Tryz.results81 rfl ?_
 exact ⟨by rw [decB_big (n := n) (by omega), show UInt8.ofNat (48 + (n : Int) % (10 : Int)).toNat = UInt8.ofNat (48 + n % 10) from congrArg UInt8.ofNat (by omega)], HS.out.bel⟩
 refine wo_y rfl rfl HF rfl rfl (yl_convBS (e1 := 5) rfl (HF.ev rfl) (by kernel_rfl) (by kernel_rfl) (by kernel_rfl) (xs := [(UInt8.ofNat ((48 : Int) + ((n : Int) % 10)).toNat)]) (St.rdN HS2.out encB_len 0 rfl)) ?_; clear HF a; intro a HF; refine ⟨HS.out, ?_⟩
 refine wh_one 2 (by kernel_rfl) ?_
 refine yoB (ih (n / 10) (by omega) (by omega) _) HF Tryz.func81 ?_
 intro w12 hb; replace HS := Bx.mk (HS.out.later hb); replace HS2 := Bx.mk (HS2.out.later hb);clear hb HF a;intro a HF; refine ⟨HS.out, ?_⟩
 revert a;refine xhy 9 HS.out rfl rfl (fun HS a HF=>yl_addS rfl (HF.ev rfl) (HF.ev rfl) (by (try simp only [size1, app_size]); omega))<|xh 10 HS.out rfl rfl rfl ?_
 intro a HF
 refine wh_done (by kernel_rfl) ?_
 replace HS := HS2; clear HS2
 revert a;refine xet<|xre<|xb1 Tryz.results81 rfl ?_
 exact ⟨by rw [decB_big (n := n) (by omega), show UInt8.ofNat (48 + (n : Int) % (10 : Int)).toNat = UInt8.ofNat (48 + n % 10) from congrArg UInt8.ofNat (by omega)], HS.out.bel⟩
theorem size_colon : (⟨#[58]⟩ : ByteArray).size = 1 := rfl
theorem fieldsPutS_any (a0 : Option Addr) (n c0 : Nat) (xs : List ByteArray) (w0 : World) (hl : xs.length ≤ 1048576) (hx : szs xs) (hR : Rd encS 1 w0 a0 n xs) : Calls Tryz.prog 80 #[.slice a0 n c0] w0 fun e w' => e = .returned (.tuple #[.string (fieldsPut xs).1, .bool (fieldsPut xs).2]) ∧ Below w0.heap.size w0 w' := by
 obtain rfl := hR.len
 obtain ⟨g0, o0, r0⟩ := hR.opn; have R0 := Bx.mk r0; clear r0 hR
 have HS := Bx.mk (St.start w0)
 refine wc_enter Tryz.func80 rfl Tryz.ntmps80 [(0, .slice a0 xs.length c0)] ⟨rfl, trivial⟩ rfl ?_
 refine xsr<|xr 2 rfl<|xne<|xsr<|xr 1 rfl<|xne<|xsq<|xsr<|xr 1 rfl<|xne<|xbl ?_
 intro a HF
 refine wc_loop (ι := Nat) (fun k a w => (k ≤ xs.length ∧ (recB (xs.take k)).size ≤ 2048 ∧ (¬ xs.length ≤ 60 → k = 0)) ∧ Fr 44 a [(0, .slice a0 xs.length c0), (4, .string (recB (xs.take k))), (5, .int .i64 (k : Int))] ∧ St w0 ([]) w) (fun k => xs.length - k) 0 ⟨⟨Nat.zero_le _, by simp [recB], fun _ => rfl⟩, HF.less _ ⟨rfl, rfl, rfl, trivial⟩, HS.out⟩ ?_
 clear HF HS; clear a
 rintro k a w1 ⟨⟨hk, hr, h0k⟩, HF, HS⟩
 replace HS := Bx.mk HS
 have hxk := hx k; have hdec := decB_20 (n := (xs.getD k ByteArray.empty).size) (by omega)
 revert a;refine xsq<|xsr<|xr 2 rfl<|xy rfl (vn 9 1 rfl)<|xr 2 rfl<|xcs 10 rfl (fun cc1=>?_) fun cc1=>?_
 have dcc1 := of_decide_eq_true cc1
 refine xr 1 rfl<|xy rfl (vn 9 1 rfl)<|xr 2 rfl<|xne<|xcs 14 rfl (fun cc2=>?_) fun cc2=>?_
 have dcc2 := of_decide_eq_true cc2
 refine xct rfl<|xsk<|xet<|xsq<|xbl<|xsq<|xsr<|xr 2 rfl<|xy rfl (vxr 9 k 1 rfl (R0.out.ao k (by omega)))<|xy rfl (fun a HF=>ylo (v := .string (xs.getD k ByteArray.empty)) rfl (HF.ev rfl) (R0.out.elem1 HS.out (get_getD (xs := xs) (j := k) (d := ByteArray.empty) (by omega)) rfl))<|xy rfl (fun a HF=>yl_lenS rfl (HF.ev rfl) (by kernel_rfl))<|xr 1 rfl<|xne<|xcs 22 rfl (fun cc3=>?_) fun cc3=>?_
 have dcc3 := of_decide_eq_true cc3
 refine xct rfl<|xsr<|xr 2 rfl<|xne<|xre<|xtr<|xbr<|xtr<|xtr<|xbr<|xtr<|xb2 Tryz.results80 rfl rfl ?_
 exact ⟨by rw [fieldsPut_elem (k := k) (by omega) (by omega)]; rfl, HS.out.bel⟩
 have dcc3 := of_decide_eq_false cc3
 refine xcf rfl<|xsk<|xet<|xsq ?_
 intro a HF
 refine wr_quiet (by kernel_rfl) (by kernel_rfl) HS.out ?_
 revert a;refine xqr 3 rfl<|xq rfl (fun HS=>vxr 9 k 1 rfl (R0.out.ao k (by omega)))<|xq rfl (fun HS a HF=>ylo (v := .string (xs.getD k ByteArray.empty)) rfl (HF.ev rfl) (R0.out.elem1 HS (get_getD (xs := xs) (j := k) (d := ByteArray.empty) (by omega)) rfl))<|xq rfl (fun HS a HF=>yl_lenS rfl (HF.ev rfl) (by kernel_rfl)) ?_
 intro a HF
 refine yq (fun _ HS => l6Dec_any ((xs.getD k ByteArray.empty).size) (by omega) _) HF Tryz.func81 ?_; clear HF a
 refine xq rfl (fun HS a HF=>yl_addS rfl (HF.ev rfl) (HF.ev rfl) (by (try simp only [size_colon, app_size]); omega))<|xq rfl (fun HS a HF=>yl_addS rfl (HF.ev rfl) (HF.ev rfl) (by (try simp only [size_colon, app_size]); omega))<|xqr 2 rfl<|xq rfl (fun HS=>vxr 9 k 1 rfl (R0.out.ao k (by omega)))<|xq rfl (fun HS a HF=>ylo (v := .string (xs.getD k ByteArray.empty)) rfl (HF.ev rfl) (R0.out.elem1 HS (get_getD (xs := xs) (j := k) (d := ByteArray.empty) (by omega)) rfl))<|xq rfl (fun HS a HF=>yl_addS rfl (HF.ev rfl) (HF.ev rfl) (by (try simp only [size_colon, app_size]); omega))<|xqr 1 rfl ?_
 intro a HF
 refine wpQuiet_nil ?_; intro w2 HS; replace HS := Bx.mk HS
 revert a;refine xet<|xsr<|xr 1 rfl<|xy rfl (fun a HF=>yl_lenS rfl (HF.ev rfl) (by kernel_rfl))<|xr 1 rfl<|xne<|xcs 39 rfl (fun cc4=>?_) fun cc4=>?_
 have dcc4 := of_decide_eq_true cc4
 refine xct rfl<|xsr<|xr 2 rfl<|xne<|xre<|xbr<|xtr<|xtr<|xbr<|xtr<|xb2 Tryz.results80 rfl rfl ?_
 have hgt : ¬ (recB (xs.take (k + 1))).size ≤ 2048 := by rw [recB_step xs (by omega)]; exact gt_of_cmp cc4
 exact ⟨by rw [fieldsPut_big hgt]; rfl, HS.out.bel⟩
 have dcc4 := of_decide_eq_false cc4
 refine xcf rfl<|xsk<|xeb<|xet<|xrl<|xr 1 rfl<|xy rfl (vad rfl)<|xr 1 rfl<|xne ?_
 have hst := recB_step xs (k := k) (by omega)
 have hle : (recB (xs.take (k + 1))).size ≤ 2048 := by rw [hst]; exact le_of_cmp cc4
 intro a HF
 exact ⟨k + 1, ⟨⟨by omega, hle, fun h => absurd h (by omega)⟩, HF.less _ ⟨rfl, (congrArg (fun z => some (Value.string z)) hst.symm), rfl, trivial⟩, HS.out⟩, (by omega)⟩
 have dcc2 := of_decide_eq_false cc2
 refine xcf rfl<|xex<|xtx<|xtx<|xbh<|xet<|xsr<|xr 2 rfl<|xy rfl (vn 9 1 rfl)<|xr 3 rfl<|xne<|xre<|xb2 Tryz.results80 rfl rfl ?_
 by_cases h60 : xs.length ≤ 60
 obtain rfl : k = xs.length := by omega
 rw [List.take_length] at hr
 exact ⟨by rw [fieldsPut_yes h60 hr, List.take_length, show ((decide ((xs.length : Int) ≤ 60))) = true from decide_eq_true (by omega)], HS.out.bel⟩
 obtain rfl : k = 0 := h0k (by omega)
 exact ⟨by rw [fieldsPut_long h60, show ((decide ((xs.length : Int) ≤ 60))) = false from decide_eq_false (by omega)]; rfl, HS.out.bel⟩
 have dcc1 := of_decide_eq_false cc1
 refine xr 4 rfl<|xne<|xcf rfl<|xex<|xtx<|xtx<|xbh<|xet<|xsr<|xr 2 rfl<|xy rfl (vn 9 1 rfl)<|xr 3 rfl<|xne<|xre<|xb2 Tryz.results80 rfl rfl ?_
 by_cases h60 : xs.length ≤ 60
 obtain rfl : k = xs.length := by omega
 rw [List.take_length] at hr
 exact ⟨by rw [fieldsPut_yes h60 hr, List.take_length, show ((decide ((xs.length : Int) ≤ 60))) = true from decide_eq_true (by omega)], HS.out.bel⟩
 obtain rfl : k = 0 := h0k (by omega)
 exact ⟨by rw [fieldsPut_long h60, show ((decide ((xs.length : Int) ≤ 60))) = false from decide_eq_false (by omega)]; rfl, HS.out.bel⟩
open Go.RowKit
def PtrD.fits (p : PtrD) (t : ByteArray) : Bool := (bif p.ok then (bif !p.hole then (bif (p.fSize == (t.size : Int)) then (p.fSum == (sumOf t)) else false) else false) else false)
open Go.RowKit
theorem inB_yes {n lo hi : Int} (h1 : lo ≤ n) (h2 : n ≤ hi) : inB n lo hi = true := by
  unfold inB; simp [h1, h2]
open Go.RowKit
def decs (n : Nat) (acc : List UInt8) : List UInt8 := if n = 0 then acc else decs (n / 10) ((48 + UInt8.ofNat (n % 10)) :: acc)
termination_by n
decreasing_by omega
def markT (k : Int) : ByteArray := ⟨(109 :: decs k.toNat []).toArray⟩
theorem decs_pos {n : Nat} (h : 0 < n) (acc : List UInt8) : decs n acc = decs (n / 10) ((48 + UInt8.ofNat (n % 10)) :: acc) := by
  rw [decs]; exact if_neg (by omega)
theorem decs_zero (acc : List UInt8) : decs 0 acc = acc := by
  rw [decs]; exact if_pos rfl
theorem pow_small {L n : Nat} (h : n * 10 ^ L ≤ 9223372036854775807) (hn : 0 < n) : L ≤ 18 := by
  by_cases hl : L ≤ 18
  · exact hl
  · have h1 : 10 ^ 19 ≤ 10 ^ L := Nat.pow_le_pow_right (by omega) (by omega)
    have h2 : 1 * 10 ^ L ≤ n * 10 ^ L := Nat.mul_le_mul_right _ hn
    omega
theorem pow_step {L n : Nat} (h : n * 10 ^ L ≤ 9223372036854775807) : n / 10 * 10 ^ (L + 1) ≤ 9223372036854775807 := by
  have h1 : n / 10 * 10 ≤ n := Nat.div_mul_le_self n 10
  have h2 := Nat.mul_le_mul_right (10 ^ L) h1
  rw [Nat.pow_succ, Nat.mul_comm (10 ^ L) 10, ← Nat.mul_assoc]
  omega
theorem conv1 {P : Program} (w : World) (src dst e : TypeId) (n : Int) (h0 : 0 ≤ n) (h1 : n < 256) (hs : P.underlying src = some (.slice e)) (he : P.underlying e = some (.int .u8)) (hd : P.underlying dst = some .string) :
    (convert src dst (.slice (some ⟨w.heap.size, 0, none⟩) 1 1)).run P (w.alloc (.cells #[.int .u8 n] e)) = .ok (.string ⟨[UInt8.ofNat n.toNat].toArray⟩) (w.alloc (.cells #[.int .u8 n] e)) := by
  refine run_convert_bytes_back (P := P) _ src dst e ⟨w.heap.size, 0, none⟩ 1 [UInt8.ofNat n.toNat] hs he hd ?_
  intro j hj
  simp at hj
  subst hj
  have e1 : ((UInt8.ofNat n.toNat).toNat : Int) = n := by
    rw [UInt8.toNat_ofNat']
    omega
  simp only [List.getElem_cons_zero, e1]
  exact blk_cell (blk_new w _ _ rfl) 0
theorem markText_any (k : Int) (w : World) (h0 : 0 < k) (h1 : k ≤ 9223372036854775807) :
    Calls Tryz.prog 56 #[.int .i64 k] w fun e w' => e = .returned (.string (markT k)) ∧ Below w.heap.size w w' := by
  go_enter Tryz.func56, Tryz.ntmps56
  go_wp2
  go_loopw [0, 3] (fun k' s wr => ∃ (n : Nat) (acc : List UInt8), n * 10 ^ acc.length ≤ 9223372036854775807 ∧ acc.length ≤ 19 ∧ k' = .int .i64 n ∧ s = .string ⟨acc.toArray⟩ ∧ decs n acc = decs k.toNat [] ∧ Below w.heap.size w wr) (fun k' _ _ => (intOf k').toNat)
  case atStart => exact ⟨k.toNat, [], by simp; omega, by simp, by rw [Int.toNat_of_nonneg (by omega)], rfl, rfl, Below.refl _ _⟩
  case round =>
    obtain ⟨n, acc, hn, hl, rfl, rfl, hd, hb⟩ := hrel
    have HD := Lib.hid hd
    have HN := Lib.hid hn
    have hn1 : n ≤ 9223372036854775807 := Nat.le_trans (Nat.le_mul_of_pos_right n (Nat.pow_pos (by omega))) hn
    clear hd hn
    by_cases hlt : 0 < n
    · have hcv := conv1 (P := Tryz.prog) wr 105 9 5 (48 + (n : Int) % 10) (by omega) (by omega) Tryz.underlying105 Tryz.underlying5 Tryz.underlying9
      have hl2 := pow_small HN.out hlt
      go_wp2
      go_roundw
      case rel => exact ⟨n / 10, (48 + UInt8.ofNat (n % 10)) :: acc, pow_step HN.out, by simp; omega, by go_num, rfl, by rw [← HD.out, decs_pos hlt], hb.alloc hb.size _⟩
      case measure => simp [intOf]; omega
    · have hn0 : n = 0 := by omega
      subst hn0
      have hfin := Lib.hid (HD.out.symm.trans (decs_zero acc))
      go_wp2
      go_ret
      refine ⟨?_, hb⟩
      unfold markT
      rw [hfin.out]
      rfl
open Go.RowKit
theorem markStringS_any (ao : Option Addr) (len cap B : Nat) (cs : List Value) (k : Int) (w : World) (hk0 : 0 < k) (hk1 : k ≤ 1000000000000) (hlen : len ≤ 1048576) (hpos : 0 < len) (hown : w.ownsRow B 9 1 (.slice ao len cap) len cs) :
    Calls Tryz.prog 30 #[.slice ao len cap, .int .i64 k] w fun e w' => e = .returned (.int .i64 (k + (len : Int) * 1)) ∧ w'.ownsRow B 9 1 (.slice ao len cap) len ((marks markT 1 k len).flatMap encS) ∧ w.grownBy w' (Value.slice ao len cap).ownBlock := by
  · obtain ⟨ao', cap', hv, hcl, _, hg⟩ := owns_slice hown
    obtain ⟨g, rfl, hgB, hgs⟩ := hg hpos
    simp only [Value.slice.injEq, true_and] at hv
    obtain ⟨rfl, rfl⟩ := hv
    have hml := marks_len markT 1 k len
    have hF0 : FillC encS 1 B 9 w g len cap (marks markT 1 k len) 0 := FillC.start hown
    clear hown
    go_enter Tryz.func30, Tryz.ntmps30
    go_wp2
    go_loopw [1, 5] (fun k' i wr => ∃ j : Nat, j ≤ len ∧ i = .int .i64 j ∧ k' = .int .i64 (k + (j : Int) * 1) ∧ FillC encS 1 B 9 wr g len cap (marks markT 1 k len) j ∧ w.grownBy wr (some g)) (fun _ i _ => len - (intOf i).toNat)
    case atStart => exact ⟨0, Nat.zero_le _, rfl, by simp, hF0, grown_refl _ _⟩
    case round =>
      obtain ⟨j, hj, rfl, rfl, hf, hgr⟩ := hrel
      by_cases hlt : j < len
      · have hx := Lib.hid (marks_get markT 1 k len j hlt)
        simp only [Int.mul_one] at hx
        obtain ⟨rest, hrest, hown⟩ := hf
        have hcs := Lib.hid (show ∃ rest' : List Value, rest'.length = (len - j) * 1 ∧ ((marks markT 1 k len).take j).flatMap encS ++ rest = ((marks markT 1 k len).take j).flatMap encS ++ rest' from ⟨rest, hrest, rfl⟩)
        have hlen2 : j * 1 + 1 ≤ (((marks markT 1 k len).take j).flatMap encS ++ rest).length := by
          rw [List.length_append, flat_len _ _ encS_len, List.length_take, hml, hrest]; omega
        have hdef : ∃ C, C = ((marks markT 1 k len).take j).flatMap encS ++ rest := ⟨_, rfl⟩
        obtain ⟨C, hC⟩ := hdef
        rw [← hC] at hown hlen2
        rw [← hC] at hcs
        have HC := Lib.hid hC
        clear hC hrest hml hF0
        have hL : j + 1 ≤ C.length := by omega
        have HT := owns_there hown (j) 1 (hL)
        obtain ⟨q0, hq0⟩ := Option.isSome_iff_exists.1 (HT 0 (by omega)).1
        have hz0 := (HT 0 (by omega)).2
        simp only [Nat.add_zero] at hq0 hz0
        clear HT
        go_wp2_with fail
        refine (markText_any _ _ (by omega) (by omega)).mono ?_
        rintro e w1 ⟨rfl, hb1⟩
        have ho1 := owns_below hown hb1 (Nat.le_refl _)
        have hgr1 := grown_trans hgr (grown_below hb1 (Nat.le_refl _) (some g))
        clear hown hq0 hz0
        have hL1 : j + 1 ≤ (C).length := by simpa using hL
        have HT := owns_there ho1 (j) 1 (hL1)
        obtain ⟨q0, hq0⟩ := Option.isSome_iff_exists.1 (HT 0 (by omega)).1
        have hz0 := (HT 0 (by omega)).2
        simp only [Nat.add_zero] at hq0 hz0
        clear HT
        go_wp2
        have hp0 := ho1.stored (j + 0) (.string (markT (k + (j : Int))))
        simp only [Nat.add_zero] at hp0
        have hgE := (grown_trans hgr1 hp0.2)
        have hoE := hp0.1
        have hsp : (C.set (j) (.string (markT (k + (j : Int))))) = splice C (j * 1) (encS (markT (k + (j : Int)))) := by
          show _ = splice C (j * 1) [.string (markT (k + (j : Int)))]
          rw [Nat.mul_one, splice_one _ _ _ (by omega)]
        rw [hsp] at hoE
        have hf3 := FillC.next encS_len (marks_len markT 1 k len) hx.out hcs.out hoE
        go_roundw
        case rel => exact ⟨j + 1, by omega, by go_num, by go_num, hf3, hgE⟩
        case measure => simp [intOf]; omega
      · have hk' : j = len := by omega
        subst hk'
        have hfd := FillC.done hf hml
        rw [hml] at hfd
        go_wp2
        go_ret
        exact ⟨rfl, hfd, hgr⟩
theorem markStringS_zero (ao : Option Addr) (cap : Nat) (k : Int) (w : World) :
    Calls Tryz.prog 30 #[.slice ao 0 cap, .int .i64 k] w fun e w' => e = .returned (.int .i64 k) ∧ w = w' := by
  go_enter Tryz.func30, Tryz.ntmps30
  go_wp2
  go_loop [1, 5] (fun k' i => i = .int .i64 0 ∧ k' = .int .i64 k) (fun _ _ => 0)
  case atStart => exact ⟨rfl, rfl⟩
  case round =>
    obtain ⟨rfl, rfl⟩ := hrel
    go_wp2
    go_ret
    exact ⟨rfl, rfl⟩
theorem markStringS_r (ao : Option Addr) (cap : Nat) (B B1 : Nat) (xs : List ByteArray) (k : Int) (w : World) (hk0 : 0 < k) (hk1 : k ≤ 1000000000000) (hlen : xs.length ≤ 1048576) (h : RowO encS 1 9 w B B1 (.slice ao xs.length cap) xs) :
    Calls Tryz.prog 30 #[.slice ao xs.length cap, .int .i64 k] w fun e w' => e = .returned (.int .i64 (k + (xs.length : Int) * 1)) ∧ RowO encS 1 9 w' B B1 (.slice ao xs.length cap) (marks markT 1 k xs.length) ∧ w.grownBy w' (Value.rowBlock (.slice ao xs.length cap)) := by
  have hlt := h.lt
  obtain ⟨ao', cap', hv, hc, hg⟩ := h
  simp only [Value.slice.injEq, true_and] at hv
  obtain ⟨rfl, rfl⟩ := hv
  by_cases hpos : 0 < xs.length
  · rcases hc with ⟨_, hx⟩ | hown
    · rw [hx] at hpos; exact absurd hpos (Nat.lt_irrefl _)
    · obtain ⟨ao', cap', hv, hcl, _, _⟩ := owns_slice hown
      simp only [Value.slice.injEq, true_and] at hv
      obtain ⟨rfl, rfl⟩ := hv
      refine (markStringS_any ao xs.length cap B _ k w hk0 hk1 hlen hpos hown).mono ?_
      rintro e w' ⟨rfl, h1, h2⟩
      rw [rowBlock_pos (by omega)]
      refine ⟨rfl, ⟨ao, cap, by rw [marks_len], .inr (by rw [marks_len]; exact h1), hg⟩, h2⟩
  · have hx : xs = [] := List.length_eq_zero_iff.1 (by omega)
    subst hx
    refine (markStringS_zero ao cap k w).mono ?_
    rintro e w' ⟨rfl, rfl⟩
    refine ⟨by simp, ⟨ao, cap, by rw [marks_len], ?_, hg⟩, grown_refl _ _⟩
    rcases hc with ⟨h0, _⟩ | h0
    · exact .inl ⟨h0, rfl⟩
    · right
      rw [marks_len]
      simpa [marks] using h0
theorem heldStringS_any (ao : Option Addr) (len cap : Nat) (k : Int) (w : World) (hk0 : 0 < k) (hk1 : k ≤ 1000000000000) (hlen : len ≤ 1048576) (hr : Rd encS 1 w ao len (marks markT 1 k len)) :
    Calls Tryz.prog 33 #[.slice ao len cap, .int .i64 k] w fun e w' => e = .returned (.int .i64 (k + (len : Int) * 1)) ∧ Below w.heap.size w w' := by
  go_enter Tryz.func33, Tryz.ntmps33
  go_wp2
  go_loopw [1, 5] (fun k' i wr => ∃ j : Nat, j ≤ len ∧ i = .int .i64 j ∧ k' = .int .i64 (k + (j : Int) * 1) ∧ Below w.heap.size w wr) (fun _ i _ => len - (intOf i).toNat)
  case atStart => exact ⟨0, Nat.zero_le _, rfl, by simp, Below.refl _ _⟩
  case round =>
    obtain ⟨j, hj, rfl, rfl, hb⟩ := hrel
    by_cases hlt : j < len
    · obtain ⟨b, off, x, hx0, rfl, hbl, hrg⟩ := hr.at_ j (by rw [hr.len]; exact hlt)
      obtain rfl := Option.some.inj (hx0.symm.trans (marks_get markT 1 k len j hlt))
      clear hx0
      have hrg2 := rangeAt_below hrg hb hbl
      have hbl2 : b < wr.heap.size := Nat.lt_of_lt_of_le hbl hb.size
      simp only [Nat.mul_one, Int.mul_one] at hrg2
      have c0 : wr.cell? ⟨b, off + j, none⟩ = some (.string (markT (k + (j : Int)))) := hrg2 0 _ rfl
      clear hrg hrg2
      go_wp2_with fail
      go_region_with (first | (go_at_call 56; refine (markText_any _ _ (by omega) (by omega)).mono ?_; rintro e w1 ⟨rfl, hb_1⟩; have c1_0 := (hb_1.cell (p := ⟨b, off + j, none⟩) hbl2).trans c0; have hbl_1 : b < w1.heap.size := Nat.lt_of_lt_of_le hbl2 hb_1.size; have hbw_1 := hb.drew.trans (hb_1.mono hb.size)))
      all_goals
        go_wp2
        go_roundw
        case rel => exact ⟨j + 1, by omega, by go_num, by go_num, hbw_1⟩
        case measure => simp [intOf]; omega
    · have hk' : j = len := by omega
      subst hk'
      go_wp2
      go_ret
      exact ⟨rfl, hb⟩
open Go.RowKit
structure RaidD where
  fDisks : List DiskD
def RaidD.Reads (w : World) (v : Value) (x : RaidD) : Prop := ∃ (a : Option Addr) (c : Nat) (ps : List HD), v = .agg #[.slice a ps.length c] ∧ dsOf ps = x.fDisks ∧ Rd HD.cells 3 w a ps.length ps ∧ ∀ k, k < ps.length → (ps.getD k default).reads w
theorem RaidD.Reads.below {w w' : World} {v : Value} {x : RaidD} (h : RaidD.Reads w v x) (hb : Below w.heap.size w w') : RaidD.Reads w' v x := by
  obtain ⟨a, c, ps, e, hx, hr, hp⟩ := h
  exact ⟨a, c, ps, e, hx, hr.below hb, fun k hk => (hp k hk).below hb⟩
def HD.vs (p : HD) : List Value := [.slice p.a0 p.d.fCells.length p.c0, .slice p.a1 p.d.fWaits.length p.c1]
open Go.RowKit
def rdsP (ao : Option Addr) (ps : List HD) (w : World) : Prop := Rd HD.cells 3 w ao ps.length ps ∧ ∀ p, p ∈ ps → p.reads w
def fitsL (ps : List HD) : Prop := ∀ p, p ∈ ps → p.d.fits
theorem default_fits : (default : HD).d.fits := ⟨Nat.zero_le _, Nat.zero_le _, fun k => Nat.zero_le _, fun k => Nat.zero_le _⟩
theorem fitsL.at {ps : List HD} (h : fitsL ps) (k : Nat) : (ps.getD k default).d.fits := by
  by_cases hk : k < ps.length
  · rw [getD_get hk]; exact h _ (List.getElem_mem hk)
  · rw [show ps.getD k default = default by simp [List.getD, List.getElem?_eq_none (Nat.le_of_not_lt hk)]]
    exact default_fits
theorem fitsL.set {ps : List HD} (h : fitsL ps) {q : HD} (hq : q.d.fits) (k : Nat) : fitsL (ps.set k q) := fun p hp => (List.mem_or_eq_of_mem_set hp).elim (h p) fun e => by rw [e]; exact hq
theorem fitsL.drop {ps : List HD} (h : fitsL ps) (k : Nat) : fitsL (ps.drop k) := fun p hp => h p (List.mem_of_mem_drop hp)
theorem niceS.len {n : Nat} {ps : List HD} (h : niceS n (dsOf ps)) : ps.length = 3 := by rw [← dsOf_len]; exact h.1
theorem rdsP.at {ao : Option Addr} {ps : List HD} {w : World} (h : rdsP ao ps w) : ∀ k, k < ps.length → (ps.getD k default).reads w := fun k hk => by rw [getD_get hk]; exact h.2 _ (List.getElem_mem hk)
open Go.RowKit
theorem elemI : ElemT Tryz.prog 23 3 1 8 := by
  obtain ⟨i0, hi, hz0, hz1, hz2⟩ := info_parts (P := Tryz.prog) (e := 3) (z := .int .i64 0) (size := 1) (bytes := 8) (by kernel_rfl)
  exact ⟨Tryz.underlying23, ⟨i0, _, hi, hz0, hz1, hz2, rfl⟩, by decide⟩
open Go.RowKit
theorem l6DecI_any (n : Int) (h0 : 0 ≤ n) (h1 : n ≤ 9223372036854775807) (w0 : World) : Calls Tryz.prog 81 #[.int .i64 n] w0 fun e w' => e = .returned (.string (decB n.toNat)) ∧ Below w0.heap.size w0 w' := by
  obtain ⟨m, rfl⟩ : ∃ m : Nat, n = (m : Int) := ⟨n.toNat, by omega⟩
  rw [Int.toNat_natCast]; exact l6Dec_any m (by omega) w0
def dotB : ByteArray := ⟨#[46]⟩
def ptrB (p : PtrD) : ByteArray := bif p.ok then (bif p.hole then ⟨#[45]⟩ else numB p.fAt ++ dotB ++ numB p.fBirth ++ dotB ++ numB p.fSize ++ dotB ++ numB p.fSum ++ dotB ++ numB p.fLevel) else ByteArray.empty
theorem ptrB_no {p : PtrD} (h : p.ok = false) : ptrB p = ByteArray.empty := by unfold ptrB; rw [h]; rfl
theorem ptrB_hole {p : PtrD} (h : p.ok = true) (h2 : p.hole = true) : ptrB p = ⟨#[45]⟩ := by unfold ptrB; rw [h, h2]; rfl
theorem ptrB_yes {p : PtrD} (h : p.ok = true) (h2 : p.hole = false) : ptrB p = numB p.fAt ++ dotB ++ numB p.fBirth ++ dotB ++ numB p.fSize ++ dotB ++ numB p.fSum ++ dotB ++ numB p.fLevel := by unfold ptrB; rw [h, h2]; rfl
theorem size_dot : dotB.size = 1 := rfl
theorem ptrB_le (p : PtrD) : (ptrB p).size ≤ 49 := by
  have h1 := numB_le p.fAt; have h2 := numB_le p.fBirth; have h3 := numB_le p.fSize; have h4 := numB_le p.fSum; have h5 := numB_le p.fLevel
  cases h : p.ok with
  | false => rw [ptrB_no h]; exact Nat.zero_le _
  | true =>
    cases hh : p.hole with
    | true => rw [ptrB_hole h hh]; decide
    | false => rw [ptrB_yes h hh]; simp only [app_size, size_dot]; omega
theorem PtrD.ok_all {p : PtrD} (h : p.ok = true) (h2 : p.hole = false) : 8 ≤ p.fAt ∧ p.fAt ≤ 63 ∧ 1 ≤ p.fBirth ∧ p.fBirth ≤ 900 ∧ 1 ≤ p.fSize ∧ p.fSize ≤ 128 ∧ 0 ≤ p.fSum ∧ p.fSum ≤ 99460728 ∧ 0 ≤ p.fLevel ∧ p.fLevel ≤ 2 := by
  unfold PtrD.ok at h
  rw [h2, Bool.false_or] at h
  simp only [Bool.and_eq_true] at h
  have h1 := inB_true h.1.1.1.1
  have h3 := inB_true h.1.1.1.2
  have h4 := inB_true h.1.1.2
  have h5 := inB_true h.1.2
  have h6 := inB_true h.2
  omega
def encA (x : Option Addr) : List Value := [.pointer x]
theorem encA_len (x : Option Addr) : (encA x).length = 1 := rfl
theorem joinT5 (a b c d e s : ByteArray) : joinT [a, b, c, d, e] s = a ++ s ++ b ++ s ++ c ++ s ++ d ++ s ++ e := by
  apply ba_ext
  show Go.Lib.join _ _ = _
  simp only [List.map_cons, List.map_nil, Go.Lib.join_cons, Go.Lib.joinTail, list_append, List.flatten_cons, List.flatten_nil, List.append_nil, List.append_assoc]
theorem parts_any (b : Nat) (w0 : World) : Calls Tryz.prog 137 #[.pointer (some ⟨b, 0, none⟩)] w0 fun e w' => ∃ ao cp, e = .returned (.slice ao 5 cp) ∧ St w0 [rowA encA 1 161 (.slice ao 5 cp) [(some ⟨b, 0 + 0, none⟩), (some ⟨b, 0 + 1, none⟩), (some ⟨b, 0 + 2, none⟩), (some ⟨b, 0 + 3, none⟩), (some ⟨b, 0 + 4, none⟩)]] w' := by
 have HS := Bx.mk (St.start w0)
 refine wc_enter Tryz.func137 rfl Tryz.ntmps137 [(0, .pointer (some ⟨b, 0, none⟩))] ⟨rfl, trivial⟩ rfl ?_
 refine xsr<|xr 1 rfl<|xne<|xsq ?_
 intro a HF
 refine wr_tail 15 (by kernel_rfl) (by kernel_rfl) HS.out ?_
 simp only [List.take_succ_cons, List.take_zero, List.drop_succ_cons, List.drop_zero]
 intro w1 HS
 replace HS := Bx.mk HS
 refine ws_y rfl HF rfl rfl (yl_move rfl (HF.ev rfl)) ?_; clear HF a; intro a HF
 refine ws_y rfl HF rfl rfl (yl_nilCheck rfl (HF.ev rfl)) ?_; clear HF a; intro a HF
 refine ws_y rfl HF rfl rfl (yfa 0 rfl (HF.ev rfl)) ?_; clear HF a; intro a HF
 refine ws_y rfl HF rfl rfl (yl_move rfl (HF.ev rfl)) ?_; clear HF a; intro a HF
 refine ws_y rfl HF rfl rfl (yl_nilCheck rfl (HF.ev rfl)) ?_; clear HF a; intro a HF
 refine ws_y rfl HF rfl rfl (yfa 1 rfl (HF.ev rfl)) ?_; clear HF a; intro a HF
 refine ws_y rfl HF rfl rfl (yl_move rfl (HF.ev rfl)) ?_; clear HF a; intro a HF
 refine ws_y rfl HF rfl rfl (yl_nilCheck rfl (HF.ev rfl)) ?_; clear HF a; intro a HF
 refine ws_y rfl HF rfl rfl (yfa 2 rfl (HF.ev rfl)) ?_; clear HF a; intro a HF
 refine ws_y rfl HF rfl rfl (yl_move rfl (HF.ev rfl)) ?_; clear HF a; intro a HF
 refine ws_y rfl HF rfl rfl (yl_nilCheck rfl (HF.ev rfl)) ?_; clear HF a; intro a HF
 refine ws_y rfl HF rfl rfl (yfa 3 rfl (HF.ev rfl)) ?_; clear HF a; intro a HF
 refine ws_y rfl HF rfl rfl (yl_move rfl (HF.ev rfl)) ?_; clear HF a; intro a HF
 refine ws_y rfl HF rfl rfl (yl_nilCheck rfl (HF.ev rfl)) ?_; clear HF a; intro a HF
 refine ws_y rfl HF rfl rfl (yfa 4 rfl (HF.ev rfl)) ?_; clear HF a; intro a HF
 refine wpStill_nil ?_
 refine ybs encA 161 1 [(some ⟨b, 0 + 0, none⟩), (some ⟨b, 0 + 1, none⟩), (some ⟨b, 0 + 2, none⟩), (some ⟨b, 0 + 3, none⟩), (some ⟨b, 0 + 4, none⟩)] HF HS ?_;clear HF HS a;intro b1 a w2 HF HS
 revert a;refine xr 1 rfl<|xne<|xre<|xb1 Tryz.results137 rfl ?_
 exact ⟨_, _, rfl, HS.out⟩
theorem ptrPutI_any (p : PtrD) (w0 : World) (hT : TabP w0) : Calls Tryz.prog 106 #[pV p] w0 fun e w' => e = .returned (.string (ptrB p)) ∧ Below w0.heap.size w0 w' := by
 have HT := Bx.mk hT; clear hT
 have HS := Bx.mk (St.start w0)
 refine wc_enter Tryz.func106 rfl Tryz.ntmps106 [(0, pV p)] ⟨rfl, trivial⟩ rfl ?_
 refine xsr ?_
 intro a HF
 refine ybx HF HS ?_;clear HF HS a;intro a w1 b1 HF HS
 revert a;refine xr 1 rfl<|xne<|xsq<|xbl<|xsr<|xy rfl (vw HS.out 0 5 rfl rfl) ?_
 intro a HF
 refine ycB (implPtrOk_any p _) HF Tryz.func67 HS ?_; clear HF HS a; intro w2 a HS HF
 revert a;refine xr 2 rfl<|xne<|xcs 6 rfl (fun cc1=>?_) fun cc1=>?_
 refine xct rfl<|xsr<|xr 1 rfl<|xne<|xre<|xbr<|xtr<|xb1 Tryz.results106 rfl ?_
 exact ⟨by rw [ptrB_no (by simpa using cc1)]; rfl, HS.out.bel⟩
 refine xcf rfl<|xsr<|xy rfl (vw HS.out 0 5 rfl rfl) ?_
 intro a HF
 refine ycB (implHole_any p _) HF Tryz.func68 HS ?_; clear HF HS a; intro w3 a HS HF
 revert a;refine xr 1 rfl<|xne<|xcs 10 rfl (fun cc2=>?_) fun cc2=>?_
 refine xct rfl<|xsr<|xr 1 rfl<|xne<|xre<|xbr<|xtr<|xb1 Tryz.results106 rfl ?_
 exact ⟨by rw [ptrB_hole (by simpa using cc1) cc2], HS.out.bel⟩
 refine xcf rfl<|xsk<|xeb<|xet<|xsr<|xr 1 rfl<|xne<|xsq<|xsr ?_
 intro a HF
 refine yc (parts_any b1 _) HF Tryz.func137 ?_
 rintro _ w4 ⟨ao2, cp2, rfl, hs⟩
 refine ⟨_, rfl, ?_⟩
 replace HS := Bx.mk (HS.out.add hs);clear hs HF a;intro a HF
 try dsimp only [List.eraseIdx] at HS
 revert a;refine xy rfl (vn 161 1 rfl)<|xr 1 rfl<|xne<|xbl ?_
 intro a HF
 refine wc_rounds 6 ?_
 refine wp_seq ?_
 obtain ⟨g3, rfl, _, _, _, _⟩ := HS.out.rowOpen 0 rfl (Nat.succ_pos _)
 revert a;refine xrl<|xr 1 rfl<|xne<|xsq ?_
 intro a HF
 replace HF := HF.know (k := 16) (c := true) rfl (by decide)
 revert a;refine xct rfl<|xsk<|xet<|xsq<|xbl<|xsr<|xy rfl (vx 161 0 1 rfl)<|xy rfl (ve encA_len HS.out 0 0 rfl rfl rfl rfl)<|xr 1 rfl<|xne<|xrl<|xr 3 rfl<|xy rfl (vc HS.out 1 rfl rfl) ?_
 intro a HF
 refine ycB (numPutI_any p.fAt _ (HT.out.below HS.out.bel)) HF Tryz.func105 HS ?_; clear HF HS a; intro w5 a HS HF
 refine ybs encS 9 1 [numB p.fAt] HF HS ?_;clear HF HS a;intro b4 a w6 HF HS
 replace HS := Bx.mk (HS.out.nilRow encS 1 9 none)
 refine yap elemS encS_len HS 0 HF (St.rdN HS.out encS_len 1 rfl) (cells_one_S _) ?_;clear HF HS a;intro ao6 cp7 w7 a HF HS
 try dsimp only [List.eraseIdx] at HS
 revert a;refine xr 1 rfl<|xni<|xeb<|xet<|xrl<|xy rfl (fun a HF=>yl_addI (r := 1) rfl (HF.ev rfl) (HF.ev rfl) (by decide))<|xr 1 rfl<|xne ?_
 intro a HF
 refine wc_round 5 ?_
 revert a;refine xsr<|xr 1 rfl<|xne<|xsq ?_
 intro a HF
 replace HF := HF.know (k := 16) (c := true) rfl (by decide)
 revert a;refine xct rfl<|xsk<|xet<|xsq<|xbl<|xsr<|xy rfl (vx 161 1 1 rfl)<|xy rfl (ve encA_len HS.out 2 1 rfl rfl rfl rfl)<|xr 1 rfl<|xne<|xrl<|xr 3 rfl<|xy rfl (vc HS.out 3 rfl rfl) ?_
 intro a HF
 refine ycB (numPutI_any p.fBirth _ (HT.out.below HS.out.bel)) HF Tryz.func105 HS ?_; clear HF HS a; intro w8 a HS HF
 refine ybs encS 9 1 [numB p.fBirth] HF HS ?_;clear HF HS a;intro b8 a w9 HF HS
 refine yap elemS encS_len HS 1 HF (St.rdN HS.out encS_len 0 rfl) (cells_one_S _) ?_;clear HF HS a;intro ao9 cp10 w10 a HF HS
 try dsimp only [List.eraseIdx] at HS
 revert a;refine xr 1 rfl<|xni<|xeb<|xet<|xrl<|xy rfl (fun a HF=>yl_addI (r := 2) rfl (HF.ev rfl) (HF.ev rfl) (by decide))<|xr 1 rfl<|xne ?_
 intro a HF
 refine wc_round 4 ?_
 revert a;refine xsr<|xr 1 rfl<|xne<|xsq ?_
 intro a HF
 replace HF := HF.know (k := 16) (c := true) rfl (by decide)
 revert a;refine xct rfl<|xsk<|xet<|xsq<|xbl<|xsr<|xy rfl (vx 161 2 1 rfl)<|xy rfl (ve encA_len HS.out 3 2 rfl rfl rfl rfl)<|xr 1 rfl<|xne<|xrl<|xr 3 rfl<|xy rfl (vc HS.out 4 rfl rfl) ?_
 intro a HF
 refine ycB (numPutI_any p.fSize _ (HT.out.below HS.out.bel)) HF Tryz.func105 HS ?_; clear HF HS a; intro w11 a HS HF
 refine ybs encS 9 1 [numB p.fSize] HF HS ?_;clear HF HS a;intro b11 a w12 HF HS
 refine yap elemS encS_len HS 2 HF (St.rdN HS.out encS_len 0 rfl) (cells_one_S _) ?_;clear HF HS a;intro ao12 cp13 w13 a HF HS
 try dsimp only [List.eraseIdx] at HS
 revert a;refine xr 1 rfl<|xni<|xeb<|xet<|xrl<|xy rfl (fun a HF=>yl_addI (r := 3) rfl (HF.ev rfl) (HF.ev rfl) (by decide))<|xr 1 rfl<|xne ?_
 intro a HF
 refine wc_round 3 ?_
 revert a;refine xsr<|xr 1 rfl<|xne<|xsq ?_
 intro a HF
 replace HF := HF.know (k := 16) (c := true) rfl (by decide)
 revert a;refine xct rfl<|xsk<|xet<|xsq<|xbl<|xsr<|xy rfl (vx 161 3 1 rfl)<|xy rfl (ve encA_len HS.out 4 3 rfl rfl rfl rfl)<|xr 1 rfl<|xne<|xrl<|xr 3 rfl<|xy rfl (vc HS.out 5 rfl rfl) ?_
 intro a HF
 refine ycB (numPutI_any p.fSum _ (HT.out.below HS.out.bel)) HF Tryz.func105 HS ?_; clear HF HS a; intro w14 a HS HF
 refine ybs encS 9 1 [numB p.fSum] HF HS ?_;clear HF HS a;intro b14 a w15 HF HS
 refine yap elemS encS_len HS 3 HF (St.rdN HS.out encS_len 0 rfl) (cells_one_S _) ?_;clear HF HS a;intro ao15 cp16 w16 a HF HS
 try dsimp only [List.eraseIdx] at HS
 revert a;refine xr 1 rfl<|xni<|xeb<|xet<|xrl<|xy rfl (fun a HF=>yl_addI (r := 4) rfl (HF.ev rfl) (HF.ev rfl) (by decide))<|xr 1 rfl<|xne ?_
 intro a HF
 refine wc_round 2 ?_
 revert a;refine xsr<|xr 1 rfl<|xne<|xsq ?_
 intro a HF
 replace HF := HF.know (k := 16) (c := true) rfl (by decide)
 revert a;refine xct rfl<|xsk<|xet<|xsq<|xbl<|xsr<|xy rfl (vx 161 4 1 rfl)<|xy rfl (ve encA_len HS.out 5 4 rfl rfl rfl rfl)<|xr 1 rfl<|xne<|xrl<|xr 3 rfl<|xy rfl (vc HS.out 6 rfl rfl) ?_
 intro a HF
 refine ycB (numPutI_any p.fLevel _ (HT.out.below HS.out.bel)) HF Tryz.func105 HS ?_; clear HF HS a; intro w17 a HS HF
 refine ybs encS 9 1 [numB p.fLevel] HF HS ?_;clear HF HS a;intro b17 a w18 HF HS
 refine yap elemS encS_len HS 4 HF (St.rdN HS.out encS_len 0 rfl) (cells_one_S _) ?_;clear HF HS a;intro ao18 cp19 w19 a HF HS
 try dsimp only [List.eraseIdx] at HS
 revert a;refine xr 1 rfl<|xni<|xeb<|xet<|xrl<|xy rfl (fun a HF=>yl_addI (r := 5) rfl (HF.ev rfl) (HF.ev rfl) (by decide))<|xr 1 rfl<|xne ?_
 intro a HF
 refine wc_round 1 ?_
 revert a;refine xsr<|xr 1 rfl<|xne<|xsq ?_
 intro a HF
 replace HF := HF.know (k := 16) (c := false) rfl (by decide)
 revert a;refine xcf rfl<|xex<|xtx<|xtx<|xbh<|xet<|xsr<|xr 1 rfl ?_
 intro a HF
 refine ycB (join_any _ _ _ (((((([]) ++ ([numB p.fAt])) ++ ([numB p.fBirth])) ++ ([numB p.fSize])) ++ ([numB p.fSum])) ++ ([numB p.fLevel])) (⟨#[46]⟩ : ByteArray) _ (St.rdN HS.out encS_len 4 rfl) (St.capLe HS.out 4 rfl) (by simp) (szs_app (szs_app (szs_app (szs_app (szs_app szs_nil (szs_cons (Nat.le_trans (numB_le _) (by decide)) szs_nil)) (szs_cons (Nat.le_trans (numB_le _) (by decide)) szs_nil)) (szs_cons (Nat.le_trans (numB_le _) (by decide)) szs_nil)) (szs_cons (Nat.le_trans (numB_le _) (by decide)) szs_nil)) (szs_cons (Nat.le_trans (numB_le _) (by decide)) szs_nil)) (by decide)) HF Tryz.func138 HS ?_; clear HF HS a; intro w20 a HS HF
 revert a;refine xr 1 rfl<|xne<|xre<|xb1 Tryz.results106 rfl ?_
 exact ⟨by rw [ptrB_yes (by simpa using cc1) cc2]; simp only [List.nil_append, List.cons_append, List.singleton_append]; rw [joinT5]; rfl, HS.out.bel⟩
theorem ptrPutS_any (p : PtrD) (w0 : World) : Calls Tryz.prog 82 #[pV p] w0 fun e w' => e = .returned (.string (ptrB p)) ∧ Below w0.heap.size w0 w' := by
 have HS := Bx.mk (St.start w0)
 refine wc_enter Tryz.func82 rfl Tryz.ntmps82 [(0, pV p)] ⟨rfl, trivial⟩ rfl ?_
 refine xsr ?_
 intro a HF
 refine ybx HF HS ?_;clear HF HS a;intro a w1 b1 HF HS
 revert a;refine xr 1 rfl<|xne<|xsq<|xsr<|xy rfl (vw HS.out 0 5 rfl rfl) ?_
 intro a HF
 refine ycB (specPtrOk_any p _) HF Tryz.func49 HS ?_; clear HF HS a; intro w2 a HS HF
 revert a;refine xr 1 rfl<|xne<|xcs 5 rfl (fun cc1=>?_) fun cc1=>?_
 refine xct rfl<|xsr<|xr 1 rfl<|xne<|xre<|xtr<|xb1 Tryz.results82 rfl ?_
 exact ⟨by rw [ptrB_no (by simpa using cc1)]; rfl, HS.out.bel⟩
 refine xcf rfl<|xsk<|xet<|xsq<|xsr<|xy rfl (vw HS.out 0 5 rfl rfl) ?_
 intro a HF
 refine ycB (specHole_any p _) HF Tryz.func50 HS ?_; clear HF HS a; intro w3 a HS HF
 revert a;refine xne<|xcs 7 rfl (fun cc2=>?_) fun cc2=>?_
 refine xct rfl<|xsr<|xr 1 rfl<|xne<|xre<|xtr<|xb1 Tryz.results82 rfl ?_
 exact ⟨by rw [ptrB_hole (by simpa using cc1) cc2], HS.out.bel⟩
 refine xcf rfl<|xsk<|xet<|xsq ?_
 have hpb := PtrD.ok_all (p := p) (by simpa using cc1) cc2
 have zfAt : (decB p.fAt.toNat).size ≤ 19 := decB_20 (by omega)
 have zfBirth : (decB p.fBirth.toNat).size ≤ 19 := decB_20 (by omega)
 have zfSize : (decB p.fSize.toNat).size ≤ 19 := decB_20 (by omega)
 have zfSum : (decB p.fSum.toNat).size ≤ 19 := decB_20 (by omega)
 have zfLevel : (decB p.fLevel.toNat).size ≤ 19 := decB_20 (by omega)
 intro a HF
 refine wr_quiet (by kernel_rfl) (by kernel_rfl) HS.out ?_
 revert a;refine xq rfl (fun HS=>vf 0 rfl)<|xq rfl (fun HS=>vc HS 0 rfl rfl) ?_
 intro a HF
 refine yq (fun _ HS => l6DecI_any p.fAt (by omega) (by omega) _) HF Tryz.func81 ?_; clear HF a
 refine xq rfl (fun HS a HF=>yl_addS rfl (HF.ev rfl) (HF.ev rfl) (by (try simp only [size1, app_size]); omega))<|xq rfl (fun HS=>vf 1 rfl)<|xq rfl (fun HS=>vc HS 0 rfl rfl) ?_
 intro a HF
 refine yq (fun _ HS => l6DecI_any p.fBirth (by omega) (by omega) _) HF Tryz.func81 ?_; clear HF a
 refine xq rfl (fun HS a HF=>yl_addS rfl (HF.ev rfl) (HF.ev rfl) (by (try simp only [size1, app_size]); omega))<|xq rfl (fun HS a HF=>yl_addS rfl (HF.ev rfl) (HF.ev rfl) (by (try simp only [size1, app_size]); omega))<|xq rfl (fun HS=>vf 2 rfl)<|xq rfl (fun HS=>vc HS 0 rfl rfl) ?_
 intro a HF
 refine yq (fun _ HS => l6DecI_any p.fSize (by omega) (by omega) _) HF Tryz.func81 ?_; clear HF a
 refine xq rfl (fun HS a HF=>yl_addS rfl (HF.ev rfl) (HF.ev rfl) (by (try simp only [size1, app_size]); omega))<|xq rfl (fun HS a HF=>yl_addS rfl (HF.ev rfl) (HF.ev rfl) (by (try simp only [size1, app_size]); omega))<|xq rfl (fun HS=>vf 3 rfl)<|xq rfl (fun HS=>vc HS 0 rfl rfl) ?_
 intro a HF
 refine yq (fun _ HS => l6DecI_any p.fSum (by omega) (by omega) _) HF Tryz.func81 ?_; clear HF a
 refine xq rfl (fun HS a HF=>yl_addS rfl (HF.ev rfl) (HF.ev rfl) (by (try simp only [size1, app_size]); omega))<|xq rfl (fun HS a HF=>yl_addS rfl (HF.ev rfl) (HF.ev rfl) (by (try simp only [size1, app_size]); omega))<|xq rfl (fun HS=>vf 4 rfl)<|xq rfl (fun HS=>vc HS 0 rfl rfl) ?_
 intro a HF
 refine yq (fun _ HS => l6DecI_any p.fLevel (by omega) (by omega) _) HF Tryz.func81 ?_; clear HF a
 refine xq rfl (fun HS a HF=>yl_addS rfl (HF.ev rfl) (HF.ev rfl) (by (try simp only [size1, app_size]); omega))<|xqr 1 rfl ?_
 intro a HF
 refine wpQuiet_nil ?_; intro w4 HS; replace HS := Bx.mk HS
 revert a;refine xet<|xre<|xb1 Tryz.results82 rfl ?_
 exact ⟨by rw [ptrB_yes (by simpa using cc1) cc2, numB_in (n := p.fAt) (by omega) (by omega), numB_in (n := p.fBirth) (by omega) (by omega), numB_in (n := p.fSize) (by omega) (by omega), numB_in (n := p.fSum) (by omega) (by omega), numB_in (n := p.fLevel) (by omega) (by omega)]; rfl, HS.out.bel⟩
open Go.RowKit
theorem bytes_toList {a b : ByteArray} (h : (a.toList == b.toList) = true) : a = b := by
  have h := eq_of_beq h
  rw [ByteArray.toList_eq, ByteArray.toList_eq] at h
  exact ByteArray.ext (Array.toList_inj.1 h)
open Go.RowKit
section
variable {P : Program} {w : World} {o : Oper} {a : Act} {t : TypeId} {x y z : Operand}
theorem yl_sliceSm (ho : o.op = .slice t x (some y) (some z) none) {b : ByteArray} (hx : a.eval x = .string b) {k1 k2 : IntKind} {m n : Int} (hy : a.eval y = .int k1 m) (hz : a.eval z = .int k2 n) (hu : P.underlying t = some .string) {i j : Nat} (hm : m = (i : Int)) (hn : n = (j : Int)) (hij : i ≤ j) (hj : j ≤ b.size) : Yl P w o a (.string (b.extract i j)) := by
  subst hm; subst hn
  have h1 : ((i : Int) ≤ (j : Int)) := by omega
  have h2 : ((j : Int) ≤ (b.size : Int)) := by omega
  unfold Yl execOp
  simp only [ho, hx, hy, hz, Option.map_some, Option.map_none, Instr.sliceAt, Instr.slice, Sem.run_bind, run_underlying hu w, Result.andThen_ok]
  simp [Instr.slice, Instr.sliceBounds, Instr.sliceBound, asIntOf, go_sem, run_underlying hu w, h1, h2]
  rw [if_pos hj, if_pos hij]
end
theorem u8_eqI {a b : UInt8} (h : ((a.toNat : Int) == (b.toNat : Int)) = true) : a = b := by
  have := eq_of_beq h
  exact UInt8.toNat_inj.1 (by omega)
theorem u8_neI {a b : UInt8} (h : ((a.toNat : Int) == (b.toNat : Int)) = false) : a ≠ b := fun e => by rw [e] at h; simp at h
def MaxP (w : World) : Prop := ∃ m, w.cell? ⟨1, 0, none⟩ = some (.int .i64 m)
theorem MaxP.below {w w' : World} (h : MaxP w) (hb : Below w.heap.size w w') : MaxP w' := by
  obtain ⟨m, hm⟩ := h
  have hlt : 1 < w.heap.size := World.block_lt_of_cell? w _ hm
  exact ⟨m, (hb.cell (p := ⟨1, 0, none⟩) hlt).trans hm⟩
theorem l2Cut_any (s : ByteArray) (c : UInt8) (w0 : World) (hs : s.size ≤ 1099511627776) : Calls Tryz.prog 145 #[.string s, .int .u8 (c.toNat : Int)] w0 fun e w' => ∃ ao cp, e = .returned (.slice ao (piecesB s c).length cp) ∧ St w0 [rowA encS 1 9 (.slice ao (piecesB s c).length cp) (piecesB s c)] w' := by
 have HS := Bx.mk (St.start w0)
 refine wc_enter Tryz.func145 rfl Tryz.ntmps145 [(0, .string s), (1, .int .u8 (c.toNat : Int))] ⟨rfl, rfl, trivial⟩ rfl ?_
 refine xsr<|xr 1 rfl<|xne<|xsr ?_
 intro a HF
 refine yem 9 1 HF HS ?_;clear HF HS a;intro a w1 b1 HF HS
 revert a;refine xr 1 rfl<|xne<|xsr<|xr 1 rfl<|xne<|xsq<|xsr<|xr 1 rfl<|xne<|xbl ?_
 replace HS := Bx.mk (HS.out.nilRow encS 1 9 (some ⟨b1, 0, none⟩))
 intro a HF
 refine wc_loop (ι := Nat) (fun k a w => ∃ (ao : Option Addr) (cp : Nat) (xs : List ByteArray), (k ≤ s.size ∧ xs = (cutAt s c k).1) ∧ Fr 35 a [(0, .string s), (1, .int .u8 (c.toNat : Int)), (5, .slice ao xs.length cp), (6, .int .i64 ((cutAt s c k).2 : Int)), (7, .int .i64 (k : Int))] ∧ St w0 ([rowA encS 1 9 (.slice ao xs.length cp) xs]) w) (fun k => s.size - k) 0 ⟨_, _, [], ⟨Nat.zero_le _, rfl⟩, HF.less _ ⟨rfl, rfl, rfl, rfl, rfl, trivial⟩, HS.out⟩ ?_
 clear HF HS; clear a
 rintro k a w2 ⟨ao, cp, xs, ⟨hk, hq⟩, HF, HS⟩
 replace HS := Bx.mk HS
 have hfl := cutAt_le s c k; have hml := cutAt_many s c k; have hxl : xs.length = (cutAt s c k).1.length := by rw [hq]
 revert a;refine xsq<|xsr<|xr 2 rfl<|xy rfl (fun a HF=>yl_lenS rfl (HF.ev rfl) (by kernel_rfl))<|xr 1 rfl<|xne<|xcs 12 rfl (fun cc1=>?_) fun cc1=>?_
 have dcc1 := of_decide_eq_true cc1
 refine xct rfl<|xsk<|xet<|xsq<|xbl<|xsr<|xr 2 rfl<|xy rfl (fun a HF=>yl_indexS (i := k) rfl (HF.ev rfl) (HF.ev rfl) (by kernel_rfl) (by omega) (by omega))<|xr 2 rfl<|xne<|xcs 19 rfl (fun cc2=>?_) fun cc2=>?_
 have dcc2 := eq_of_beq cc2
 refine xct rfl<|xsr<|xr 4 rfl<|xy rfl (fun a HF=>yl_sliceSm (i := (cutAt s c k).2) (j := k) rfl (HF.ev rfl) (HF.ev rfl) (HF.ev rfl) (by kernel_rfl) (by omega) (by omega) (by omega) (by omega)) ?_
 intro a HF
 refine ybs encS 9 1 [s.extract ((cutAt s c k).2) k] HF HS ?_;clear HF HS a;intro b2 a w3 HF HS
 refine yap elemS encS_len HS 1 HF (St.rdN HS.out encS_len 0 rfl) (cells_one_S _) ?_;clear HF HS a;intro ao3 cp4 w4 a HF HS
 try dsimp only [List.eraseIdx] at HS
 revert a;refine xr 1 rfl<|xne<|xrl<|xr 1 rfl<|xy rfl (vad rfl)<|xr 1 rfl<|xni<|xeb<|xet<|xrl<|xr 1 rfl<|xy rfl (vad rfl)<|xr 1 rfl<|xne ?_
 have hst := cutAt_hit (s := s) (c := c) (k := k) (u8_eqI cc2)
 have hz : xs.length + [s.extract (cutAt s c k).2 k].length = (xs ++ [s.extract (cutAt s c k).2 k]).length := (List.length_append ..).symm
 intro a HF
 rw [hz] at HS HF
 have hnext : xs ++ [s.extract (cutAt s c k).2 k] = (cutAt s c (k + 1)).1 := by rw [hst, hq]
 replace HS : Bx (St w0 ([rowA encS 1 9 (.slice ao3 ((xs ++ [s.extract (cutAt s c k).2 k]).length) cp4) (xs ++ [s.extract (cutAt s c k).2 k]), rowA encS 1 9 (.slice (some ⟨b2, 0, none⟩) 1 1) ([s.extract ((cutAt s c k).2) k])]) _) := ⟨(HS.out).pick 1 rfl⟩
 exact ⟨k + 1, ⟨_, _, xs ++ [s.extract (cutAt s c k).2 k], ⟨by omega, hnext⟩, HF.less _ ⟨rfl, rfl, rfl, (by rw [hst]; rfl), rfl, trivial⟩, (HS.out.erase 1)⟩, (by omega)⟩
 have dcc2 := ne_of_beq_false cc2
 refine xcf rfl<|xsk<|xeb<|xet<|xrl<|xr 1 rfl<|xy rfl (vad rfl)<|xr 1 rfl<|xne ?_
 have hst := cutAt_miss (s := s) (c := c) (k := k) (u8_neI cc2)
 have hnext : xs = (cutAt s c (k + 1)).1 := by rw [hst, hq]
 intro a HF
 exact ⟨k + 1, ⟨_, _, xs, ⟨by omega, hnext⟩, HF.less _ ⟨rfl, rfl, rfl, (by rw [hst]; rfl), rfl, trivial⟩, HS.out⟩, (by omega)⟩
 have dcc1 := of_decide_eq_false cc1
 refine xcf rfl<|xex<|xtx<|xtx<|xbh<|xet<|xsr<|xr 3 rfl<|xy rfl (fun a HF=>yl_sliceSl (k := (cutAt s c k).2) rfl (HF.ev rfl) (HF.ev rfl) (by kernel_rfl) (by omega) (by omega)) ?_
 intro a HF
 refine ybs encS 9 1 [s.extract ((cutAt s c k).2) s.size] HF HS ?_;clear HF HS a;intro b5 a w5 HF HS
 refine yap elemS encS_len HS 1 HF (St.rdN HS.out encS_len 0 rfl) (cells_one_S _) ?_;clear HF HS a;intro ao6 cp7 w6 a HF HS
 try dsimp only [List.eraseIdx] at HS
 revert a;refine xr 1 rfl<|xne<|xre<|xb1 Tryz.results145 rfl ?_
 replace HS : Bx (St w0 ([rowA encS 1 9 (.slice ao6 (xs.length + ([s.extract ((cutAt s c k).2) s.size]).length) cp7) (xs ++ ([s.extract ((cutAt s c k).2) s.size])), rowA encS 1 9 (.slice (some ⟨b5, 0, none⟩) 1 1) ([s.extract ((cutAt s c k).2) s.size])]) _) := ⟨(HS.out).pick 1 rfl⟩
 obtain rfl : k = s.size := by omega
 have hcb : xs ++ [s.extract (cutAt s c s.size).2 s.size] = cutB s c := by rw [hq]; rfl
 have hz : xs.length + [s.extract (cutAt s c s.size).2 s.size].length = (cutB s c).length := by rw [← hcb, List.length_append]
 refine ⟨ao6, cp7, ?_, ?_⟩
 rw [hz, cutB_pieces]
 have HT2 := (HS.out.erase 1); rw [hz, hcb, cutB_pieces] at HT2; exact HT2
theorem max_of {w : World} (h : w.ShapedOpen Tryz.prog) : MaxP w := laySplit.s1_3 w h
theorem split_any (s : ByteArray) (c : UInt8) (w : World) (hs : s.size < 4294967281) (hM : MaxP w) : Calls Tryz.prog 164 #[.string s, .string ⟨#[c]⟩] w fun e w' => ∃ ao cp, e = .returned (.slice ao (piecesB s c).length cp) ∧ St w [rowA encS 1 9 (.slice ao (piecesB s c).length cp) (piecesB s c)] w' := by
  obtain ⟨m, hm⟩ := hM
  refine (Any.strings_Split { laySplit with } laySplit.i9 s ⟨#[c]⟩ m w hs hm (Nat.le_refl 1)).mono ?_
  rintro e w' ⟨rfl, rfl⟩
  have hl : Go.Lib.countB s ⟨#[c]⟩ + 1 = (piecesB s c).length := by rw [← splitB_pieces, Go.Lib.splitB_all ⟨#[c]⟩ (Nat.le_refl 1) 0 _ s rfl]
  rw [hl, splitB_pieces]
  refine ⟨_, _, rfl, ?_⟩
  have hm2 : (piecesB s c).length ≤ maxLen := by
    have h1 := pieces_len s c
    have h2 := List.count_le_length (a := c) (l := s.data.toList)
    have h3 := size_list s
    unfold maxLen; omega
  refine (St.start w).rowNew (enc := encS) (size := 1) (ys := piecesB s c) ((Below.refl _ _).alloc (Nat.le_refl _) _) (blk_new w _ _ rfl) (Nat.le_refl _) (by simp) (Nat.le_refl _) hm2 ?_
  rw [Nat.mul_one, List.take_of_length_le (by simp), List.map_eq_flatMap]; rfl
open Go.RowKit
section
variable {P : Program} {w : World} {o : Oper} {a : Act} {t t' : TypeId} {x y : Operand}
theorem yl_neNil (ho : o.op = .binOp .neq t x (.const .nilIface) t') (hu : P.underlying t = some (.interface (P.methodsAt t))) (hx : a.eval x = .nilIface) : Yl P w o a (.bool false) := by
  have hy : a.eval (.const .nilIface) = .nilIface := rfl
  simp [Yl, execOp, ho, hx, hy, eqGuard, binOp, run_equal_nil_nil w t hu]
theorem yl_neErr (ho : o.op = .binOp .neq t x (.const .nilIface) t') (hu : P.underlying t = some (.interface (P.methodsAt t))) {te : TypeId} {pe : Value} (hx : a.eval x = .iface te pe) : Yl P w o a (.bool true) := by
  have hy : a.eval (.const .nilIface) = .nilIface := rfl
  simp [Yl, execOp, ho, hx, hy, eqGuard, binOp, run_equal_held_nil w t te pe hu]
end
def ErrP (w : World) : Prop := ∃ te pe, w.cell? ⟨2, 0, none⟩ = some (.iface te pe)
theorem ErrP.below {w w' : World} (h : ErrP w) (hb : Below w.heap.size w w') : ErrP w' := by
  obtain ⟨te, pe, hm⟩ := h
  have hlt : 2 < w.heap.size := World.block_lt_of_cell? w _ hm
  exact ⟨te, pe, (hb.cell (p := ⟨2, 0, none⟩) hlt).trans hm⟩
theorem atoi_ways (s : ByteArray) (w : World) (hl : s.size ≤ 18) (hE : ErrP w) : Calls Tryz.prog 162 #[.string s] w fun e w' => (∃ n, Go.Lib.atoi s.data.toList = some n ∧ e = .returned (.tuple #[.int .i64 n, .nilIface]) ∧ Below w.heap.size w w') ∨ (∃ te pe, Go.Lib.atoi s.data.toList = none ∧ e = .returned (.tuple #[.int .i64 0, .iface te pe]) ∧ Below w.heap.size w w') := by
  cases h : Go.Lib.atoi s.data.toList with
  | some n =>
    refine (Any.strconv_Atoi layAtoi s n hl h w).mono ?_
    rintro e w' ⟨rfl, t, rfl⟩
    exact .inl ⟨n, rfl, rfl, Go.Lib.bytesWorld_below _ _ _⟩
  | none =>
    obtain ⟨te, pe, hv⟩ := hE
    refine (Any.strconv_Atoi_err layAtoiC s hl h (.iface te pe) w hv (.inr ⟨te, pe, rfl⟩)).mono ?_
    rintro e w' ⟨N, rfl, _, _, hb⟩
    exact .inr ⟨_, _, rfl, rfl, hb⟩
theorem digit_in {b : UInt8} (h1 : 48 ≤ (b.toNat : Int)) (h2 : (b.toNat : Int) ≤ 57) : Go.Lib.digitVal b = some (b.toNat - 48) := by unfold Go.Lib.digitVal; rw [if_pos (by omega)]
theorem digit_out {b : UInt8} (h : ¬ (48 ≤ (b.toNat : Int) ∧ (b.toNat : Int) ≤ 57)) : Go.Lib.digitVal b = none := by unfold Go.Lib.digitVal; rw [if_neg (by omega)]
theorem head_byte {s : ByteArray} (h : 0 < s.size) : (s.data.toList.head? = some 48) ↔ ((s.get! 0).toNat : Int) = 48 := by
  rw [List.head?_eq_getElem?, get_q h]
  constructor
  · intro e; rw [Option.some.inj e]; rfl
  · intro e; congr 1; exact UInt8.toNat_inj.1 (by show (s.get! 0).toNat = 48; omega)
theorem dec_pow {s : ByteArray} {k n : Nat} (hk : k ≤ s.size) (h9 : k ≤ 9) (h : Go.Lib.decFrom 0 (s.data.toList.take k) = some n) : n ≤ 999999999 := by
  have hz := size_list s
  have := decFrom_lt k _ n (by rw [List.length_take]; omega) h
  have : n < 10 ^ 9 := Nat.lt_of_lt_of_le this (Nat.pow_le_pow_right (by omega) h9)
  omega
theorem dec_at : ∀ (l : List UInt8) (acc n j : Nat), Go.Lib.decFrom acc l = some n → j < l.length → ∃ b d, l[j]? = some b ∧ Go.Lib.digitVal b = some d
  | b :: t, acc, n, j, h, hj => by
    have h : (match Go.Lib.digitVal b with | some d => Go.Lib.decFrom (acc * 10 + d) t | none => none) = some n := h
    cases h2 : Go.Lib.digitVal b with
    | none => rw [h2] at h; cases h
    | some d =>
      rw [h2] at h
      cases j with
      | zero => exact ⟨b, d, rfl, h2⟩
      | succ j => exact dec_at t _ n j h (by simpa using hj)
theorem dec_second {s : ByteArray} {k n : Nat} (h : Go.Lib.decFrom 0 (s.data.toList.take k) = some n) (hk : 1 < k ∧ k ≤ s.size) : ∃ d, Go.Lib.digitVal (s.get! 1) = some d := by
  have hz := size_list s
  obtain ⟨b, d, h1, h2⟩ := dec_at _ 0 n 1 h (by rw [List.length_take]; omega)
  rw [List.getElem?_take, if_pos (by omega), get_q (by omega)] at h1
  rw [Option.some.inj h1]; exact ⟨d, h2⟩
theorem l1Num_any (s : ByteArray) (w0 : World) (hs : s.size ≤ 1099511627776) : Calls Tryz.prog 144 #[.string s] w0 fun e w' => ∃ n k, l1S s n k ∧ n ≤ 999999999 ∧ e = .returned (.tuple #[.int .i64 (n : Int), .int .i64 (k : Int)]) ∧ Below w0.heap.size w0 w' := by
 have HS := Bx.mk (St.start w0)
 refine wc_enter Tryz.func144 rfl Tryz.ntmps144 [(0, .string s)] ⟨rfl, trivial⟩ rfl ?_
 refine xsr<|xr 2 rfl<|xne<|xsr<|xr 1 rfl<|xne<|xsr<|xr 1 rfl<|xne<|xsq<|xbl ?_
 intro a HF
 refine wc_loop (ι := Nat) (fun k a w => ∃ (n : Nat), (k ≤ s.size ∧ k ≤ 9 ∧ Go.Lib.decFrom 0 (s.data.toList.take k) = some n) ∧ Fr 45 a [(0, .string s), (4, .int .i64 (n : Int)), (5, .int .i64 (k : Int))] ∧ St w0 ([]) w) (fun k => 9 - k) 0 ⟨0, ⟨Nat.zero_le _, Nat.zero_le _, rfl⟩, HF.less _ ⟨rfl, rfl, rfl, trivial⟩, HS.out⟩ ?_
 clear HF HS; clear a
 rintro k a w1 ⟨n, ⟨hk, hk9, hd⟩, HF, HS⟩
 replace HS := Bx.mk HS
 have hn9 := dec_pow hk hk9 hd
 revert a;refine xsq<|xsr<|xr 2 rfl<|xy rfl (fun a HF=>yl_lenS rfl (HF.ev rfl) (by kernel_rfl))<|xr 2 rfl<|xcs 10 rfl (fun cc1=>?_) fun cc1=>?_
 have dcc1 := of_decide_eq_true cc1
 refine xr 4 rfl<|xcs 14 rfl (fun cc2=>?_) fun cc2=>?_
 have dcc2 := of_decide_eq_true cc2
 refine xr 2 rfl<|xy rfl (fun a HF=>yl_indexS (i := k) rfl (HF.ev rfl) (HF.ev rfl) (by kernel_rfl) (by omega) (by omega))<|xr 3 rfl<|xcs 20 rfl (fun cc3=>?_) fun cc3=>?_
 have dcc3 := of_decide_eq_true cc3
 refine xr 2 rfl<|xy rfl (fun a HF=>yl_indexS (i := k) rfl (HF.ev rfl) (HF.ev rfl) (by kernel_rfl) (by omega) (by omega))<|xr 2 rfl<|xne<|xcs 25 rfl (fun cc4=>?_) fun cc4=>?_
 have dcc4 := of_decide_eq_true cc4
 refine xct rfl<|xsk<|xet<|xbl<|xsr<|xr 1 rfl<|xy rfl (fun a HF=>yl_mulI rfl (HF.ev rfl) (HF.ev rfl) (i64w (by omega)))<|xr 2 rfl<|xy rfl (fun a HF=>yl_indexS (i := k) rfl (HF.ev rfl) (HF.ev rfl) (by kernel_rfl) (by omega) (by omega))<|xy rfl (fun a HF=>yl_subI (r := ((s.get! k).toNat : Int) - 48) rfl (HF.ev rfl) (HF.ev rfl) (IntWalk.u8_in _ (by omega)))<|xy rfl (fun a HF=>yl_convU8 (n := (((s.get! k).toNat : Int) - 48)) rfl (HF.ev rfl) (by omega) (by kernel_rfl) (by kernel_rfl))<|xy rfl (fun a HF=>yl_addI (r := ((n * 10 + ((s.get! k).toNat - 48) : Nat) : Int)) rfl (HF.ev rfl) (HF.ev rfl) ((i64w (by omega)).trans (by omega)))<|xr 1 rfl<|xne<|xrl<|xr 1 rfl<|xy rfl (vad rfl)<|xr 1 rfl<|xni<|xeb<|xet ?_
 have hdg := digit_in (b := s.get! k) (by omega) (by omega)
 have hd2 := Go.Lib.decFrom_take s.data.toList k 0 n _ _ hd (get_q (by omega)) hdg
 intro a HF
 exact ⟨k + 1, ⟨n * 10 + ((s.get! k).toNat - 48), ⟨by omega, by omega, hd2⟩, HF.less _ ⟨rfl, rfl, rfl, trivial⟩, HS.out⟩, (by omega)⟩
 have dcc4 := of_decide_eq_false cc4
 refine xcf rfl<|xex<|xtx<|xtx<|xbh<|xet<|xsq<|xsr<|xr 3 rfl<|xcs 38 rfl (fun cc5=>?_) fun cc5=>?_
 have dcc5 := of_decide_eq_true cc5
 refine xr 1 rfl<|xy rfl (fun a HF=>yl_indexS (i := 0) rfl (HF.ev rfl) (HF.ev rfl) (by kernel_rfl) (by omega) (by omega))<|xr 2 rfl<|xne<|xcs 42 rfl (fun cc6=>?_) fun cc6=>?_
 have dcc6 := eq_of_beq cc6
 refine xct rfl<|xsr<|xr 2 rfl<|xne<|xre<|xtr<|xb2 Tryz.results144 rfl rfl ?_
 have hfirst : s.data.toList.head? = some 48 := (head_byte (by omega)).2 (by omega)
 have h1k : Go.Lib.decFrom 0 (s.data.toList.take k) = some n := hd
 obtain ⟨d, hd1⟩ := dec_second hd (by omega)
 exact ⟨0, 1, .inr ⟨rfl, rfl, hfirst, s.get! 1, d, get_q (by omega), hd1⟩, by omega, rfl, HS.out.bel⟩
 have dcc6 := ne_of_beq_false cc6
 refine xcf rfl<|xsk<|xet<|xsr<|xr 4 rfl<|xne<|xre<|xb2 Tryz.results144 rfl rfl ?_
 exact ⟨n, k, .inl ⟨hk9, hk, hd, .inr (.inr ⟨s.get! k, get_q (by omega), digit_out (by omega)⟩), fun h => absurd ((head_byte (by omega)).1 h.2) (by omega)⟩, hn9, rfl, HS.out.bel⟩
 have dcc5 := of_decide_eq_false cc5
 refine xr 4 rfl<|xne<|xcf rfl<|xsk<|xet<|xsr<|xr 4 rfl<|xne<|xre<|xb2 Tryz.results144 rfl rfl ?_
 exact ⟨n, k, .inl ⟨hk9, hk, hd, .inr (.inr ⟨s.get! k, get_q (by omega), digit_out (by omega)⟩), fun h => absurd h.1 (by omega)⟩, hn9, rfl, HS.out.bel⟩
 have dcc3 := of_decide_eq_false cc3
 refine xr 5 rfl<|xne<|xcf rfl<|xex<|xtx<|xtx<|xbh<|xet<|xsq<|xsr<|xr 3 rfl<|xcs 38 rfl (fun cc7=>?_) fun cc7=>?_
 have dcc7 := of_decide_eq_true cc7
 refine xr 1 rfl<|xy rfl (fun a HF=>yl_indexS (i := 0) rfl (HF.ev rfl) (HF.ev rfl) (by kernel_rfl) (by omega) (by omega))<|xr 2 rfl<|xne<|xcs 42 rfl (fun cc8=>?_) fun cc8=>?_
 have dcc8 := eq_of_beq cc8
 refine xct rfl<|xsr<|xr 2 rfl<|xne<|xre<|xtr<|xb2 Tryz.results144 rfl rfl ?_
 have hfirst : s.data.toList.head? = some 48 := (head_byte (by omega)).2 (by omega)
 have h1k : Go.Lib.decFrom 0 (s.data.toList.take k) = some n := hd
 obtain ⟨d, hd1⟩ := dec_second hd (by omega)
 exact ⟨0, 1, .inr ⟨rfl, rfl, hfirst, s.get! 1, d, get_q (by omega), hd1⟩, by omega, rfl, HS.out.bel⟩
 have dcc8 := ne_of_beq_false cc8
 refine xcf rfl<|xsk<|xet<|xsr<|xr 4 rfl<|xne<|xre<|xb2 Tryz.results144 rfl rfl ?_
 exact ⟨n, k, .inl ⟨hk9, hk, hd, .inr (.inr ⟨s.get! k, get_q (by omega), digit_out (by omega)⟩), fun h => absurd ((head_byte (by omega)).1 h.2) (by omega)⟩, hn9, rfl, HS.out.bel⟩
 have dcc7 := of_decide_eq_false cc7
 refine xr 4 rfl<|xne<|xcf rfl<|xsk<|xet<|xsr<|xr 4 rfl<|xne<|xre<|xb2 Tryz.results144 rfl rfl ?_
 exact ⟨n, k, .inl ⟨hk9, hk, hd, .inr (.inr ⟨s.get! k, get_q (by omega), digit_out (by omega)⟩), fun h => absurd h.1 (by omega)⟩, hn9, rfl, HS.out.bel⟩
 have dcc2 := of_decide_eq_false cc2
 refine xr 11 rfl<|xne<|xcf rfl<|xex<|xtx<|xtx<|xbh<|xet<|xsq<|xsr<|xr 3 rfl<|xcs 38 rfl (fun cc9=>?_) fun cc9=>?_
 have dcc9 := of_decide_eq_true cc9
 refine xr 1 rfl<|xy rfl (fun a HF=>yl_indexS (i := 0) rfl (HF.ev rfl) (HF.ev rfl) (by kernel_rfl) (by omega) (by omega))<|xr 2 rfl<|xne<|xcs 42 rfl (fun cc10=>?_) fun cc10=>?_
 have dcc10 := eq_of_beq cc10
 refine xct rfl<|xsr<|xr 2 rfl<|xne<|xre<|xtr<|xb2 Tryz.results144 rfl rfl ?_
 have hfirst : s.data.toList.head? = some 48 := (head_byte (by omega)).2 (by omega)
 have h1k : Go.Lib.decFrom 0 (s.data.toList.take k) = some n := hd
 obtain ⟨d, hd1⟩ := dec_second hd (by omega)
 exact ⟨0, 1, .inr ⟨rfl, rfl, hfirst, s.get! 1, d, get_q (by omega), hd1⟩, by omega, rfl, HS.out.bel⟩
 have dcc10 := ne_of_beq_false cc10
 refine xcf rfl<|xsk<|xet<|xsr<|xr 4 rfl<|xne<|xre<|xb2 Tryz.results144 rfl rfl ?_
 exact ⟨n, k, .inl ⟨hk9, hk, hd, .inr (.inl (by omega)), fun h => absurd ((head_byte (by omega)).1 h.2) (by omega)⟩, hn9, rfl, HS.out.bel⟩
 have dcc9 := of_decide_eq_false cc9
 refine xr 4 rfl<|xne<|xcf rfl<|xsk<|xet<|xsr<|xr 4 rfl<|xne<|xre<|xb2 Tryz.results144 rfl rfl ?_
 exact ⟨n, k, .inl ⟨hk9, hk, hd, .inr (.inl (by omega)), fun h => absurd h.1 (by omega)⟩, hn9, rfl, HS.out.bel⟩
 have dcc1 := of_decide_eq_false cc1
 refine xr 15 rfl<|xne<|xcf rfl<|xex<|xtx<|xtx<|xbh<|xet<|xsq<|xsr<|xr 3 rfl<|xcs 38 rfl (fun cc11=>?_) fun cc11=>?_
 have dcc11 := of_decide_eq_true cc11
 refine xr 1 rfl<|xy rfl (fun a HF=>yl_indexS (i := 0) rfl (HF.ev rfl) (HF.ev rfl) (by kernel_rfl) (by omega) (by omega))<|xr 2 rfl<|xne<|xcs 42 rfl (fun cc12=>?_) fun cc12=>?_
 have dcc12 := eq_of_beq cc12
 refine xct rfl<|xsr<|xr 2 rfl<|xne<|xre<|xtr<|xb2 Tryz.results144 rfl rfl ?_
 have hfirst : s.data.toList.head? = some 48 := (head_byte (by omega)).2 (by omega)
 have h1k : Go.Lib.decFrom 0 (s.data.toList.take k) = some n := hd
 obtain ⟨d, hd1⟩ := dec_second hd (by omega)
 exact ⟨0, 1, .inr ⟨rfl, rfl, hfirst, s.get! 1, d, get_q (by omega), hd1⟩, by omega, rfl, HS.out.bel⟩
 have dcc12 := ne_of_beq_false cc12
 refine xcf rfl<|xsk<|xet<|xsr<|xr 4 rfl<|xne<|xre<|xb2 Tryz.results144 rfl rfl ?_
 exact ⟨n, k, .inl ⟨hk9, hk, hd, .inl (by omega), fun h => absurd ((head_byte (by omega)).1 h.2) (by omega)⟩, hn9, rfl, HS.out.bel⟩
 have dcc11 := of_decide_eq_false cc11
 refine xr 4 rfl<|xne<|xcf rfl<|xsk<|xet<|xsr<|xr 4 rfl<|xne<|xre<|xb2 Tryz.results144 rfl rfl ?_
 exact ⟨n, k, .inl ⟨hk9, hk, hd, .inl (by omega), fun h => absurd h.1 (by omega)⟩, hn9, rfl, HS.out.bel⟩
theorem specNumGet_any (s : ByteArray) (w0 : World) (hs : s.size ≤ 1099511627776) : Calls Tryz.prog 116 #[.string s] w0 fun e w' => ((∃ n : Nat, numG s = some n ∧ e = .returned (.tuple #[.int .i64 (n : Int), .bool true]) ∧ Below w0.heap.size w0 w') ∨ (numG s = none ∧ e = .returned (.tuple #[.int .i64 0, .bool false]) ∧ Below w0.heap.size w0 w')) := by
 have HS := Bx.mk (St.start w0)
 refine wc_enter Tryz.func116 rfl Tryz.ntmps116 [(0, .string s)] ⟨rfl, trivial⟩ rfl ?_
 refine xsr<|xr 2 rfl<|xne<|xsr<|xr 1 rfl ?_
 intro a HF
 refine yc (l1Num_any s _ (by omega)) HF Tryz.func144 ?_
 rintro _ w1 ⟨n, k, hl1, hn9, rfl, hb⟩
 refine ⟨_, rfl, ?_⟩; replace HS := Bx.mk (HS.out.later hb);clear hb HF a
 refine xr 5 rfl<|xne<|xsq<|xsr<|xr 3 rfl<|xcs 13 rfl (fun cc1=>?_) fun cc1=>?_
 have dcc1 := eq_of_beq cc1
 refine xr 5 rfl<|xne<|xct rfl<|xsr<|xr 2 rfl<|xne<|xre<|xtr<|xb2 Tryz.results116 rfl rfl ?_
 exact .inr ⟨l1S_no hl1 (by omega), rfl, HS.out.bel⟩
 have dcc1 := ne_of_beq_false cc1
 refine xr 2 rfl<|xy rfl (fun a HF=>yl_lenS rfl (HF.ev rfl) (by kernel_rfl))<|xr 2 rfl<|xne<|xcs 18 rfl (fun cc2=>?_) fun cc2=>?_
 have dcc2 := bne_iff_ne.1 cc2
 refine xct rfl<|xsr<|xr 2 rfl<|xne<|xre<|xtr<|xb2 Tryz.results116 rfl rfl ?_
 exact .inr ⟨l1S_no hl1 (by omega), rfl, HS.out.bel⟩
 have dcc2 := bne_eq_false_iff_eq.1 cc2
 refine xcf rfl<|xsk<|xet<|xsr<|xr 3 rfl<|xne<|xre<|xb2 Tryz.results116 rfl rfl ?_
 exact .inl ⟨n, l1S_yes hl1 (by omega) (by omega), rfl, HS.out.bel⟩
theorem implNumGet_any (s : ByteArray) (w0 : World) (hT : TabP w0) (hE : ErrP w0) : Calls Tryz.prog 147 #[.string s] w0 fun e w' => ((∃ n : Nat, numG s = some n ∧ e = .returned (.tuple #[.int .i64 (n : Int), .bool true]) ∧ Below w0.heap.size w0 w') ∨ (numG s = none ∧ e = .returned (.tuple #[.int .i64 0, .bool false]) ∧ Below w0.heap.size w0 w')) := by
 have HT := Bx.mk hT; clear hT
 have HE := Bx.mk hE; clear hE
 have HS := Bx.mk (St.start w0)
 refine wc_enter Tryz.func147 rfl Tryz.ntmps147 [(0, .string s)] ⟨rfl, trivial⟩ rfl ?_
 refine xsr<|xr 2 rfl<|xne<|xsq<|xsr<|xr 1 rfl<|xy rfl (fun a HF=>yl_lenS rfl (HF.ev rfl) (by kernel_rfl))<|xr 1 rfl<|xne<|xcs 8 rfl (fun cc1=>?_) fun cc1=>?_
 have dcc1 := of_decide_eq_true cc1
 refine xct rfl<|xsr<|xr 2 rfl<|xne<|xre<|xtr<|xb2 Tryz.results147 rfl rfl ?_
 exact .inr ⟨numG_no fun m hm e => by have := decB_9 hm; rw [← e] at this; omega, rfl, HS.out.bel⟩
 have dcc1 := of_decide_eq_false cc1
 refine xcf rfl<|xsk<|xet<|xsr<|xr 1 rfl ?_
 intro a HF
 refine yc (atoi_ways s _ (by omega) (HE.out.below HS.out.bel)) HF Tryz.func162 ?_
 rintro _ w1 (⟨n, hat, rfl, hb⟩ | ⟨te, pe, hat, rfl, hb⟩)
 refine ⟨_, rfl, ?_⟩; replace HS := Bx.mk (HS.out.later hb);clear hb HF a
 refine xr 5 rfl<|xne<|xsq<|xsr<|xr 1 rfl<|xy rfl (fun a HF=>yl_neNil rfl (by kernel_rfl) (HF.ev rfl))<|xr 2 rfl ?_
 intro a HF
 refine ycBg (numPutI_any n _ (HT.out.below HS.out.bel)) HF Tryz.func105 HS ?_; clear HF HS a; intro w2 a HS HF
 revert a;refine xr 1 rfl<|xy rfl (fun a HF=>yl_neqS rfl (HF.ev rfl) (HF.ev rfl))<|xr 1 rfl<|xne<|xcs 21 rfl (fun cc2=>?_) fun cc2=>?_
 refine xct rfl<|xsr<|xr 2 rfl<|xne<|xre<|xtr<|xb2 Tryz.results147 rfl rfl ?_
 exact .inr ⟨numG_no fun m hm e => by rw [e, atoi_dec] at hat; obtain rfl := Option.some.inj hat; rw [numB_in (by omega) (by omega), Int.toNat_natCast, ← e] at cc2; simp at cc2, rfl, HS.out.bel⟩
 refine xcf rfl<|xsk<|xet<|xsr<|xr 3 rfl<|xne<|xre<|xb2 Tryz.results147 rfl rfl ?_
 obtain ⟨m, rfl, hg⟩ := numG_yes hat (bytes_toList (by simpa using cc2))
 exact .inl ⟨m, hg, rfl, HS.out.bel⟩
 refine ⟨_, rfl, ?_⟩; replace HS := Bx.mk (HS.out.later hb);clear hb HF a
 refine xr 5 rfl<|xne<|xsq<|xsr<|xr 1 rfl<|xy rfl (fun a HF=>yl_neErr rfl (by kernel_rfl) (HF.ev rfl))<|xr 6 rfl<|xne<|xct rfl<|xsr<|xr 2 rfl<|xne<|xre<|xtr<|xb2 Tryz.results147 rfl rfl ?_
 exact .inr ⟨numG_no fun m hm e => by rw [e, atoi_dec] at hat; exact absurd hat (by simp), rfl, HS.out.bel⟩
open Go.RowKit
theorem mapTake_succ {α β : Type} (f : α → β) (ys : List α) (d : α) {k : Nat} (h : k < ys.length) : (ys.take k).map f ++ [f (ys.getD k d)] = (ys.take (k + 1)).map f := by
  rw [List.take_add_one, List.getElem?_eq_getElem h, List.map_append]; simp [List.getD, h]
structure TreeD where
  fRoot : PtrD
  fDepth : Int
  fMany : Int
abbrev tL (t : TreeD) : List Value := [.int .i64 t.fRoot.fAt, .int .i64 t.fRoot.fBirth, .int .i64 t.fRoot.fSize, .int .i64 t.fRoot.fSum, .int .i64 t.fRoot.fLevel, .int .i64 t.fDepth, .int .i64 t.fMany]
abbrev tV (t : TreeD) : Value := .agg #[.int .i64 t.fRoot.fAt, .int .i64 t.fRoot.fBirth, .int .i64 t.fRoot.fSize, .int .i64 t.fRoot.fSum, .int .i64 t.fRoot.fLevel, .int .i64 t.fDepth, .int .i64 t.fMany]
def TreeD.cells (t : TreeD) : List Value := t.fRoot.cells ++ [.int .i64 t.fDepth, .int .i64 t.fMany]
structure RootD where
  fTxg : Int
  fMeta : TreeD
abbrev rV (x : RootD) : Value := .agg #[.int .i64 x.fTxg, .int .i64 x.fMeta.fRoot.fAt, .int .i64 x.fMeta.fRoot.fBirth, .int .i64 x.fMeta.fRoot.fSize, .int .i64 x.fMeta.fRoot.fSum, .int .i64 x.fMeta.fRoot.fLevel, .int .i64 x.fMeta.fDepth, .int .i64 x.fMeta.fMany]
abbrev rZ : Value := .agg #[.int .i64 0, .int .i64 0, .int .i64 0, .int .i64 0, .int .i64 0, .int .i64 0, .int .i64 0, .int .i64 0]
def RootD.cells (x : RootD) : List Value := .int .i64 x.fTxg :: x.fMeta.cells
def treeB (t : TreeD) : List ByteArray := [ptrB t.fRoot, numB t.fDepth, numB t.fMany]
theorem numbers_any (a0 : Option Addr) (n c0 : Nat) (ys : List Int) (w0 : World) (hT : TabP w0) (hl : ys.length ≤ 1000) (hR : Rd encI 1 w0 a0 n ys) : Calls Tryz.prog 73 #[.slice a0 n c0] w0 fun e w' => ∃ ao cp, e = .returned (.slice ao ys.length cp) ∧ St w0 [rowA encS 1 9 (.slice ao ys.length cp) (ys.map numB)] w' := by
 obtain rfl := hR.len
 obtain ⟨g0, o0, r0⟩ := hR.opn; have R0 := Bx.mk r0; clear r0 hR
 have HT := Bx.mk hT; clear hT
 have HS := Bx.mk (St.start w0)
 refine wc_enter Tryz.func73 rfl Tryz.ntmps73 [(0, .slice a0 ys.length c0)] ⟨rfl, trivial⟩ rfl ?_
 refine xsr<|xr 1 rfl<|xne<|xsr<|xr 1 rfl<|xne<|xsq<|xsr<|xr 1 rfl<|xy rfl (vn 3 1 rfl)<|xr 1 rfl<|xne<|xbl ?_
 replace HS := Bx.mk (HS.out.nilRow encS 1 9 none)
 intro a HF
 refine wc_loop (ι := Nat) (fun k a w => ∃ (ao : Option Addr) (cp : Nat) (xs : List ByteArray), (k ≤ ys.length ∧ xs = (ys.take k).map numB) ∧ Fr 19 a [(6, .slice a0 ys.length c0), (7, .int .i64 (ys.length : Int)), (3, .slice ao xs.length cp), (8, .int .i64 (k : Int))] ∧ St w0 ([rowA encS 1 9 (.slice ao xs.length cp) xs]) w) (fun k => ys.length - k) 0 ⟨_, _, [], ⟨Nat.zero_le _, rfl⟩, HF.less _ ⟨rfl, rfl, rfl, rfl, trivial⟩, HS.out⟩ ?_
 clear HF HS; clear a
 rintro k a w1 ⟨ao, cp, xs, ⟨hk, hq⟩, HF, HS⟩
 replace HS := Bx.mk HS
 have hxl : xs.length = k := by rw [hq]; simp; omega
 revert a;refine xsr<|xr 1 rfl<|xne<|xsq<|xcs 9 rfl (fun cc1=>?_) fun cc1=>?_
 have dcc1 := of_decide_eq_true cc1
 refine xct rfl<|xsk<|xet<|xsq<|xbl<|xsr<|xy rfl (vxr 3 k 1 rfl (R0.out.ao k (by omega)))<|xy rfl (fun a HF=>ylo (v := .int .i64 (ys.getD k 0)) rfl (HF.ev rfl) (R0.out.elem1 HS.out (get_getD (xs := ys) (j := k) (d := 0) (by omega)) rfl))<|xr 1 rfl<|xne<|xrl<|xr 2 rfl ?_
 intro a HF
 refine ycB (numPutI_any (ys.getD k 0) _ (HT.out.below HS.out.bel)) HF Tryz.func105 HS ?_; clear HF HS a; intro w2 a HS HF
 refine ybs encS 9 1 [numB (ys.getD k 0)] HF HS ?_;clear HF HS a;intro b1 a w3 HF HS
 refine yap elemS encS_len HS 1 HF (St.rdN HS.out encS_len 0 rfl) (cells_one_S _) ?_;clear HF HS a;intro ao2 cp3 w4 a HF HS
 try dsimp only [List.eraseIdx] at HS
 revert a;refine xr 1 rfl<|xni<|xeb<|xet<|xrl<|xy rfl (vad rfl)<|xr 1 rfl<|xne ?_
 have hz : xs.length + ([numB (ys.getD k 0)]).length = (xs ++ ([numB (ys.getD k 0)])).length := (List.length_append ..).symm
 intro a HF
 rw [hz] at HS HF
 have hnext : xs ++ ([numB (ys.getD k 0)]) = (ys.take (k + 1)).map numB := by rw [hq]; exact mapTake_succ numB ys 0 (by omega)
 replace HS:=Bx.mk (HS.out.pick 1 rfl)
 exact ⟨k + 1, ⟨_, _, xs ++ ([numB (ys.getD k 0)]), ⟨by omega, hnext⟩, HF.less _ ⟨rfl, rfl, rfl, rfl, trivial⟩, (HS.out.erase 1)⟩, (by omega)⟩
 have dcc1 := of_decide_eq_false cc1
 refine xcf rfl<|xex<|xtx<|xtx<|xbh<|xet<|xsr<|xr 2 rfl<|xne<|xre<|xb1 Tryz.results73 rfl ?_
 replace HS:=Bx.mk (HS.out.pick 0 rfl)
 obtain rfl : k = ys.length := by omega
 rw [List.take_length] at hq; subst hq
 exact ⟨_, _, by rw [List.length_map], by rw [← List.length_map (f := numB)]; exact HS.out⟩
theorem treeFields_any (t : TreeD) (w0 : World) (hT : TabP w0) : Calls Tryz.prog 74 #[tV t] w0 fun e w' => ∃ ao cp, e = .returned (.slice ao 3 cp) ∧ St w0 [rowA encS 1 9 (.slice ao 3 cp) (treeB t)] w' := by
 have HT := Bx.mk hT; clear hT
 have HS := Bx.mk (St.start w0)
 refine wc_enter Tryz.func74 rfl Tryz.ntmps74 [(0, tV t)] ⟨rfl, trivial⟩ rfl ?_
 refine xsr ?_
 intro a HF
 refine ybx HF HS ?_;clear HF HS a;intro a w1 b1 HF HS
 revert a;refine xr 1 rfl<|xne<|xsq ?_
 intro a HF
 refine wr_heldS (s := [boxA b1 7 37 (tV t)]) (by kernel_rfl) (St.drew (HS.out)) ?_
 have HS2 := Bx.mk HS.out.drew; replace HS := Bx.mk (show St w0 ([boxA b1 7 37 (tV t)]) _ from HS.out.drew)
 generalize World.drew _ = w2 at HS HS2 ⊢
 revert a;refine xhy 0 HS.out rfl rfl (fun HS=>vf 0 rfl)<|xhy 1 HS.out rfl rfl (fun HS=>vw HS 0 5 rfl rfl)<|xhy 4 HS.out rfl rfl (fun HS=>vf 5 rfl)<|xhy 5 HS.out rfl rfl (fun HS=>vc HS 0 rfl rfl)<|xhy 6 HS.out rfl rfl (fun HS=>vf 6 rfl)<|xhy 7 HS.out rfl rfl (fun HS=>vc HS 0 rfl rfl) ?_
 intro a HF
 refine wh_two 2 8 (by kernel_rfl) ?_ ?_
 refine yoB (ptrPutI_any t.fRoot _ (HT.out.below HS2.out.bel)) HF Tryz.func106 ?_
 intro w3 hb; replace HS := Bx.mk (HS.out.later hb); replace HS2 := Bx.mk (HS2.out.later hb);clear hb HF a;intro a HF; refine ⟨HS.out, ?_⟩
 refine wh_two 3 8 (by kernel_rfl) ?_ ?_
 refine wo_buildS (enc := encS) (e := 9) (size := 1) rfl rfl HF rfl rfl rfl (ps := [(0, .string (ptrB t.fRoot))]) rfl (cells := [.string (ptrB t.fRoot)]) (by kernel_rfl) [ptrB t.fRoot] rfl rfl (by unfold maxLen; omega) rfl HS2.out HS.out ?_; clear HF HS HS2 a; intro b2 a w5 HF HS2 HS; replace HS := Bx.mk HS; replace HS2 := Bx.mk HS2; refine ⟨HS.out, ?_⟩
 refine wh_one 8 (by kernel_rfl) ?_
 refine wo_buildS (enc := encI) (e := 3) (size := 1) rfl rfl HF rfl rfl rfl (ps := [(0, .int .i64 t.fDepth), (1, .int .i64 t.fMany)]) rfl (cells := [.int .i64 t.fDepth, .int .i64 t.fMany]) (by kernel_rfl) [t.fDepth, t.fMany] rfl rfl (by unfold maxLen; omega) rfl HS2.out HS.out ?_; clear HF HS HS2 a; intro b3 a w7 HF HS2 HS; replace HS := Bx.mk HS; replace HS2 := Bx.mk HS2; refine ⟨HS.out, ?_⟩
 refine wh_one 9 (by kernel_rfl) ?_
 refine yo (numbers_any _ _ _ ([t.fDepth, t.fMany]) _ (HT.out.below HS2.out.bel) (by simp) (St.rdN HS2.out encI_len 0 rfl)) HF Tryz.func73 ?_
 rintro _ w9 ⟨ao4, cp4, rfl, hs⟩
 refine ⟨_, rfl, ?_⟩
 replace HS := Bx.mk (HS.out.later hs.bel); replace HS2 := Bx.mk (HS2.out.add hs);clear hs HF a;intro a HF
 replace HS2 : Bx (St w0 ([rowA encS 1 9 (.slice ao4 (([t.fDepth, t.fMany]).length) cp4) (([t.fDepth, t.fMany]).map numB), rowA encI 1 3 (.slice (some ⟨b3, 0, none⟩) 2 2) ([t.fDepth, t.fMany]), rowA encS 1 9 (.slice (some ⟨b2, 0, none⟩) 1 1) ([ptrB t.fRoot]), boxA b1 7 37 (tV t)]) _) := ⟨HS2.out⟩
 refine ⟨HS.out, ?_⟩
 refine wh_one 10 (by kernel_rfl) ?_
 refine wo_appL rfl rfl HF rfl rfl rfl (HF.ev rfl) (HF.ev rfl) elemS encS_len HS2.out 2 (xs := [ptrB t.fRoot]) rfl (ys := ([t.fDepth, t.fMany]).map numB) (St.rdN HS2.out encS_len 0 rfl) (cells_one_S _) (by unfold maxLen; (try simp only [List.length_append, List.length_cons, List.length_nil, List.nil_append, List.length_map]); omega) (by (try simp only [List.length_append, List.length_cons, List.length_nil, List.nil_append, List.length_map]); omega) ?_; clear HF HS HS2 a; intro ao5 cp6 w11 a HF HS2; replace HS2 := Bx.mk HS2
 replace HS2 : Bx (St w0 ([rowA encS 1 9 (.slice ao4 (([t.fDepth, t.fMany]).length) cp4) (([t.fDepth, t.fMany]).map numB), rowA encI 1 3 (.slice (some ⟨b3, 0, none⟩) 2 2) ([t.fDepth, t.fMany]), rowA encS 1 9 (.slice ao5 (([ptrB t.fRoot]).length + (([t.fDepth, t.fMany]).map numB).length) cp6) (([ptrB t.fRoot]) ++ (([t.fDepth, t.fMany]).map numB)), boxA b1 7 37 (tV t)]) _) := ⟨HS2.out⟩
 have HS:=Bx.mk ((((HS2.out.erase 2).erase 1).erase 0));refine ⟨HS.out,?_⟩
 revert a;refine xh 11 HS.out rfl rfl rfl ?_
 intro a HF
 refine wh_done (by kernel_rfl) ?_
 replace HS := HS2; clear HS2
 revert a;refine xet<|xre<|xb1 Tryz.results74 rfl ?_
 replace HS:=Bx.mk (HS.out.pick 2 rfl)
 exact ⟨_, _, rfl, (((HS.out.erase 3).erase 2).erase 1)⟩
 refine wo_buildS (enc := encI) (e := 3) (size := 1) rfl rfl HF rfl rfl rfl (ps := [(0, .int .i64 t.fDepth), (1, .int .i64 t.fMany)]) rfl (cells := [.int .i64 t.fDepth, .int .i64 t.fMany]) (by kernel_rfl) [t.fDepth, t.fMany] rfl rfl (by unfold maxLen; omega) rfl HS2.out HS.out ?_; clear HF HS HS2 a; intro b7 a w13 HF HS2 HS; replace HS := Bx.mk HS; replace HS2 := Bx.mk HS2; refine ⟨HS.out, ?_⟩
 refine wh_two 3 9 (by kernel_rfl) ?_ ?_
 refine wo_buildS (enc := encS) (e := 9) (size := 1) rfl rfl HF rfl rfl rfl (ps := [(0, .string (ptrB t.fRoot))]) rfl (cells := [.string (ptrB t.fRoot)]) (by kernel_rfl) [ptrB t.fRoot] rfl rfl (by unfold maxLen; omega) rfl HS2.out HS.out ?_; clear HF HS HS2 a; intro b8 a w15 HF HS2 HS; replace HS := Bx.mk HS; replace HS2 := Bx.mk HS2; refine ⟨HS.out, ?_⟩
 refine wh_one 9 (by kernel_rfl) ?_
 refine yo (numbers_any _ _ _ ([t.fDepth, t.fMany]) _ (HT.out.below HS2.out.bel) (by simp) (St.rdN HS2.out encI_len 1 rfl)) HF Tryz.func73 ?_
 rintro _ w17 ⟨ao9, cp9, rfl, hs⟩
 refine ⟨_, rfl, ?_⟩
 replace HS := Bx.mk (HS.out.later hs.bel); replace HS2 := Bx.mk (HS2.out.add hs);clear hs HF a;intro a HF
 replace HS2 : Bx (St w0 ([rowA encS 1 9 (.slice ao9 (([t.fDepth, t.fMany]).length) cp9) (([t.fDepth, t.fMany]).map numB), rowA encS 1 9 (.slice (some ⟨b8, 0, none⟩) 1 1) ([ptrB t.fRoot]), rowA encI 1 3 (.slice (some ⟨b7, 0, none⟩) 2 2) ([t.fDepth, t.fMany]), boxA b1 7 37 (tV t)]) _) := ⟨HS2.out⟩
 refine ⟨HS.out, ?_⟩
 refine wh_one 10 (by kernel_rfl) ?_
 refine wo_appL rfl rfl HF rfl rfl rfl (HF.ev rfl) (HF.ev rfl) elemS encS_len HS2.out 1 (xs := [ptrB t.fRoot]) rfl (ys := ([t.fDepth, t.fMany]).map numB) (St.rdN HS2.out encS_len 0 rfl) (cells_one_S _) (by unfold maxLen; (try simp only [List.length_append, List.length_cons, List.length_nil, List.nil_append, List.length_map]); omega) (by (try simp only [List.length_append, List.length_cons, List.length_nil, List.nil_append, List.length_map]); omega) ?_; clear HF HS HS2 a; intro ao10 cp11 w19 a HF HS2; replace HS2 := Bx.mk HS2
 replace HS2 : Bx (St w0 ([rowA encS 1 9 (.slice ao9 (([t.fDepth, t.fMany]).length) cp9) (([t.fDepth, t.fMany]).map numB), rowA encS 1 9 (.slice ao10 (([ptrB t.fRoot]).length + (([t.fDepth, t.fMany]).map numB).length) cp11) (([ptrB t.fRoot]) ++ (([t.fDepth, t.fMany]).map numB)), rowA encI 1 3 (.slice (some ⟨b7, 0, none⟩) 2 2) ([t.fDepth, t.fMany]), boxA b1 7 37 (tV t)]) _) := ⟨HS2.out⟩
 have HS:=Bx.mk ((((HS2.out.erase 2).erase 1).erase 0));refine ⟨HS.out,?_⟩
 revert a;refine xh 11 HS.out rfl rfl rfl ?_
 intro a HF
 refine wh_done (by kernel_rfl) ?_
 replace HS := HS2; clear HS2
 revert a;refine xet<|xre<|xb1 Tryz.results74 rfl ?_
 replace HS:=Bx.mk (HS.out.pick 1 rfl)
 exact ⟨_, _, rfl, (((HS.out.erase 3).erase 2).erase 1)⟩
 refine yo (numbers_any _ _ _ ([t.fDepth, t.fMany]) _ (HT.out.below HS2.out.bel) (by simp) (St.rdN HS2.out encI_len 0 rfl)) HF Tryz.func73 ?_
 rintro _ w21 ⟨ao12, cp12, rfl, hs⟩
 refine ⟨_, rfl, ?_⟩
 replace HS := Bx.mk (HS.out.later hs.bel); replace HS2 := Bx.mk (HS2.out.add hs);clear hs HF a;intro a HF
 replace HS2 : Bx (St w0 ([rowA encS 1 9 (.slice ao12 (([t.fDepth, t.fMany]).length) cp12) (([t.fDepth, t.fMany]).map numB), rowA encI 1 3 (.slice (some ⟨b7, 0, none⟩) 2 2) ([t.fDepth, t.fMany]), boxA b1 7 37 (tV t)]) _) := ⟨HS2.out⟩
 refine ⟨HS.out, ?_⟩
 refine wh_one 3 (by kernel_rfl) ?_
 refine wo_buildS (enc := encS) (e := 9) (size := 1) rfl rfl HF rfl rfl rfl (ps := [(0, .string (ptrB t.fRoot))]) rfl (cells := [.string (ptrB t.fRoot)]) (by kernel_rfl) [ptrB t.fRoot] rfl rfl (by unfold maxLen; omega) rfl HS2.out HS.out ?_; clear HF HS HS2 a; intro b13 a w23 HF HS2 HS; replace HS := Bx.mk HS; replace HS2 := Bx.mk HS2; refine ⟨HS.out, ?_⟩
 refine wh_one 10 (by kernel_rfl) ?_
 refine wo_appL rfl rfl HF rfl rfl rfl (HF.ev rfl) (HF.ev rfl) elemS encS_len HS2.out 0 (xs := [ptrB t.fRoot]) rfl (ys := ([t.fDepth, t.fMany]).map numB) (St.rdN HS2.out encS_len 1 rfl) (cells_one_S _) (by unfold maxLen; (try simp only [List.length_append, List.length_cons, List.length_nil, List.nil_append, List.length_map]); omega) (by (try simp only [List.length_append, List.length_cons, List.length_nil, List.nil_append, List.length_map]); omega) ?_; clear HF HS HS2 a; intro ao14 cp15 w25 a HF HS2; replace HS2 := Bx.mk HS2
 replace HS2 : Bx (St w0 ([rowA encS 1 9 (.slice ao14 (([ptrB t.fRoot]).length + (([t.fDepth, t.fMany]).map numB).length) cp15) (([ptrB t.fRoot]) ++ (([t.fDepth, t.fMany]).map numB)), rowA encS 1 9 (.slice ao12 (([t.fDepth, t.fMany]).length) cp12) (([t.fDepth, t.fMany]).map numB), rowA encI 1 3 (.slice (some ⟨b7, 0, none⟩) 2 2) ([t.fDepth, t.fMany]), boxA b1 7 37 (tV t)]) _) := ⟨HS2.out⟩
 have HS:=Bx.mk ((((HS2.out.erase 2).erase 1).erase 0));refine ⟨HS.out,?_⟩
 revert a;refine xh 11 HS.out rfl rfl rfl ?_
 intro a HF
 refine wh_done (by kernel_rfl) ?_
 replace HS := HS2; clear HS2
 revert a;refine xet<|xre<|xb1 Tryz.results74 rfl ?_
 replace HS:=Bx.mk (HS.out.pick 0 rfl)
 exact ⟨_, _, rfl, (((HS.out.erase 3).erase 2).erase 1)⟩
 refine wo_buildS (enc := encI) (e := 3) (size := 1) rfl rfl HF rfl rfl rfl (ps := [(0, .int .i64 t.fDepth), (1, .int .i64 t.fMany)]) rfl (cells := [.int .i64 t.fDepth, .int .i64 t.fMany]) (by kernel_rfl) [t.fDepth, t.fMany] rfl rfl (by unfold maxLen; omega) rfl HS2.out HS.out ?_; clear HF HS HS2 a; intro b16 a w27 HF HS2 HS; replace HS := Bx.mk HS; replace HS2 := Bx.mk HS2; refine ⟨HS.out, ?_⟩
 refine wh_one 2 (by kernel_rfl) ?_
 refine yoB (ptrPutI_any t.fRoot _ (HT.out.below HS2.out.bel)) HF Tryz.func106 ?_
 intro w28 hb; replace HS := Bx.mk (HS.out.later hb); replace HS2 := Bx.mk (HS2.out.later hb);clear hb HF a;intro a HF; refine ⟨HS.out, ?_⟩
 refine wh_two 3 9 (by kernel_rfl) ?_ ?_
 refine wo_buildS (enc := encS) (e := 9) (size := 1) rfl rfl HF rfl rfl rfl (ps := [(0, .string (ptrB t.fRoot))]) rfl (cells := [.string (ptrB t.fRoot)]) (by kernel_rfl) [ptrB t.fRoot] rfl rfl (by unfold maxLen; omega) rfl HS2.out HS.out ?_; clear HF HS HS2 a; intro b17 a w30 HF HS2 HS; replace HS := Bx.mk HS; replace HS2 := Bx.mk HS2; refine ⟨HS.out, ?_⟩
 refine wh_one 9 (by kernel_rfl) ?_
 refine yo (numbers_any _ _ _ ([t.fDepth, t.fMany]) _ (HT.out.below HS2.out.bel) (by simp) (St.rdN HS2.out encI_len 1 rfl)) HF Tryz.func73 ?_
 rintro _ w32 ⟨ao18, cp18, rfl, hs⟩
 refine ⟨_, rfl, ?_⟩
 replace HS := Bx.mk (HS.out.later hs.bel); replace HS2 := Bx.mk (HS2.out.add hs);clear hs HF a;intro a HF
 replace HS2 : Bx (St w0 ([rowA encS 1 9 (.slice ao18 (([t.fDepth, t.fMany]).length) cp18) (([t.fDepth, t.fMany]).map numB), rowA encS 1 9 (.slice (some ⟨b17, 0, none⟩) 1 1) ([ptrB t.fRoot]), rowA encI 1 3 (.slice (some ⟨b16, 0, none⟩) 2 2) ([t.fDepth, t.fMany]), boxA b1 7 37 (tV t)]) _) := ⟨HS2.out⟩
 refine ⟨HS.out, ?_⟩
 refine wh_one 10 (by kernel_rfl) ?_
 refine wo_appL rfl rfl HF rfl rfl rfl (HF.ev rfl) (HF.ev rfl) elemS encS_len HS2.out 1 (xs := [ptrB t.fRoot]) rfl (ys := ([t.fDepth, t.fMany]).map numB) (St.rdN HS2.out encS_len 0 rfl) (cells_one_S _) (by unfold maxLen; (try simp only [List.length_append, List.length_cons, List.length_nil, List.nil_append, List.length_map]); omega) (by (try simp only [List.length_append, List.length_cons, List.length_nil, List.nil_append, List.length_map]); omega) ?_; clear HF HS HS2 a; intro ao19 cp20 w34 a HF HS2; replace HS2 := Bx.mk HS2
 replace HS2 : Bx (St w0 ([rowA encS 1 9 (.slice ao18 (([t.fDepth, t.fMany]).length) cp18) (([t.fDepth, t.fMany]).map numB), rowA encS 1 9 (.slice ao19 (([ptrB t.fRoot]).length + (([t.fDepth, t.fMany]).map numB).length) cp20) (([ptrB t.fRoot]) ++ (([t.fDepth, t.fMany]).map numB)), rowA encI 1 3 (.slice (some ⟨b16, 0, none⟩) 2 2) ([t.fDepth, t.fMany]), boxA b1 7 37 (tV t)]) _) := ⟨HS2.out⟩
 have HS:=Bx.mk ((((HS2.out.erase 2).erase 1).erase 0));refine ⟨HS.out,?_⟩
 revert a;refine xh 11 HS.out rfl rfl rfl ?_
 intro a HF
 refine wh_done (by kernel_rfl) ?_
 replace HS := HS2; clear HS2
 revert a;refine xet<|xre<|xb1 Tryz.results74 rfl ?_
 replace HS:=Bx.mk (HS.out.pick 1 rfl)
 exact ⟨_, _, rfl, (((HS.out.erase 3).erase 2).erase 1)⟩
 refine yo (numbers_any _ _ _ ([t.fDepth, t.fMany]) _ (HT.out.below HS2.out.bel) (by simp) (St.rdN HS2.out encI_len 0 rfl)) HF Tryz.func73 ?_
 rintro _ w36 ⟨ao21, cp21, rfl, hs⟩
 refine ⟨_, rfl, ?_⟩
 replace HS := Bx.mk (HS.out.later hs.bel); replace HS2 := Bx.mk (HS2.out.add hs);clear hs HF a;intro a HF
 replace HS2 : Bx (St w0 ([rowA encS 1 9 (.slice ao21 (([t.fDepth, t.fMany]).length) cp21) (([t.fDepth, t.fMany]).map numB), rowA encI 1 3 (.slice (some ⟨b16, 0, none⟩) 2 2) ([t.fDepth, t.fMany]), boxA b1 7 37 (tV t)]) _) := ⟨HS2.out⟩
 refine ⟨HS.out, ?_⟩
 refine wh_one 3 (by kernel_rfl) ?_
 refine wo_buildS (enc := encS) (e := 9) (size := 1) rfl rfl HF rfl rfl rfl (ps := [(0, .string (ptrB t.fRoot))]) rfl (cells := [.string (ptrB t.fRoot)]) (by kernel_rfl) [ptrB t.fRoot] rfl rfl (by unfold maxLen; omega) rfl HS2.out HS.out ?_; clear HF HS HS2 a; intro b22 a w38 HF HS2 HS; replace HS := Bx.mk HS; replace HS2 := Bx.mk HS2; refine ⟨HS.out, ?_⟩
 refine wh_one 10 (by kernel_rfl) ?_
 refine wo_appL rfl rfl HF rfl rfl rfl (HF.ev rfl) (HF.ev rfl) elemS encS_len HS2.out 0 (xs := [ptrB t.fRoot]) rfl (ys := ([t.fDepth, t.fMany]).map numB) (St.rdN HS2.out encS_len 1 rfl) (cells_one_S _) (by unfold maxLen; (try simp only [List.length_append, List.length_cons, List.length_nil, List.nil_append, List.length_map]); omega) (by (try simp only [List.length_append, List.length_cons, List.length_nil, List.nil_append, List.length_map]); omega) ?_; clear HF HS HS2 a; intro ao23 cp24 w40 a HF HS2; replace HS2 := Bx.mk HS2
 replace HS2 : Bx (St w0 ([rowA encS 1 9 (.slice ao23 (([ptrB t.fRoot]).length + (([t.fDepth, t.fMany]).map numB).length) cp24) (([ptrB t.fRoot]) ++ (([t.fDepth, t.fMany]).map numB)), rowA encS 1 9 (.slice ao21 (([t.fDepth, t.fMany]).length) cp21) (([t.fDepth, t.fMany]).map numB), rowA encI 1 3 (.slice (some ⟨b16, 0, none⟩) 2 2) ([t.fDepth, t.fMany]), boxA b1 7 37 (tV t)]) _) := ⟨HS2.out⟩
 have HS:=Bx.mk ((((HS2.out.erase 2).erase 1).erase 0));refine ⟨HS.out,?_⟩
 revert a;refine xh 11 HS.out rfl rfl rfl ?_
 intro a HF
 refine wh_done (by kernel_rfl) ?_
 replace HS := HS2; clear HS2
 revert a;refine xet<|xre<|xb1 Tryz.results74 rfl ?_
 replace HS:=Bx.mk (HS.out.pick 0 rfl)
 exact ⟨_, _, rfl, (((HS.out.erase 3).erase 2).erase 1)⟩
theorem treeB_len (t : TreeD) : (treeB t).length = 3 := rfl
def RootD.ok (x : RootD) : Bool := (bif inB x.fTxg 1 900 then (bif x.fMeta.fRoot.ok then (bif inB x.fMeta.fDepth 0 2 then inB x.fMeta.fMany 1 16 else false) else false) else false)
end Go.Proofs.YtdlmlagcniifjaaGreatDoor
