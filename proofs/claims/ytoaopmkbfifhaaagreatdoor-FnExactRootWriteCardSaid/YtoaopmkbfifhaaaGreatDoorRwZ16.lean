/- A part of the proof in YtoaopmkbfifhaaaGreatDoorRwZ20. -/
import Derived.ArgAppend
import Derived.BigQuiet
import Derived.BigRegion
import Derived.Deep.AppendLies
import Derived.Deep.MidRow
import Derived.Deep.Quiet
import Derived.Deep.QuietTactic
import Derived.Deep.RegionHeld3
import Derived.Deep.RegionWith
import Derived.IntWalk
import Derived.Laws.BytesArg
import Derived.Lib.AppendIntMem
import Derived.Lib.Hide
import Derived.Lib.ItoaNum
import Derived.Lib.LazyBuf
import Derived.Lib.SlBytesConst
import Derived.LoopIn
import Derived.LoopN
import Derived.LoopNIn
import Derived.Orders
import Derived.OrdersHeld
import Derived.OwnWalkIn
import Derived.RangeFuncLeaves
import Derived.RangeFuncNested
import Derived.Shelf.Abstract
import Derived.Shelf.Strconv.Itoa3
import Derived.Shelf.Strings.BuilderF
import Derived.Shelf.Strings.BuilderK
import Derived.Shelf.Strings.OnBuilder
import Derived.Still
import Derived.StillTail
import Derived.StillTailTactics
import Derived.TacticsInMore
import Derived.Test.YtoaopmkbfifhaaaGreatDoorRows
import Derived.WalkKit
import Derived.WalkLawsBesides
import Derived.WalkSpells
import Derived.Test.YtoaopmkbfifhaaaGreatDoorRwZ15
/- Laws for the draws: numbers and bytes, bytes of a constant; the reader of a code, as a thing. -/
namespace Go.Proofs.YtoaopmkbfifhaaaGreatDoor
set_option linter.unusedVariables false
set_option linter.unusedSimpArgs false
set_option maxHeartbeats 1000000
set_option maxRecDepth 100000
open Go.RowKit
section
variable {P : Program} {ops : Array Oper} {Q : Exit → Act → World → Prop} {rest : List Oper} {o : Oper} {a : Act} {w W : World} {N : Nat} {l : List (Nat × Value)} {s : List Asr} {t t' e : TypeId} {x y z : Operand} {α : Type} {enc : α → List Value} {size : Nat}
theorem yl_toU8 (ho : o.op = .convert t t' x) {n : Int} {b : UInt8} (hx : a.eval x = .int .i64 n) (hn : 0 ≤ n ∧ n ≤ 255) (hb : b = UInt8.ofNat n.toNat) (hu : P.underlying t = some (.int .i64)) (hu' : P.underlying t' = some (.int .u8)) : Yl P w o a (.int .u8 (b.toNat : Int)) := by
  have hv : (b.toNat : Int) = n := by
    subst hb
    rw [UInt8.toNat_ofNat']
    omega
  unfold Yl execOp
  simp only [ho, hx]
  rw [hv]
  simp [convert, go_sem, run_underlying hu w, run_underlying hu' w, Conv.intToInt]
  simp [IntKind.wrap, IntKind.bits, IntKind.signed]
  omega
end
end Go.Proofs.YtoaopmkbfifhaaaGreatDoor

/- Laws for the draws, 2: stores into rows in drawn regions; what holds as long as blocks lie as they lie. -/
namespace Go.Proofs.YtoaopmkbfifhaaaGreatDoor
set_option linter.unusedVariables false
set_option linter.unusedSimpArgs false
set_option maxHeartbeats 1000000
set_option maxRecDepth 100000
open Go.RowKit
section
variable {P : Program} {ops : Array Oper} {Q : Exit → Act → World → Prop} {a : Act} {w W : World} {s : List Asr} {fuel m N : Nat} {listed : Array Bool} {oi : Oper} {l : List (Nat × Value)} {K : Act → World → Prop}
theorem wo_y {i : Nat} (hi : ops[i]? = some oi) (hg : oi.guard = none) (hF : Fr N a l) {d : Nat} (hd : oi.dst = some d) (hN : Nat.blt d N = true) {v : Value} (hy : Yl P w oi a v) (h : ∀ a', Fr N a' ((d, v) :: l) → K a' w) : wpOp P ops Q i K a w := by
  refine wo_of hi hg ?_
  unfold Oper.wp
  rw [hy]
  show K (a.put oi.dst v) w
  rw [hd]
  exact h _ (hF.put (Nat.le_of_ble_eq_true hN) v)
end
theorem Rd.drop {α : Type} {enc : α → List Value} {size : Nat} {w : World} {g o n : Nat} {xs : List α} (h : Rd enc size w (some ⟨g, o, none⟩) n xs) {k : Nat} (hk : k ≤ xs.length) : Rd enc size w (some ⟨g, o + k * size, none⟩) (n - k) (xs.drop k) := by
  refine ⟨by rw [List.length_drop, h.len], fun i hi => ?_⟩
  rw [List.length_drop] at hi
  obtain ⟨b, off, x, hx, e, hlt, hr⟩ := h.at_ (k + i) (by omega)
  simp only [Option.some.injEq, Addr.mk.injEq, and_true] at e
  obtain ⟨rfl, rfl⟩ := e
  exact ⟨g, o + k * size, x, by rw [List.getElem?_drop]; exact hx, rfl, hlt, by rw [Nat.add_assoc, ← Nat.add_mul]; exact hr⟩
/-- A disk of which all can be written, at most so many writes waiting. -/
structure DiskD.nice (n : Nat) (d : DiskD) : Prop where
  g : d.fGone = false
  c : d.fCells.length = 64
  w : d.fWaits.length ≤ n
  a : ∀ k, k < d.fWaits.length → 0 ≤ (d.fWaits.getD k default).fAt ∧ (d.fWaits.getD k default).fAt < 64
  z : ∀ x, x ∈ d.fCells → x.size ≤ 1000
  u : ∀ x, x ∈ d.fWaits → x.fText.size ≤ 1000
theorem getD_le {xs : List ByteArray} {m : Nat} (h : ∀ x, x ∈ xs → x.size ≤ m) (k : Nat) : (xs.getD k ByteArray.empty).size ≤ m := by
  by_cases hk : k < xs.length
  · rw [show xs.getD k ByteArray.empty = xs[k] by simp [List.getD, hk]]
    exact h _ (List.getElem_mem hk)
  · rw [show xs.getD k ByteArray.empty = ByteArray.empty by simp [List.getD, List.getElem?_eq_none (Nat.le_of_not_lt hk)]]
    exact Nat.zero_le _
theorem waits_le {xs : List WaitD} {m : Nat} (h : ∀ x, x ∈ xs → x.fText.size ≤ m) (k : Nat) : (xs.getD k default).fText.size ≤ m := by
  by_cases hk : k < xs.length
  · rw [show xs.getD k default = xs[k] by simp [List.getD, hk]]
    exact h _ (List.getElem_mem hk)
  · rw [show xs.getD k default = default by simp [List.getD, List.getElem?_eq_none (Nat.le_of_not_lt hk)]]
    exact Nat.zero_le _
theorem DiskD.nice.fits {n : Nat} {d : DiskD} (h : d.nice n) (hn : n ≤ 1000) : d.fits := ⟨by rw [h.c]; omega, by have := h.w; omega, fun k => by have := getD_le h.z k; omega, fun k => by have := waits_le h.u k; omega⟩
/-- Three such disks. -/
def niceS (n : Nat) (ds : List DiskD) : Prop := ds.length = 3 ∧ ∀ d, d ∈ ds → d.nice n
theorem niceS.at {n : Nat} {ds : List DiskD} (h : niceS n ds) {k : Nat} (hk : k < 3) : (ds.getD k default).nice n := by
  rw [getD_get (by rw [h.1]; exact hk)]; exact h.2 _ (List.getElem_mem _)
end Go.Proofs.YtoaopmkbfifhaaaGreatDoor

/- Numbers and records as texts: walked. -/
namespace Go.Proofs.YtoaopmkbfifhaaaGreatDoor
set_option linter.unusedVariables false
set_option linter.unusedSimpArgs false
set_option maxHeartbeats 1000000
set_option maxRecDepth 100000
open Go.RowKit

theorem numPutI_any (n : Int) (w0 : World) (hT : TabP w0) : Calls Tryz.prog 80 #[.int .i64 n] w0 fun e w' => e = .returned (.string (numB n)) ∧ Below w0.heap.size w0 w' := by
 have HT := Bx.mk hT; clear hT
 have HS := Bx.mk (St.start w0)
 refine wc_enter Tryz.func80 rfl Tryz.ntmps80 [(0, .int .i64 n)] ⟨rfl, trivial⟩ rfl ?_; intro a HF
 refine wp_sr ?_
 refine wl_as HF rfl rfl rfl rfl rfl ?_; clear HF a; intro a HF
 refine wl_ne ?_
 refine wp_seq ?_
 refine wp_sr ?_
 refine wl_mv HF rfl rfl rfl rfl rfl ?_; clear HF a; intro a HF
 refine wl_callB rfl HF rfl (enter_of Tryz.func52 (by kernel_rfl) rfl) (args := #[.int .i64 n, .int .i64 0, .int .i64 999999999]) rfl (v := .bool (inB n 0 999999999)) (((within_any n 0 999999999 _).mono fun _ _ h => ⟨h.1, h.2 ▸ Below.refl _ _⟩)) rfl rfl HS.out ?_; clear HF HS a; intro w1 a HS HF; replace HS := Bx.mk HS
 refine wl_y rfl HF rfl rfl (yl_not rfl (HF.ev rfl)) ?_; clear HF a; intro a HF
 refine wl_ne ?_
 refine HF.cases 5 rfl (fun cc1 HF1 => ?_) (fun cc1 HF1 => ?_)
 ·clear HF; have HF := HF1; clear HF1
  refine wc_true HF rfl ?_
  refine wp_sr ?_
  refine wl_as HF rfl rfl rfl rfl rfl ?_; clear HF a; intro a HF
  refine wl_ne ?_
  refine wp_ret ?_
  refine ex_then_ret ?_
  refine bp_ret1 HF Tryz.results80 (HF.res rfl) ?_
  exact ⟨by rw [numB_out (by have := cc1; simp [inB] at this; omega)]; rfl, HS.out.bel⟩
 ·clear HF; have HF := HF1; clear HF1
  refine wc_false HF rfl ?_
  refine wp_skip ?_
  refine ex_then ?_
  refine wp_seq ?_
  have hin : inB n 0 999999999 = true := by simpa using cc1
  obtain ⟨hn0, hn1⟩ : 0 ≤ n ∧ n ≤ 999999999 := by unfold inB at hin; simpa using hin
  obtain ⟨m, rfl⟩ : ∃ m : Nat, n = (m : Int) := ⟨n.toNat, by omega⟩
  refine wp_region_lit ?_
  refine wl_mv HF rfl rfl rfl rfl rfl ?_; clear HF a; intro a HF
  refine wl_callB rfl HF rfl (enter_of Tryz.func126 (by kernel_rfl) rfl) (args := #[.int .i64 (m : Int)]) rfl (v := .string (decB m)) (itoa_any m (by omega) _ (HT.out.below HS.out.bel)) rfl rfl HS.out ?_; clear HF HS a; intro w2 a HS HF; replace HS := Bx.mk HS
  refine wl_as HF rfl rfl rfl rfl rfl ?_; clear HF a; intro a HF
  refine wl_ne ?_
  refine wp_ret ?_
  refine bp_ret1 HF Tryz.results80 (HF.res rfl) ?_
  exact ⟨by rw [numB_in hn0 hn1, Int.toNat_natCast], HS.out.bel⟩

theorem size1 (x : UInt8) : (⟨#[x]⟩ : ByteArray).size = 1 := rfl
theorem le_of_cmp {n : Nat} (h : decide ((2048 : Int) < (n : Int)) = false) : n ≤ 2048 := by have := of_decide_eq_false h; omega
theorem gt_of_cmp {n : Nat} (h : decide ((2048 : Int) < (n : Int)) = true) : ¬ n ≤ 2048 := by have := of_decide_eq_true h; omega

theorem fieldsPutI_any (a0 : Option Addr) (n c0 : Nat) (xs : List ByteArray) (w0 : World) (hT : TabP w0) (hl : xs.length ≤ 1048576) (hx : szs xs) (hR : Rd encS 1 w0 a0 n xs) : Calls Tryz.prog 124 #[.slice a0 n c0] w0 fun e w' => e = .returned (.tuple #[.string (fieldsPut xs).1, .bool (fieldsPut xs).2]) ∧ Below w0.heap.size w0 w' := by
 obtain rfl := hR.len
 obtain ⟨g0, o0, r0⟩ := hR.opn; have R0 := Bx.mk r0; clear r0 hR
 have HT := Bx.mk hT; clear hT
 have HS := Bx.mk (St.start w0)
 refine wc_enter Tryz.func124 rfl Tryz.ntmps124 [(0, .slice a0 xs.length c0)] ⟨rfl, trivial⟩ rfl ?_; intro a HF
 refine wp_sr ?_
 refine wl_as HF rfl rfl rfl rfl rfl ?_; clear HF a; intro a HF
 refine wl_as HF rfl rfl rfl rfl rfl ?_; clear HF a; intro a HF
 refine wl_ne ?_
 refine wp_seq ?_
 refine wp_sr ?_
 refine wl_mv HF rfl rfl rfl rfl rfl ?_; clear HF a; intro a HF
 refine wl_y rfl HF rfl rfl (yl_lenL (e := 9) (size := 1) rfl (HF.ev rfl) (by kernel_rfl)) ?_; clear HF a; intro a HF
 refine wl_y rfl HF rfl rfl (yl_gtrI rfl (HF.ev rfl) (HF.ev rfl)) ?_; clear HF a; intro a HF
 refine wl_ne ?_
 refine HF.cases 9 rfl (fun cc1 HF1 => ?_) (fun cc1 HF1 => ?_)
 ·clear HF; have HF := HF1; clear HF1
  have dcc1 := of_decide_eq_true cc1
  refine wc_true HF rfl ?_
  refine wp_sr ?_
  refine wl_as HF rfl rfl rfl rfl rfl ?_; clear HF a; intro a HF
  refine wl_as HF rfl rfl rfl rfl rfl ?_; clear HF a; intro a HF
  refine wl_ne ?_
  refine wp_ret ?_
  refine ex_then_ret ?_
  refine bp_ret2 HF Tryz.results124 (HF.res rfl) (HF.res rfl) ?_
  exact ⟨by rw [fieldsPut_long (by omega)]; rfl, HS.out.bel⟩
 ·clear HF; have HF := HF1; clear HF1
  have dcc1 := of_decide_eq_false cc1
  refine wc_false HF rfl ?_
  refine wp_skip ?_
  refine ex_then ?_
  refine wp_sr ?_
  refine wl_alloc rfl HF rfl rfl rfl (Z := [.pointer none, .slice none 0 0]) (by kernel_rfl) rfl HS.out ?_; clear HF HS a; intro a w1 b1 HF HS; replace HS := Bx.mk HS
  refine wl_ne ?_
  refine wp_seq ?_
  refine wp_sr ?_
  refine wl_mv HF rfl rfl rfl rfl rfl ?_; clear HF a; intro a HF
  refine wl_y rfl HF rfl rfl (yl_lenL (e := 9) (size := 1) rfl (HF.ev rfl) (by kernel_rfl)) ?_; clear HF a; intro a HF
  refine wl_mv HF rfl rfl rfl rfl rfl ?_; clear HF a; intro a HF
  refine wl_ne ?_
  refine wp_block ?_
  replace HS := Bx.mk HS.out.bldNew
  refine wc_loop (ι := Nat) (fun k a w => (k ≤ xs.length ∧ (recB (xs.take k)).size ≤ 2048) ∧ Fr 27 a [(4, .pointer (some ⟨b1, 0, none⟩)), (10, .slice a0 xs.length c0), (11, .int .i64 (xs.length : Int)), (12, .int .i64 (k : Int))] ∧ St w0 ([bldA b1 (recB (xs.take k)).data.toList]) w) (fun k => xs.length - k) 0 ⟨⟨Nat.zero_le _, by simp [recB]⟩, HF.less _ ⟨rfl, rfl, rfl, rfl, trivial⟩, HS.out⟩ ?_
  clear HF HS; clear a
  rintro k a w2 ⟨⟨hk, hr⟩, HF, HS⟩
  replace HS := Bx.mk HS
  have hxk := hx k; have hdec := decB_20 (n := (xs.getD k ByteArray.empty).size) (by omega)
  refine wp_sr ?_
  refine wl_y rfl HF rfl rfl (yl_lssI rfl (HF.ev rfl) (HF.ev rfl)) ?_; clear HF a; intro a HF
  refine wl_ne ?_
  refine wp_seq ?_
  refine HF.cases 13 rfl (fun cc2 HF1 => ?_) (fun cc2 HF1 => ?_)
  ·clear HF; have HF := HF1; clear HF1
   have dcc2 := of_decide_eq_true cc2
   refine wc_true HF rfl ?_
   refine wp_skip ?_
   refine ex_then ?_
   refine wp_seq ?_
   refine wp_block ?_
   refine wp_sr ?_
   refine wl_y rfl HF rfl rfl (yl_indexAddrR (e := 9) (i := k) (size := 1) rfl (HF.ev rfl) (HF.ev rfl) (by kernel_rfl) rfl (by omega) (R0.out.ao k (by omega))) ?_; clear HF a; intro a HF
   refine wl_y rfl HF rfl rfl (yl_load (v := .string (xs.getD k ByteArray.empty)) rfl (HF.ev rfl) (R0.out.elem1 HS.out (get_getD (xs := xs) (j := k) (d := ByteArray.empty) (by omega)) rfl) (by kernel_rfl)) ?_; clear HF a; intro a HF
   refine wl_as HF rfl rfl rfl rfl rfl ?_; clear HF a; intro a HF
   refine wl_ne ?_
   refine wp_sr ?_
   refine wl_mv HF rfl rfl rfl rfl rfl ?_; clear HF a; intro a HF
   refine wl_y rfl HF rfl rfl (yl_lenS rfl (HF.ev rfl) (by kernel_rfl)) ?_; clear HF a; intro a HF
   refine wl_callB rfl HF rfl (enter_of Tryz.func126 (by kernel_rfl) rfl) (args := #[.int .i64 ((xs.getD k ByteArray.empty).size : Int)]) rfl (v := .string (decB ((xs.getD k ByteArray.empty).size))) (itoa_any ((xs.getD k ByteArray.empty).size) (by omega) _ (HT.out.below HS.out.bel)) rfl rfl HS.out ?_; clear HF HS a; intro w3 a HS HF; replace HS := Bx.mk HS
   replace HS : Bx (St w0 ([bldA b1 (recB (xs.take k)).data.toList]) _) := ⟨(HS.out).pick 0 rfl⟩
   refine wl_call rfl HF rfl (enter_of Tryz.func153 (by kernel_rfl) rfl) (args := #[.pointer (some ⟨b1, 0, none⟩), .string (decB ((xs.getD k ByteArray.empty).size))]) rfl (writeS_any w0 _ b1 ((recB (xs.take k)).data.toList) (decB ((xs.getD k ByteArray.empty).size)) (by simp only [List.length_append, List.length_cons, List.length_nil, ← size_list]; omega) HS.out) rfl rfl ?_
   rintro _ w4 ⟨rfl, hs1⟩
   refine ⟨_, rfl, ?_⟩; replace HS := Bx.mk hs1; clear hs1 HF; clear a; intro a HF
   replace HS : Bx (St w0 ([bldA b1 ((recB (xs.take k)).data.toList ++ (decB ((xs.getD k ByteArray.empty).size)).data.toList)]) _) := ⟨HS.out⟩
   refine wl_ne ?_
   refine wp_sr ?_
   replace HS : Bx (St w0 ([bldA b1 ((recB (xs.take k)).data.toList ++ (decB ((xs.getD k ByteArray.empty).size)).data.toList)]) _) := ⟨(HS.out).pick 0 rfl⟩
   refine wl_call rfl HF rfl (enter_of Tryz.func154 (by kernel_rfl) rfl) (args := #[.pointer (some ⟨b1, 0, none⟩), .int .u8 58]) rfl (writeB_any w0 _ b1 ((recB (xs.take k)).data.toList ++ (decB ((xs.getD k ByteArray.empty).size)).data.toList) (58 : UInt8) (by simp only [List.length_append, List.length_cons, List.length_nil, ← size_list]; omega) HS.out) rfl rfl ?_
   rintro _ w5 ⟨rfl, hs1⟩
   refine ⟨_, rfl, ?_⟩; replace HS := Bx.mk hs1; clear hs1 HF; clear a; intro a HF
   replace HS : Bx (St w0 ([bldA b1 (((recB (xs.take k)).data.toList ++ (decB ((xs.getD k ByteArray.empty).size)).data.toList) ++ [(58 : UInt8)])]) _) := ⟨HS.out⟩
   refine wl_ne ?_
   refine wp_sr ?_
   refine wl_mv HF rfl rfl rfl rfl rfl ?_; clear HF a; intro a HF
   replace HS : Bx (St w0 ([bldA b1 (((recB (xs.take k)).data.toList ++ (decB ((xs.getD k ByteArray.empty).size)).data.toList) ++ [(58 : UInt8)])]) _) := ⟨(HS.out).pick 0 rfl⟩
   refine wl_call rfl HF rfl (enter_of Tryz.func153 (by kernel_rfl) rfl) (args := #[.pointer (some ⟨b1, 0, none⟩), .string (xs.getD k ByteArray.empty)]) rfl (writeS_any w0 _ b1 (((recB (xs.take k)).data.toList ++ (decB ((xs.getD k ByteArray.empty).size)).data.toList) ++ [(58 : UInt8)]) (xs.getD k ByteArray.empty) (by simp only [List.length_append, List.length_cons, List.length_nil, ← size_list]; omega) HS.out) rfl rfl ?_
   rintro _ w6 ⟨rfl, hs1⟩
   refine ⟨_, rfl, ?_⟩; replace HS := Bx.mk hs1; clear hs1 HF; clear a; intro a HF
   replace HS : Bx (St w0 ([bldA b1 ((((recB (xs.take k)).data.toList ++ (decB ((xs.getD k ByteArray.empty).size)).data.toList) ++ [(58 : UInt8)]) ++ (xs.getD k ByteArray.empty).data.toList)]) _) := ⟨HS.out⟩
   refine wl_ne ?_
   refine wp_sr ?_
   refine wl_callB rfl HF rfl (enter_of Tryz.func155 (by kernel_rfl) rfl) (args := #[.pointer (some ⟨b1, 0, none⟩)]) rfl (v := .int .i64 (((((recB (xs.take k)).data.toList ++ (decB ((xs.getD k ByteArray.empty).size)).data.toList) ++ [(58 : UInt8)]) ++ (xs.getD k ByteArray.empty).data.toList).length : Int)) (bldLen_any w0 _ b1 ((((recB (xs.take k)).data.toList ++ (decB ((xs.getD k ByteArray.empty).size)).data.toList) ++ [(58 : UInt8)]) ++ (xs.getD k ByteArray.empty).data.toList) HS.out) rfl rfl HS.out ?_; clear HF HS a; intro w7 a HS HF; replace HS := Bx.mk HS
   refine wl_y rfl HF rfl rfl (yl_gtrI rfl (HF.ev rfl) (HF.ev rfl)) ?_; clear HF a; intro a HF
   refine wl_ne ?_
   refine HF.cases 24 rfl (fun cc3 HF1 => ?_) (fun cc3 HF1 => ?_)
   ·clear HF; have HF := HF1; clear HF1
    have dcc3 := of_decide_eq_true cc3
    refine wc_true HF rfl ?_
    refine wp_sr ?_
    refine wl_as HF rfl rfl rfl rfl rfl ?_; clear HF a; intro a HF
    refine wl_as HF rfl rfl rfl rfl rfl ?_; clear HF a; intro a HF
    refine wl_ne ?_
    refine wp_ret ?_
    refine ex_block_ret ?_
    refine ex_then_ret ?_
    refine ex_then_ret ?_
    refine ex_block_ret ?_
    refine ex_then_ret ?_
    refine bp_ret2 HF Tryz.results124 (HF.res rfl) (HF.res rfl) ?_
    have hgt : ¬ (recB (xs.take (k + 1))).size ≤ 2048 := by rw [recB_step xs (by omega), size_list, list_append, list_append, list_append]; exact gt_of_cmp cc3
    exact ⟨by rw [fieldsPut_big hgt]; rfl, HS.out.bel⟩
   ·clear HF; have HF := HF1; clear HF1
    have dcc3 := of_decide_eq_false cc3
    refine wc_false HF rfl ?_
    refine wp_skip ?_
    refine ex_block ?_
    refine ex_then ?_
    refine wp_region_lit ?_
    refine wl_y rfl HF rfl rfl (yl_addI rfl (HF.ev rfl) (HF.ev rfl) (i64w (by omega))) ?_; clear HF a; intro a HF
    refine wl_mv HF rfl rfl rfl rfl rfl ?_; clear HF a; intro a HF
    refine wl_ne ?_
    replace HS : Bx (St w0 [bldA b1 (recB (xs.take (k + 1))).data.toList] _) := ⟨by rw [recB_step xs (by omega), list_append, list_append, list_append]; exact HS.out⟩
    have hle : (recB (xs.take (k + 1))).size ≤ 2048 := by rw [recB_step xs (by omega), size_list, list_append, list_append, list_append]; exact le_of_cmp cc3
    exact ⟨k + 1, ⟨⟨by omega, hle⟩, HF.less _ ⟨rfl, rfl, rfl, rfl, trivial⟩, HS.out⟩, (by omega)⟩
  ·clear HF; have HF := HF1; clear HF1
   have dcc2 := of_decide_eq_false cc2
   refine wc_false HF rfl ?_
   refine wp_exit ?_
   refine ex_then_exit ?_
   refine ex_then_exit ?_
   refine ex_block_hit ?_
   refine ex_then ?_
   refine wp_sr ?_
   replace HS : Bx (St w0 ([bldA b1 (recB (xs.take k)).data.toList]) _) := ⟨(HS.out).pick 0 rfl⟩
   refine wl_call rfl HF rfl (enter_of Tryz.func156 (by kernel_rfl) rfl) (args := #[.pointer (some ⟨b1, 0, none⟩)]) rfl (bldStr_any w0 _ b1 ((recB (xs.take k)).data.toList) HS.out) rfl rfl ?_
   rintro _ w8 ⟨rfl, hs1⟩
   refine ⟨_, rfl, ?_⟩; replace HS := Bx.mk hs1; clear hs1 HF; clear a; intro a HF
   replace HS : Bx (St w0 ([bldA b1 (recB (xs.take k)).data.toList]) _) := ⟨HS.out⟩
   refine wl_as HF rfl rfl rfl rfl rfl ?_; clear HF a; intro a HF
   refine wl_as HF rfl rfl rfl rfl rfl ?_; clear HF a; intro a HF
   refine wl_ne ?_
   refine wp_ret ?_
   refine bp_ret2 HF Tryz.results124 (HF.res rfl) (HF.res rfl) ?_
   obtain rfl : k = xs.length := by omega
   rw [List.take_length] at hr
   exact ⟨by rw [fieldsPut_yes (by omega) hr]; simp [List.take_length], HS.out.bel⟩

theorem l6Dec_any (n : Nat) (hn : n ≤ 9223372036854775807) (w0 : World) : Calls Tryz.prog 65 #[.int .i64 (n : Int)] w0 fun e w' => e = .returned (.string (decB n)) ∧ Below w0.heap.size w0 w' := by
 induction n using Nat.strongRecOn generalizing w0
 rename_i n ih
 have hd := decB_20 (n := n / 10) (by omega)
 have HS := Bx.mk (St.start w0)
 refine wc_enter Tryz.func65 rfl Tryz.ntmps65 [(0, .int .i64 (n : Int))] ⟨rfl, trivial⟩ rfl ?_; intro a HF
 refine wp_sr ?_
 refine wl_as HF rfl rfl rfl rfl rfl ?_; clear HF a; intro a HF
 refine wl_ne ?_
 refine wp_seq ?_
 refine wp_sr ?_
 refine wl_mv HF rfl rfl rfl rfl rfl ?_; clear HF a; intro a HF
 refine wl_y rfl HF rfl rfl (yl_lssI rfl (HF.ev rfl) (HF.ev rfl)) ?_; clear HF a; intro a HF
 refine wl_ne ?_
 refine HF.cases 4 rfl (fun cc1 HF1 => ?_) (fun cc1 HF1 => ?_)
 ·clear HF; have HF := HF1; clear HF1
  have dcc1 := of_decide_eq_true cc1
  omega
 ·clear HF; have HF := HF1; clear HF1
  have dcc1 := of_decide_eq_false cc1
  refine wc_false HF rfl ?_
  refine wp_skip ?_
  refine ex_then ?_
  refine wp_seq ?_
  refine wp_sr ?_
  refine wl_mv HF rfl rfl rfl rfl rfl ?_; clear HF a; intro a HF
  refine wl_y rfl HF rfl rfl (yl_lssI rfl (HF.ev rfl) (HF.ev rfl)) ?_; clear HF a; intro a HF
  refine wl_ne ?_
  refine HF.cases 6 rfl (fun cc2 HF1 => ?_) (fun cc2 HF1 => ?_)
  ·clear HF; have HF := HF1; clear HF1
   have dcc2 := of_decide_eq_true cc2
   omega
  ·clear HF; have HF := HF1; clear HF1
   have dcc2 := of_decide_eq_false cc2
   refine wc_false HF rfl ?_
   refine wp_skip ?_
   refine ex_then ?_
   refine wp_seq ?_
   refine wp_sr ?_
   refine wl_mv HF rfl rfl rfl rfl rfl ?_; clear HF a; intro a HF
   refine wl_y rfl HF rfl rfl (yl_lssI rfl (HF.ev rfl) (HF.ev rfl)) ?_; clear HF a; intro a HF
   refine wl_ne ?_
   refine HF.cases 12 rfl (fun cc3 HF1 => ?_) (fun cc3 HF1 => ?_)
   ·clear HF; have HF := HF1; clear HF1
    have dcc3 := of_decide_eq_true cc3
    refine wc_true HF rfl ?_
    refine wp_sr ?_
    refine wl_mv HF rfl rfl rfl rfl rfl ?_; clear HF a; intro a HF
    refine wl_y rfl HF rfl rfl (yl_addI rfl (HF.ev rfl) (HF.ev rfl) (i64w (by omega))) ?_; clear HF a; intro a HF
    refine wl_y rfl HF rfl rfl (yl_toU8 (b := UInt8.ofNat ((48 : Int) + (n : Int)).toNat) rfl (HF.ev rfl) (by omega) rfl (by kernel_rfl) (by kernel_rfl)) ?_; clear HF a; intro a HF
    refine wl_buildS (enc := encB) (e := 5) (size := 1) rfl HF rfl rfl rfl (ps := [(0, .int .u8 ((UInt8.ofNat ((48 : Int) + (n : Int)).toNat).toNat : Int))]) rfl (cells := [.int .u8 ((UInt8.ofNat ((48 : Int) + (n : Int)).toNat).toNat : Int)]) (by kernel_rfl) [(UInt8.ofNat ((48 : Int) + (n : Int)).toNat)] rfl rfl (by unfold maxLen; omega) rfl HS.out ?_; clear HF HS a; intro b1 a w1 HF HS; replace HS := Bx.mk HS
    refine wl_y rfl HF rfl rfl (yl_convBS (e1 := 5) rfl (HF.ev rfl) (by kernel_rfl) (by kernel_rfl) (by kernel_rfl) (xs := [(UInt8.ofNat ((48 : Int) + (n : Int)).toNat)]) (St.rdN HS.out encB_len 0 rfl)) ?_; clear HF a; intro a HF
    refine wl_as HF rfl rfl rfl rfl rfl ?_; clear HF a; intro a HF
    refine wl_ne ?_
    refine wp_ret ?_
    refine ex_then_ret ?_
    refine bp_ret1 HF Tryz.results65 (HF.res rfl) ?_
    exact ⟨by rw [decB_small (by omega), show UInt8.ofNat (48 + (n : Int)).toNat = UInt8.ofNat (48 + n) from congrArg UInt8.ofNat (by omega)], HS.out.bel⟩
   ·clear HF; have HF := HF1; clear HF1
    have dcc3 := of_decide_eq_false cc3
    refine wc_false HF rfl ?_
    refine wp_skip ?_
    refine ex_then ?_
    refine wp_seq ?_
    refine wr_heldS (s := []) (by kernel_rfl) (St.drew (HS.out)) ?_
    have HS2 := Bx.mk HS.out.drew; replace HS := Bx.mk (show St w0 ([]) _ from HS.out.drew)
    generalize World.drew _ = w2 at HS HS2 ⊢
    refine wh_y 0 rfl (by kernel_rfl) (by kernel_rfl) (by kernel_rfl) (fun _ _ _ h => h) rfl HF rfl rfl (fun _ HS => (yl_move rfl (HF.ev rfl))) HS.out ?_; clear HF a; intro a HF
    refine wh_y 1 rfl (by kernel_rfl) (by kernel_rfl) (by kernel_rfl) (fun _ _ _ h => h) rfl HF rfl rfl (fun _ HS => (yl_quoI rfl (HF.ev rfl) (HF.ev rfl) (by omega) (quo_pos (by omega) (by omega) (by omega)))) HS.out ?_; clear HF a; intro a HF
    refine wh_y 3 rfl (by kernel_rfl) (by kernel_rfl) (by kernel_rfl) (fun _ _ _ h => h) rfl HF rfl rfl (fun _ HS => (yl_move rfl (HF.ev rfl))) HS.out ?_; clear HF a; intro a HF
    refine wh_y 4 rfl (by kernel_rfl) (by kernel_rfl) (by kernel_rfl) (fun _ _ _ h => h) rfl HF rfl rfl (fun _ HS => (yl_remI rfl (HF.ev rfl) (HF.ev rfl) (by omega) (rem_pos (by omega) (by omega)))) HS.out ?_; clear HF a; intro a HF
    refine wh_y 5 rfl (by kernel_rfl) (by kernel_rfl) (by kernel_rfl) (fun _ _ _ h => h) rfl HF rfl rfl (fun _ HS => (yl_addI rfl (HF.ev rfl) (HF.ev rfl) (i64w (by omega)))) HS.out ?_; clear HF a; intro a HF
    refine wh_y 6 rfl (by kernel_rfl) (by kernel_rfl) (by kernel_rfl) (fun _ _ _ h => h) rfl HF rfl rfl (fun _ HS => (yl_toU8 (b := UInt8.ofNat ((48 : Int) + ((n : Int) % 10)).toNat) rfl (HF.ev rfl) (by omega) rfl (by kernel_rfl) (by kernel_rfl))) HS.out ?_; clear HF a; intro a HF
    refine wh_two 2 7 (by kernel_rfl) ?_ ?_
    ·skip
     refine wo_callB rfl rfl HF rfl (enter_of Tryz.func65 (by kernel_rfl) rfl) (args := #[.int .i64 ((n : Int) / 10)]) rfl (v := .string (decB (n / 10))) (ih (n / 10) (by omega) (by omega) _) rfl rfl ?_
     intro w3 hb; replace HS := Bx.mk (HS.out.later hb); replace HS2 := Bx.mk (HS2.out.later hb); clear hb HF; clear a; intro a HF; refine ⟨HS.out, ?_⟩
     refine wh_one 7 (by kernel_rfl) ?_
     refine wo_buildS (enc := encB) (e := 5) (size := 1) rfl rfl HF rfl rfl rfl (ps := [(0, .int .u8 ((UInt8.ofNat ((48 : Int) + ((n : Int) % 10)).toNat).toNat : Int))]) rfl (cells := [.int .u8 ((UInt8.ofNat ((48 : Int) + ((n : Int) % 10)).toNat).toNat : Int)]) (by kernel_rfl) [(UInt8.ofNat ((48 : Int) + ((n : Int) % 10)).toNat)] rfl rfl (by unfold maxLen; omega) rfl HS2.out HS.out ?_; clear HF HS HS2 a; intro b2 a w5 HF HS2 HS; replace HS := Bx.mk HS; replace HS2 := Bx.mk HS2; refine ⟨HS.out, ?_⟩
     refine wh_one 8 (by kernel_rfl) ?_
     refine wo_y rfl rfl HF rfl rfl (yl_convBS (e1 := 5) rfl (HF.ev rfl) (by kernel_rfl) (by kernel_rfl) (by kernel_rfl) (xs := [(UInt8.ofNat ((48 : Int) + ((n : Int) % 10)).toNat)]) (St.rdN HS2.out encB_len 0 rfl)) ?_; clear HF a; intro a HF; refine ⟨HS.out, ?_⟩
     refine wh_y 9 rfl (by kernel_rfl) (by kernel_rfl) (by kernel_rfl) (fun _ _ _ h => h) rfl HF rfl rfl (fun _ HS => (yl_addS rfl (HF.ev rfl) (HF.ev rfl) (by (try simp only [size1, app_size]); omega))) HS.out ?_; clear HF a; intro a HF
     refine wh_y 10 rfl (by kernel_rfl) (by kernel_rfl) (by kernel_rfl) (fun _ _ _ h => h) rfl HF rfl rfl (fun _ HS => (yl_assign rfl (HF.ev rfl))) HS.out ?_; clear HF a; intro a HF
     refine wh_done (by kernel_rfl) ?_
     replace HS := HS2; clear HS2
     refine ex_then ?_
     refine wp_ret ?_
     refine bp_ret1 HF Tryz.results65 (HF.res rfl) ?_
     exact ⟨by rw [decB_big (n := n) (by omega), show UInt8.ofNat (48 + (n : Int) % (10 : Int)).toNat = UInt8.ofNat (48 + n % 10) from congrArg UInt8.ofNat (by omega)], HS.out.bel⟩
    ·skip
     refine wo_buildS (enc := encB) (e := 5) (size := 1) rfl rfl HF rfl rfl rfl (ps := [(0, .int .u8 ((UInt8.ofNat ((48 : Int) + ((n : Int) % 10)).toNat).toNat : Int))]) rfl (cells := [.int .u8 ((UInt8.ofNat ((48 : Int) + ((n : Int) % 10)).toNat).toNat : Int)]) (by kernel_rfl) [(UInt8.ofNat ((48 : Int) + ((n : Int) % 10)).toNat)] rfl rfl (by unfold maxLen; omega) rfl HS2.out HS.out ?_; clear HF HS HS2 a; intro b3 a w8 HF HS2 HS; replace HS := Bx.mk HS; replace HS2 := Bx.mk HS2; refine ⟨HS.out, ?_⟩
     refine wh_two 2 8 (by kernel_rfl) ?_ ?_
     ·skip
      refine wo_callB rfl rfl HF rfl (enter_of Tryz.func65 (by kernel_rfl) rfl) (args := #[.int .i64 ((n : Int) / 10)]) rfl (v := .string (decB (n / 10))) (ih (n / 10) (by omega) (by omega) _) rfl rfl ?_
      intro w9 hb; replace HS := Bx.mk (HS.out.later hb); replace HS2 := Bx.mk (HS2.out.later hb); clear hb HF; clear a; intro a HF; refine ⟨HS.out, ?_⟩
      refine wh_one 8 (by kernel_rfl) ?_
      refine wo_y rfl rfl HF rfl rfl (yl_convBS (e1 := 5) rfl (HF.ev rfl) (by kernel_rfl) (by kernel_rfl) (by kernel_rfl) (xs := [(UInt8.ofNat ((48 : Int) + ((n : Int) % 10)).toNat)]) (St.rdN HS2.out encB_len 0 rfl)) ?_; clear HF a; intro a HF; refine ⟨HS.out, ?_⟩
      refine wh_y 9 rfl (by kernel_rfl) (by kernel_rfl) (by kernel_rfl) (fun _ _ _ h => h) rfl HF rfl rfl (fun _ HS => (yl_addS rfl (HF.ev rfl) (HF.ev rfl) (by (try simp only [size1, app_size]); omega))) HS.out ?_; clear HF a; intro a HF
      refine wh_y 10 rfl (by kernel_rfl) (by kernel_rfl) (by kernel_rfl) (fun _ _ _ h => h) rfl HF rfl rfl (fun _ HS => (yl_assign rfl (HF.ev rfl))) HS.out ?_; clear HF a; intro a HF
      refine wh_done (by kernel_rfl) ?_
      replace HS := HS2; clear HS2
      refine ex_then ?_
      refine wp_ret ?_
      refine bp_ret1 HF Tryz.results65 (HF.res rfl) ?_
      exact ⟨by rw [decB_big (n := n) (by omega), show UInt8.ofNat (48 + (n : Int) % (10 : Int)).toNat = UInt8.ofNat (48 + n % 10) from congrArg UInt8.ofNat (by omega)], HS.out.bel⟩
     ·skip
      refine wo_y rfl rfl HF rfl rfl (yl_convBS (e1 := 5) rfl (HF.ev rfl) (by kernel_rfl) (by kernel_rfl) (by kernel_rfl) (xs := [(UInt8.ofNat ((48 : Int) + ((n : Int) % 10)).toNat)]) (St.rdN HS2.out encB_len 0 rfl)) ?_; clear HF a; intro a HF; refine ⟨HS.out, ?_⟩
      refine wh_one 2 (by kernel_rfl) ?_
      refine wo_callB rfl rfl HF rfl (enter_of Tryz.func65 (by kernel_rfl) rfl) (args := #[.int .i64 ((n : Int) / 10)]) rfl (v := .string (decB (n / 10))) (ih (n / 10) (by omega) (by omega) _) rfl rfl ?_
      intro w12 hb; replace HS := Bx.mk (HS.out.later hb); replace HS2 := Bx.mk (HS2.out.later hb); clear hb HF; clear a; intro a HF; refine ⟨HS.out, ?_⟩
      refine wh_y 9 rfl (by kernel_rfl) (by kernel_rfl) (by kernel_rfl) (fun _ _ _ h => h) rfl HF rfl rfl (fun _ HS => (yl_addS rfl (HF.ev rfl) (HF.ev rfl) (by (try simp only [size1, app_size]); omega))) HS.out ?_; clear HF a; intro a HF
      refine wh_y 10 rfl (by kernel_rfl) (by kernel_rfl) (by kernel_rfl) (fun _ _ _ h => h) rfl HF rfl rfl (fun _ HS => (yl_assign rfl (HF.ev rfl))) HS.out ?_; clear HF a; intro a HF
      refine wh_done (by kernel_rfl) ?_
      replace HS := HS2; clear HS2
      refine ex_then ?_
      refine wp_ret ?_
      refine bp_ret1 HF Tryz.results65 (HF.res rfl) ?_
      exact ⟨by rw [decB_big (n := n) (by omega), show UInt8.ofNat (48 + (n : Int) % (10 : Int)).toNat = UInt8.ofNat (48 + n % 10) from congrArg UInt8.ofNat (by omega)], HS.out.bel⟩

theorem numPutS_any (n : Int) (w0 : World) : Calls Tryz.prog 113 #[.int .i64 n] w0 fun e w' => e = .returned (.string (numB n)) ∧ Below w0.heap.size w0 w' := by
 have HS := Bx.mk (St.start w0)
 refine wc_enter Tryz.func113 rfl Tryz.ntmps113 [(0, .int .i64 n)] ⟨rfl, trivial⟩ rfl ?_; intro a HF
 refine wp_sr ?_
 refine wl_as HF rfl rfl rfl rfl rfl ?_; clear HF a; intro a HF
 refine wl_ne ?_
 refine wp_seq ?_
 refine wp_sr ?_
 refine wl_mv HF rfl rfl rfl rfl rfl ?_; clear HF a; intro a HF
 refine wl_callB rfl HF rfl (enter_of Tryz.func61 (by kernel_rfl) rfl) (args := #[.int .i64 n, .int .i64 0, .int .i64 999999999]) rfl (v := .bool (inB n 0 999999999)) (((l6In_any n 0 999999999 _).mono fun _ _ h => ⟨h.1, h.2 ▸ Below.refl _ _⟩)) rfl rfl HS.out ?_; clear HF HS a; intro w1 a HS HF; replace HS := Bx.mk HS
 refine wl_y rfl HF rfl rfl (yl_not rfl (HF.ev rfl)) ?_; clear HF a; intro a HF
 refine wl_ne ?_
 refine HF.cases 5 rfl (fun cc1 HF1 => ?_) (fun cc1 HF1 => ?_)
 ·clear HF; have HF := HF1; clear HF1
  refine wc_true HF rfl ?_
  refine wp_sr ?_
  refine wl_as HF rfl rfl rfl rfl rfl ?_; clear HF a; intro a HF
  refine wl_ne ?_
  refine wp_ret ?_
  refine ex_then_ret ?_
  refine bp_ret1 HF Tryz.results113 (HF.res rfl) ?_
  exact ⟨by rw [numB_out (by have := cc1; simp [inB] at this; omega)]; rfl, HS.out.bel⟩
 ·clear HF; have HF := HF1; clear HF1
  refine wc_false HF rfl ?_
  refine wp_skip ?_
  refine ex_then ?_
  refine wp_seq ?_
  have hin : inB n 0 999999999 = true := by simpa using cc1
  obtain ⟨hn0, hn1⟩ : 0 ≤ n ∧ n ≤ 999999999 := by unfold inB at hin; simpa using hin
  obtain ⟨m, rfl⟩ : ∃ m : Nat, n = (m : Int) := ⟨n.toNat, by omega⟩
  refine wp_region_lit ?_
  refine wl_mv HF rfl rfl rfl rfl rfl ?_; clear HF a; intro a HF
  refine wl_callB rfl HF rfl (enter_of Tryz.func65 (by kernel_rfl) rfl) (args := #[.int .i64 (m : Int)]) rfl (v := .string (decB m)) (l6Dec_any m (by omega) _) rfl rfl HS.out ?_; clear HF HS a; intro w2 a HS HF; replace HS := Bx.mk HS
  refine wl_as HF rfl rfl rfl rfl rfl ?_; clear HF a; intro a HF
  refine wl_ne ?_
  refine wp_ret ?_
  refine bp_ret1 HF Tryz.results113 (HF.res rfl) ?_
  exact ⟨by rw [numB_in hn0 hn1, Int.toNat_natCast], HS.out.bel⟩

theorem size_colon : (⟨#[58]⟩ : ByteArray).size = 1 := rfl
theorem fieldsPutS_any (a0 : Option Addr) (n c0 : Nat) (xs : List ByteArray) (w0 : World) (hl : xs.length ≤ 1048576) (hx : szs xs) (hR : Rd encS 1 w0 a0 n xs) : Calls Tryz.prog 67 #[.slice a0 n c0] w0 fun e w' => e = .returned (.tuple #[.string (fieldsPut xs).1, .bool (fieldsPut xs).2]) ∧ Below w0.heap.size w0 w' := by
 obtain rfl := hR.len
 obtain ⟨g0, o0, r0⟩ := hR.opn; have R0 := Bx.mk r0; clear r0 hR
 have HS := Bx.mk (St.start w0)
 refine wc_enter Tryz.func67 rfl Tryz.ntmps67 [(0, .slice a0 xs.length c0)] ⟨rfl, trivial⟩ rfl ?_; intro a HF
 refine wp_sr ?_
 refine wl_as HF rfl rfl rfl rfl rfl ?_; clear HF a; intro a HF
 refine wl_as HF rfl rfl rfl rfl rfl ?_; clear HF a; intro a HF
 refine wl_ne ?_
 refine wp_sr ?_
 refine wl_as HF rfl rfl rfl rfl rfl ?_; clear HF a; intro a HF
 refine wl_ne ?_
 refine wp_seq ?_
 refine wp_sr ?_
 refine wl_as HF rfl rfl rfl rfl rfl ?_; clear HF a; intro a HF
 refine wl_ne ?_
 refine wp_block ?_
 refine wc_loop (ι := Nat) (fun k a w => (k ≤ xs.length ∧ (recB (xs.take k)).size ≤ 2048 ∧ (¬ xs.length ≤ 60 → k = 0)) ∧ Fr 44 a [(0, .slice a0 xs.length c0), (4, .string (recB (xs.take k))), (5, .int .i64 (k : Int))] ∧ St w0 ([]) w) (fun k => xs.length - k) 0 ⟨⟨Nat.zero_le _, by simp [recB], fun _ => rfl⟩, HF.less _ ⟨rfl, rfl, rfl, trivial⟩, HS.out⟩ ?_
 clear HF HS; clear a
 rintro k a w1 ⟨⟨hk, hr, h0k⟩, HF, HS⟩
 replace HS := Bx.mk HS
 have hxk := hx k; have hdec := decB_20 (n := (xs.getD k ByteArray.empty).size) (by omega)
 refine wp_seq ?_
 refine wp_sr ?_
 refine wl_mv HF rfl rfl rfl rfl rfl ?_; clear HF a; intro a HF
 refine wl_mv HF rfl rfl rfl rfl rfl ?_; clear HF a; intro a HF
 refine wl_y rfl HF rfl rfl (yl_lenL (e := 9) (size := 1) rfl (HF.ev rfl) (by kernel_rfl)) ?_; clear HF a; intro a HF
 refine wl_y rfl HF rfl rfl (yl_lssI rfl (HF.ev rfl) (HF.ev rfl)) ?_; clear HF a; intro a HF
 refine wl_mv HF rfl rfl rfl rfl rfl ?_; clear HF a; intro a HF
 refine HF.cases 10 rfl (fun cc1 HF1 => ?_) (fun cc1 HF1 => ?_)
 ·clear HF; have HF := HF1; clear HF1
  have dcc1 := of_decide_eq_true cc1
  refine wl_yg HF rfl rfl rfl rfl rfl (yl_move rfl (HF.ev rfl)) ?_; clear HF a; intro a HF
  refine wl_yg HF rfl rfl rfl rfl rfl (yl_lenL (e := 9) (size := 1) rfl (HF.ev rfl) (by kernel_rfl)) ?_; clear HF a; intro a HF
  refine wl_yg HF rfl rfl rfl rfl rfl (yl_leqI rfl (HF.ev rfl) (HF.ev rfl)) ?_; clear HF a; intro a HF
  refine wl_y rfl HF rfl rfl (yl_pick_t rfl (HF.ev rfl) (HF.ev rfl)) ?_; clear HF a; intro a HF
  refine wl_ne ?_
  refine HF.cases 14 rfl (fun cc2 HF1 => ?_) (fun cc2 HF1 => ?_)
  ·clear HF; have HF := HF1; clear HF1
   have dcc2 := of_decide_eq_true cc2
   refine wc_true HF rfl ?_
   refine wp_skip ?_
   refine ex_then ?_
   refine wp_seq ?_
   refine wp_block ?_
   refine wp_seq ?_
   refine wp_sr ?_
   refine wl_mv HF rfl rfl rfl rfl rfl ?_; clear HF a; intro a HF
   refine wl_mv HF rfl rfl rfl rfl rfl ?_; clear HF a; intro a HF
   refine wl_y rfl HF rfl rfl (yl_indexAddrR (e := 9) (i := k) (size := 1) rfl (HF.ev rfl) (HF.ev rfl) (by kernel_rfl) rfl (by omega) (R0.out.ao k (by omega))) ?_; clear HF a; intro a HF
   refine wl_y rfl HF rfl rfl (yl_load (v := .string (xs.getD k ByteArray.empty)) rfl (HF.ev rfl) (R0.out.elem1 HS.out (get_getD (xs := xs) (j := k) (d := ByteArray.empty) (by omega)) rfl) (by kernel_rfl)) ?_; clear HF a; intro a HF
   refine wl_y rfl HF rfl rfl (yl_lenS rfl (HF.ev rfl) (by kernel_rfl)) ?_; clear HF a; intro a HF
   refine wl_y rfl HF rfl rfl (yl_gtrI rfl (HF.ev rfl) (HF.ev rfl)) ?_; clear HF a; intro a HF
   refine wl_ne ?_
   refine HF.cases 22 rfl (fun cc3 HF1 => ?_) (fun cc3 HF1 => ?_)
   ·clear HF; have HF := HF1; clear HF1
    have dcc3 := of_decide_eq_true cc3
    refine wc_true HF rfl ?_
    refine wp_sr ?_
    refine wl_as HF rfl rfl rfl rfl rfl ?_; clear HF a; intro a HF
    refine wl_as HF rfl rfl rfl rfl rfl ?_; clear HF a; intro a HF
    refine wl_ne ?_
    refine wp_ret ?_
    refine ex_then_ret ?_
    refine ex_block_ret ?_
    refine ex_then_ret ?_
    refine ex_then_ret ?_
    refine ex_block_ret ?_
    refine ex_then_ret ?_
    refine bp_ret2 HF Tryz.results67 (HF.res rfl) (HF.res rfl) ?_
    exact ⟨by rw [fieldsPut_elem (k := k) (by omega) (by omega)]; rfl, HS.out.bel⟩
   ·clear HF; have HF := HF1; clear HF1
    have dcc3 := of_decide_eq_false cc3
    refine wc_false HF rfl ?_
    refine wp_skip ?_
    refine ex_then ?_
    refine wp_seq ?_
    refine wr_quiet (by kernel_rfl) (by kernel_rfl) HS.out ?_
    refine wq_y rfl HF rfl rfl (fun _ HS => (yl_move rfl (HF.ev rfl))) ?_; clear HF a; intro a HF
    refine wq_y rfl HF rfl rfl (fun _ HS => (yl_move rfl (HF.ev rfl))) ?_; clear HF a; intro a HF
    refine wq_y rfl HF rfl rfl (fun _ HS => (yl_move rfl (HF.ev rfl))) ?_; clear HF a; intro a HF
    refine wq_y rfl HF rfl rfl (fun _ HS => (yl_indexAddrR (e := 9) (i := k) (size := 1) rfl (HF.ev rfl) (HF.ev rfl) (by kernel_rfl) rfl (by omega) (R0.out.ao k (by omega)))) ?_; clear HF a; intro a HF
    refine wq_y rfl HF rfl rfl (fun _ HS => (yl_load (v := .string (xs.getD k ByteArray.empty)) rfl (HF.ev rfl) (R0.out.elem1 HS (get_getD (xs := xs) (j := k) (d := ByteArray.empty) (by omega)) rfl) (by kernel_rfl))) ?_; clear HF a; intro a HF
    refine wq_y rfl HF rfl rfl (fun _ HS => (yl_lenS rfl (HF.ev rfl) (by kernel_rfl))) ?_; clear HF a; intro a HF
    refine wq_call rfl HF rfl (enter_of Tryz.func65 (by kernel_rfl) rfl) (args := #[.int .i64 ((xs.getD k ByteArray.empty).size : Int)]) rfl (v := .string (decB ((xs.getD k ByteArray.empty).size))) (fun _ HS => l6Dec_any ((xs.getD k ByteArray.empty).size) (by omega) _) rfl rfl ?_; clear HF a; intro a HF
    refine wq_y rfl HF rfl rfl (fun _ HS => (yl_addS rfl (HF.ev rfl) (HF.ev rfl) (by (try simp only [size_colon, app_size]); omega))) ?_; clear HF a; intro a HF
    refine wq_y rfl HF rfl rfl (fun _ HS => (yl_addS rfl (HF.ev rfl) (HF.ev rfl) (by (try simp only [size_colon, app_size]); omega))) ?_; clear HF a; intro a HF
    refine wq_y rfl HF rfl rfl (fun _ HS => (yl_move rfl (HF.ev rfl))) ?_; clear HF a; intro a HF
    refine wq_y rfl HF rfl rfl (fun _ HS => (yl_move rfl (HF.ev rfl))) ?_; clear HF a; intro a HF
    refine wq_y rfl HF rfl rfl (fun _ HS => (yl_indexAddrR (e := 9) (i := k) (size := 1) rfl (HF.ev rfl) (HF.ev rfl) (by kernel_rfl) rfl (by omega) (R0.out.ao k (by omega)))) ?_; clear HF a; intro a HF
    refine wq_y rfl HF rfl rfl (fun _ HS => (yl_load (v := .string (xs.getD k ByteArray.empty)) rfl (HF.ev rfl) (R0.out.elem1 HS (get_getD (xs := xs) (j := k) (d := ByteArray.empty) (by omega)) rfl) (by kernel_rfl))) ?_; clear HF a; intro a HF
    refine wq_y rfl HF rfl rfl (fun _ HS => (yl_addS rfl (HF.ev rfl) (HF.ev rfl) (by (try simp only [size_colon, app_size]); omega))) ?_; clear HF a; intro a HF
    refine wq_y rfl HF rfl rfl (fun _ HS => (yl_assign rfl (HF.ev rfl))) ?_; clear HF a; intro a HF
    refine wpQuiet_nil ?_; intro w2 HS; replace HS := Bx.mk HS
    refine ex_then ?_
    refine wp_sr ?_
    refine wl_mv HF rfl rfl rfl rfl rfl ?_; clear HF a; intro a HF
    refine wl_y rfl HF rfl rfl (yl_lenS rfl (HF.ev rfl) (by kernel_rfl)) ?_; clear HF a; intro a HF
    refine wl_y rfl HF rfl rfl (yl_gtrI rfl (HF.ev rfl) (HF.ev rfl)) ?_; clear HF a; intro a HF
    refine wl_ne ?_
    refine HF.cases 39 rfl (fun cc4 HF1 => ?_) (fun cc4 HF1 => ?_)
    ·clear HF; have HF := HF1; clear HF1
     have dcc4 := of_decide_eq_true cc4
     refine wc_true HF rfl ?_
     refine wp_sr ?_
     refine wl_as HF rfl rfl rfl rfl rfl ?_; clear HF a; intro a HF
     refine wl_as HF rfl rfl rfl rfl rfl ?_; clear HF a; intro a HF
     refine wl_ne ?_
     refine wp_ret ?_
     refine ex_block_ret ?_
     refine ex_then_ret ?_
     refine ex_then_ret ?_
     refine ex_block_ret ?_
     refine ex_then_ret ?_
     refine bp_ret2 HF Tryz.results67 (HF.res rfl) (HF.res rfl) ?_
     have hgt : ¬ (recB (xs.take (k + 1))).size ≤ 2048 := by rw [recB_step xs (by omega)]; exact gt_of_cmp cc4
     exact ⟨by rw [fieldsPut_big hgt]; rfl, HS.out.bel⟩
    ·clear HF; have HF := HF1; clear HF1
     have dcc4 := of_decide_eq_false cc4
     refine wc_false HF rfl ?_
     refine wp_skip ?_
     refine ex_block ?_
     refine ex_then ?_
     refine wp_region_lit ?_
     refine wl_mv HF rfl rfl rfl rfl rfl ?_; clear HF a; intro a HF
     refine wl_y rfl HF rfl rfl (yl_addI rfl (HF.ev rfl) (HF.ev rfl) (i64w (by omega))) ?_; clear HF a; intro a HF
     refine wl_as HF rfl rfl rfl rfl rfl ?_; clear HF a; intro a HF
     refine wl_ne ?_
     have hst := recB_step xs (k := k) (by omega)
     have hle : (recB (xs.take (k + 1))).size ≤ 2048 := by rw [hst]; exact le_of_cmp cc4
     exact ⟨k + 1, ⟨⟨by omega, hle, fun h => absurd h (by omega)⟩, HF.less _ ⟨rfl, (congrArg (fun z => some (Value.string z)) hst.symm), rfl, trivial⟩, HS.out⟩, (by omega)⟩
  ·clear HF; have HF := HF1; clear HF1
   have dcc2 := of_decide_eq_false cc2
   refine wc_false HF rfl ?_
   refine wp_exit ?_
   refine ex_then_exit ?_
   refine ex_then_exit ?_
   refine ex_block_hit ?_
   refine ex_then ?_
   refine wp_sr ?_
   refine wl_mv HF rfl rfl rfl rfl rfl ?_; clear HF a; intro a HF
   refine wl_mv HF rfl rfl rfl rfl rfl ?_; clear HF a; intro a HF
   refine wl_y rfl HF rfl rfl (yl_lenL (e := 9) (size := 1) rfl (HF.ev rfl) (by kernel_rfl)) ?_; clear HF a; intro a HF
   refine wl_y rfl HF rfl rfl (yl_leqI rfl (HF.ev rfl) (HF.ev rfl)) ?_; clear HF a; intro a HF
   refine wl_as HF rfl rfl rfl rfl rfl ?_; clear HF a; intro a HF
   refine wl_as HF rfl rfl rfl rfl rfl ?_; clear HF a; intro a HF
   refine wl_ne ?_
   refine wp_ret ?_
   refine bp_ret2 HF Tryz.results67 (HF.res rfl) (HF.res rfl) ?_
   by_cases h60 : xs.length ≤ 60
   ·obtain rfl : k = xs.length := by omega
    rw [List.take_length] at hr
    exact ⟨by rw [fieldsPut_yes h60 hr, List.take_length, show ((decide ((xs.length : Int) ≤ 60))) = true from decide_eq_true (by omega)], HS.out.bel⟩
   ·obtain rfl : k = 0 := h0k (by omega)
    exact ⟨by rw [fieldsPut_long h60, show ((decide ((xs.length : Int) ≤ 60))) = false from decide_eq_false (by omega)]; rfl, HS.out.bel⟩
 ·clear HF; have HF := HF1; clear HF1
  have dcc1 := of_decide_eq_false cc1
  refine wl_skip HF rfl rfl rfl rfl rfl rfl ?_; clear HF a; intro a HF
  refine wl_skip HF rfl rfl rfl rfl rfl rfl ?_; clear HF a; intro a HF
  refine wl_skip HF rfl rfl rfl rfl rfl rfl ?_; clear HF a; intro a HF
  refine wl_y rfl HF rfl rfl (yl_pick_f rfl (HF.ev rfl) (HF.ev rfl)) ?_; clear HF a; intro a HF
  refine wl_ne ?_
  refine wc_false HF rfl ?_
  refine wp_exit ?_
  refine ex_then_exit ?_
  refine ex_then_exit ?_
  refine ex_block_hit ?_
  refine ex_then ?_
  refine wp_sr ?_
  refine wl_mv HF rfl rfl rfl rfl rfl ?_; clear HF a; intro a HF
  refine wl_mv HF rfl rfl rfl rfl rfl ?_; clear HF a; intro a HF
  refine wl_y rfl HF rfl rfl (yl_lenL (e := 9) (size := 1) rfl (HF.ev rfl) (by kernel_rfl)) ?_; clear HF a; intro a HF
  refine wl_y rfl HF rfl rfl (yl_leqI rfl (HF.ev rfl) (HF.ev rfl)) ?_; clear HF a; intro a HF
  refine wl_as HF rfl rfl rfl rfl rfl ?_; clear HF a; intro a HF
  refine wl_as HF rfl rfl rfl rfl rfl ?_; clear HF a; intro a HF
  refine wl_ne ?_
  refine wp_ret ?_
  refine bp_ret2 HF Tryz.results67 (HF.res rfl) (HF.res rfl) ?_
  by_cases h60 : xs.length ≤ 60
  ·obtain rfl : k = xs.length := by omega
   rw [List.take_length] at hr
   exact ⟨by rw [fieldsPut_yes h60 hr, List.take_length, show ((decide ((xs.length : Int) ≤ 60))) = true from decide_eq_true (by omega)], HS.out.bel⟩
  ·obtain rfl : k = 0 := h0k (by omega)
   exact ⟨by rw [fieldsPut_long h60, show ((decide ((xs.length : Int) ≤ 60))) = false from decide_eq_false (by omega)]; rfl, HS.out.bel⟩

end Go.Proofs.YtoaopmkbfifhaaaGreatDoor

/- Laws for the draws, 3: sets of disks that read. -/
namespace Go.Proofs.YtoaopmkbfifhaaaGreatDoor
set_option linter.unusedVariables false
set_option linter.unusedSimpArgs false
set_option maxHeartbeats 1000000
set_option maxRecDepth 100000
open Go.RowKit
/-- A set of disks reads. -/
def rdsP (ao : Option Addr) (ps : List HD) (w : World) : Prop := Rd HD.cells 3 w ao ps.length ps ∧ ∀ p, p ∈ ps → p.reads w
def fitsL (ps : List HD) : Prop := ∀ p, p ∈ ps → p.d.fits
theorem default_fits : (default : HD).d.fits := ⟨Nat.zero_le _, Nat.zero_le _, fun k => Nat.zero_le _, fun k => Nat.zero_le _⟩
theorem fitsL.at {ps : List HD} (h : fitsL ps) (k : Nat) : (ps.getD k default).d.fits := by
  by_cases hk : k < ps.length
  · rw [getD_get hk]; exact h _ (List.getElem_mem hk)
  · rw [show ps.getD k default = default by simp [List.getD, List.getElem?_eq_none (Nat.le_of_not_lt hk)]]
    exact default_fits
theorem fitsL.set {ps : List HD} (h : fitsL ps) {q : HD} (hq : q.d.fits) (k : Nat) : fitsL (ps.set k q) := fun p hp => (List.mem_or_eq_of_mem_set hp).elim (h p) fun e => by rw [e]; exact hq
theorem fitsL.drop {ps : List HD} (h : fitsL ps) (k : Nat) : fitsL (ps.drop k) := fun p hp => h p (List.mem_of_mem_drop hp)
theorem niceS.fitsL {n : Nat} {ps : List HD} (h : niceS n (dsOf ps)) (hn : n ≤ 1000) : fitsL ps := fun p hp => (h.2 p.d (List.mem_map_of_mem hp)).fits hn
theorem niceS.len {n : Nat} {ps : List HD} (h : niceS n (dsOf ps)) : ps.length = 3 := by rw [← dsOf_len]; exact h.1
theorem rdsP.at {ao : Option Addr} {ps : List HD} {w : World} (h : rdsP ao ps w) : ∀ k, k < ps.length → (ps.getD k default).reads w := fun k hk => by rw [getD_get hk]; exact h.2 _ (List.getElem_mem hk)
end Go.Proofs.YtoaopmkbfifhaaaGreatDoor

/- Pointers and trees as texts; signed records: walked. -/
namespace Go.Proofs.YtoaopmkbfifhaaaGreatDoor
set_option linter.unusedVariables false
set_option linter.unusedSimpArgs false
set_option maxHeartbeats 1000000
set_option maxRecDepth 100000
open Go.RowKit

theorem l6DecI_any (n : Int) (h0 : 0 ≤ n) (h1 : n ≤ 9223372036854775807) (w0 : World) : Calls Tryz.prog 65 #[.int .i64 n] w0 fun e w' => e = .returned (.string (decB n.toNat)) ∧ Below w0.heap.size w0 w' := by
  obtain ⟨m, rfl⟩ : ∃ m : Nat, n = (m : Int) := ⟨n.toNat, by omega⟩
  rw [Int.toNat_natCast]; exact l6Dec_any m (by omega) w0
def dotB : ByteArray := ⟨#[46]⟩
/-- The text of a pointer. -/
def ptrB (p : PtrD) : ByteArray := bif p.ok then (bif p.hole then ⟨#[45]⟩ else numB p.fAt ++ dotB ++ numB p.fBirth ++ dotB ++ numB p.fSize ++ dotB ++ numB p.fSum ++ dotB ++ numB p.fLevel) else ByteArray.empty
theorem ptrB_no {p : PtrD} (h : p.ok = false) : ptrB p = ByteArray.empty := by unfold ptrB; rw [h]; rfl
theorem ptrB_hole {p : PtrD} (h : p.ok = true) (h2 : p.hole = true) : ptrB p = ⟨#[45]⟩ := by unfold ptrB; rw [h, h2]; rfl
theorem ptrB_yes {p : PtrD} (h : p.ok = true) (h2 : p.hole = false) : ptrB p = numB p.fAt ++ dotB ++ numB p.fBirth ++ dotB ++ numB p.fSize ++ dotB ++ numB p.fSum ++ dotB ++ numB p.fLevel := by unfold ptrB; rw [h, h2]; rfl
theorem size_dot : dotB.size = 1 := rfl
theorem ptrB_le (p : PtrD) : (ptrB p).size ≤ 49 := by
  have h1 := numB_le p.fAt; have h2 := numB_le p.fBirth; have h3 := numB_le p.fSize; have h4 := numB_le p.fSum; have h5 := numB_le p.fLevel
  cases h : p.ok with
  | false => rw [ptrB_no h]; exact Nat.zero_le _
  | true =>
    cases hh : p.hole with
    | true => rw [ptrB_hole h hh]; decide
    | false => rw [ptrB_yes h hh]; simp only [app_size, size_dot]; omega
theorem PtrD.ok_all {p : PtrD} (h : p.ok = true) (h2 : p.hole = false) : 8 ≤ p.fAt ∧ p.fAt ≤ 63 ∧ 1 ≤ p.fBirth ∧ p.fBirth ≤ 900 ∧ 1 ≤ p.fSize ∧ p.fSize ≤ 128 ∧ 0 ≤ p.fSum ∧ p.fSum ≤ 99460728 ∧ 0 ≤ p.fLevel ∧ p.fLevel ≤ 2 := by
  unfold PtrD.ok at h
  rw [h2, Bool.false_or] at h
  simp only [Bool.and_eq_true] at h
  have h1 := inB_true h.1.1.1.1
  have h3 := inB_true h.1.1.1.2
  have h4 := inB_true h.1.1.2
  have h5 := inB_true h.1.2
  have h6 := inB_true h.2
  omega
def encA (x : Option Addr) : List Value := [.pointer x]
theorem encA_len (x : Option Addr) : (encA x).length = 1 := rfl
theorem joinT5 (a b c d e s : ByteArray) : joinT [a, b, c, d, e] s = a ++ s ++ b ++ s ++ c ++ s ++ d ++ s ++ e := by
  apply ba_ext
  show Go.Lib.join _ _ = _
  simp only [List.map_cons, List.map_nil, Go.Lib.join_cons, Go.Lib.joinTail, list_append, List.flatten_cons, List.flatten_nil, List.append_nil, List.append_assoc]

theorem parts_any (b : Nat) (w0 : World) : Calls Tryz.prog 158 #[.pointer (some ⟨b, 0, none⟩)] w0 fun e w' => ∃ ao cp, e = .returned (.slice ao 5 cp) ∧ St w0 [rowA encA 1 173 (.slice ao 5 cp) [(some ⟨b, 0 + 0, none⟩), (some ⟨b, 0 + 1, none⟩), (some ⟨b, 0 + 2, none⟩), (some ⟨b, 0 + 3, none⟩), (some ⟨b, 0 + 4, none⟩)]] w' := by
 have HS := Bx.mk (St.start w0)
 refine wc_enter Tryz.func158 rfl Tryz.ntmps158 [(0, .pointer (some ⟨b, 0, none⟩))] ⟨rfl, trivial⟩ rfl ?_; intro a HF
 refine wp_sr ?_
 refine wl_as HF rfl rfl rfl rfl rfl ?_; clear HF a; intro a HF
 refine wl_ne ?_
 refine wp_seq ?_
 refine wr_tail 15 (by kernel_rfl) (by kernel_rfl) HS.out ?_
 simp only [List.take_succ_cons, List.take_zero, List.drop_succ_cons, List.drop_zero]
 intro w1 HS
 replace HS := Bx.mk HS
 refine ws_y rfl HF rfl rfl (yl_move rfl (HF.ev rfl)) ?_; clear HF a; intro a HF
 refine ws_y rfl HF rfl rfl (yl_nilCheck rfl (HF.ev rfl)) ?_; clear HF a; intro a HF
 refine ws_y rfl HF rfl rfl (yl_fieldAddr (j := 0) rfl (HF.ev rfl) (by kernel_rfl)) ?_; clear HF a; intro a HF
 refine ws_y rfl HF rfl rfl (yl_move rfl (HF.ev rfl)) ?_; clear HF a; intro a HF
 refine ws_y rfl HF rfl rfl (yl_nilCheck rfl (HF.ev rfl)) ?_; clear HF a; intro a HF
 refine ws_y rfl HF rfl rfl (yl_fieldAddr (j := 1) rfl (HF.ev rfl) (by kernel_rfl)) ?_; clear HF a; intro a HF
 refine ws_y rfl HF rfl rfl (yl_move rfl (HF.ev rfl)) ?_; clear HF a; intro a HF
 refine ws_y rfl HF rfl rfl (yl_nilCheck rfl (HF.ev rfl)) ?_; clear HF a; intro a HF
 refine ws_y rfl HF rfl rfl (yl_fieldAddr (j := 2) rfl (HF.ev rfl) (by kernel_rfl)) ?_; clear HF a; intro a HF
 refine ws_y rfl HF rfl rfl (yl_move rfl (HF.ev rfl)) ?_; clear HF a; intro a HF
 refine ws_y rfl HF rfl rfl (yl_nilCheck rfl (HF.ev rfl)) ?_; clear HF a; intro a HF
 refine ws_y rfl HF rfl rfl (yl_fieldAddr (j := 3) rfl (HF.ev rfl) (by kernel_rfl)) ?_; clear HF a; intro a HF
 refine ws_y rfl HF rfl rfl (yl_move rfl (HF.ev rfl)) ?_; clear HF a; intro a HF
 refine ws_y rfl HF rfl rfl (yl_nilCheck rfl (HF.ev rfl)) ?_; clear HF a; intro a HF
 refine ws_y rfl HF rfl rfl (yl_fieldAddr (j := 4) rfl (HF.ev rfl) (by kernel_rfl)) ?_; clear HF a; intro a HF
 refine wpStill_nil ?_
 refine wl_buildS (enc := encA) (e := 173) (size := 1) rfl HF rfl rfl rfl (ps := [(0, .pointer (some ⟨b, 0 + 0, none⟩)), (1, .pointer (some ⟨b, 0 + 1, none⟩)), (2, .pointer (some ⟨b, 0 + 2, none⟩)), (3, .pointer (some ⟨b, 0 + 3, none⟩)), (4, .pointer (some ⟨b, 0 + 4, none⟩))]) rfl (cells := [.pointer (some ⟨b, 0 + 0, none⟩), .pointer (some ⟨b, 0 + 1, none⟩), .pointer (some ⟨b, 0 + 2, none⟩), .pointer (some ⟨b, 0 + 3, none⟩), .pointer (some ⟨b, 0 + 4, none⟩)]) (by kernel_rfl) [(some ⟨b, 0 + 0, none⟩), (some ⟨b, 0 + 1, none⟩), (some ⟨b, 0 + 2, none⟩), (some ⟨b, 0 + 3, none⟩), (some ⟨b, 0 + 4, none⟩)] rfl rfl (by unfold maxLen; omega) rfl HS.out ?_; clear HF HS a; intro b1 a w2 HF HS; replace HS := Bx.mk HS
 refine wl_as HF rfl rfl rfl rfl rfl ?_; clear HF a; intro a HF
 refine wl_ne ?_
 refine wp_ret ?_
 refine bp_ret1 HF Tryz.results158 (HF.res rfl) ?_
 exact ⟨_, _, rfl, HS.out⟩

theorem ptrPutI_any (p : PtrD) (w0 : World) (hT : TabP w0) : Calls Tryz.prog 127 #[.agg #[.int .i64 p.fAt, .int .i64 p.fBirth, .int .i64 p.fSize, .int .i64 p.fSum, .int .i64 p.fLevel]] w0 fun e w' => e = .returned (.string (ptrB p)) ∧ Below w0.heap.size w0 w' := by
 have HT := Bx.mk hT; clear hT
 have HS := Bx.mk (St.start w0)
 refine wc_enter Tryz.func127 rfl Tryz.ntmps127 [(0, .agg #[.int .i64 p.fAt, .int .i64 p.fBirth, .int .i64 p.fSize, .int .i64 p.fSum, .int .i64 p.fLevel])] ⟨rfl, trivial⟩ rfl ?_; intro a HF
 refine wp_sr ?_
 refine wl_box rfl HF rfl (HF.ev rfl) (Z := [.int .i64 p.fAt, .int .i64 p.fBirth, .int .i64 p.fSize, .int .i64 p.fSum, .int .i64 p.fLevel]) rfl rfl rfl rfl HS.out ?_; clear HF HS a; intro a w1 b1 HF HS; replace HS := Bx.mk HS
 refine wl_as HF rfl rfl rfl rfl rfl ?_; clear HF a; intro a HF
 refine wl_ne ?_
 refine wp_seq ?_
 refine wp_block ?_
 refine wp_sr ?_
 refine wl_y rfl HF rfl rfl (yl_loadR (cs := [.int .i64 p.fAt, .int .i64 p.fBirth, .int .i64 p.fSize, .int .i64 p.fSum, .int .i64 p.fLevel]) rfl (HF.ev rfl) ((HS.out.box 0 rfl).sub 0 5) (by kernel_rfl)) ?_; clear HF a; intro a HF
 refine wl_callB rfl HF rfl (enter_of Tryz.func74 (by kernel_rfl) rfl) (args := #[.agg #[.int .i64 p.fAt, .int .i64 p.fBirth, .int .i64 p.fSize, .int .i64 p.fSum, .int .i64 p.fLevel]]) rfl (v := .bool p.ok) (implPtrOk_any p _) rfl rfl HS.out ?_; clear HF HS a; intro w2 a HS HF; replace HS := Bx.mk HS
 refine wl_y rfl HF rfl rfl (yl_not rfl (HF.ev rfl)) ?_; clear HF a; intro a HF
 refine wl_as HF rfl rfl rfl rfl rfl ?_; clear HF a; intro a HF
 refine wl_ne ?_
 refine HF.cases 6 rfl (fun cc1 HF1 => ?_) (fun cc1 HF1 => ?_)
 ·clear HF; have HF := HF1; clear HF1
  refine wc_true HF rfl ?_
  refine wp_sr ?_
  refine wl_as HF rfl rfl rfl rfl rfl ?_; clear HF a; intro a HF
  refine wl_ne ?_
  refine wp_ret ?_
  refine ex_block_ret ?_
  refine ex_then_ret ?_
  refine bp_ret1 HF Tryz.results127 (HF.res rfl) ?_
  exact ⟨by rw [ptrB_no (by simpa using cc1)]; rfl, HS.out.bel⟩
 ·clear HF; have HF := HF1; clear HF1
  refine wc_false HF rfl ?_
  refine wp_sr ?_
  refine wl_y rfl HF rfl rfl (yl_loadR (cs := [.int .i64 p.fAt, .int .i64 p.fBirth, .int .i64 p.fSize, .int .i64 p.fSum, .int .i64 p.fLevel]) rfl (HF.ev rfl) ((HS.out.box 0 rfl).sub 0 5) (by kernel_rfl)) ?_; clear HF a; intro a HF
  refine wl_callB rfl HF rfl (enter_of Tryz.func120 (by kernel_rfl) rfl) (args := #[.agg #[.int .i64 p.fAt, .int .i64 p.fBirth, .int .i64 p.fSize, .int .i64 p.fSum, .int .i64 p.fLevel]]) rfl (v := .bool p.hole) (implHole_any p _) rfl rfl HS.out ?_; clear HF HS a; intro w3 a HS HF; replace HS := Bx.mk HS
  refine wl_as HF rfl rfl rfl rfl rfl ?_; clear HF a; intro a HF
  refine wl_ne ?_
  refine HF.cases 10 rfl (fun cc2 HF1 => ?_) (fun cc2 HF1 => ?_)
  ·clear HF; have HF := HF1; clear HF1
   refine wc_true HF rfl ?_
   refine wp_sr ?_
   refine wl_as HF rfl rfl rfl rfl rfl ?_; clear HF a; intro a HF
   refine wl_ne ?_
   refine wp_ret ?_
   refine ex_block_ret ?_
   refine ex_then_ret ?_
   refine bp_ret1 HF Tryz.results127 (HF.res rfl) ?_
   exact ⟨by rw [ptrB_hole (by simpa using cc1) cc2], HS.out.bel⟩
  ·clear HF; have HF := HF1; clear HF1
   refine wc_false HF rfl ?_
   refine wp_skip ?_
   refine ex_block ?_
   refine ex_then ?_
   refine wp_sr ?_
   refine wl_as HF rfl rfl rfl rfl rfl ?_; clear HF a; intro a HF
   refine wl_ne ?_
   refine wp_seq ?_
   refine wp_sr ?_
   refine wl_call rfl HF rfl (enter_of Tryz.func158 (by kernel_rfl) rfl) (args := #[.pointer (some ⟨b1, 0, none⟩)]) rfl (parts_any b1 _) rfl rfl ?_
   rintro _ w4 ⟨ao2, cp2, rfl, hs⟩
   refine ⟨_, rfl, ?_⟩
   replace HS := Bx.mk (HS.out.add hs); clear hs HF; clear a; intro a HF
   replace HS : Bx (St w0 ([rowA encA 1 173 (.slice ao2 5 cp2) ([(some ⟨b1, 0 + 0, none⟩), (some ⟨b1, 0 + 1, none⟩), (some ⟨b1, 0 + 2, none⟩), (some ⟨b1, 0 + 3, none⟩), (some ⟨b1, 0 + 4, none⟩)]), boxA b1 5 38 (.agg #[.int .i64 p.fAt, .int .i64 p.fBirth, .int .i64 p.fSize, .int .i64 p.fSum, .int .i64 p.fLevel])]) _) := ⟨HS.out⟩
   refine wl_y rfl HF rfl rfl (yl_lenL (e := 173) (size := 1) rfl (HF.ev rfl) (by kernel_rfl)) ?_; clear HF a; intro a HF
   refine wl_mv HF rfl rfl rfl rfl rfl ?_; clear HF a; intro a HF
   refine wl_ne ?_
   refine wp_block ?_
   refine wc_rounds 6 ?_
   refine wp_seq ?_
   obtain ⟨g3, rfl, _, _, _, _⟩ := HS.out.rowOpen 0 rfl (Nat.succ_pos _)
   refine wp_region_lit ?_
   refine wl_y rfl HF rfl rfl (yl_lssI rfl (HF.ev rfl) (HF.ev rfl)) ?_; clear HF a; intro a HF
   refine wl_ne ?_
   refine wp_seq ?_
   replace HF := HF.know (k := 16) (c := true) rfl (by decide)
   refine wc_true HF rfl ?_
   refine wp_skip ?_
   refine ex_then ?_
   refine wp_seq ?_
   refine wp_block ?_
   refine wp_sr ?_
   refine wl_y rfl HF rfl rfl (yl_indexAddr (e := 173) (i := 0) (size := 1) rfl (HF.ev rfl) (HF.ev rfl) (by kernel_rfl) rfl (by omega)) ?_; clear HF a; intro a HF
   refine wl_y rfl HF rfl rfl (yl_load (v := .pointer (some ⟨b1, 0 + 0, none⟩)) rfl (HF.ev rfl) (HS.out.elem1 encA_len 0 rfl (show ([(some ⟨b1, 0 + 0, none⟩), (some ⟨b1, 0 + 1, none⟩), (some ⟨b1, 0 + 2, none⟩), (some ⟨b1, 0 + 3, none⟩), (some ⟨b1, 0 + 4, none⟩)] : List (Option Addr))[0]? = some _ from rfl) rfl) (by kernel_rfl)) ?_; clear HF a; intro a HF
   refine wl_as HF rfl rfl rfl rfl rfl ?_; clear HF a; intro a HF
   refine wl_ne ?_
   refine wp_region_lit ?_
   refine wl_mv HF rfl rfl rfl rfl rfl ?_; clear HF a; intro a HF
   refine wl_mv HF rfl rfl rfl rfl rfl ?_; clear HF a; intro a HF
   refine wl_y rfl HF rfl rfl (yl_nilCheck rfl (HF.ev rfl)) ?_; clear HF a; intro a HF
   refine wl_y rfl HF rfl rfl (yl_load (v := .int .i64 p.fAt) rfl (HF.ev rfl) (((HS.out.box 1 rfl).cell 0).trans rfl) (by kernel_rfl)) ?_; clear HF a; intro a HF
   refine wl_callB rfl HF rfl (enter_of Tryz.func80 (by kernel_rfl) rfl) (args := #[.int .i64 p.fAt]) rfl (v := .string (numB p.fAt)) (numPutI_any p.fAt _ (HT.out.below HS.out.bel)) rfl rfl HS.out ?_; clear HF HS a; intro w5 a HS HF; replace HS := Bx.mk HS
   refine wl_buildS (enc := encS) (e := 9) (size := 1) rfl HF rfl rfl rfl (ps := [(0, .string (numB p.fAt))]) rfl (cells := [.string (numB p.fAt)]) (by kernel_rfl) [numB p.fAt] rfl rfl (by unfold maxLen; omega) rfl HS.out ?_; clear HF HS a; intro b4 a w6 HF HS; replace HS := Bx.mk HS
   replace HS := Bx.mk (HS.out.nilRow encS 1 9 none)
   refine wl_appL rfl HF rfl rfl rfl (HF.ev rfl) (HF.ev rfl) elemS encS_len HS.out 0 (xs := []) rfl (ys := [numB p.fAt]) (St.rdN HS.out encS_len 1 rfl) (cells_one_S _) (by unfold maxLen; (try simp only [List.length_append, List.length_cons, List.length_nil, List.nil_append]); omega) (by (try simp only [List.length_append, List.length_cons, List.length_nil, List.nil_append]); omega) ?_; clear HF HS a; intro ao6 cp7 w7 a HF HS; replace HS := Bx.mk HS
   replace HS : Bx (St w0 ([rowA encS 1 9 (.slice ao6 (([]).length + ([numB p.fAt]).length) cp7) (([]) ++ ([numB p.fAt])), rowA encS 1 9 (.slice (some ⟨b4, 0, none⟩) 1 1) ([numB p.fAt]), rowA encA 1 173 (.slice (some ⟨g3, 0, none⟩) 5 cp2) ([(some ⟨b1, 0 + 0, none⟩), (some ⟨b1, 0 + 1, none⟩), (some ⟨b1, 0 + 2, none⟩), (some ⟨b1, 0 + 3, none⟩), (some ⟨b1, 0 + 4, none⟩)]), boxA b1 5 38 (.agg #[.int .i64 p.fAt, .int .i64 p.fBirth, .int .i64 p.fSize, .int .i64 p.fSum, .int .i64 p.fLevel])]) _) := ⟨HS.out⟩
   refine wl_as HF rfl rfl rfl rfl rfl ?_; clear HF a; intro a HF
   refine wpList_nil ?_
   refine ex_block ?_
   refine ex_then ?_
   refine wp_region_lit ?_
   refine wl_y rfl HF rfl rfl (yl_addI (r := 1) rfl (HF.ev rfl) (HF.ev rfl) (by decide)) ?_; clear HF a; intro a HF
   refine wl_mv HF rfl rfl rfl rfl rfl ?_; clear HF a; intro a HF
   refine wl_ne ?_
   refine wc_round 5 ?_
   refine wp_sr ?_
   refine wl_y rfl HF rfl rfl (yl_lssI rfl (HF.ev rfl) (HF.ev rfl)) ?_; clear HF a; intro a HF
   refine wl_ne ?_
   refine wp_seq ?_
   replace HF := HF.know (k := 16) (c := true) rfl (by decide)
   refine wc_true HF rfl ?_
   refine wp_skip ?_
   refine ex_then ?_
   refine wp_seq ?_
   refine wp_block ?_
   refine wp_sr ?_
   refine wl_y rfl HF rfl rfl (yl_indexAddr (e := 173) (i := 1) (size := 1) rfl (HF.ev rfl) (HF.ev rfl) (by kernel_rfl) rfl (by omega)) ?_; clear HF a; intro a HF
   refine wl_y rfl HF rfl rfl (yl_load (v := .pointer (some ⟨b1, 0 + 1, none⟩)) rfl (HF.ev rfl) (HS.out.elem1 encA_len 2 rfl (show ([(some ⟨b1, 0 + 0, none⟩), (some ⟨b1, 0 + 1, none⟩), (some ⟨b1, 0 + 2, none⟩), (some ⟨b1, 0 + 3, none⟩), (some ⟨b1, 0 + 4, none⟩)] : List (Option Addr))[1]? = some _ from rfl) rfl) (by kernel_rfl)) ?_; clear HF a; intro a HF
   refine wl_as HF rfl rfl rfl rfl rfl ?_; clear HF a; intro a HF
   refine wl_ne ?_
   refine wp_region_lit ?_
   refine wl_mv HF rfl rfl rfl rfl rfl ?_; clear HF a; intro a HF
   refine wl_mv HF rfl rfl rfl rfl rfl ?_; clear HF a; intro a HF
   refine wl_y rfl HF rfl rfl (yl_nilCheck rfl (HF.ev rfl)) ?_; clear HF a; intro a HF
   refine wl_y rfl HF rfl rfl (yl_load (v := .int .i64 p.fBirth) rfl (HF.ev rfl) (((HS.out.box 3 rfl).cell 1).trans rfl) (by kernel_rfl)) ?_; clear HF a; intro a HF
   refine wl_callB rfl HF rfl (enter_of Tryz.func80 (by kernel_rfl) rfl) (args := #[.int .i64 p.fBirth]) rfl (v := .string (numB p.fBirth)) (numPutI_any p.fBirth _ (HT.out.below HS.out.bel)) rfl rfl HS.out ?_; clear HF HS a; intro w8 a HS HF; replace HS := Bx.mk HS
   refine wl_buildS (enc := encS) (e := 9) (size := 1) rfl HF rfl rfl rfl (ps := [(0, .string (numB p.fBirth))]) rfl (cells := [.string (numB p.fBirth)]) (by kernel_rfl) [numB p.fBirth] rfl rfl (by unfold maxLen; omega) rfl HS.out ?_; clear HF HS a; intro b8 a w9 HF HS; replace HS := Bx.mk HS
   refine wl_appL rfl HF rfl rfl rfl (HF.ev rfl) (HF.ev rfl) elemS encS_len HS.out 1 (xs := ([]) ++ ([numB p.fAt])) rfl (ys := [numB p.fBirth]) (St.rdN HS.out encS_len 0 rfl) (cells_one_S _) (by unfold maxLen; (try simp only [List.length_append, List.length_cons, List.length_nil, List.nil_append]); omega) (by (try simp only [List.length_append, List.length_cons, List.length_nil, List.nil_append]); omega) ?_; clear HF HS a; intro ao9 cp10 w10 a HF HS; replace HS := Bx.mk HS
   replace HS : Bx (St w0 ([rowA encS 1 9 (.slice (some ⟨b8, 0, none⟩) 1 1) ([numB p.fBirth]), rowA encS 1 9 (.slice ao9 ((([]) ++ ([numB p.fAt])).length + ([numB p.fBirth]).length) cp10) ((([]) ++ ([numB p.fAt])) ++ ([numB p.fBirth])), rowA encS 1 9 (.slice (some ⟨b4, 0, none⟩) 1 1) ([numB p.fAt]), rowA encA 1 173 (.slice (some ⟨g3, 0, none⟩) 5 cp2) ([(some ⟨b1, 0 + 0, none⟩), (some ⟨b1, 0 + 1, none⟩), (some ⟨b1, 0 + 2, none⟩), (some ⟨b1, 0 + 3, none⟩), (some ⟨b1, 0 + 4, none⟩)]), boxA b1 5 38 (.agg #[.int .i64 p.fAt, .int .i64 p.fBirth, .int .i64 p.fSize, .int .i64 p.fSum, .int .i64 p.fLevel])]) _) := ⟨HS.out⟩
   refine wl_as HF rfl rfl rfl rfl rfl ?_; clear HF a; intro a HF
   refine wpList_nil ?_
   refine ex_block ?_
   refine ex_then ?_
   refine wp_region_lit ?_
   refine wl_y rfl HF rfl rfl (yl_addI (r := 2) rfl (HF.ev rfl) (HF.ev rfl) (by decide)) ?_; clear HF a; intro a HF
   refine wl_mv HF rfl rfl rfl rfl rfl ?_; clear HF a; intro a HF
   refine wl_ne ?_
   refine wc_round 4 ?_
   refine wp_sr ?_
   refine wl_y rfl HF rfl rfl (yl_lssI rfl (HF.ev rfl) (HF.ev rfl)) ?_; clear HF a; intro a HF
   refine wl_ne ?_
   refine wp_seq ?_
   replace HF := HF.know (k := 16) (c := true) rfl (by decide)
   refine wc_true HF rfl ?_
   refine wp_skip ?_
   refine ex_then ?_
   refine wp_seq ?_
   refine wp_block ?_
   refine wp_sr ?_
   refine wl_y rfl HF rfl rfl (yl_indexAddr (e := 173) (i := 2) (size := 1) rfl (HF.ev rfl) (HF.ev rfl) (by kernel_rfl) rfl (by omega)) ?_; clear HF a; intro a HF
   refine wl_y rfl HF rfl rfl (yl_load (v := .pointer (some ⟨b1, 0 + 2, none⟩)) rfl (HF.ev rfl) (HS.out.elem1 encA_len 3 rfl (show ([(some ⟨b1, 0 + 0, none⟩), (some ⟨b1, 0 + 1, none⟩), (some ⟨b1, 0 + 2, none⟩), (some ⟨b1, 0 + 3, none⟩), (some ⟨b1, 0 + 4, none⟩)] : List (Option Addr))[2]? = some _ from rfl) rfl) (by kernel_rfl)) ?_; clear HF a; intro a HF
   refine wl_as HF rfl rfl rfl rfl rfl ?_; clear HF a; intro a HF
   refine wl_ne ?_
   refine wp_region_lit ?_
   refine wl_mv HF rfl rfl rfl rfl rfl ?_; clear HF a; intro a HF
   refine wl_mv HF rfl rfl rfl rfl rfl ?_; clear HF a; intro a HF
   refine wl_y rfl HF rfl rfl (yl_nilCheck rfl (HF.ev rfl)) ?_; clear HF a; intro a HF
   refine wl_y rfl HF rfl rfl (yl_load (v := .int .i64 p.fSize) rfl (HF.ev rfl) (((HS.out.box 4 rfl).cell 2).trans rfl) (by kernel_rfl)) ?_; clear HF a; intro a HF
   refine wl_callB rfl HF rfl (enter_of Tryz.func80 (by kernel_rfl) rfl) (args := #[.int .i64 p.fSize]) rfl (v := .string (numB p.fSize)) (numPutI_any p.fSize _ (HT.out.below HS.out.bel)) rfl rfl HS.out ?_; clear HF HS a; intro w11 a HS HF; replace HS := Bx.mk HS
   refine wl_buildS (enc := encS) (e := 9) (size := 1) rfl HF rfl rfl rfl (ps := [(0, .string (numB p.fSize))]) rfl (cells := [.string (numB p.fSize)]) (by kernel_rfl) [numB p.fSize] rfl rfl (by unfold maxLen; omega) rfl HS.out ?_; clear HF HS a; intro b11 a w12 HF HS; replace HS := Bx.mk HS
   refine wl_appL rfl HF rfl rfl rfl (HF.ev rfl) (HF.ev rfl) elemS encS_len HS.out 2 (xs := (([]) ++ ([numB p.fAt])) ++ ([numB p.fBirth])) rfl (ys := [numB p.fSize]) (St.rdN HS.out encS_len 0 rfl) (cells_one_S _) (by unfold maxLen; (try simp only [List.length_append, List.length_cons, List.length_nil, List.nil_append]); omega) (by (try simp only [List.length_append, List.length_cons, List.length_nil, List.nil_append]); omega) ?_; clear HF HS a; intro ao12 cp13 w13 a HF HS; replace HS := Bx.mk HS
   replace HS : Bx (St w0 ([rowA encS 1 9 (.slice (some ⟨b11, 0, none⟩) 1 1) ([numB p.fSize]), rowA encS 1 9 (.slice (some ⟨b8, 0, none⟩) 1 1) ([numB p.fBirth]), rowA encS 1 9 (.slice ao12 (((([]) ++ ([numB p.fAt])) ++ ([numB p.fBirth])).length + ([numB p.fSize]).length) cp13) (((([]) ++ ([numB p.fAt])) ++ ([numB p.fBirth])) ++ ([numB p.fSize])), rowA encS 1 9 (.slice (some ⟨b4, 0, none⟩) 1 1) ([numB p.fAt]), rowA encA 1 173 (.slice (some ⟨g3, 0, none⟩) 5 cp2) ([(some ⟨b1, 0 + 0, none⟩), (some ⟨b1, 0 + 1, none⟩), (some ⟨b1, 0 + 2, none⟩), (some ⟨b1, 0 + 3, none⟩), (some ⟨b1, 0 + 4, none⟩)]), boxA b1 5 38 (.agg #[.int .i64 p.fAt, .int .i64 p.fBirth, .int .i64 p.fSize, .int .i64 p.fSum, .int .i64 p.fLevel])]) _) := ⟨HS.out⟩
   refine wl_as HF rfl rfl rfl rfl rfl ?_; clear HF a; intro a HF
   refine wpList_nil ?_
   refine ex_block ?_
   refine ex_then ?_
   refine wp_region_lit ?_
   refine wl_y rfl HF rfl rfl (yl_addI (r := 3) rfl (HF.ev rfl) (HF.ev rfl) (by decide)) ?_; clear HF a; intro a HF
   refine wl_mv HF rfl rfl rfl rfl rfl ?_; clear HF a; intro a HF
   refine wl_ne ?_
   refine wc_round 3 ?_
   refine wp_sr ?_
   refine wl_y rfl HF rfl rfl (yl_lssI rfl (HF.ev rfl) (HF.ev rfl)) ?_; clear HF a; intro a HF
   refine wl_ne ?_
   refine wp_seq ?_
   replace HF := HF.know (k := 16) (c := true) rfl (by decide)
   refine wc_true HF rfl ?_
   refine wp_skip ?_
   refine ex_then ?_
   refine wp_seq ?_
   refine wp_block ?_
   refine wp_sr ?_
   refine wl_y rfl HF rfl rfl (yl_indexAddr (e := 173) (i := 3) (size := 1) rfl (HF.ev rfl) (HF.ev rfl) (by kernel_rfl) rfl (by omega)) ?_; clear HF a; intro a HF
   refine wl_y rfl HF rfl rfl (yl_load (v := .pointer (some ⟨b1, 0 + 3, none⟩)) rfl (HF.ev rfl) (HS.out.elem1 encA_len 4 rfl (show ([(some ⟨b1, 0 + 0, none⟩), (some ⟨b1, 0 + 1, none⟩), (some ⟨b1, 0 + 2, none⟩), (some ⟨b1, 0 + 3, none⟩), (some ⟨b1, 0 + 4, none⟩)] : List (Option Addr))[3]? = some _ from rfl) rfl) (by kernel_rfl)) ?_; clear HF a; intro a HF
   refine wl_as HF rfl rfl rfl rfl rfl ?_; clear HF a; intro a HF
   refine wl_ne ?_
   refine wp_region_lit ?_
   refine wl_mv HF rfl rfl rfl rfl rfl ?_; clear HF a; intro a HF
   refine wl_mv HF rfl rfl rfl rfl rfl ?_; clear HF a; intro a HF
   refine wl_y rfl HF rfl rfl (yl_nilCheck rfl (HF.ev rfl)) ?_; clear HF a; intro a HF
   refine wl_y rfl HF rfl rfl (yl_load (v := .int .i64 p.fSum) rfl (HF.ev rfl) (((HS.out.box 5 rfl).cell 3).trans rfl) (by kernel_rfl)) ?_; clear HF a; intro a HF
   refine wl_callB rfl HF rfl (enter_of Tryz.func80 (by kernel_rfl) rfl) (args := #[.int .i64 p.fSum]) rfl (v := .string (numB p.fSum)) (numPutI_any p.fSum _ (HT.out.below HS.out.bel)) rfl rfl HS.out ?_; clear HF HS a; intro w14 a HS HF; replace HS := Bx.mk HS
   refine wl_buildS (enc := encS) (e := 9) (size := 1) rfl HF rfl rfl rfl (ps := [(0, .string (numB p.fSum))]) rfl (cells := [.string (numB p.fSum)]) (by kernel_rfl) [numB p.fSum] rfl rfl (by unfold maxLen; omega) rfl HS.out ?_; clear HF HS a; intro b14 a w15 HF HS; replace HS := Bx.mk HS
   refine wl_appL rfl HF rfl rfl rfl (HF.ev rfl) (HF.ev rfl) elemS encS_len HS.out 3 (xs := ((([]) ++ ([numB p.fAt])) ++ ([numB p.fBirth])) ++ ([numB p.fSize])) rfl (ys := [numB p.fSum]) (St.rdN HS.out encS_len 0 rfl) (cells_one_S _) (by unfold maxLen; (try simp only [List.length_append, List.length_cons, List.length_nil, List.nil_append]); omega) (by (try simp only [List.length_append, List.length_cons, List.length_nil, List.nil_append]); omega) ?_; clear HF HS a; intro ao15 cp16 w16 a HF HS; replace HS := Bx.mk HS
   replace HS : Bx (St w0 ([rowA encS 1 9 (.slice (some ⟨b14, 0, none⟩) 1 1) ([numB p.fSum]), rowA encS 1 9 (.slice (some ⟨b11, 0, none⟩) 1 1) ([numB p.fSize]), rowA encS 1 9 (.slice (some ⟨b8, 0, none⟩) 1 1) ([numB p.fBirth]), rowA encS 1 9 (.slice ao15 ((((([]) ++ ([numB p.fAt])) ++ ([numB p.fBirth])) ++ ([numB p.fSize])).length + ([numB p.fSum]).length) cp16) ((((([]) ++ ([numB p.fAt])) ++ ([numB p.fBirth])) ++ ([numB p.fSize])) ++ ([numB p.fSum])), rowA encS 1 9 (.slice (some ⟨b4, 0, none⟩) 1 1) ([numB p.fAt]), rowA encA 1 173 (.slice (some ⟨g3, 0, none⟩) 5 cp2) ([(some ⟨b1, 0 + 0, none⟩), (some ⟨b1, 0 + 1, none⟩), (some ⟨b1, 0 + 2, none⟩), (some ⟨b1, 0 + 3, none⟩), (some ⟨b1, 0 + 4, none⟩)]), boxA b1 5 38 (.agg #[.int .i64 p.fAt, .int .i64 p.fBirth, .int .i64 p.fSize, .int .i64 p.fSum, .int .i64 p.fLevel])]) _) := ⟨HS.out⟩
   refine wl_as HF rfl rfl rfl rfl rfl ?_; clear HF a; intro a HF
   refine wpList_nil ?_
   refine ex_block ?_
   refine ex_then ?_
   refine wp_region_lit ?_
   refine wl_y rfl HF rfl rfl (yl_addI (r := 4) rfl (HF.ev rfl) (HF.ev rfl) (by decide)) ?_; clear HF a; intro a HF
   refine wl_mv HF rfl rfl rfl rfl rfl ?_; clear HF a; intro a HF
   refine wl_ne ?_
   refine wc_round 2 ?_
   refine wp_sr ?_
   refine wl_y rfl HF rfl rfl (yl_lssI rfl (HF.ev rfl) (HF.ev rfl)) ?_; clear HF a; intro a HF
   refine wl_ne ?_
   refine wp_seq ?_
   replace HF := HF.know (k := 16) (c := true) rfl (by decide)
   refine wc_true HF rfl ?_
   refine wp_skip ?_
   refine ex_then ?_
   refine wp_seq ?_
   refine wp_block ?_
   refine wp_sr ?_
   refine wl_y rfl HF rfl rfl (yl_indexAddr (e := 173) (i := 4) (size := 1) rfl (HF.ev rfl) (HF.ev rfl) (by kernel_rfl) rfl (by omega)) ?_; clear HF a; intro a HF
   refine wl_y rfl HF rfl rfl (yl_load (v := .pointer (some ⟨b1, 0 + 4, none⟩)) rfl (HF.ev rfl) (HS.out.elem1 encA_len 5 rfl (show ([(some ⟨b1, 0 + 0, none⟩), (some ⟨b1, 0 + 1, none⟩), (some ⟨b1, 0 + 2, none⟩), (some ⟨b1, 0 + 3, none⟩), (some ⟨b1, 0 + 4, none⟩)] : List (Option Addr))[4]? = some _ from rfl) rfl) (by kernel_rfl)) ?_; clear HF a; intro a HF
   refine wl_as HF rfl rfl rfl rfl rfl ?_; clear HF a; intro a HF
   refine wl_ne ?_
   refine wp_region_lit ?_
   refine wl_mv HF rfl rfl rfl rfl rfl ?_; clear HF a; intro a HF
   refine wl_mv HF rfl rfl rfl rfl rfl ?_; clear HF a; intro a HF
   refine wl_y rfl HF rfl rfl (yl_nilCheck rfl (HF.ev rfl)) ?_; clear HF a; intro a HF
   refine wl_y rfl HF rfl rfl (yl_load (v := .int .i64 p.fLevel) rfl (HF.ev rfl) (((HS.out.box 6 rfl).cell 4).trans rfl) (by kernel_rfl)) ?_; clear HF a; intro a HF
   refine wl_callB rfl HF rfl (enter_of Tryz.func80 (by kernel_rfl) rfl) (args := #[.int .i64 p.fLevel]) rfl (v := .string (numB p.fLevel)) (numPutI_any p.fLevel _ (HT.out.below HS.out.bel)) rfl rfl HS.out ?_; clear HF HS a; intro w17 a HS HF; replace HS := Bx.mk HS
   refine wl_buildS (enc := encS) (e := 9) (size := 1) rfl HF rfl rfl rfl (ps := [(0, .string (numB p.fLevel))]) rfl (cells := [.string (numB p.fLevel)]) (by kernel_rfl) [numB p.fLevel] rfl rfl (by unfold maxLen; omega) rfl HS.out ?_; clear HF HS a; intro b17 a w18 HF HS; replace HS := Bx.mk HS
   refine wl_appL rfl HF rfl rfl rfl (HF.ev rfl) (HF.ev rfl) elemS encS_len HS.out 4 (xs := (((([]) ++ ([numB p.fAt])) ++ ([numB p.fBirth])) ++ ([numB p.fSize])) ++ ([numB p.fSum])) rfl (ys := [numB p.fLevel]) (St.rdN HS.out encS_len 0 rfl) (cells_one_S _) (by unfold maxLen; (try simp only [List.length_append, List.length_cons, List.length_nil, List.nil_append]); omega) (by (try simp only [List.length_append, List.length_cons, List.length_nil, List.nil_append]); omega) ?_; clear HF HS a; intro ao18 cp19 w19 a HF HS; replace HS := Bx.mk HS
   replace HS : Bx (St w0 ([rowA encS 1 9 (.slice (some ⟨b17, 0, none⟩) 1 1) ([numB p.fLevel]), rowA encS 1 9 (.slice (some ⟨b14, 0, none⟩) 1 1) ([numB p.fSum]), rowA encS 1 9 (.slice (some ⟨b11, 0, none⟩) 1 1) ([numB p.fSize]), rowA encS 1 9 (.slice (some ⟨b8, 0, none⟩) 1 1) ([numB p.fBirth]), rowA encS 1 9 (.slice ao18 (((((([]) ++ ([numB p.fAt])) ++ ([numB p.fBirth])) ++ ([numB p.fSize])) ++ ([numB p.fSum])).length + ([numB p.fLevel]).length) cp19) (((((([]) ++ ([numB p.fAt])) ++ ([numB p.fBirth])) ++ ([numB p.fSize])) ++ ([numB p.fSum])) ++ ([numB p.fLevel])), rowA encS 1 9 (.slice (some ⟨b4, 0, none⟩) 1 1) ([numB p.fAt]), rowA encA 1 173 (.slice (some ⟨g3, 0, none⟩) 5 cp2) ([(some ⟨b1, 0 + 0, none⟩), (some ⟨b1, 0 + 1, none⟩), (some ⟨b1, 0 + 2, none⟩), (some ⟨b1, 0 + 3, none⟩), (some ⟨b1, 0 + 4, none⟩)]), boxA b1 5 38 (.agg #[.int .i64 p.fAt, .int .i64 p.fBirth, .int .i64 p.fSize, .int .i64 p.fSum, .int .i64 p.fLevel])]) _) := ⟨HS.out⟩
   refine wl_as HF rfl rfl rfl rfl rfl ?_; clear HF a; intro a HF
   refine wpList_nil ?_
   refine ex_block ?_
   refine ex_then ?_
   refine wp_region_lit ?_
   refine wl_y rfl HF rfl rfl (yl_addI (r := 5) rfl (HF.ev rfl) (HF.ev rfl) (by decide)) ?_; clear HF a; intro a HF
   refine wl_mv HF rfl rfl rfl rfl rfl ?_; clear HF a; intro a HF
   refine wl_ne ?_
   refine wc_round 1 ?_
   refine wp_sr ?_
   refine wl_y rfl HF rfl rfl (yl_lssI rfl (HF.ev rfl) (HF.ev rfl)) ?_; clear HF a; intro a HF
   refine wl_ne ?_
   refine wp_seq ?_
   replace HF := HF.know (k := 16) (c := false) rfl (by decide)
   refine wc_false HF rfl ?_
   refine wp_exit ?_
   refine ex_then_exit ?_
   refine ex_then_exit ?_
   refine ex_block_hit ?_
   refine ex_then ?_
   refine wp_sr ?_
   refine wl_mv HF rfl rfl rfl rfl rfl ?_; clear HF a; intro a HF
   refine wl_callB rfl HF rfl (enter_of Tryz.func159 (by kernel_rfl) rfl) (args := #[.slice ao18 (((((([]) ++ ([numB p.fAt])) ++ ([numB p.fBirth])) ++ ([numB p.fSize])) ++ ([numB p.fSum])).length + ([numB p.fLevel]).length) cp19, .string (⟨#[46]⟩ : ByteArray)]) rfl (v := .string (joinT (((((([]) ++ ([numB p.fAt])) ++ ([numB p.fBirth])) ++ ([numB p.fSize])) ++ ([numB p.fSum])) ++ ([numB p.fLevel])) (⟨#[46]⟩ : ByteArray))) (join_any _ _ _ (((((([]) ++ ([numB p.fAt])) ++ ([numB p.fBirth])) ++ ([numB p.fSize])) ++ ([numB p.fSum])) ++ ([numB p.fLevel])) (⟨#[46]⟩ : ByteArray) _ (St.rdN HS.out encS_len 4 rfl) (St.capLe HS.out 4 rfl) (by simp) (szs_app (szs_app (szs_app (szs_app (szs_app szs_nil (szs_cons (Nat.le_trans (numB_le _) (by decide)) szs_nil)) (szs_cons (Nat.le_trans (numB_le _) (by decide)) szs_nil)) (szs_cons (Nat.le_trans (numB_le _) (by decide)) szs_nil)) (szs_cons (Nat.le_trans (numB_le _) (by decide)) szs_nil)) (szs_cons (Nat.le_trans (numB_le _) (by decide)) szs_nil)) (by decide)) rfl rfl HS.out ?_; clear HF HS a; intro w20 a HS HF; replace HS := Bx.mk HS
   refine wl_as HF rfl rfl rfl rfl rfl ?_; clear HF a; intro a HF
   refine wl_ne ?_
   refine wp_ret ?_
   refine bp_ret1 HF Tryz.results127 (HF.res rfl) ?_
   exact ⟨by rw [ptrB_yes (by simpa using cc1) cc2]; simp only [List.nil_append, List.cons_append, List.singleton_append]; rw [joinT5]; rfl, HS.out.bel⟩

theorem ptrPutS_any (p : PtrD) (w0 : World) : Calls Tryz.prog 112 #[.agg #[.int .i64 p.fAt, .int .i64 p.fBirth, .int .i64 p.fSize, .int .i64 p.fSum, .int .i64 p.fLevel]] w0 fun e w' => e = .returned (.string (ptrB p)) ∧ Below w0.heap.size w0 w' := by
 have HS := Bx.mk (St.start w0)
 refine wc_enter Tryz.func112 rfl Tryz.ntmps112 [(0, .agg #[.int .i64 p.fAt, .int .i64 p.fBirth, .int .i64 p.fSize, .int .i64 p.fSum, .int .i64 p.fLevel])] ⟨rfl, trivial⟩ rfl ?_; intro a HF
 refine wp_sr ?_
 refine wl_box rfl HF rfl (HF.ev rfl) (Z := [.int .i64 p.fAt, .int .i64 p.fBirth, .int .i64 p.fSize, .int .i64 p.fSum, .int .i64 p.fLevel]) rfl rfl rfl rfl HS.out ?_; clear HF HS a; intro a w1 b1 HF HS; replace HS := Bx.mk HS
 refine wl_as HF rfl rfl rfl rfl rfl ?_; clear HF a; intro a HF
 refine wl_ne ?_
 refine wp_seq ?_
 refine wp_sr ?_
 refine wl_y rfl HF rfl rfl (yl_loadR (cs := [.int .i64 p.fAt, .int .i64 p.fBirth, .int .i64 p.fSize, .int .i64 p.fSum, .int .i64 p.fLevel]) rfl (HF.ev rfl) ((HS.out.box 0 rfl).sub 0 5) (by kernel_rfl)) ?_; clear HF a; intro a HF
 refine wl_callB rfl HF rfl (enter_of Tryz.func62 (by kernel_rfl) rfl) (args := #[.agg #[.int .i64 p.fAt, .int .i64 p.fBirth, .int .i64 p.fSize, .int .i64 p.fSum, .int .i64 p.fLevel]]) rfl (v := .bool p.ok) (specPtrOk_any p _) rfl rfl HS.out ?_; clear HF HS a; intro w2 a HS HF; replace HS := Bx.mk HS
 refine wl_y rfl HF rfl rfl (yl_not rfl (HF.ev rfl)) ?_; clear HF a; intro a HF
 refine wl_ne ?_
 refine HF.cases 5 rfl (fun cc1 HF1 => ?_) (fun cc1 HF1 => ?_)
 ·clear HF; have HF := HF1; clear HF1
  refine wc_true HF rfl ?_
  refine wp_sr ?_
  refine wl_as HF rfl rfl rfl rfl rfl ?_; clear HF a; intro a HF
  refine wl_ne ?_
  refine wp_ret ?_
  refine ex_then_ret ?_
  refine bp_ret1 HF Tryz.results112 (HF.res rfl) ?_
  exact ⟨by rw [ptrB_no (by simpa using cc1)]; rfl, HS.out.bel⟩
 ·clear HF; have HF := HF1; clear HF1
  refine wc_false HF rfl ?_
  refine wp_skip ?_
  refine ex_then ?_
  refine wp_seq ?_
  refine wp_sr ?_
  refine wl_y rfl HF rfl rfl (yl_loadR (cs := [.int .i64 p.fAt, .int .i64 p.fBirth, .int .i64 p.fSize, .int .i64 p.fSum, .int .i64 p.fLevel]) rfl (HF.ev rfl) ((HS.out.box 0 rfl).sub 0 5) (by kernel_rfl)) ?_; clear HF a; intro a HF
  refine wl_callB rfl HF rfl (enter_of Tryz.func109 (by kernel_rfl) rfl) (args := #[.agg #[.int .i64 p.fAt, .int .i64 p.fBirth, .int .i64 p.fSize, .int .i64 p.fSum, .int .i64 p.fLevel]]) rfl (v := .bool p.hole) (specHole_any p _) rfl rfl HS.out ?_; clear HF HS a; intro w3 a HS HF; replace HS := Bx.mk HS
  refine wl_ne ?_
  refine HF.cases 7 rfl (fun cc2 HF1 => ?_) (fun cc2 HF1 => ?_)
  ·clear HF; have HF := HF1; clear HF1
   refine wc_true HF rfl ?_
   refine wp_sr ?_
   refine wl_as HF rfl rfl rfl rfl rfl ?_; clear HF a; intro a HF
   refine wl_ne ?_
   refine wp_ret ?_
   refine ex_then_ret ?_
   refine bp_ret1 HF Tryz.results112 (HF.res rfl) ?_
   exact ⟨by rw [ptrB_hole (by simpa using cc1) cc2], HS.out.bel⟩
  ·clear HF; have HF := HF1; clear HF1
   refine wc_false HF rfl ?_
   refine wp_skip ?_
   refine ex_then ?_
   refine wp_seq ?_
   have hpb := PtrD.ok_all (p := p) (by simpa using cc1) cc2
   have zfAt : (decB p.fAt.toNat).size ≤ 19 := decB_20 (by omega)
   have zfBirth : (decB p.fBirth.toNat).size ≤ 19 := decB_20 (by omega)
   have zfSize : (decB p.fSize.toNat).size ≤ 19 := decB_20 (by omega)
   have zfSum : (decB p.fSum.toNat).size ≤ 19 := decB_20 (by omega)
   have zfLevel : (decB p.fLevel.toNat).size ≤ 19 := decB_20 (by omega)
   refine wr_quiet (by kernel_rfl) (by kernel_rfl) HS.out ?_
   refine wq_y rfl HF rfl rfl (fun _ HS => (yl_fieldAddr (j := 0) rfl (HF.ev rfl) (by kernel_rfl))) ?_; clear HF a; intro a HF
   refine wq_y rfl HF rfl rfl (fun _ HS => (yl_load (v := .int .i64 p.fAt) rfl (HF.ev rfl) (((HS.box 0 rfl).cell 0).trans rfl) (by kernel_rfl))) ?_; clear HF a; intro a HF
   refine wq_call rfl HF rfl (enter_of Tryz.func65 (by kernel_rfl) rfl) (args := #[.int .i64 p.fAt]) rfl (v := .string (decB p.fAt.toNat)) (fun _ HS => l6DecI_any p.fAt (by omega) (by omega) _) rfl rfl ?_; clear HF a; intro a HF
   refine wq_y rfl HF rfl rfl (fun _ HS => (yl_addS rfl (HF.ev rfl) (HF.ev rfl) (by (try simp only [size1, app_size]); omega))) ?_; clear HF a; intro a HF
   refine wq_y rfl HF rfl rfl (fun _ HS => (yl_fieldAddr (j := 1) rfl (HF.ev rfl) (by kernel_rfl))) ?_; clear HF a; intro a HF
   refine wq_y rfl HF rfl rfl (fun _ HS => (yl_load (v := .int .i64 p.fBirth) rfl (HF.ev rfl) (((HS.box 0 rfl).cell 1).trans rfl) (by kernel_rfl))) ?_; clear HF a; intro a HF
   refine wq_call rfl HF rfl (enter_of Tryz.func65 (by kernel_rfl) rfl) (args := #[.int .i64 p.fBirth]) rfl (v := .string (decB p.fBirth.toNat)) (fun _ HS => l6DecI_any p.fBirth (by omega) (by omega) _) rfl rfl ?_; clear HF a; intro a HF
   refine wq_y rfl HF rfl rfl (fun _ HS => (yl_addS rfl (HF.ev rfl) (HF.ev rfl) (by (try simp only [size1, app_size]); omega))) ?_; clear HF a; intro a HF
   refine wq_y rfl HF rfl rfl (fun _ HS => (yl_addS rfl (HF.ev rfl) (HF.ev rfl) (by (try simp only [size1, app_size]); omega))) ?_; clear HF a; intro a HF
   refine wq_y rfl HF rfl rfl (fun _ HS => (yl_fieldAddr (j := 2) rfl (HF.ev rfl) (by kernel_rfl))) ?_; clear HF a; intro a HF
   refine wq_y rfl HF rfl rfl (fun _ HS => (yl_load (v := .int .i64 p.fSize) rfl (HF.ev rfl) (((HS.box 0 rfl).cell 2).trans rfl) (by kernel_rfl))) ?_; clear HF a; intro a HF
   refine wq_call rfl HF rfl (enter_of Tryz.func65 (by kernel_rfl) rfl) (args := #[.int .i64 p.fSize]) rfl (v := .string (decB p.fSize.toNat)) (fun _ HS => l6DecI_any p.fSize (by omega) (by omega) _) rfl rfl ?_; clear HF a; intro a HF
   refine wq_y rfl HF rfl rfl (fun _ HS => (yl_addS rfl (HF.ev rfl) (HF.ev rfl) (by (try simp only [size1, app_size]); omega))) ?_; clear HF a; intro a HF
   refine wq_y rfl HF rfl rfl (fun _ HS => (yl_addS rfl (HF.ev rfl) (HF.ev rfl) (by (try simp only [size1, app_size]); omega))) ?_; clear HF a; intro a HF
   refine wq_y rfl HF rfl rfl (fun _ HS => (yl_fieldAddr (j := 3) rfl (HF.ev rfl) (by kernel_rfl))) ?_; clear HF a; intro a HF
   refine wq_y rfl HF rfl rfl (fun _ HS => (yl_load (v := .int .i64 p.fSum) rfl (HF.ev rfl) (((HS.box 0 rfl).cell 3).trans rfl) (by kernel_rfl))) ?_; clear HF a; intro a HF
   refine wq_call rfl HF rfl (enter_of Tryz.func65 (by kernel_rfl) rfl) (args := #[.int .i64 p.fSum]) rfl (v := .string (decB p.fSum.toNat)) (fun _ HS => l6DecI_any p.fSum (by omega) (by omega) _) rfl rfl ?_; clear HF a; intro a HF
   refine wq_y rfl HF rfl rfl (fun _ HS => (yl_addS rfl (HF.ev rfl) (HF.ev rfl) (by (try simp only [size1, app_size]); omega))) ?_; clear HF a; intro a HF
   refine wq_y rfl HF rfl rfl (fun _ HS => (yl_addS rfl (HF.ev rfl) (HF.ev rfl) (by (try simp only [size1, app_size]); omega))) ?_; clear HF a; intro a HF
   refine wq_y rfl HF rfl rfl (fun _ HS => (yl_fieldAddr (j := 4) rfl (HF.ev rfl) (by kernel_rfl))) ?_; clear HF a; intro a HF
   refine wq_y rfl HF rfl rfl (fun _ HS => (yl_load (v := .int .i64 p.fLevel) rfl (HF.ev rfl) (((HS.box 0 rfl).cell 4).trans rfl) (by kernel_rfl))) ?_; clear HF a; intro a HF
   refine wq_call rfl HF rfl (enter_of Tryz.func65 (by kernel_rfl) rfl) (args := #[.int .i64 p.fLevel]) rfl (v := .string (decB p.fLevel.toNat)) (fun _ HS => l6DecI_any p.fLevel (by omega) (by omega) _) rfl rfl ?_; clear HF a; intro a HF
   refine wq_y rfl HF rfl rfl (fun _ HS => (yl_addS rfl (HF.ev rfl) (HF.ev rfl) (by (try simp only [size1, app_size]); omega))) ?_; clear HF a; intro a HF
   refine wq_y rfl HF rfl rfl (fun _ HS => (yl_assign rfl (HF.ev rfl))) ?_; clear HF a; intro a HF
   refine wpQuiet_nil ?_; intro w4 HS; replace HS := Bx.mk HS
   refine ex_then ?_
   refine wp_ret ?_
   refine bp_ret1 HF Tryz.results112 (HF.res rfl) ?_
   exact ⟨by rw [ptrB_yes (by simpa using cc1) cc2, numB_in (n := p.fAt) (by omega) (by omega), numB_in (n := p.fBirth) (by omega) (by omega), numB_in (n := p.fSize) (by omega) (by omega), numB_in (n := p.fSum) (by omega) (by omega), numB_in (n := p.fLevel) (by omega) (by omega)]; rfl, HS.out.bel⟩

end Go.Proofs.YtoaopmkbfifhaaaGreatDoor

/- Trees and roots as texts: walked. -/
namespace Go.Proofs.YtoaopmkbfifhaaaGreatDoor
set_option linter.unusedVariables false
set_option linter.unusedSimpArgs false
set_option maxHeartbeats 1000000
set_option maxRecDepth 100000
open Go.RowKit

theorem mapTake_succ {α β : Type} (f : α → β) (ys : List α) (d : α) {k : Nat} (h : k < ys.length) : (ys.take k).map f ++ [f (ys.getD k d)] = (ys.take (k + 1)).map f := by
  rw [List.take_add_one, List.getElem?_eq_getElem h, List.map_append]; simp [List.getD, h]
structure TreeD where
  fRoot : PtrD
  fDepth : Int
  fMany : Int
def TreeD.cells (t : TreeD) : List Value := t.fRoot.cells ++ [.int .i64 t.fDepth, .int .i64 t.fMany]
structure RootD where
  fTxg : Int
  fMeta : TreeD
def RootD.cells (x : RootD) : List Value := .int .i64 x.fTxg :: x.fMeta.cells
/-- The three fields of a tree. -/
def treeB (t : TreeD) : List ByteArray := [ptrB t.fRoot, numB t.fDepth, numB t.fMany]

theorem numbers_any (a0 : Option Addr) (n c0 : Nat) (ys : List Int) (w0 : World) (hT : TabP w0) (hl : ys.length ≤ 1000) (hR : Rd encI 1 w0 a0 n ys) : Calls Tryz.prog 128 #[.slice a0 n c0] w0 fun e w' => ∃ ao cp, e = .returned (.slice ao ys.length cp) ∧ St w0 [rowA encS 1 9 (.slice ao ys.length cp) (ys.map numB)] w' := by
 obtain rfl := hR.len
 obtain ⟨g0, o0, r0⟩ := hR.opn; have R0 := Bx.mk r0; clear r0 hR
 have HT := Bx.mk hT; clear hT
 have HS := Bx.mk (St.start w0)
 refine wc_enter Tryz.func128 rfl Tryz.ntmps128 [(0, .slice a0 ys.length c0)] ⟨rfl, trivial⟩ rfl ?_; intro a HF
 refine wp_sr ?_
 refine wl_as HF rfl rfl rfl rfl rfl ?_; clear HF a; intro a HF
 refine wl_ne ?_
 refine wp_sr ?_
 refine wl_as HF rfl rfl rfl rfl rfl ?_; clear HF a; intro a HF
 refine wl_ne ?_
 refine wp_seq ?_
 refine wp_sr ?_
 refine wl_mv HF rfl rfl rfl rfl rfl ?_; clear HF a; intro a HF
 refine wl_y rfl HF rfl rfl (yl_lenL (e := 3) (size := 1) rfl (HF.ev rfl) (by kernel_rfl)) ?_; clear HF a; intro a HF
 refine wl_mv HF rfl rfl rfl rfl rfl ?_; clear HF a; intro a HF
 refine wl_ne ?_
 refine wp_block ?_
 replace HS := Bx.mk (HS.out.nilRow encS 1 9 none)
 refine wc_loop (ι := Nat) (fun k a w => ∃ (ao : Option Addr) (cp : Nat) (xs : List ByteArray), (k ≤ ys.length ∧ xs = (ys.take k).map numB) ∧ Fr 19 a [(6, .slice a0 ys.length c0), (7, .int .i64 (ys.length : Int)), (3, .slice ao xs.length cp), (8, .int .i64 (k : Int))] ∧ St w0 ([rowA encS 1 9 (.slice ao xs.length cp) xs]) w) (fun k => ys.length - k) 0 ⟨_, _, [], ⟨Nat.zero_le _, rfl⟩, HF.less _ ⟨rfl, rfl, rfl, rfl, trivial⟩, HS.out⟩ ?_
 clear HF HS; clear a
 rintro k a w1 ⟨ao, cp, xs, ⟨hk, hq⟩, HF, HS⟩
 replace HS := Bx.mk HS
 have hxl : xs.length = k := by rw [hq]; simp; omega
 refine wp_sr ?_
 refine wl_y rfl HF rfl rfl (yl_lssI rfl (HF.ev rfl) (HF.ev rfl)) ?_; clear HF a; intro a HF
 refine wl_ne ?_
 refine wp_seq ?_
 refine HF.cases 9 rfl (fun cc1 HF1 => ?_) (fun cc1 HF1 => ?_)
 ·clear HF; have HF := HF1; clear HF1
  have dcc1 := of_decide_eq_true cc1
  refine wc_true HF rfl ?_
  refine wp_skip ?_
  refine ex_then ?_
  refine wp_seq ?_
  refine wp_block ?_
  refine wp_sr ?_
  refine wl_y rfl HF rfl rfl (yl_indexAddrR (e := 3) (i := k) (size := 1) rfl (HF.ev rfl) (HF.ev rfl) (by kernel_rfl) rfl (by omega) (R0.out.ao k (by omega))) ?_; clear HF a; intro a HF
  refine wl_y rfl HF rfl rfl (yl_load (v := .int .i64 (ys.getD k 0)) rfl (HF.ev rfl) (R0.out.elem1 HS.out (get_getD (xs := ys) (j := k) (d := 0) (by omega)) rfl) (by kernel_rfl)) ?_; clear HF a; intro a HF
  refine wl_as HF rfl rfl rfl rfl rfl ?_; clear HF a; intro a HF
  refine wl_ne ?_
  refine wp_region_lit ?_
  refine wl_mv HF rfl rfl rfl rfl rfl ?_; clear HF a; intro a HF
  refine wl_mv HF rfl rfl rfl rfl rfl ?_; clear HF a; intro a HF
  refine wl_callB rfl HF rfl (enter_of Tryz.func80 (by kernel_rfl) rfl) (args := #[.int .i64 (ys.getD k 0)]) rfl (v := .string (numB (ys.getD k 0))) (numPutI_any (ys.getD k 0) _ (HT.out.below HS.out.bel)) rfl rfl HS.out ?_; clear HF HS a; intro w2 a HS HF; replace HS := Bx.mk HS
  refine wl_buildS (enc := encS) (e := 9) (size := 1) rfl HF rfl rfl rfl (ps := [(0, .string (numB (ys.getD k 0)))]) rfl (cells := [.string (numB (ys.getD k 0))]) (by kernel_rfl) [numB (ys.getD k 0)] rfl rfl (by unfold maxLen; omega) rfl HS.out ?_; clear HF HS a; intro b1 a w3 HF HS; replace HS := Bx.mk HS
  refine wl_appL rfl HF rfl rfl rfl (HF.ev rfl) (HF.ev rfl) elemS encS_len HS.out 1 (xs := xs) rfl (ys := [numB (ys.getD k 0)]) (St.rdN HS.out encS_len 0 rfl) (cells_one_S _) (by unfold maxLen; (try simp only [List.length_append, List.length_cons, List.length_nil, List.nil_append, List.length_map]); omega) (by (try simp only [List.length_append, List.length_cons, List.length_nil, List.nil_append, List.length_map]); omega) ?_; clear HF HS a; intro ao2 cp3 w4 a HF HS; replace HS := Bx.mk HS
  replace HS : Bx (St w0 ([rowA encS 1 9 (.slice (some ⟨b1, 0, none⟩) 1 1) ([numB (ys.getD k 0)]), rowA encS 1 9 (.slice ao2 (xs.length + ([numB (ys.getD k 0)]).length) cp3) (xs ++ ([numB (ys.getD k 0)]))]) _) := ⟨HS.out⟩
  refine wl_as HF rfl rfl rfl rfl rfl ?_; clear HF a; intro a HF
  refine wpList_nil ?_
  refine ex_block ?_
  refine ex_then ?_
  refine wp_region_lit ?_
  refine wl_y rfl HF rfl rfl (yl_addI rfl (HF.ev rfl) (HF.ev rfl) (i64w (by omega))) ?_; clear HF a; intro a HF
  refine wl_mv HF rfl rfl rfl rfl rfl ?_; clear HF a; intro a HF
  refine wl_ne ?_
  have hz : xs.length + ([numB (ys.getD k 0)]).length = (xs ++ ([numB (ys.getD k 0)])).length := (List.length_append ..).symm
  rw [hz] at HS HF
  have hnext : xs ++ ([numB (ys.getD k 0)]) = (ys.take (k + 1)).map numB := by rw [hq]; exact mapTake_succ numB ys 0 (by omega)
  replace HS : Bx (St w0 ([rowA encS 1 9 (.slice ao2 ((xs ++ ([numB (ys.getD k 0)])).length) cp3) (xs ++ ([numB (ys.getD k 0)])), rowA encS 1 9 (.slice (some ⟨b1, 0, none⟩) 1 1) ([numB (ys.getD k 0)])]) _) := ⟨(HS.out).pick 1 rfl⟩
  exact ⟨k + 1, ⟨_, _, xs ++ ([numB (ys.getD k 0)]), ⟨by omega, hnext⟩, HF.less _ ⟨rfl, rfl, rfl, rfl, trivial⟩, (HS.out.erase 1)⟩, (by omega)⟩
 ·clear HF; have HF := HF1; clear HF1
  have dcc1 := of_decide_eq_false cc1
  refine wc_false HF rfl ?_
  refine wp_exit ?_
  refine ex_then_exit ?_
  refine ex_then_exit ?_
  refine ex_block_hit ?_
  refine ex_then ?_
  refine wp_sr ?_
  refine wl_mv HF rfl rfl rfl rfl rfl ?_; clear HF a; intro a HF
  refine wl_as HF rfl rfl rfl rfl rfl ?_; clear HF a; intro a HF
  refine wl_ne ?_
  refine wp_ret ?_
  refine bp_ret1 HF Tryz.results128 (HF.res rfl) ?_
  replace HS : Bx (St w0 ([rowA encS 1 9 (.slice ao xs.length cp) xs]) _) := ⟨(HS.out).pick 0 rfl⟩
  obtain rfl : k = ys.length := by omega
  rw [List.take_length] at hq; subst hq
  exact ⟨_, _, by rw [List.length_map], by rw [← List.length_map (f := numB)]; exact HS.out⟩

theorem treeFields_any (t : TreeD) (w0 : World) (hT : TabP w0) : Calls Tryz.prog 81 #[.agg #[.int .i64 t.fRoot.fAt, .int .i64 t.fRoot.fBirth, .int .i64 t.fRoot.fSize, .int .i64 t.fRoot.fSum, .int .i64 t.fRoot.fLevel, .int .i64 t.fDepth, .int .i64 t.fMany]] w0 fun e w' => ∃ ao cp, e = .returned (.slice ao 3 cp) ∧ St w0 [rowA encS 1 9 (.slice ao 3 cp) (treeB t)] w' := by
 have HT := Bx.mk hT; clear hT
 have HS := Bx.mk (St.start w0)
 refine wc_enter Tryz.func81 rfl Tryz.ntmps81 [(0, .agg #[.int .i64 t.fRoot.fAt, .int .i64 t.fRoot.fBirth, .int .i64 t.fRoot.fSize, .int .i64 t.fRoot.fSum, .int .i64 t.fRoot.fLevel, .int .i64 t.fDepth, .int .i64 t.fMany])] ⟨rfl, trivial⟩ rfl ?_; intro a HF
 refine wp_sr ?_
 refine wl_box rfl HF rfl (HF.ev rfl) (Z := [.int .i64 t.fRoot.fAt, .int .i64 t.fRoot.fBirth, .int .i64 t.fRoot.fSize, .int .i64 t.fRoot.fSum, .int .i64 t.fRoot.fLevel, .int .i64 t.fDepth, .int .i64 t.fMany]) rfl rfl rfl rfl HS.out ?_; clear HF HS a; intro a w1 b1 HF HS; replace HS := Bx.mk HS
 refine wl_as HF rfl rfl rfl rfl rfl ?_; clear HF a; intro a HF
 refine wl_ne ?_
 refine wp_seq ?_
 refine wr_heldS (s := [boxA b1 7 40 (.agg #[.int .i64 t.fRoot.fAt, .int .i64 t.fRoot.fBirth, .int .i64 t.fRoot.fSize, .int .i64 t.fRoot.fSum, .int .i64 t.fRoot.fLevel, .int .i64 t.fDepth, .int .i64 t.fMany])]) (by kernel_rfl) (St.drew (HS.out)) ?_
 have HS2 := Bx.mk HS.out.drew; replace HS := Bx.mk (show St w0 ([boxA b1 7 40 (.agg #[.int .i64 t.fRoot.fAt, .int .i64 t.fRoot.fBirth, .int .i64 t.fRoot.fSize, .int .i64 t.fRoot.fSum, .int .i64 t.fRoot.fLevel, .int .i64 t.fDepth, .int .i64 t.fMany])]) _ from HS.out.drew)
 generalize World.drew _ = w2 at HS HS2 ⊢
 refine wh_y 0 rfl (by kernel_rfl) (by kernel_rfl) (by kernel_rfl) (fun _ _ _ h => h) rfl HF rfl rfl (fun _ HS => (yl_fieldAddr (j := 0) rfl (HF.ev rfl) (by kernel_rfl))) HS.out ?_; clear HF a; intro a HF
 refine wh_y 1 rfl (by kernel_rfl) (by kernel_rfl) (by kernel_rfl) (fun _ _ _ h => h) rfl HF rfl rfl (fun _ HS => (yl_loadR (cs := [.int .i64 t.fRoot.fAt, .int .i64 t.fRoot.fBirth, .int .i64 t.fRoot.fSize, .int .i64 t.fRoot.fSum, .int .i64 t.fRoot.fLevel]) rfl (HF.ev rfl) ((HS.box 0 rfl).sub 0 5) (by kernel_rfl))) HS.out ?_; clear HF a; intro a HF
 refine wh_y 4 rfl (by kernel_rfl) (by kernel_rfl) (by kernel_rfl) (fun _ _ _ h => h) rfl HF rfl rfl (fun _ HS => (yl_fieldAddr (j := 5) rfl (HF.ev rfl) (by kernel_rfl))) HS.out ?_; clear HF a; intro a HF
 refine wh_y 5 rfl (by kernel_rfl) (by kernel_rfl) (by kernel_rfl) (fun _ _ _ h => h) rfl HF rfl rfl (fun _ HS => (yl_load (v := .int .i64 t.fDepth) rfl (HF.ev rfl) (((HS.box 0 rfl).cell 5).trans rfl) (by kernel_rfl))) HS.out ?_; clear HF a; intro a HF
 refine wh_y 6 rfl (by kernel_rfl) (by kernel_rfl) (by kernel_rfl) (fun _ _ _ h => h) rfl HF rfl rfl (fun _ HS => (yl_fieldAddr (j := 6) rfl (HF.ev rfl) (by kernel_rfl))) HS.out ?_; clear HF a; intro a HF
 refine wh_y 7 rfl (by kernel_rfl) (by kernel_rfl) (by kernel_rfl) (fun _ _ _ h => h) rfl HF rfl rfl (fun _ HS => (yl_load (v := .int .i64 t.fMany) rfl (HF.ev rfl) (((HS.box 0 rfl).cell 6).trans rfl) (by kernel_rfl))) HS.out ?_; clear HF a; intro a HF
 refine wh_two 2 8 (by kernel_rfl) ?_ ?_
 ·skip
  refine wo_callB rfl rfl HF rfl (enter_of Tryz.func127 (by kernel_rfl) rfl) (args := #[.agg #[.int .i64 t.fRoot.fAt, .int .i64 t.fRoot.fBirth, .int .i64 t.fRoot.fSize, .int .i64 t.fRoot.fSum, .int .i64 t.fRoot.fLevel]]) rfl (v := .string (ptrB t.fRoot)) (ptrPutI_any t.fRoot _ (HT.out.below HS2.out.bel)) rfl rfl ?_
  intro w3 hb; replace HS := Bx.mk (HS.out.later hb); replace HS2 := Bx.mk (HS2.out.later hb); clear hb HF; clear a; intro a HF; refine ⟨HS.out, ?_⟩
  refine wh_two 3 8 (by kernel_rfl) ?_ ?_
  ·skip
   refine wo_buildS (enc := encS) (e := 9) (size := 1) rfl rfl HF rfl rfl rfl (ps := [(0, .string (ptrB t.fRoot))]) rfl (cells := [.string (ptrB t.fRoot)]) (by kernel_rfl) [ptrB t.fRoot] rfl rfl (by unfold maxLen; omega) rfl HS2.out HS.out ?_; clear HF HS HS2 a; intro b2 a w5 HF HS2 HS; replace HS := Bx.mk HS; replace HS2 := Bx.mk HS2; refine ⟨HS.out, ?_⟩
   refine wh_one 8 (by kernel_rfl) ?_
   refine wo_buildS (enc := encI) (e := 3) (size := 1) rfl rfl HF rfl rfl rfl (ps := [(0, .int .i64 t.fDepth), (1, .int .i64 t.fMany)]) rfl (cells := [.int .i64 t.fDepth, .int .i64 t.fMany]) (by kernel_rfl) [t.fDepth, t.fMany] rfl rfl (by unfold maxLen; omega) rfl HS2.out HS.out ?_; clear HF HS HS2 a; intro b3 a w7 HF HS2 HS; replace HS := Bx.mk HS; replace HS2 := Bx.mk HS2; refine ⟨HS.out, ?_⟩
   refine wh_one 9 (by kernel_rfl) ?_
   refine wo_call rfl rfl HF rfl (enter_of Tryz.func128 (by kernel_rfl) rfl) (args := #[.slice (some ⟨b3, 0, none⟩) 2 2]) rfl (numbers_any _ _ _ ([t.fDepth, t.fMany]) _ (HT.out.below HS2.out.bel) (by simp) (St.rdN HS2.out encI_len 0 rfl)) rfl rfl ?_
   rintro _ w9 ⟨ao4, cp4, rfl, hs⟩
   refine ⟨_, rfl, ?_⟩
   replace HS := Bx.mk (HS.out.later hs.bel); replace HS2 := Bx.mk (HS2.out.add hs); clear hs HF; clear a; intro a HF
   replace HS2 : Bx (St w0 ([rowA encS 1 9 (.slice ao4 (([t.fDepth, t.fMany]).length) cp4) (([t.fDepth, t.fMany]).map numB), rowA encI 1 3 (.slice (some ⟨b3, 0, none⟩) 2 2) ([t.fDepth, t.fMany]), rowA encS 1 9 (.slice (some ⟨b2, 0, none⟩) 1 1) ([ptrB t.fRoot]), boxA b1 7 40 (.agg #[.int .i64 t.fRoot.fAt, .int .i64 t.fRoot.fBirth, .int .i64 t.fRoot.fSize, .int .i64 t.fRoot.fSum, .int .i64 t.fRoot.fLevel, .int .i64 t.fDepth, .int .i64 t.fMany])]) _) := ⟨HS2.out⟩
   refine ⟨HS.out, ?_⟩
   refine wh_one 10 (by kernel_rfl) ?_
   refine wo_appL rfl rfl HF rfl rfl rfl (HF.ev rfl) (HF.ev rfl) elemS encS_len HS2.out 2 (xs := [ptrB t.fRoot]) rfl (ys := ([t.fDepth, t.fMany]).map numB) (St.rdN HS2.out encS_len 0 rfl) (cells_one_S _) (by unfold maxLen; (try simp only [List.length_append, List.length_cons, List.length_nil, List.nil_append, List.length_map]); omega) (by (try simp only [List.length_append, List.length_cons, List.length_nil, List.nil_append, List.length_map]); omega) ?_; clear HF HS HS2 a; intro ao5 cp6 w11 a HF HS2; replace HS2 := Bx.mk HS2
   replace HS2 : Bx (St w0 ([rowA encS 1 9 (.slice ao4 (([t.fDepth, t.fMany]).length) cp4) (([t.fDepth, t.fMany]).map numB), rowA encI 1 3 (.slice (some ⟨b3, 0, none⟩) 2 2) ([t.fDepth, t.fMany]), rowA encS 1 9 (.slice ao5 (([ptrB t.fRoot]).length + (([t.fDepth, t.fMany]).map numB).length) cp6) (([ptrB t.fRoot]) ++ (([t.fDepth, t.fMany]).map numB)), boxA b1 7 40 (.agg #[.int .i64 t.fRoot.fAt, .int .i64 t.fRoot.fBirth, .int .i64 t.fRoot.fSize, .int .i64 t.fRoot.fSum, .int .i64 t.fRoot.fLevel, .int .i64 t.fDepth, .int .i64 t.fMany])]) _) := ⟨HS2.out⟩
   have HS : Bx (St w0 ([boxA b1 7 40 (.agg #[.int .i64 t.fRoot.fAt, .int .i64 t.fRoot.fBirth, .int .i64 t.fRoot.fSize, .int .i64 t.fRoot.fSum, .int .i64 t.fRoot.fLevel, .int .i64 t.fDepth, .int .i64 t.fMany])]) _) := ⟨(((HS2.out.erase 2).erase 1).erase 0)⟩; refine ⟨HS.out, ?_⟩
   refine wh_y 11 rfl (by kernel_rfl) (by kernel_rfl) (by kernel_rfl) (fun _ _ _ h => h) rfl HF rfl rfl (fun _ HS => (yl_assign rfl (HF.ev rfl))) HS.out ?_; clear HF a; intro a HF
   refine wh_done (by kernel_rfl) ?_
   replace HS := HS2; clear HS2
   refine ex_then ?_
   refine wp_ret ?_
   refine bp_ret1 HF Tryz.results81 (HF.res rfl) ?_
   replace HS : Bx (St w0 ([rowA encS 1 9 (.slice ao5 (([ptrB t.fRoot]).length + (([t.fDepth, t.fMany]).map numB).length) cp6) (([ptrB t.fRoot]) ++ (([t.fDepth, t.fMany]).map numB)), rowA encS 1 9 (.slice ao4 (([t.fDepth, t.fMany]).length) cp4) (([t.fDepth, t.fMany]).map numB), rowA encI 1 3 (.slice (some ⟨b3, 0, none⟩) 2 2) ([t.fDepth, t.fMany]), boxA b1 7 40 (.agg #[.int .i64 t.fRoot.fAt, .int .i64 t.fRoot.fBirth, .int .i64 t.fRoot.fSize, .int .i64 t.fRoot.fSum, .int .i64 t.fRoot.fLevel, .int .i64 t.fDepth, .int .i64 t.fMany])]) _) := ⟨(HS.out).pick 2 rfl⟩
   exact ⟨_, _, rfl, (((HS.out.erase 3).erase 2).erase 1)⟩
  ·skip
   refine wo_buildS (enc := encI) (e := 3) (size := 1) rfl rfl HF rfl rfl rfl (ps := [(0, .int .i64 t.fDepth), (1, .int .i64 t.fMany)]) rfl (cells := [.int .i64 t.fDepth, .int .i64 t.fMany]) (by kernel_rfl) [t.fDepth, t.fMany] rfl rfl (by unfold maxLen; omega) rfl HS2.out HS.out ?_; clear HF HS HS2 a; intro b7 a w13 HF HS2 HS; replace HS := Bx.mk HS; replace HS2 := Bx.mk HS2; refine ⟨HS.out, ?_⟩
   refine wh_two 3 9 (by kernel_rfl) ?_ ?_
   ·skip
    refine wo_buildS (enc := encS) (e := 9) (size := 1) rfl rfl HF rfl rfl rfl (ps := [(0, .string (ptrB t.fRoot))]) rfl (cells := [.string (ptrB t.fRoot)]) (by kernel_rfl) [ptrB t.fRoot] rfl rfl (by unfold maxLen; omega) rfl HS2.out HS.out ?_; clear HF HS HS2 a; intro b8 a w15 HF HS2 HS; replace HS := Bx.mk HS; replace HS2 := Bx.mk HS2; refine ⟨HS.out, ?_⟩
    refine wh_one 9 (by kernel_rfl) ?_
    refine wo_call rfl rfl HF rfl (enter_of Tryz.func128 (by kernel_rfl) rfl) (args := #[.slice (some ⟨b7, 0, none⟩) 2 2]) rfl (numbers_any _ _ _ ([t.fDepth, t.fMany]) _ (HT.out.below HS2.out.bel) (by simp) (St.rdN HS2.out encI_len 1 rfl)) rfl rfl ?_
    rintro _ w17 ⟨ao9, cp9, rfl, hs⟩
    refine ⟨_, rfl, ?_⟩
    replace HS := Bx.mk (HS.out.later hs.bel); replace HS2 := Bx.mk (HS2.out.add hs); clear hs HF; clear a; intro a HF
    replace HS2 : Bx (St w0 ([rowA encS 1 9 (.slice ao9 (([t.fDepth, t.fMany]).length) cp9) (([t.fDepth, t.fMany]).map numB), rowA encS 1 9 (.slice (some ⟨b8, 0, none⟩) 1 1) ([ptrB t.fRoot]), rowA encI 1 3 (.slice (some ⟨b7, 0, none⟩) 2 2) ([t.fDepth, t.fMany]), boxA b1 7 40 (.agg #[.int .i64 t.fRoot.fAt, .int .i64 t.fRoot.fBirth, .int .i64 t.fRoot.fSize, .int .i64 t.fRoot.fSum, .int .i64 t.fRoot.fLevel, .int .i64 t.fDepth, .int .i64 t.fMany])]) _) := ⟨HS2.out⟩
    refine ⟨HS.out, ?_⟩
    refine wh_one 10 (by kernel_rfl) ?_
    refine wo_appL rfl rfl HF rfl rfl rfl (HF.ev rfl) (HF.ev rfl) elemS encS_len HS2.out 1 (xs := [ptrB t.fRoot]) rfl (ys := ([t.fDepth, t.fMany]).map numB) (St.rdN HS2.out encS_len 0 rfl) (cells_one_S _) (by unfold maxLen; (try simp only [List.length_append, List.length_cons, List.length_nil, List.nil_append, List.length_map]); omega) (by (try simp only [List.length_append, List.length_cons, List.length_nil, List.nil_append, List.length_map]); omega) ?_; clear HF HS HS2 a; intro ao10 cp11 w19 a HF HS2; replace HS2 := Bx.mk HS2
    replace HS2 : Bx (St w0 ([rowA encS 1 9 (.slice ao9 (([t.fDepth, t.fMany]).length) cp9) (([t.fDepth, t.fMany]).map numB), rowA encS 1 9 (.slice ao10 (([ptrB t.fRoot]).length + (([t.fDepth, t.fMany]).map numB).length) cp11) (([ptrB t.fRoot]) ++ (([t.fDepth, t.fMany]).map numB)), rowA encI 1 3 (.slice (some ⟨b7, 0, none⟩) 2 2) ([t.fDepth, t.fMany]), boxA b1 7 40 (.agg #[.int .i64 t.fRoot.fAt, .int .i64 t.fRoot.fBirth, .int .i64 t.fRoot.fSize, .int .i64 t.fRoot.fSum, .int .i64 t.fRoot.fLevel, .int .i64 t.fDepth, .int .i64 t.fMany])]) _) := ⟨HS2.out⟩
    have HS : Bx (St w0 ([boxA b1 7 40 (.agg #[.int .i64 t.fRoot.fAt, .int .i64 t.fRoot.fBirth, .int .i64 t.fRoot.fSize, .int .i64 t.fRoot.fSum, .int .i64 t.fRoot.fLevel, .int .i64 t.fDepth, .int .i64 t.fMany])]) _) := ⟨(((HS2.out.erase 2).erase 1).erase 0)⟩; refine ⟨HS.out, ?_⟩
    refine wh_y 11 rfl (by kernel_rfl) (by kernel_rfl) (by kernel_rfl) (fun _ _ _ h => h) rfl HF rfl rfl (fun _ HS => (yl_assign rfl (HF.ev rfl))) HS.out ?_; clear HF a; intro a HF
    refine wh_done (by kernel_rfl) ?_
    replace HS := HS2; clear HS2
    refine ex_then ?_
    refine wp_ret ?_
    refine bp_ret1 HF Tryz.results81 (HF.res rfl) ?_
    replace HS : Bx (St w0 ([rowA encS 1 9 (.slice ao10 (([ptrB t.fRoot]).length + (([t.fDepth, t.fMany]).map numB).length) cp11) (([ptrB t.fRoot]) ++ (([t.fDepth, t.fMany]).map numB)), rowA encS 1 9 (.slice ao9 (([t.fDepth, t.fMany]).length) cp9) (([t.fDepth, t.fMany]).map numB), rowA encI 1 3 (.slice (some ⟨b7, 0, none⟩) 2 2) ([t.fDepth, t.fMany]), boxA b1 7 40 (.agg #[.int .i64 t.fRoot.fAt, .int .i64 t.fRoot.fBirth, .int .i64 t.fRoot.fSize, .int .i64 t.fRoot.fSum, .int .i64 t.fRoot.fLevel, .int .i64 t.fDepth, .int .i64 t.fMany])]) _) := ⟨(HS.out).pick 1 rfl⟩
    exact ⟨_, _, rfl, (((HS.out.erase 3).erase 2).erase 1)⟩
   ·skip
    refine wo_call rfl rfl HF rfl (enter_of Tryz.func128 (by kernel_rfl) rfl) (args := #[.slice (some ⟨b7, 0, none⟩) 2 2]) rfl (numbers_any _ _ _ ([t.fDepth, t.fMany]) _ (HT.out.below HS2.out.bel) (by simp) (St.rdN HS2.out encI_len 0 rfl)) rfl rfl ?_
    rintro _ w21 ⟨ao12, cp12, rfl, hs⟩
    refine ⟨_, rfl, ?_⟩
    replace HS := Bx.mk (HS.out.later hs.bel); replace HS2 := Bx.mk (HS2.out.add hs); clear hs HF; clear a; intro a HF
    replace HS2 : Bx (St w0 ([rowA encS 1 9 (.slice ao12 (([t.fDepth, t.fMany]).length) cp12) (([t.fDepth, t.fMany]).map numB), rowA encI 1 3 (.slice (some ⟨b7, 0, none⟩) 2 2) ([t.fDepth, t.fMany]), boxA b1 7 40 (.agg #[.int .i64 t.fRoot.fAt, .int .i64 t.fRoot.fBirth, .int .i64 t.fRoot.fSize, .int .i64 t.fRoot.fSum, .int .i64 t.fRoot.fLevel, .int .i64 t.fDepth, .int .i64 t.fMany])]) _) := ⟨HS2.out⟩
    refine ⟨HS.out, ?_⟩
    refine wh_one 3 (by kernel_rfl) ?_
    refine wo_buildS (enc := encS) (e := 9) (size := 1) rfl rfl HF rfl rfl rfl (ps := [(0, .string (ptrB t.fRoot))]) rfl (cells := [.string (ptrB t.fRoot)]) (by kernel_rfl) [ptrB t.fRoot] rfl rfl (by unfold maxLen; omega) rfl HS2.out HS.out ?_; clear HF HS HS2 a; intro b13 a w23 HF HS2 HS; replace HS := Bx.mk HS; replace HS2 := Bx.mk HS2; refine ⟨HS.out, ?_⟩
    refine wh_one 10 (by kernel_rfl) ?_
    refine wo_appL rfl rfl HF rfl rfl rfl (HF.ev rfl) (HF.ev rfl) elemS encS_len HS2.out 0 (xs := [ptrB t.fRoot]) rfl (ys := ([t.fDepth, t.fMany]).map numB) (St.rdN HS2.out encS_len 1 rfl) (cells_one_S _) (by unfold maxLen; (try simp only [List.length_append, List.length_cons, List.length_nil, List.nil_append, List.length_map]); omega) (by (try simp only [List.length_append, List.length_cons, List.length_nil, List.nil_append, List.length_map]); omega) ?_; clear HF HS HS2 a; intro ao14 cp15 w25 a HF HS2; replace HS2 := Bx.mk HS2
    replace HS2 : Bx (St w0 ([rowA encS 1 9 (.slice ao14 (([ptrB t.fRoot]).length + (([t.fDepth, t.fMany]).map numB).length) cp15) (([ptrB t.fRoot]) ++ (([t.fDepth, t.fMany]).map numB)), rowA encS 1 9 (.slice ao12 (([t.fDepth, t.fMany]).length) cp12) (([t.fDepth, t.fMany]).map numB), rowA encI 1 3 (.slice (some ⟨b7, 0, none⟩) 2 2) ([t.fDepth, t.fMany]), boxA b1 7 40 (.agg #[.int .i64 t.fRoot.fAt, .int .i64 t.fRoot.fBirth, .int .i64 t.fRoot.fSize, .int .i64 t.fRoot.fSum, .int .i64 t.fRoot.fLevel, .int .i64 t.fDepth, .int .i64 t.fMany])]) _) := ⟨HS2.out⟩
    have HS : Bx (St w0 ([boxA b1 7 40 (.agg #[.int .i64 t.fRoot.fAt, .int .i64 t.fRoot.fBirth, .int .i64 t.fRoot.fSize, .int .i64 t.fRoot.fSum, .int .i64 t.fRoot.fLevel, .int .i64 t.fDepth, .int .i64 t.fMany])]) _) := ⟨(((HS2.out.erase 2).erase 1).erase 0)⟩; refine ⟨HS.out, ?_⟩
    refine wh_y 11 rfl (by kernel_rfl) (by kernel_rfl) (by kernel_rfl) (fun _ _ _ h => h) rfl HF rfl rfl (fun _ HS => (yl_assign rfl (HF.ev rfl))) HS.out ?_; clear HF a; intro a HF
    refine wh_done (by kernel_rfl) ?_
    replace HS := HS2; clear HS2
    refine ex_then ?_
    refine wp_ret ?_
    refine bp_ret1 HF Tryz.results81 (HF.res rfl) ?_
    replace HS : Bx (St w0 ([rowA encS 1 9 (.slice ao14 (([ptrB t.fRoot]).length + (([t.fDepth, t.fMany]).map numB).length) cp15) (([ptrB t.fRoot]) ++ (([t.fDepth, t.fMany]).map numB)), rowA encS 1 9 (.slice ao12 (([t.fDepth, t.fMany]).length) cp12) (([t.fDepth, t.fMany]).map numB), rowA encI 1 3 (.slice (some ⟨b7, 0, none⟩) 2 2) ([t.fDepth, t.fMany]), boxA b1 7 40 (.agg #[.int .i64 t.fRoot.fAt, .int .i64 t.fRoot.fBirth, .int .i64 t.fRoot.fSize, .int .i64 t.fRoot.fSum, .int .i64 t.fRoot.fLevel, .int .i64 t.fDepth, .int .i64 t.fMany])]) _) := ⟨(HS.out).pick 0 rfl⟩
    exact ⟨_, _, rfl, (((HS.out.erase 3).erase 2).erase 1)⟩
 ·skip
  refine wo_buildS (enc := encI) (e := 3) (size := 1) rfl rfl HF rfl rfl rfl (ps := [(0, .int .i64 t.fDepth), (1, .int .i64 t.fMany)]) rfl (cells := [.int .i64 t.fDepth, .int .i64 t.fMany]) (by kernel_rfl) [t.fDepth, t.fMany] rfl rfl (by unfold maxLen; omega) rfl HS2.out HS.out ?_; clear HF HS HS2 a; intro b16 a w27 HF HS2 HS; replace HS := Bx.mk HS; replace HS2 := Bx.mk HS2; refine ⟨HS.out, ?_⟩
  refine wh_one 2 (by kernel_rfl) ?_
  refine wo_callB rfl rfl HF rfl (enter_of Tryz.func127 (by kernel_rfl) rfl) (args := #[.agg #[.int .i64 t.fRoot.fAt, .int .i64 t.fRoot.fBirth, .int .i64 t.fRoot.fSize, .int .i64 t.fRoot.fSum, .int .i64 t.fRoot.fLevel]]) rfl (v := .string (ptrB t.fRoot)) (ptrPutI_any t.fRoot _ (HT.out.below HS2.out.bel)) rfl rfl ?_
  intro w28 hb; replace HS := Bx.mk (HS.out.later hb); replace HS2 := Bx.mk (HS2.out.later hb); clear hb HF; clear a; intro a HF; refine ⟨HS.out, ?_⟩
  refine wh_two 3 9 (by kernel_rfl) ?_ ?_
  ·skip
   refine wo_buildS (enc := encS) (e := 9) (size := 1) rfl rfl HF rfl rfl rfl (ps := [(0, .string (ptrB t.fRoot))]) rfl (cells := [.string (ptrB t.fRoot)]) (by kernel_rfl) [ptrB t.fRoot] rfl rfl (by unfold maxLen; omega) rfl HS2.out HS.out ?_; clear HF HS HS2 a; intro b17 a w30 HF HS2 HS; replace HS := Bx.mk HS; replace HS2 := Bx.mk HS2; refine ⟨HS.out, ?_⟩
   refine wh_one 9 (by kernel_rfl) ?_
   refine wo_call rfl rfl HF rfl (enter_of Tryz.func128 (by kernel_rfl) rfl) (args := #[.slice (some ⟨b16, 0, none⟩) 2 2]) rfl (numbers_any _ _ _ ([t.fDepth, t.fMany]) _ (HT.out.below HS2.out.bel) (by simp) (St.rdN HS2.out encI_len 1 rfl)) rfl rfl ?_
   rintro _ w32 ⟨ao18, cp18, rfl, hs⟩
   refine ⟨_, rfl, ?_⟩
   replace HS := Bx.mk (HS.out.later hs.bel); replace HS2 := Bx.mk (HS2.out.add hs); clear hs HF; clear a; intro a HF
   replace HS2 : Bx (St w0 ([rowA encS 1 9 (.slice ao18 (([t.fDepth, t.fMany]).length) cp18) (([t.fDepth, t.fMany]).map numB), rowA encS 1 9 (.slice (some ⟨b17, 0, none⟩) 1 1) ([ptrB t.fRoot]), rowA encI 1 3 (.slice (some ⟨b16, 0, none⟩) 2 2) ([t.fDepth, t.fMany]), boxA b1 7 40 (.agg #[.int .i64 t.fRoot.fAt, .int .i64 t.fRoot.fBirth, .int .i64 t.fRoot.fSize, .int .i64 t.fRoot.fSum, .int .i64 t.fRoot.fLevel, .int .i64 t.fDepth, .int .i64 t.fMany])]) _) := ⟨HS2.out⟩
   refine ⟨HS.out, ?_⟩
   refine wh_one 10 (by kernel_rfl) ?_
   refine wo_appL rfl rfl HF rfl rfl rfl (HF.ev rfl) (HF.ev rfl) elemS encS_len HS2.out 1 (xs := [ptrB t.fRoot]) rfl (ys := ([t.fDepth, t.fMany]).map numB) (St.rdN HS2.out encS_len 0 rfl) (cells_one_S _) (by unfold maxLen; (try simp only [List.length_append, List.length_cons, List.length_nil, List.nil_append, List.length_map]); omega) (by (try simp only [List.length_append, List.length_cons, List.length_nil, List.nil_append, List.length_map]); omega) ?_; clear HF HS HS2 a; intro ao19 cp20 w34 a HF HS2; replace HS2 := Bx.mk HS2
   replace HS2 : Bx (St w0 ([rowA encS 1 9 (.slice ao18 (([t.fDepth, t.fMany]).length) cp18) (([t.fDepth, t.fMany]).map numB), rowA encS 1 9 (.slice ao19 (([ptrB t.fRoot]).length + (([t.fDepth, t.fMany]).map numB).length) cp20) (([ptrB t.fRoot]) ++ (([t.fDepth, t.fMany]).map numB)), rowA encI 1 3 (.slice (some ⟨b16, 0, none⟩) 2 2) ([t.fDepth, t.fMany]), boxA b1 7 40 (.agg #[.int .i64 t.fRoot.fAt, .int .i64 t.fRoot.fBirth, .int .i64 t.fRoot.fSize, .int .i64 t.fRoot.fSum, .int .i64 t.fRoot.fLevel, .int .i64 t.fDepth, .int .i64 t.fMany])]) _) := ⟨HS2.out⟩
   have HS : Bx (St w0 ([boxA b1 7 40 (.agg #[.int .i64 t.fRoot.fAt, .int .i64 t.fRoot.fBirth, .int .i64 t.fRoot.fSize, .int .i64 t.fRoot.fSum, .int .i64 t.fRoot.fLevel, .int .i64 t.fDepth, .int .i64 t.fMany])]) _) := ⟨(((HS2.out.erase 2).erase 1).erase 0)⟩; refine ⟨HS.out, ?_⟩
   refine wh_y 11 rfl (by kernel_rfl) (by kernel_rfl) (by kernel_rfl) (fun _ _ _ h => h) rfl HF rfl rfl (fun _ HS => (yl_assign rfl (HF.ev rfl))) HS.out ?_; clear HF a; intro a HF
   refine wh_done (by kernel_rfl) ?_
   replace HS := HS2; clear HS2
   refine ex_then ?_
   refine wp_ret ?_
   refine bp_ret1 HF Tryz.results81 (HF.res rfl) ?_
   replace HS : Bx (St w0 ([rowA encS 1 9 (.slice ao19 (([ptrB t.fRoot]).length + (([t.fDepth, t.fMany]).map numB).length) cp20) (([ptrB t.fRoot]) ++ (([t.fDepth, t.fMany]).map numB)), rowA encS 1 9 (.slice ao18 (([t.fDepth, t.fMany]).length) cp18) (([t.fDepth, t.fMany]).map numB), rowA encI 1 3 (.slice (some ⟨b16, 0, none⟩) 2 2) ([t.fDepth, t.fMany]), boxA b1 7 40 (.agg #[.int .i64 t.fRoot.fAt, .int .i64 t.fRoot.fBirth, .int .i64 t.fRoot.fSize, .int .i64 t.fRoot.fSum, .int .i64 t.fRoot.fLevel, .int .i64 t.fDepth, .int .i64 t.fMany])]) _) := ⟨(HS.out).pick 1 rfl⟩
   exact ⟨_, _, rfl, (((HS.out.erase 3).erase 2).erase 1)⟩
  ·skip
   refine wo_call rfl rfl HF rfl (enter_of Tryz.func128 (by kernel_rfl) rfl) (args := #[.slice (some ⟨b16, 0, none⟩) 2 2]) rfl (numbers_any _ _ _ ([t.fDepth, t.fMany]) _ (HT.out.below HS2.out.bel) (by simp) (St.rdN HS2.out encI_len 0 rfl)) rfl rfl ?_
   rintro _ w36 ⟨ao21, cp21, rfl, hs⟩
   refine ⟨_, rfl, ?_⟩
   replace HS := Bx.mk (HS.out.later hs.bel); replace HS2 := Bx.mk (HS2.out.add hs); clear hs HF; clear a; intro a HF
   replace HS2 : Bx (St w0 ([rowA encS 1 9 (.slice ao21 (([t.fDepth, t.fMany]).length) cp21) (([t.fDepth, t.fMany]).map numB), rowA encI 1 3 (.slice (some ⟨b16, 0, none⟩) 2 2) ([t.fDepth, t.fMany]), boxA b1 7 40 (.agg #[.int .i64 t.fRoot.fAt, .int .i64 t.fRoot.fBirth, .int .i64 t.fRoot.fSize, .int .i64 t.fRoot.fSum, .int .i64 t.fRoot.fLevel, .int .i64 t.fDepth, .int .i64 t.fMany])]) _) := ⟨HS2.out⟩
   refine ⟨HS.out, ?_⟩
   refine wh_one 3 (by kernel_rfl) ?_
   refine wo_buildS (enc := encS) (e := 9) (size := 1) rfl rfl HF rfl rfl rfl (ps := [(0, .string (ptrB t.fRoot))]) rfl (cells := [.string (ptrB t.fRoot)]) (by kernel_rfl) [ptrB t.fRoot] rfl rfl (by unfold maxLen; omega) rfl HS2.out HS.out ?_; clear HF HS HS2 a; intro b22 a w38 HF HS2 HS; replace HS := Bx.mk HS; replace HS2 := Bx.mk HS2; refine ⟨HS.out, ?_⟩
   refine wh_one 10 (by kernel_rfl) ?_
   refine wo_appL rfl rfl HF rfl rfl rfl (HF.ev rfl) (HF.ev rfl) elemS encS_len HS2.out 0 (xs := [ptrB t.fRoot]) rfl (ys := ([t.fDepth, t.fMany]).map numB) (St.rdN HS2.out encS_len 1 rfl) (cells_one_S _) (by unfold maxLen; (try simp only [List.length_append, List.length_cons, List.length_nil, List.nil_append, List.length_map]); omega) (by (try simp only [List.length_append, List.length_cons, List.length_nil, List.nil_append, List.length_map]); omega) ?_; clear HF HS HS2 a; intro ao23 cp24 w40 a HF HS2; replace HS2 := Bx.mk HS2
   replace HS2 : Bx (St w0 ([rowA encS 1 9 (.slice ao23 (([ptrB t.fRoot]).length + (([t.fDepth, t.fMany]).map numB).length) cp24) (([ptrB t.fRoot]) ++ (([t.fDepth, t.fMany]).map numB)), rowA encS 1 9 (.slice ao21 (([t.fDepth, t.fMany]).length) cp21) (([t.fDepth, t.fMany]).map numB), rowA encI 1 3 (.slice (some ⟨b16, 0, none⟩) 2 2) ([t.fDepth, t.fMany]), boxA b1 7 40 (.agg #[.int .i64 t.fRoot.fAt, .int .i64 t.fRoot.fBirth, .int .i64 t.fRoot.fSize, .int .i64 t.fRoot.fSum, .int .i64 t.fRoot.fLevel, .int .i64 t.fDepth, .int .i64 t.fMany])]) _) := ⟨HS2.out⟩
   have HS : Bx (St w0 ([boxA b1 7 40 (.agg #[.int .i64 t.fRoot.fAt, .int .i64 t.fRoot.fBirth, .int .i64 t.fRoot.fSize, .int .i64 t.fRoot.fSum, .int .i64 t.fRoot.fLevel, .int .i64 t.fDepth, .int .i64 t.fMany])]) _) := ⟨(((HS2.out.erase 2).erase 1).erase 0)⟩; refine ⟨HS.out, ?_⟩
   refine wh_y 11 rfl (by kernel_rfl) (by kernel_rfl) (by kernel_rfl) (fun _ _ _ h => h) rfl HF rfl rfl (fun _ HS => (yl_assign rfl (HF.ev rfl))) HS.out ?_; clear HF a; intro a HF
   refine wh_done (by kernel_rfl) ?_
   replace HS := HS2; clear HS2
   refine ex_then ?_
   refine wp_ret ?_
   refine bp_ret1 HF Tryz.results81 (HF.res rfl) ?_
   replace HS : Bx (St w0 ([rowA encS 1 9 (.slice ao23 (([ptrB t.fRoot]).length + (([t.fDepth, t.fMany]).map numB).length) cp24) (([ptrB t.fRoot]) ++ (([t.fDepth, t.fMany]).map numB)), rowA encS 1 9 (.slice ao21 (([t.fDepth, t.fMany]).length) cp21) (([t.fDepth, t.fMany]).map numB), rowA encI 1 3 (.slice (some ⟨b16, 0, none⟩) 2 2) ([t.fDepth, t.fMany]), boxA b1 7 40 (.agg #[.int .i64 t.fRoot.fAt, .int .i64 t.fRoot.fBirth, .int .i64 t.fRoot.fSize, .int .i64 t.fRoot.fSum, .int .i64 t.fRoot.fLevel, .int .i64 t.fDepth, .int .i64 t.fMany])]) _) := ⟨(HS.out).pick 0 rfl⟩
   exact ⟨_, _, rfl, (((HS.out.erase 3).erase 2).erase 1)⟩

theorem l21Tree_any (t : TreeD) (w0 : World) : Calls Tryz.prog 66 #[.agg #[.int .i64 t.fRoot.fAt, .int .i64 t.fRoot.fBirth, .int .i64 t.fRoot.fSize, .int .i64 t.fRoot.fSum, .int .i64 t.fRoot.fLevel, .int .i64 t.fDepth, .int .i64 t.fMany]] w0 fun e w' => ∃ ao cp, e = .returned (.slice ao 3 cp) ∧ St w0 [rowA encS 1 9 (.slice ao 3 cp) (treeB t)] w' := by
 have HS := Bx.mk (St.start w0)
 refine wc_enter Tryz.func66 rfl Tryz.ntmps66 [(0, .agg #[.int .i64 t.fRoot.fAt, .int .i64 t.fRoot.fBirth, .int .i64 t.fRoot.fSize, .int .i64 t.fRoot.fSum, .int .i64 t.fRoot.fLevel, .int .i64 t.fDepth, .int .i64 t.fMany])] ⟨rfl, trivial⟩ rfl ?_; intro a HF
 refine wp_sr ?_
 refine wl_box rfl HF rfl (HF.ev rfl) (Z := [.int .i64 t.fRoot.fAt, .int .i64 t.fRoot.fBirth, .int .i64 t.fRoot.fSize, .int .i64 t.fRoot.fSum, .int .i64 t.fRoot.fLevel, .int .i64 t.fDepth, .int .i64 t.fMany]) rfl rfl rfl rfl HS.out ?_; clear HF HS a; intro a w1 b1 HF HS; replace HS := Bx.mk HS
 refine wl_as HF rfl rfl rfl rfl rfl ?_; clear HF a; intro a HF
 refine wl_ne ?_
 refine wp_seq ?_
 refine wr_heldS (s := [boxA b1 7 40 (.agg #[.int .i64 t.fRoot.fAt, .int .i64 t.fRoot.fBirth, .int .i64 t.fRoot.fSize, .int .i64 t.fRoot.fSum, .int .i64 t.fRoot.fLevel, .int .i64 t.fDepth, .int .i64 t.fMany])]) (by kernel_rfl) (St.drew (HS.out)) ?_
 have HS2 := Bx.mk HS.out.drew; replace HS := Bx.mk (show St w0 ([boxA b1 7 40 (.agg #[.int .i64 t.fRoot.fAt, .int .i64 t.fRoot.fBirth, .int .i64 t.fRoot.fSize, .int .i64 t.fRoot.fSum, .int .i64 t.fRoot.fLevel, .int .i64 t.fDepth, .int .i64 t.fMany])]) _ from HS.out.drew)
 generalize World.drew _ = w2 at HS HS2 ⊢
 refine wh_y 0 rfl (by kernel_rfl) (by kernel_rfl) (by kernel_rfl) (fun _ _ _ h => h) rfl HF rfl rfl (fun _ HS => (yl_fieldAddr (j := 0) rfl (HF.ev rfl) (by kernel_rfl))) HS.out ?_; clear HF a; intro a HF
 refine wh_y 1 rfl (by kernel_rfl) (by kernel_rfl) (by kernel_rfl) (fun _ _ _ h => h) rfl HF rfl rfl (fun _ HS => (yl_loadR (cs := [.int .i64 t.fRoot.fAt, .int .i64 t.fRoot.fBirth, .int .i64 t.fRoot.fSize, .int .i64 t.fRoot.fSum, .int .i64 t.fRoot.fLevel]) rfl (HF.ev rfl) ((HS.box 0 rfl).sub 0 5) (by kernel_rfl))) HS.out ?_; clear HF a; intro a HF
 refine wh_y 3 rfl (by kernel_rfl) (by kernel_rfl) (by kernel_rfl) (fun _ _ _ h => h) rfl HF rfl rfl (fun _ HS => (yl_fieldAddr (j := 5) rfl (HF.ev rfl) (by kernel_rfl))) HS.out ?_; clear HF a; intro a HF
 refine wh_y 4 rfl (by kernel_rfl) (by kernel_rfl) (by kernel_rfl) (fun _ _ _ h => h) rfl HF rfl rfl (fun _ HS => (yl_load (v := .int .i64 t.fDepth) rfl (HF.ev rfl) (((HS.box 0 rfl).cell 5).trans rfl) (by kernel_rfl))) HS.out ?_; clear HF a; intro a HF
 refine wh_y 6 rfl (by kernel_rfl) (by kernel_rfl) (by kernel_rfl) (fun _ _ _ h => h) rfl HF rfl rfl (fun _ HS => (yl_fieldAddr (j := 6) rfl (HF.ev rfl) (by kernel_rfl))) HS.out ?_; clear HF a; intro a HF
 refine wh_y 7 rfl (by kernel_rfl) (by kernel_rfl) (by kernel_rfl) (fun _ _ _ h => h) rfl HF rfl rfl (fun _ HS => (yl_load (v := .int .i64 t.fMany) rfl (HF.ev rfl) (((HS.box 0 rfl).cell 6).trans rfl) (by kernel_rfl))) HS.out ?_; clear HF a; intro a HF
 refine wh_one 2 (by kernel_rfl) ?_
 refine wo_callB rfl rfl HF rfl (enter_of Tryz.func112 (by kernel_rfl) rfl) (args := #[.agg #[.int .i64 t.fRoot.fAt, .int .i64 t.fRoot.fBirth, .int .i64 t.fRoot.fSize, .int .i64 t.fRoot.fSum, .int .i64 t.fRoot.fLevel]]) rfl (v := .string (ptrB t.fRoot)) (ptrPutS_any t.fRoot _) rfl rfl ?_
 intro w3 hb; replace HS := Bx.mk (HS.out.later hb); replace HS2 := Bx.mk (HS2.out.later hb); clear hb HF; clear a; intro a HF; refine ⟨HS.out, ?_⟩
 refine wh_one 5 (by kernel_rfl) ?_
 refine wo_callB rfl rfl HF rfl (enter_of Tryz.func113 (by kernel_rfl) rfl) (args := #[.int .i64 t.fDepth]) rfl (v := .string (numB t.fDepth)) (numPutS_any t.fDepth _) rfl rfl ?_
 intro w4 hb; replace HS := Bx.mk (HS.out.later hb); replace HS2 := Bx.mk (HS2.out.later hb); clear hb HF; clear a; intro a HF; refine ⟨HS.out, ?_⟩
 refine wh_one 8 (by kernel_rfl) ?_
 refine wo_callB rfl rfl HF rfl (enter_of Tryz.func113 (by kernel_rfl) rfl) (args := #[.int .i64 t.fMany]) rfl (v := .string (numB t.fMany)) (numPutS_any t.fMany _) rfl rfl ?_
 intro w5 hb; replace HS := Bx.mk (HS.out.later hb); replace HS2 := Bx.mk (HS2.out.later hb); clear hb HF; clear a; intro a HF; refine ⟨HS.out, ?_⟩
 refine wh_one 9 (by kernel_rfl) ?_
 refine wo_buildS (enc := encS) (e := 9) (size := 1) rfl rfl HF rfl rfl rfl (ps := [(0, .string (ptrB t.fRoot)), (1, .string (numB t.fDepth)), (2, .string (numB t.fMany))]) rfl (cells := [.string (ptrB t.fRoot), .string (numB t.fDepth), .string (numB t.fMany)]) (by kernel_rfl) [ptrB t.fRoot, numB t.fDepth, numB t.fMany] rfl rfl (by unfold maxLen; omega) rfl HS2.out HS.out ?_; clear HF HS HS2 a; intro b2 a w7 HF HS2 HS; replace HS := Bx.mk HS; replace HS2 := Bx.mk HS2; refine ⟨HS.out, ?_⟩
 refine wh_y 10 rfl (by kernel_rfl) (by kernel_rfl) (by kernel_rfl) (fun _ _ _ h => h) rfl HF rfl rfl (fun _ HS => (yl_assign rfl (HF.ev rfl))) HS.out ?_; clear HF a; intro a HF
 refine wh_done (by kernel_rfl) ?_
 replace HS := HS2; clear HS2
 refine ex_then ?_
 refine wp_ret ?_
 refine bp_ret1 HF Tryz.results66 (HF.res rfl) ?_
 replace HS : Bx (St w0 ([rowA encS 1 9 (.slice (some ⟨b2, 0, none⟩) 3 3) ([ptrB t.fRoot, numB t.fDepth, numB t.fMany]), boxA b1 7 40 (.agg #[.int .i64 t.fRoot.fAt, .int .i64 t.fRoot.fBirth, .int .i64 t.fRoot.fSize, .int .i64 t.fRoot.fSum, .int .i64 t.fRoot.fLevel, .int .i64 t.fDepth, .int .i64 t.fMany])]) _) := ⟨(HS.out).pick 0 rfl⟩
 exact ⟨_, _, rfl, (HS.out.erase 1)⟩

theorem treeB_len (t : TreeD) : (treeB t).length = 3 := rfl
theorem szs_tree (t : TreeD) : szs (treeB t) := szs_cons (Nat.le_trans (ptrB_le _) (by decide)) (szs_cons (Nat.le_trans (numB_le _) (by decide)) (szs_cons (Nat.le_trans (numB_le _) (by decide)) szs_nil))
theorem signed_any (w0 w : World) (ao : Option Addr) (n c : Nat) (xs : List ByteArray) (F : List Asr) (hT : TabP w0) (hl : xs.length ≤ 100) (hx : szs xs) (hS : St w0 (rowA encS 1 9 (.slice ao n c) xs :: F) w) : Calls Tryz.prog 79 #[.slice ao n c] w fun e w' => e = .returned (.string (signB xs)) ∧ St w0 F w' := by
 have hfz := fieldsPut_le xs
 have HT := Bx.mk hT; clear hT
 have HS := Bx.mk hS; clear hS
 refine wc_enter Tryz.func79 rfl Tryz.ntmps79 [(0, .slice ao n c)] ⟨rfl, trivial⟩ rfl ?_; intro a HF
 refine wp_sr ?_
 refine wl_as HF rfl rfl rfl rfl rfl ?_; clear HF a; intro a HF
 refine wl_ne ?_
 refine wp_sr ?_
 refine wl_mv HF rfl rfl rfl rfl rfl ?_; clear HF a; intro a HF
 refine wl_callB rfl HF rfl (enter_of Tryz.func124 (by kernel_rfl) rfl) (args := #[.slice ao n c]) rfl (v := .tuple #[.string ((fieldsPut xs).1), .bool ((fieldsPut xs).2)]) (fieldsPutI_any _ _ _ xs _ (HT.out.below HS.out.bel) (by (try simp only [List.length_append, List.length_cons, List.length_nil, List.nil_append, List.length_map]); omega) hx (St.rdN HS.out encS_len 0 rfl)) rfl rfl HS.out ?_; clear HF HS a; intro w1 a HS HF; replace HS := Bx.mk HS
 refine wl_mv HF rfl rfl rfl rfl rfl ?_; clear HF a; intro a HF
 refine wl_y rfl HF rfl rfl (yl_extract rfl (HF.ev rfl) rfl) ?_; clear HF a; intro a HF
 refine wl_y rfl HF rfl rfl (yl_extract rfl (HF.ev rfl) rfl) ?_; clear HF a; intro a HF
 refine wl_as HF rfl rfl rfl rfl rfl ?_; clear HF a; intro a HF
 refine wl_as HF rfl rfl rfl rfl rfl ?_; clear HF a; intro a HF
 refine wl_ne ?_
 refine wp_sr ?_
 refine wl_mv HF rfl rfl rfl rfl rfl ?_; clear HF a; intro a HF
 refine wl_mv HF rfl rfl rfl rfl rfl ?_; clear HF a; intro a HF
 refine wl_callB rfl HF rfl (enter_of Tryz.func125 (by kernel_rfl) rfl) (args := #[.string ((fieldsPut xs).1)]) rfl (v := .int .i64 (sumOf ((fieldsPut xs).1))) (sumOfI_any ((fieldsPut xs).1) _ (by omega)) rfl rfl HS.out ?_; clear HF HS a; intro w2 a HS HF; replace HS := Bx.mk HS
 refine wl_callB rfl HF rfl (enter_of Tryz.func80 (by kernel_rfl) rfl) (args := #[.int .i64 (sumOf ((fieldsPut xs).1))]) rfl (v := .string (numB (sumOf ((fieldsPut xs).1)))) (numPutI_any (sumOf ((fieldsPut xs).1)) _ (HT.out.below HS.out.bel)) rfl rfl HS.out ?_; clear HF HS a; intro w3 a HS HF; replace HS := Bx.mk HS
 refine wl_buildS (enc := encS) (e := 9) (size := 1) rfl HF rfl rfl rfl (ps := [(0, .string (numB (sumOf ((fieldsPut xs).1))))]) rfl (cells := [.string (numB (sumOf ((fieldsPut xs).1)))]) (by kernel_rfl) [numB (sumOf ((fieldsPut xs).1))] rfl rfl (by unfold maxLen; omega) rfl HS.out ?_; clear HF HS a; intro b1 a w4 HF HS; replace HS := Bx.mk HS
 refine wl_appL rfl HF rfl rfl rfl (HF.ev rfl) (HF.ev rfl) elemS encS_len HS.out 1 (xs := xs) rfl (ys := [numB (sumOf ((fieldsPut xs).1))]) (St.rdN HS.out encS_len 0 rfl) (cells_one_S _) (by unfold maxLen; (try simp only [List.length_append, List.length_cons, List.length_nil, List.nil_append, List.length_map]); omega) (by (try simp only [List.length_append, List.length_cons, List.length_nil, List.nil_append, List.length_map]); omega) ?_; clear HF HS a; intro ao2 cp3 w5 a HF HS; replace HS := Bx.mk HS
 replace HS : Bx (St w0 (rowA encS 1 9 (.slice (some ⟨b1, 0, none⟩) 1 1) ([numB (sumOf ((fieldsPut xs).1))]) :: rowA encS 1 9 (.slice ao2 (xs.length + ([numB (sumOf ((fieldsPut xs).1))]).length) cp3) (xs ++ ([numB (sumOf ((fieldsPut xs).1))])) :: F) _) := ⟨HS.out⟩
 refine wl_callB rfl HF rfl (enter_of Tryz.func124 (by kernel_rfl) rfl) (args := #[.slice ao2 (xs.length + ([numB (sumOf ((fieldsPut xs).1))]).length) cp3]) rfl (v := .tuple #[.string ((fieldsPut (xs ++ ([numB (sumOf ((fieldsPut xs).1))]))).1), .bool ((fieldsPut (xs ++ ([numB (sumOf ((fieldsPut xs).1))]))).2)]) (fieldsPutI_any _ _ _ (xs ++ ([numB (sumOf ((fieldsPut xs).1))])) _ (HT.out.below HS.out.bel) (by (try simp only [List.length_append, List.length_cons, List.length_nil, List.nil_append, List.length_map]); omega) (szs_app hx (szs_cons (Nat.le_trans (numB_le _) (by decide)) szs_nil)) (St.rdN HS.out encS_len 1 rfl)) rfl rfl HS.out ?_; clear HF HS a; intro w6 a HS HF; replace HS := Bx.mk HS
 refine wl_mv HF rfl rfl rfl rfl rfl ?_; clear HF a; intro a HF
 refine wl_y rfl HF rfl rfl (yl_extract rfl (HF.ev rfl) rfl) ?_; clear HF a; intro a HF
 refine wl_y rfl HF rfl rfl (yl_extract rfl (HF.ev rfl) rfl) ?_; clear HF a; intro a HF
 refine wl_as HF rfl rfl rfl rfl rfl ?_; clear HF a; intro a HF
 refine wl_as HF rfl rfl rfl rfl rfl ?_; clear HF a; intro a HF
 refine wl_ne ?_
 refine wp_sr ?_
 refine wl_mv HF rfl rfl rfl rfl rfl ?_; clear HF a; intro a HF
 refine wl_as HF rfl rfl rfl rfl rfl ?_; clear HF a; intro a HF
 refine wl_ne ?_
 refine wp_ret ?_
 refine bp_ret1 HF Tryz.results79 (HF.res rfl) ?_
 exact ⟨by unfold signB; rw [← numB_sum]; rfl, ((HS.out.erase 1).erase 0)⟩

def RootD.ok (x : RootD) : Bool := (bif inB x.fTxg 1 900 then (bif x.fMeta.fRoot.ok then (bif inB x.fMeta.fDepth 0 2 then inB x.fMeta.fMany 1 16 else false) else false) else false)

theorem implRootOk_any (x : RootD) (w0 : World) : Calls Tryz.prog 36 #[.agg #[.int .i64 x.fTxg, .int .i64 x.fMeta.fRoot.fAt, .int .i64 x.fMeta.fRoot.fBirth, .int .i64 x.fMeta.fRoot.fSize, .int .i64 x.fMeta.fRoot.fSum, .int .i64 x.fMeta.fRoot.fLevel, .int .i64 x.fMeta.fDepth, .int .i64 x.fMeta.fMany]] w0 fun e w' => e = .returned (.bool x.ok) ∧ Below w0.heap.size w0 w' := by
 have HS := Bx.mk (St.start w0)
 refine wc_enter Tryz.func36 rfl Tryz.ntmps36 [(0, .agg #[.int .i64 x.fTxg, .int .i64 x.fMeta.fRoot.fAt, .int .i64 x.fMeta.fRoot.fBirth, .int .i64 x.fMeta.fRoot.fSize, .int .i64 x.fMeta.fRoot.fSum, .int .i64 x.fMeta.fRoot.fLevel, .int .i64 x.fMeta.fDepth, .int .i64 x.fMeta.fMany])] ⟨rfl, trivial⟩ rfl ?_; intro a HF
 refine wp_sr ?_
 refine wl_box rfl HF rfl (HF.ev rfl) (Z := [.int .i64 x.fTxg, .int .i64 x.fMeta.fRoot.fAt, .int .i64 x.fMeta.fRoot.fBirth, .int .i64 x.fMeta.fRoot.fSize, .int .i64 x.fMeta.fRoot.fSum, .int .i64 x.fMeta.fRoot.fLevel, .int .i64 x.fMeta.fDepth, .int .i64 x.fMeta.fMany]) rfl rfl rfl rfl HS.out ?_; clear HF HS a; intro a w1 b1 HF HS; replace HS := Bx.mk HS
 refine wl_as HF rfl rfl rfl rfl rfl ?_; clear HF a; intro a HF
 refine wl_ne ?_
 refine wp_sr ?_
 refine wl_y rfl HF rfl rfl (yl_fieldAddr (j := 0) rfl (HF.ev rfl) (by kernel_rfl)) ?_; clear HF a; intro a HF
 refine wl_y rfl HF rfl rfl (yl_load (v := .int .i64 x.fTxg) rfl (HF.ev rfl) (((HS.out.box 0 rfl).cell 0).trans rfl) (by kernel_rfl)) ?_; clear HF a; intro a HF
 refine wl_callB rfl HF rfl (enter_of Tryz.func52 (by kernel_rfl) rfl) (args := #[.int .i64 x.fTxg, .int .i64 1, .int .i64 900]) rfl (v := .bool (inB x.fTxg 1 900)) (((within_any x.fTxg 1 900 _).mono fun _ _ h => ⟨h.1, h.2 ▸ Below.refl _ _⟩)) rfl rfl HS.out ?_; clear HF HS a; intro w2 a HS HF; replace HS := Bx.mk HS
 refine wl_mv HF rfl rfl rfl rfl rfl ?_; clear HF a; intro a HF
 refine HF.cases 6 rfl (fun cc1 HF1 => ?_) (fun cc1 HF1 => ?_)
 ·clear HF; have HF := HF1; clear HF1
  refine wl_yg HF rfl rfl rfl rfl rfl (yl_fieldAddr (j := 1) rfl (HF.ev rfl) (by kernel_rfl)) ?_; clear HF a; intro a HF
  refine wl_yg HF rfl rfl rfl rfl rfl (yl_fieldAddr (j := 0) rfl (HF.ev rfl) (by kernel_rfl)) ?_; clear HF a; intro a HF
  refine wl_yg HF rfl rfl rfl rfl rfl (yl_loadR (cs := [.int .i64 x.fMeta.fRoot.fAt, .int .i64 x.fMeta.fRoot.fBirth, .int .i64 x.fMeta.fRoot.fSize, .int .i64 x.fMeta.fRoot.fSum, .int .i64 x.fMeta.fRoot.fLevel]) rfl (HF.ev rfl) ((HS.out.box 0 rfl).sub 1 5) (by kernel_rfl)) ?_; clear HF a; intro a HF
  refine wl_callBg HF rfl rfl rfl rfl (enter_of Tryz.func74 (by kernel_rfl) rfl) (args := #[.agg #[.int .i64 x.fMeta.fRoot.fAt, .int .i64 x.fMeta.fRoot.fBirth, .int .i64 x.fMeta.fRoot.fSize, .int .i64 x.fMeta.fRoot.fSum, .int .i64 x.fMeta.fRoot.fLevel]]) rfl (v := .bool x.fMeta.fRoot.ok) (implPtrOk_any x.fMeta.fRoot _) rfl rfl HS.out ?_; clear HF HS a; intro w3 a HS HF; replace HS := Bx.mk HS
  refine wl_y rfl HF rfl rfl (yl_pick_t rfl (HF.ev rfl) (HF.ev rfl)) ?_; clear HF a; intro a HF
  refine wl_mv HF rfl rfl rfl rfl rfl ?_; clear HF a; intro a HF
  refine HF.cases 12 rfl (fun cc2 HF1 => ?_) (fun cc2 HF1 => ?_)
  ·clear HF; have HF := HF1; clear HF1
   refine wl_yg HF rfl rfl rfl rfl rfl (yl_fieldAddr (j := 1) rfl (HF.ev rfl) (by kernel_rfl)) ?_; clear HF a; intro a HF
   refine wl_yg HF rfl rfl rfl rfl rfl (yl_fieldAddr (j := 5) rfl (HF.ev rfl) (by kernel_rfl)) ?_; clear HF a; intro a HF
   refine wl_yg HF rfl rfl rfl rfl rfl (yl_load (v := .int .i64 x.fMeta.fDepth) rfl (HF.ev rfl) (((HS.out.box 0 rfl).cell 6).trans rfl) (by kernel_rfl)) ?_; clear HF a; intro a HF
   refine wl_callBg HF rfl rfl rfl rfl (enter_of Tryz.func52 (by kernel_rfl) rfl) (args := #[.int .i64 x.fMeta.fDepth, .int .i64 0, .int .i64 2]) rfl (v := .bool (inB x.fMeta.fDepth 0 2)) (((within_any x.fMeta.fDepth 0 2 _).mono fun _ _ h => ⟨h.1, h.2 ▸ Below.refl _ _⟩)) rfl rfl HS.out ?_; clear HF HS a; intro w4 a HS HF; replace HS := Bx.mk HS
   refine wl_y rfl HF rfl rfl (yl_pick_t rfl (HF.ev rfl) (HF.ev rfl)) ?_; clear HF a; intro a HF
   refine wl_mv HF rfl rfl rfl rfl rfl ?_; clear HF a; intro a HF
   refine HF.cases 18 rfl (fun cc3 HF1 => ?_) (fun cc3 HF1 => ?_)
   ·clear HF; have HF := HF1; clear HF1
    refine wl_yg HF rfl rfl rfl rfl rfl (yl_fieldAddr (j := 1) rfl (HF.ev rfl) (by kernel_rfl)) ?_; clear HF a; intro a HF
    refine wl_yg HF rfl rfl rfl rfl rfl (yl_fieldAddr (j := 6) rfl (HF.ev rfl) (by kernel_rfl)) ?_; clear HF a; intro a HF
    refine wl_yg HF rfl rfl rfl rfl rfl (yl_load (v := .int .i64 x.fMeta.fMany) rfl (HF.ev rfl) (((HS.out.box 0 rfl).cell 7).trans rfl) (by kernel_rfl)) ?_; clear HF a; intro a HF
    refine wl_callBg HF rfl rfl rfl rfl (enter_of Tryz.func52 (by kernel_rfl) rfl) (args := #[.int .i64 x.fMeta.fMany, .int .i64 1, .int .i64 16]) rfl (v := .bool (inB x.fMeta.fMany 1 16)) (((within_any x.fMeta.fMany 1 16 _).mono fun _ _ h => ⟨h.1, h.2 ▸ Below.refl _ _⟩)) rfl rfl HS.out ?_; clear HF HS a; intro w5 a HS HF; replace HS := Bx.mk HS
    refine wl_y rfl HF rfl rfl (yl_pick_t rfl (HF.ev rfl) (HF.ev rfl)) ?_; clear HF a; intro a HF
    refine wl_as HF rfl rfl rfl rfl rfl ?_; clear HF a; intro a HF
    refine wl_ne ?_
    refine wp_ret ?_
    refine bp_ret1 HF Tryz.results36 (HF.res rfl) ?_
    have hfn : RootD.ok x = inB x.fMeta.fMany 1 16 := by simp only [RootD.ok, cc1, cc1, cc2, cc2, cc3, cc3, cond_true, cond_false]
    exact ⟨by rw [hfn] <;> rfl, HS.out.bel⟩
   ·clear HF; have HF := HF1; clear HF1
    refine wl_skip HF rfl rfl rfl rfl rfl rfl ?_; clear HF a; intro a HF
    refine wl_skip HF rfl rfl rfl rfl rfl rfl ?_; clear HF a; intro a HF
    refine wl_skip HF rfl rfl rfl rfl rfl rfl ?_; clear HF a; intro a HF
    refine wl_skip HF rfl rfl rfl rfl rfl rfl ?_; clear HF a; intro a HF
    refine wl_y rfl HF rfl rfl (yl_pick_f rfl (HF.ev rfl) (HF.ev rfl)) ?_; clear HF a; intro a HF
    refine wl_as HF rfl rfl rfl rfl rfl ?_; clear HF a; intro a HF
    refine wl_ne ?_
    refine wp_ret ?_
    refine bp_ret1 HF Tryz.results36 (HF.res rfl) ?_
    have hfn : RootD.ok x = false := by simp only [RootD.ok, cc1, cc1, cc2, cc2, cc3, cc3, cond_true, cond_false]
    exact ⟨by rw [hfn] <;> rfl, HS.out.bel⟩
  ·clear HF; have HF := HF1; clear HF1
   refine wl_skip HF rfl rfl rfl rfl rfl rfl ?_; clear HF a; intro a HF
   refine wl_skip HF rfl rfl rfl rfl rfl rfl ?_; clear HF a; intro a HF
   refine wl_skip HF rfl rfl rfl rfl rfl rfl ?_; clear HF a; intro a HF
   refine wl_skip HF rfl rfl rfl rfl rfl rfl ?_; clear HF a; intro a HF
   refine wl_y rfl HF rfl rfl (yl_pick_f rfl (HF.ev rfl) (HF.ev rfl)) ?_; clear HF a; intro a HF
   refine wl_mv HF rfl rfl rfl rfl rfl ?_; clear HF a; intro a HF
   refine wl_skip HF rfl rfl rfl rfl rfl rfl ?_; clear HF a; intro a HF
   refine wl_skip HF rfl rfl rfl rfl rfl rfl ?_; clear HF a; intro a HF
   refine wl_skip HF rfl rfl rfl rfl rfl rfl ?_; clear HF a; intro a HF
   refine wl_skip HF rfl rfl rfl rfl rfl rfl ?_; clear HF a; intro a HF
   refine wl_y rfl HF rfl rfl (yl_pick_f rfl (HF.ev rfl) (HF.ev rfl)) ?_; clear HF a; intro a HF
   refine wl_as HF rfl rfl rfl rfl rfl ?_; clear HF a; intro a HF
   refine wl_ne ?_
   refine wp_ret ?_
   refine bp_ret1 HF Tryz.results36 (HF.res rfl) ?_
   have hfn : RootD.ok x = false := by simp only [RootD.ok, cc1, cc1, cc2, cc2, cond_true, cond_false]
   exact ⟨by rw [hfn] <;> rfl, HS.out.bel⟩
 ·clear HF; have HF := HF1; clear HF1
  refine wl_skip HF rfl rfl rfl rfl rfl rfl ?_; clear HF a; intro a HF
  refine wl_skip HF rfl rfl rfl rfl rfl rfl ?_; clear HF a; intro a HF
  refine wl_skip HF rfl rfl rfl rfl rfl rfl ?_; clear HF a; intro a HF
  refine wl_skip HF rfl rfl rfl rfl rfl rfl ?_; clear HF a; intro a HF
  refine wl_y rfl HF rfl rfl (yl_pick_f rfl (HF.ev rfl) (HF.ev rfl)) ?_; clear HF a; intro a HF
  refine wl_mv HF rfl rfl rfl rfl rfl ?_; clear HF a; intro a HF
  refine wl_skip HF rfl rfl rfl rfl rfl rfl ?_; clear HF a; intro a HF
  refine wl_skip HF rfl rfl rfl rfl rfl rfl ?_; clear HF a; intro a HF
  refine wl_skip HF rfl rfl rfl rfl rfl rfl ?_; clear HF a; intro a HF
  refine wl_skip HF rfl rfl rfl rfl rfl rfl ?_; clear HF a; intro a HF
  refine wl_y rfl HF rfl rfl (yl_pick_f rfl (HF.ev rfl) (HF.ev rfl)) ?_; clear HF a; intro a HF
  refine wl_mv HF rfl rfl rfl rfl rfl ?_; clear HF a; intro a HF
  refine wl_skip HF rfl rfl rfl rfl rfl rfl ?_; clear HF a; intro a HF
  refine wl_skip HF rfl rfl rfl rfl rfl rfl ?_; clear HF a; intro a HF
  refine wl_skip HF rfl rfl rfl rfl rfl rfl ?_; clear HF a; intro a HF
  refine wl_skip HF rfl rfl rfl rfl rfl rfl ?_; clear HF a; intro a HF
  refine wl_y rfl HF rfl rfl (yl_pick_f rfl (HF.ev rfl) (HF.ev rfl)) ?_; clear HF a; intro a HF
  refine wl_as HF rfl rfl rfl rfl rfl ?_; clear HF a; intro a HF
  refine wl_ne ?_
  refine wp_ret ?_
  refine bp_ret1 HF Tryz.results36 (HF.res rfl) ?_
  have hfn : RootD.ok x = false := by simp only [RootD.ok, cc1, cc1, cond_true, cond_false]
  exact ⟨by rw [hfn] <;> rfl, HS.out.bel⟩

theorem specRootOk_any (x : RootD) (w0 : World) : Calls Tryz.prog 29 #[.agg #[.int .i64 x.fTxg, .int .i64 x.fMeta.fRoot.fAt, .int .i64 x.fMeta.fRoot.fBirth, .int .i64 x.fMeta.fRoot.fSize, .int .i64 x.fMeta.fRoot.fSum, .int .i64 x.fMeta.fRoot.fLevel, .int .i64 x.fMeta.fDepth, .int .i64 x.fMeta.fMany]] w0 fun e w' => e = .returned (.bool x.ok) ∧ Below w0.heap.size w0 w' := by
 have HS := Bx.mk (St.start w0)
 refine wc_enter Tryz.func29 rfl Tryz.ntmps29 [(0, .agg #[.int .i64 x.fTxg, .int .i64 x.fMeta.fRoot.fAt, .int .i64 x.fMeta.fRoot.fBirth, .int .i64 x.fMeta.fRoot.fSize, .int .i64 x.fMeta.fRoot.fSum, .int .i64 x.fMeta.fRoot.fLevel, .int .i64 x.fMeta.fDepth, .int .i64 x.fMeta.fMany])] ⟨rfl, trivial⟩ rfl ?_; intro a HF
 refine wp_sr ?_
 refine wl_box rfl HF rfl (HF.ev rfl) (Z := [.int .i64 x.fTxg, .int .i64 x.fMeta.fRoot.fAt, .int .i64 x.fMeta.fRoot.fBirth, .int .i64 x.fMeta.fRoot.fSize, .int .i64 x.fMeta.fRoot.fSum, .int .i64 x.fMeta.fRoot.fLevel, .int .i64 x.fMeta.fDepth, .int .i64 x.fMeta.fMany]) rfl rfl rfl rfl HS.out ?_; clear HF HS a; intro a w1 b1 HF HS; replace HS := Bx.mk HS
 refine wl_as HF rfl rfl rfl rfl rfl ?_; clear HF a; intro a HF
 refine wl_ne ?_
 refine wp_sr ?_
 refine wl_y rfl HF rfl rfl (yl_fieldAddr (j := 0) rfl (HF.ev rfl) (by kernel_rfl)) ?_; clear HF a; intro a HF
 refine wl_y rfl HF rfl rfl (yl_load (v := .int .i64 x.fTxg) rfl (HF.ev rfl) (((HS.out.box 0 rfl).cell 0).trans rfl) (by kernel_rfl)) ?_; clear HF a; intro a HF
 refine wl_callB rfl HF rfl (enter_of Tryz.func61 (by kernel_rfl) rfl) (args := #[.int .i64 x.fTxg, .int .i64 1, .int .i64 900]) rfl (v := .bool (inB x.fTxg 1 900)) (((l6In_any x.fTxg 1 900 _).mono fun _ _ h => ⟨h.1, h.2 ▸ Below.refl _ _⟩)) rfl rfl HS.out ?_; clear HF HS a; intro w2 a HS HF; replace HS := Bx.mk HS
 refine wl_mv HF rfl rfl rfl rfl rfl ?_; clear HF a; intro a HF
 refine HF.cases 6 rfl (fun cc1 HF1 => ?_) (fun cc1 HF1 => ?_)
 ·clear HF; have HF := HF1; clear HF1
  refine wl_yg HF rfl rfl rfl rfl rfl (yl_fieldAddr (j := 1) rfl (HF.ev rfl) (by kernel_rfl)) ?_; clear HF a; intro a HF
  refine wl_yg HF rfl rfl rfl rfl rfl (yl_fieldAddr (j := 0) rfl (HF.ev rfl) (by kernel_rfl)) ?_; clear HF a; intro a HF
  refine wl_yg HF rfl rfl rfl rfl rfl (yl_loadR (cs := [.int .i64 x.fMeta.fRoot.fAt, .int .i64 x.fMeta.fRoot.fBirth, .int .i64 x.fMeta.fRoot.fSize, .int .i64 x.fMeta.fRoot.fSum, .int .i64 x.fMeta.fRoot.fLevel]) rfl (HF.ev rfl) ((HS.out.box 0 rfl).sub 1 5) (by kernel_rfl)) ?_; clear HF a; intro a HF
  refine wl_callBg HF rfl rfl rfl rfl (enter_of Tryz.func62 (by kernel_rfl) rfl) (args := #[.agg #[.int .i64 x.fMeta.fRoot.fAt, .int .i64 x.fMeta.fRoot.fBirth, .int .i64 x.fMeta.fRoot.fSize, .int .i64 x.fMeta.fRoot.fSum, .int .i64 x.fMeta.fRoot.fLevel]]) rfl (v := .bool x.fMeta.fRoot.ok) (specPtrOk_any x.fMeta.fRoot _) rfl rfl HS.out ?_; clear HF HS a; intro w3 a HS HF; replace HS := Bx.mk HS
  refine wl_y rfl HF rfl rfl (yl_pick_t rfl (HF.ev rfl) (HF.ev rfl)) ?_; clear HF a; intro a HF
  refine wl_mv HF rfl rfl rfl rfl rfl ?_; clear HF a; intro a HF
  refine HF.cases 12 rfl (fun cc2 HF1 => ?_) (fun cc2 HF1 => ?_)
  ·clear HF; have HF := HF1; clear HF1
   refine wl_yg HF rfl rfl rfl rfl rfl (yl_fieldAddr (j := 1) rfl (HF.ev rfl) (by kernel_rfl)) ?_; clear HF a; intro a HF
   refine wl_yg HF rfl rfl rfl rfl rfl (yl_fieldAddr (j := 5) rfl (HF.ev rfl) (by kernel_rfl)) ?_; clear HF a; intro a HF
   refine wl_yg HF rfl rfl rfl rfl rfl (yl_load (v := .int .i64 x.fMeta.fDepth) rfl (HF.ev rfl) (((HS.out.box 0 rfl).cell 6).trans rfl) (by kernel_rfl)) ?_; clear HF a; intro a HF
   refine wl_callBg HF rfl rfl rfl rfl (enter_of Tryz.func61 (by kernel_rfl) rfl) (args := #[.int .i64 x.fMeta.fDepth, .int .i64 0, .int .i64 2]) rfl (v := .bool (inB x.fMeta.fDepth 0 2)) (((l6In_any x.fMeta.fDepth 0 2 _).mono fun _ _ h => ⟨h.1, h.2 ▸ Below.refl _ _⟩)) rfl rfl HS.out ?_; clear HF HS a; intro w4 a HS HF; replace HS := Bx.mk HS
   refine wl_y rfl HF rfl rfl (yl_pick_t rfl (HF.ev rfl) (HF.ev rfl)) ?_; clear HF a; intro a HF
   refine wl_mv HF rfl rfl rfl rfl rfl ?_; clear HF a; intro a HF
   refine HF.cases 18 rfl (fun cc3 HF1 => ?_) (fun cc3 HF1 => ?_)
   ·clear HF; have HF := HF1; clear HF1
    refine wl_yg HF rfl rfl rfl rfl rfl (yl_fieldAddr (j := 1) rfl (HF.ev rfl) (by kernel_rfl)) ?_; clear HF a; intro a HF
    refine wl_yg HF rfl rfl rfl rfl rfl (yl_fieldAddr (j := 6) rfl (HF.ev rfl) (by kernel_rfl)) ?_; clear HF a; intro a HF
    refine wl_yg HF rfl rfl rfl rfl rfl (yl_load (v := .int .i64 x.fMeta.fMany) rfl (HF.ev rfl) (((HS.out.box 0 rfl).cell 7).trans rfl) (by kernel_rfl)) ?_; clear HF a; intro a HF
    refine wl_callBg HF rfl rfl rfl rfl (enter_of Tryz.func61 (by kernel_rfl) rfl) (args := #[.int .i64 x.fMeta.fMany, .int .i64 1, .int .i64 16]) rfl (v := .bool (inB x.fMeta.fMany 1 16)) (((l6In_any x.fMeta.fMany 1 16 _).mono fun _ _ h => ⟨h.1, h.2 ▸ Below.refl _ _⟩)) rfl rfl HS.out ?_; clear HF HS a; intro w5 a HS HF; replace HS := Bx.mk HS
    refine wl_y rfl HF rfl rfl (yl_pick_t rfl (HF.ev rfl) (HF.ev rfl)) ?_; clear HF a; intro a HF
    refine wl_as HF rfl rfl rfl rfl rfl ?_; clear HF a; intro a HF
    refine wl_ne ?_
    refine wp_ret ?_
    refine bp_ret1 HF Tryz.results29 (HF.res rfl) ?_
    have hfn : RootD.ok x = inB x.fMeta.fMany 1 16 := by simp only [RootD.ok, cc1, cc1, cc2, cc2, cc3, cc3, cond_true, cond_false]
    exact ⟨by rw [hfn] <;> rfl, HS.out.bel⟩
   ·clear HF; have HF := HF1; clear HF1
    refine wl_skip HF rfl rfl rfl rfl rfl rfl ?_; clear HF a; intro a HF
    refine wl_skip HF rfl rfl rfl rfl rfl rfl ?_; clear HF a; intro a HF
    refine wl_skip HF rfl rfl rfl rfl rfl rfl ?_; clear HF a; intro a HF
    refine wl_skip HF rfl rfl rfl rfl rfl rfl ?_; clear HF a; intro a HF
    refine wl_y rfl HF rfl rfl (yl_pick_f rfl (HF.ev rfl) (HF.ev rfl)) ?_; clear HF a; intro a HF
    refine wl_as HF rfl rfl rfl rfl rfl ?_; clear HF a; intro a HF
    refine wl_ne ?_
    refine wp_ret ?_
    refine bp_ret1 HF Tryz.results29 (HF.res rfl) ?_
    have hfn : RootD.ok x = false := by simp only [RootD.ok, cc1, cc1, cc2, cc2, cc3, cc3, cond_true, cond_false]
    exact ⟨by rw [hfn] <;> rfl, HS.out.bel⟩
  ·clear HF; have HF := HF1; clear HF1
   refine wl_skip HF rfl rfl rfl rfl rfl rfl ?_; clear HF a; intro a HF
   refine wl_skip HF rfl rfl rfl rfl rfl rfl ?_; clear HF a; intro a HF
   refine wl_skip HF rfl rfl rfl rfl rfl rfl ?_; clear HF a; intro a HF
   refine wl_skip HF rfl rfl rfl rfl rfl rfl ?_; clear HF a; intro a HF
   refine wl_y rfl HF rfl rfl (yl_pick_f rfl (HF.ev rfl) (HF.ev rfl)) ?_; clear HF a; intro a HF
   refine wl_mv HF rfl rfl rfl rfl rfl ?_; clear HF a; intro a HF
   refine wl_skip HF rfl rfl rfl rfl rfl rfl ?_; clear HF a; intro a HF
   refine wl_skip HF rfl rfl rfl rfl rfl rfl ?_; clear HF a; intro a HF
   refine wl_skip HF rfl rfl rfl rfl rfl rfl ?_; clear HF a; intro a HF
   refine wl_skip HF rfl rfl rfl rfl rfl rfl ?_; clear HF a; intro a HF
   refine wl_y rfl HF rfl rfl (yl_pick_f rfl (HF.ev rfl) (HF.ev rfl)) ?_; clear HF a; intro a HF
   refine wl_as HF rfl rfl rfl rfl rfl ?_; clear HF a; intro a HF
   refine wl_ne ?_
   refine wp_ret ?_
   refine bp_ret1 HF Tryz.results29 (HF.res rfl) ?_
   have hfn : RootD.ok x = false := by simp only [RootD.ok, cc1, cc1, cc2, cc2, cond_true, cond_false]
   exact ⟨by rw [hfn] <;> rfl, HS.out.bel⟩
 ·clear HF; have HF := HF1; clear HF1
  refine wl_skip HF rfl rfl rfl rfl rfl rfl ?_; clear HF a; intro a HF
  refine wl_skip HF rfl rfl rfl rfl rfl rfl ?_; clear HF a; intro a HF
  refine wl_skip HF rfl rfl rfl rfl rfl rfl ?_; clear HF a; intro a HF
  refine wl_skip HF rfl rfl rfl rfl rfl rfl ?_; clear HF a; intro a HF
  refine wl_y rfl HF rfl rfl (yl_pick_f rfl (HF.ev rfl) (HF.ev rfl)) ?_; clear HF a; intro a HF
  refine wl_mv HF rfl rfl rfl rfl rfl ?_; clear HF a; intro a HF
  refine wl_skip HF rfl rfl rfl rfl rfl rfl ?_; clear HF a; intro a HF
  refine wl_skip HF rfl rfl rfl rfl rfl rfl ?_; clear HF a; intro a HF
  refine wl_skip HF rfl rfl rfl rfl rfl rfl ?_; clear HF a; intro a HF
  refine wl_skip HF rfl rfl rfl rfl rfl rfl ?_; clear HF a; intro a HF
  refine wl_y rfl HF rfl rfl (yl_pick_f rfl (HF.ev rfl) (HF.ev rfl)) ?_; clear HF a; intro a HF
  refine wl_mv HF rfl rfl rfl rfl rfl ?_; clear HF a; intro a HF
  refine wl_skip HF rfl rfl rfl rfl rfl rfl ?_; clear HF a; intro a HF
  refine wl_skip HF rfl rfl rfl rfl rfl rfl ?_; clear HF a; intro a HF
  refine wl_skip HF rfl rfl rfl rfl rfl rfl ?_; clear HF a; intro a HF
  refine wl_skip HF rfl rfl rfl rfl rfl rfl ?_; clear HF a; intro a HF
  refine wl_y rfl HF rfl rfl (yl_pick_f rfl (HF.ev rfl) (HF.ev rfl)) ?_; clear HF a; intro a HF
  refine wl_as HF rfl rfl rfl rfl rfl ?_; clear HF a; intro a HF
  refine wl_ne ?_
  refine wp_ret ?_
  refine bp_ret1 HF Tryz.results29 (HF.res rfl) ?_
  have hfn : RootD.ok x = false := by simp only [RootD.ok, cc1, cc1, cond_true, cond_false]
  exact ⟨by rw [hfn] <;> rfl, HS.out.bel⟩

/-- The text of a root. -/
def rootB (x : RootD) : ByteArray := bif x.ok then signB ([(⟨#[114, 111, 111, 116]⟩ : ByteArray), numB x.fTxg] ++ treeB x.fMeta) else ByteArray.empty
theorem rootB_no {x : RootD} (h : x.ok = false) : rootB x = ByteArray.empty := by unfold rootB; rw [h]; rfl
theorem rootB_yes {x : RootD} (h : x.ok = true) : rootB x = signB ([(⟨#[114, 111, 111, 116]⟩ : ByteArray), numB x.fTxg] ++ treeB x.fMeta) := by unfold rootB; rw [h]; rfl
theorem rootB_le (x : RootD) : (rootB x).size ≤ 2048 := by
  cases h : x.ok with
  | false => rw [rootB_no h]; exact Nat.zero_le _
  | true => rw [rootB_yes h]; exact signB_le _
theorem RootD.ok_txg {x : RootD} (h : x.ok = true) : 1 ≤ x.fTxg ∧ x.fTxg ≤ 900 := by
  unfold RootD.ok at h
  cases h1 : inB x.fTxg 1 900 with
  | false => rw [h1] at h; cases h
  | true => exact inB_true h1

theorem implRootPut_any (x : RootD) (w0 : World) (hT : TabP w0) : Calls Tryz.prog 38 #[.agg #[.int .i64 x.fTxg, .int .i64 x.fMeta.fRoot.fAt, .int .i64 x.fMeta.fRoot.fBirth, .int .i64 x.fMeta.fRoot.fSize, .int .i64 x.fMeta.fRoot.fSum, .int .i64 x.fMeta.fRoot.fLevel, .int .i64 x.fMeta.fDepth, .int .i64 x.fMeta.fMany]] w0 fun e w' => e = .returned (.string (rootB x)) ∧ Below w0.heap.size w0 w' := by
 have HT := Bx.mk hT; clear hT
 have HS := Bx.mk (St.start w0)
 refine wc_enter Tryz.func38 rfl Tryz.ntmps38 [(0, .agg #[.int .i64 x.fTxg, .int .i64 x.fMeta.fRoot.fAt, .int .i64 x.fMeta.fRoot.fBirth, .int .i64 x.fMeta.fRoot.fSize, .int .i64 x.fMeta.fRoot.fSum, .int .i64 x.fMeta.fRoot.fLevel, .int .i64 x.fMeta.fDepth, .int .i64 x.fMeta.fMany])] ⟨rfl, trivial⟩ rfl ?_; intro a HF
 refine wp_sr ?_
 refine wl_box rfl HF rfl (HF.ev rfl) (Z := [.int .i64 x.fTxg, .int .i64 x.fMeta.fRoot.fAt, .int .i64 x.fMeta.fRoot.fBirth, .int .i64 x.fMeta.fRoot.fSize, .int .i64 x.fMeta.fRoot.fSum, .int .i64 x.fMeta.fRoot.fLevel, .int .i64 x.fMeta.fDepth, .int .i64 x.fMeta.fMany]) rfl rfl rfl rfl HS.out ?_; clear HF HS a; intro a w1 b1 HF HS; replace HS := Bx.mk HS
 refine wl_as HF rfl rfl rfl rfl rfl ?_; clear HF a; intro a HF
 refine wl_ne ?_
 refine wp_seq ?_
 refine wp_sr ?_
 refine wl_y rfl HF rfl rfl (yl_loadR (cs := [.int .i64 x.fTxg, .int .i64 x.fMeta.fRoot.fAt, .int .i64 x.fMeta.fRoot.fBirth, .int .i64 x.fMeta.fRoot.fSize, .int .i64 x.fMeta.fRoot.fSum, .int .i64 x.fMeta.fRoot.fLevel, .int .i64 x.fMeta.fDepth, .int .i64 x.fMeta.fMany]) rfl (HF.ev rfl) ((HS.out.box 0 rfl).sub 0 8) (by kernel_rfl)) ?_; clear HF a; intro a HF
 refine wl_callB rfl HF rfl (enter_of Tryz.func36 (by kernel_rfl) rfl) (args := #[.agg #[.int .i64 x.fTxg, .int .i64 x.fMeta.fRoot.fAt, .int .i64 x.fMeta.fRoot.fBirth, .int .i64 x.fMeta.fRoot.fSize, .int .i64 x.fMeta.fRoot.fSum, .int .i64 x.fMeta.fRoot.fLevel, .int .i64 x.fMeta.fDepth, .int .i64 x.fMeta.fMany]]) rfl (v := .bool x.ok) (implRootOk_any x _) rfl rfl HS.out ?_; clear HF HS a; intro w2 a HS HF; replace HS := Bx.mk HS
 refine wl_y rfl HF rfl rfl (yl_not rfl (HF.ev rfl)) ?_; clear HF a; intro a HF
 refine wl_ne ?_
 refine HF.cases 5 rfl (fun cc1 HF1 => ?_) (fun cc1 HF1 => ?_)
 ·clear HF; have HF := HF1; clear HF1
  refine wc_true HF rfl ?_
  refine wp_sr ?_
  refine wl_as HF rfl rfl rfl rfl rfl ?_; clear HF a; intro a HF
  refine wl_ne ?_
  refine wp_ret ?_
  refine ex_then_ret ?_
  refine bp_ret1 HF Tryz.results38 (HF.res rfl) ?_
  exact ⟨by rw [rootB_no (by simpa using cc1)]; rfl, HS.out.bel⟩
 ·clear HF; have HF := HF1; clear HF1
  refine wc_false HF rfl ?_
  refine wp_skip ?_
  refine ex_then ?_
  refine wp_seq ?_
  have hok : x.ok = true := by simpa using cc1
  have hxb := RootD.ok_txg hok
  have htl : (treeB x.fMeta).length = 3 := rfl
  refine wr_heldS (s := [boxA b1 8 42 (.agg #[.int .i64 x.fTxg, .int .i64 x.fMeta.fRoot.fAt, .int .i64 x.fMeta.fRoot.fBirth, .int .i64 x.fMeta.fRoot.fSize, .int .i64 x.fMeta.fRoot.fSum, .int .i64 x.fMeta.fRoot.fLevel, .int .i64 x.fMeta.fDepth, .int .i64 x.fMeta.fMany])]) (by kernel_rfl) (St.drew (HS.out)) ?_
  have HS2 := Bx.mk HS.out.drew; replace HS := Bx.mk (show St w0 ([boxA b1 8 42 (.agg #[.int .i64 x.fTxg, .int .i64 x.fMeta.fRoot.fAt, .int .i64 x.fMeta.fRoot.fBirth, .int .i64 x.fMeta.fRoot.fSize, .int .i64 x.fMeta.fRoot.fSum, .int .i64 x.fMeta.fRoot.fLevel, .int .i64 x.fMeta.fDepth, .int .i64 x.fMeta.fMany])]) _ from HS.out.drew)
  generalize World.drew _ = w3 at HS HS2 ⊢
  refine wh_y 0 rfl (by kernel_rfl) (by kernel_rfl) (by kernel_rfl) (fun _ _ _ h => h) rfl HF rfl rfl (fun _ HS => (yl_fieldAddr (j := 0) rfl (HF.ev rfl) (by kernel_rfl))) HS.out ?_; clear HF a; intro a HF
  refine wh_y 1 rfl (by kernel_rfl) (by kernel_rfl) (by kernel_rfl) (fun _ _ _ h => h) rfl HF rfl rfl (fun _ HS => (yl_load (v := .int .i64 x.fTxg) rfl (HF.ev rfl) (((HS.box 0 rfl).cell 0).trans rfl) (by kernel_rfl))) HS.out ?_; clear HF a; intro a HF
  refine wh_y 4 rfl (by kernel_rfl) (by kernel_rfl) (by kernel_rfl) (fun _ _ _ h => h) rfl HF rfl rfl (fun _ HS => (yl_fieldAddr (j := 1) rfl (HF.ev rfl) (by kernel_rfl))) HS.out ?_; clear HF a; intro a HF
  refine wh_y 5 rfl (by kernel_rfl) (by kernel_rfl) (by kernel_rfl) (fun _ _ _ h => h) rfl HF rfl rfl (fun _ HS => (yl_loadR (cs := [.int .i64 x.fMeta.fRoot.fAt, .int .i64 x.fMeta.fRoot.fBirth, .int .i64 x.fMeta.fRoot.fSize, .int .i64 x.fMeta.fRoot.fSum, .int .i64 x.fMeta.fRoot.fLevel, .int .i64 x.fMeta.fDepth, .int .i64 x.fMeta.fMany]) rfl (HF.ev rfl) ((HS.box 0 rfl).sub 1 7) (by kernel_rfl))) HS.out ?_; clear HF a; intro a HF
  refine wh_one 2 (by kernel_rfl) ?_
  refine wo_callB rfl rfl HF rfl (enter_of Tryz.func80 (by kernel_rfl) rfl) (args := #[.int .i64 x.fTxg]) rfl (v := .string (numB x.fTxg)) (numPutI_any x.fTxg _ (HT.out.below HS2.out.bel)) rfl rfl ?_
  intro w4 hb; replace HS := Bx.mk (HS.out.later hb); replace HS2 := Bx.mk (HS2.out.later hb); clear hb HF; clear a; intro a HF; refine ⟨HS.out, ?_⟩
  refine wh_two 3 6 (by kernel_rfl) ?_ ?_
  ·skip
   refine wo_buildS (enc := encS) (e := 9) (size := 1) rfl rfl HF rfl rfl rfl (ps := [(0, .string (⟨#[114, 111, 111, 116]⟩ : ByteArray)), (1, .string (numB x.fTxg))]) rfl (cells := [.string (⟨#[114, 111, 111, 116]⟩ : ByteArray), .string (numB x.fTxg)]) (by kernel_rfl) [(⟨#[114, 111, 111, 116]⟩ : ByteArray), numB x.fTxg] rfl rfl (by unfold maxLen; omega) rfl HS2.out HS.out ?_; clear HF HS HS2 a; intro b2 a w6 HF HS2 HS; replace HS := Bx.mk HS; replace HS2 := Bx.mk HS2; refine ⟨HS.out, ?_⟩
   refine wh_one 6 (by kernel_rfl) ?_
   refine wo_call rfl rfl HF rfl (enter_of Tryz.func81 (by kernel_rfl) rfl) (args := #[.agg #[.int .i64 x.fMeta.fRoot.fAt, .int .i64 x.fMeta.fRoot.fBirth, .int .i64 x.fMeta.fRoot.fSize, .int .i64 x.fMeta.fRoot.fSum, .int .i64 x.fMeta.fRoot.fLevel, .int .i64 x.fMeta.fDepth, .int .i64 x.fMeta.fMany]]) rfl (treeFields_any x.fMeta _ (HT.out.below HS2.out.bel)) rfl rfl ?_
   rintro _ w8 ⟨ao3, cp3, rfl, hs⟩
   refine ⟨_, rfl, ?_⟩
   replace HS := Bx.mk (HS.out.later hs.bel); replace HS2 := Bx.mk (HS2.out.add hs); clear hs HF; clear a; intro a HF
   replace HS2 : Bx (St w0 ([rowA encS 1 9 (.slice ao3 3 cp3) (treeB x.fMeta), rowA encS 1 9 (.slice (some ⟨b2, 0, none⟩) 2 2) ([(⟨#[114, 111, 111, 116]⟩ : ByteArray), numB x.fTxg]), boxA b1 8 42 (.agg #[.int .i64 x.fTxg, .int .i64 x.fMeta.fRoot.fAt, .int .i64 x.fMeta.fRoot.fBirth, .int .i64 x.fMeta.fRoot.fSize, .int .i64 x.fMeta.fRoot.fSum, .int .i64 x.fMeta.fRoot.fLevel, .int .i64 x.fMeta.fDepth, .int .i64 x.fMeta.fMany])]) _) := ⟨HS2.out⟩
   refine ⟨HS.out, ?_⟩
   refine wh_one 7 (by kernel_rfl) ?_
   refine wo_appL rfl rfl HF rfl rfl rfl (HF.ev rfl) (HF.ev rfl) elemS encS_len HS2.out 1 (xs := [(⟨#[114, 111, 111, 116]⟩ : ByteArray), numB x.fTxg]) rfl (ys := treeB x.fMeta) (St.rdN HS2.out encS_len 0 rfl) (cells_one_S _) (by unfold maxLen; (try simp only [List.length_append, List.length_cons, List.length_nil, List.nil_append, List.length_map, treeB_len]); omega) (by (try simp only [List.length_append, List.length_cons, List.length_nil, List.nil_append, List.length_map, treeB_len]); omega) ?_; clear HF HS HS2 a; intro ao4 cp5 w10 a HF HS2; replace HS2 := Bx.mk HS2
   replace HS2 : Bx (St w0 ([rowA encS 1 9 (.slice ao3 3 cp3) (treeB x.fMeta), rowA encS 1 9 (.slice ao4 (([(⟨#[114, 111, 111, 116]⟩ : ByteArray), numB x.fTxg]).length + (treeB x.fMeta).length) cp5) (([(⟨#[114, 111, 111, 116]⟩ : ByteArray), numB x.fTxg]) ++ (treeB x.fMeta)), boxA b1 8 42 (.agg #[.int .i64 x.fTxg, .int .i64 x.fMeta.fRoot.fAt, .int .i64 x.fMeta.fRoot.fBirth, .int .i64 x.fMeta.fRoot.fSize, .int .i64 x.fMeta.fRoot.fSum, .int .i64 x.fMeta.fRoot.fLevel, .int .i64 x.fMeta.fDepth, .int .i64 x.fMeta.fMany])]) _) := ⟨HS2.out⟩
   have HS : Bx (St w0 ([boxA b1 8 42 (.agg #[.int .i64 x.fTxg, .int .i64 x.fMeta.fRoot.fAt, .int .i64 x.fMeta.fRoot.fBirth, .int .i64 x.fMeta.fRoot.fSize, .int .i64 x.fMeta.fRoot.fSum, .int .i64 x.fMeta.fRoot.fLevel, .int .i64 x.fMeta.fDepth, .int .i64 x.fMeta.fMany])]) _) := ⟨((HS2.out.erase 1).erase 0)⟩; refine ⟨HS.out, ?_⟩
   refine wh_one 8 (by kernel_rfl) ?_
   replace HS2 : Bx (St w0 ([rowA encS 1 9 (.slice ao4 (([(⟨#[114, 111, 111, 116]⟩ : ByteArray), numB x.fTxg]).length + (treeB x.fMeta).length) cp5) (([(⟨#[114, 111, 111, 116]⟩ : ByteArray), numB x.fTxg]) ++ (treeB x.fMeta)), rowA encS 1 9 (.slice ao3 3 cp3) (treeB x.fMeta), boxA b1 8 42 (.agg #[.int .i64 x.fTxg, .int .i64 x.fMeta.fRoot.fAt, .int .i64 x.fMeta.fRoot.fBirth, .int .i64 x.fMeta.fRoot.fSize, .int .i64 x.fMeta.fRoot.fSum, .int .i64 x.fMeta.fRoot.fLevel, .int .i64 x.fMeta.fDepth, .int .i64 x.fMeta.fMany])]) _) := ⟨(HS2.out).pick 1 rfl⟩
   refine wo_call rfl rfl HF rfl (enter_of Tryz.func79 (by kernel_rfl) rfl) (args := #[.slice ao4 (([(⟨#[114, 111, 111, 116]⟩ : ByteArray), numB x.fTxg]).length + (treeB x.fMeta).length) cp5]) rfl (signed_any w0 _ _ _ _ (([(⟨#[114, 111, 111, 116]⟩ : ByteArray), numB x.fTxg]) ++ (treeB x.fMeta)) _ HT.out (by simp only [List.length_append, List.length_cons, List.length_nil, treeB_len]; omega) (szs_app (szs_cons (by decide) (szs_cons (Nat.le_trans (numB_le _) (by decide)) szs_nil)) (szs_tree _)) HS2.out) rfl rfl ?_
   rintro _ w12 ⟨rfl, hs1⟩
   refine ⟨_, rfl, ?_⟩; replace HS2 := Bx.mk hs1; clear hs1 HF; clear a; intro a HF
   replace HS2 : Bx (St w0 ([rowA encS 1 9 (.slice ao3 3 cp3) (treeB x.fMeta), boxA b1 8 42 (.agg #[.int .i64 x.fTxg, .int .i64 x.fMeta.fRoot.fAt, .int .i64 x.fMeta.fRoot.fBirth, .int .i64 x.fMeta.fRoot.fSize, .int .i64 x.fMeta.fRoot.fSum, .int .i64 x.fMeta.fRoot.fLevel, .int .i64 x.fMeta.fDepth, .int .i64 x.fMeta.fMany])]) _) := ⟨HS2.out⟩
   clear HS; have HS : Bx (St w0 ([boxA b1 8 42 (.agg #[.int .i64 x.fTxg, .int .i64 x.fMeta.fRoot.fAt, .int .i64 x.fMeta.fRoot.fBirth, .int .i64 x.fMeta.fRoot.fSize, .int .i64 x.fMeta.fRoot.fSum, .int .i64 x.fMeta.fRoot.fLevel, .int .i64 x.fMeta.fDepth, .int .i64 x.fMeta.fMany])]) _) := ⟨(HS2.out.erase 0)⟩; refine ⟨HS.out, ?_⟩
   refine wh_y 9 rfl (by kernel_rfl) (by kernel_rfl) (by kernel_rfl) (fun _ _ _ h => h) rfl HF rfl rfl (fun _ HS => (yl_assign rfl (HF.ev rfl))) HS.out ?_; clear HF a; intro a HF
   refine wh_done (by kernel_rfl) ?_
   replace HS := HS2; clear HS2
   refine ex_then ?_
   refine wp_ret ?_
   refine bp_ret1 HF Tryz.results38 (HF.res rfl) ?_
   exact ⟨by rw [rootB_yes hok], HS.out.bel⟩
  ·skip
   refine wo_call rfl rfl HF rfl (enter_of Tryz.func81 (by kernel_rfl) rfl) (args := #[.agg #[.int .i64 x.fMeta.fRoot.fAt, .int .i64 x.fMeta.fRoot.fBirth, .int .i64 x.fMeta.fRoot.fSize, .int .i64 x.fMeta.fRoot.fSum, .int .i64 x.fMeta.fRoot.fLevel, .int .i64 x.fMeta.fDepth, .int .i64 x.fMeta.fMany]]) rfl (treeFields_any x.fMeta _ (HT.out.below HS2.out.bel)) rfl rfl ?_
   rintro _ w14 ⟨ao6, cp6, rfl, hs⟩
   refine ⟨_, rfl, ?_⟩
   replace HS := Bx.mk (HS.out.later hs.bel); replace HS2 := Bx.mk (HS2.out.add hs); clear hs HF; clear a; intro a HF
   replace HS2 : Bx (St w0 ([rowA encS 1 9 (.slice ao6 3 cp6) (treeB x.fMeta), boxA b1 8 42 (.agg #[.int .i64 x.fTxg, .int .i64 x.fMeta.fRoot.fAt, .int .i64 x.fMeta.fRoot.fBirth, .int .i64 x.fMeta.fRoot.fSize, .int .i64 x.fMeta.fRoot.fSum, .int .i64 x.fMeta.fRoot.fLevel, .int .i64 x.fMeta.fDepth, .int .i64 x.fMeta.fMany])]) _) := ⟨HS2.out⟩
   refine ⟨HS.out, ?_⟩
   refine wh_one 3 (by kernel_rfl) ?_
   refine wo_buildS (enc := encS) (e := 9) (size := 1) rfl rfl HF rfl rfl rfl (ps := [(0, .string (⟨#[114, 111, 111, 116]⟩ : ByteArray)), (1, .string (numB x.fTxg))]) rfl (cells := [.string (⟨#[114, 111, 111, 116]⟩ : ByteArray), .string (numB x.fTxg)]) (by kernel_rfl) [(⟨#[114, 111, 111, 116]⟩ : ByteArray), numB x.fTxg] rfl rfl (by unfold maxLen; omega) rfl HS2.out HS.out ?_; clear HF HS HS2 a; intro b7 a w16 HF HS2 HS; replace HS := Bx.mk HS; replace HS2 := Bx.mk HS2; refine ⟨HS.out, ?_⟩
   refine wh_one 7 (by kernel_rfl) ?_
   refine wo_appL rfl rfl HF rfl rfl rfl (HF.ev rfl) (HF.ev rfl) elemS encS_len HS2.out 0 (xs := [(⟨#[114, 111, 111, 116]⟩ : ByteArray), numB x.fTxg]) rfl (ys := treeB x.fMeta) (St.rdN HS2.out encS_len 1 rfl) (cells_one_S _) (by unfold maxLen; (try simp only [List.length_append, List.length_cons, List.length_nil, List.nil_append, List.length_map, treeB_len]); omega) (by (try simp only [List.length_append, List.length_cons, List.length_nil, List.nil_append, List.length_map, treeB_len]); omega) ?_; clear HF HS HS2 a; intro ao8 cp9 w18 a HF HS2; replace HS2 := Bx.mk HS2
   replace HS2 : Bx (St w0 ([rowA encS 1 9 (.slice ao8 (([(⟨#[114, 111, 111, 116]⟩ : ByteArray), numB x.fTxg]).length + (treeB x.fMeta).length) cp9) (([(⟨#[114, 111, 111, 116]⟩ : ByteArray), numB x.fTxg]) ++ (treeB x.fMeta)), rowA encS 1 9 (.slice ao6 3 cp6) (treeB x.fMeta), boxA b1 8 42 (.agg #[.int .i64 x.fTxg, .int .i64 x.fMeta.fRoot.fAt, .int .i64 x.fMeta.fRoot.fBirth, .int .i64 x.fMeta.fRoot.fSize, .int .i64 x.fMeta.fRoot.fSum, .int .i64 x.fMeta.fRoot.fLevel, .int .i64 x.fMeta.fDepth, .int .i64 x.fMeta.fMany])]) _) := ⟨HS2.out⟩
   have HS : Bx (St w0 ([boxA b1 8 42 (.agg #[.int .i64 x.fTxg, .int .i64 x.fMeta.fRoot.fAt, .int .i64 x.fMeta.fRoot.fBirth, .int .i64 x.fMeta.fRoot.fSize, .int .i64 x.fMeta.fRoot.fSum, .int .i64 x.fMeta.fRoot.fLevel, .int .i64 x.fMeta.fDepth, .int .i64 x.fMeta.fMany])]) _) := ⟨((HS2.out.erase 1).erase 0)⟩; refine ⟨HS.out, ?_⟩
   refine wh_one 8 (by kernel_rfl) ?_
   replace HS2 : Bx (St w0 ([rowA encS 1 9 (.slice ao8 (([(⟨#[114, 111, 111, 116]⟩ : ByteArray), numB x.fTxg]).length + (treeB x.fMeta).length) cp9) (([(⟨#[114, 111, 111, 116]⟩ : ByteArray), numB x.fTxg]) ++ (treeB x.fMeta)), rowA encS 1 9 (.slice ao6 3 cp6) (treeB x.fMeta), boxA b1 8 42 (.agg #[.int .i64 x.fTxg, .int .i64 x.fMeta.fRoot.fAt, .int .i64 x.fMeta.fRoot.fBirth, .int .i64 x.fMeta.fRoot.fSize, .int .i64 x.fMeta.fRoot.fSum, .int .i64 x.fMeta.fRoot.fLevel, .int .i64 x.fMeta.fDepth, .int .i64 x.fMeta.fMany])]) _) := ⟨(HS2.out).pick 0 rfl⟩
   refine wo_call rfl rfl HF rfl (enter_of Tryz.func79 (by kernel_rfl) rfl) (args := #[.slice ao8 (([(⟨#[114, 111, 111, 116]⟩ : ByteArray), numB x.fTxg]).length + (treeB x.fMeta).length) cp9]) rfl (signed_any w0 _ _ _ _ (([(⟨#[114, 111, 111, 116]⟩ : ByteArray), numB x.fTxg]) ++ (treeB x.fMeta)) _ HT.out (by simp only [List.length_append, List.length_cons, List.length_nil, treeB_len]; omega) (szs_app (szs_cons (by decide) (szs_cons (Nat.le_trans (numB_le _) (by decide)) szs_nil)) (szs_tree _)) HS2.out) rfl rfl ?_
   rintro _ w20 ⟨rfl, hs1⟩
   refine ⟨_, rfl, ?_⟩; replace HS2 := Bx.mk hs1; clear hs1 HF; clear a; intro a HF
   replace HS2 : Bx (St w0 ([rowA encS 1 9 (.slice ao6 3 cp6) (treeB x.fMeta), boxA b1 8 42 (.agg #[.int .i64 x.fTxg, .int .i64 x.fMeta.fRoot.fAt, .int .i64 x.fMeta.fRoot.fBirth, .int .i64 x.fMeta.fRoot.fSize, .int .i64 x.fMeta.fRoot.fSum, .int .i64 x.fMeta.fRoot.fLevel, .int .i64 x.fMeta.fDepth, .int .i64 x.fMeta.fMany])]) _) := ⟨HS2.out⟩
   clear HS; have HS : Bx (St w0 ([boxA b1 8 42 (.agg #[.int .i64 x.fTxg, .int .i64 x.fMeta.fRoot.fAt, .int .i64 x.fMeta.fRoot.fBirth, .int .i64 x.fMeta.fRoot.fSize, .int .i64 x.fMeta.fRoot.fSum, .int .i64 x.fMeta.fRoot.fLevel, .int .i64 x.fMeta.fDepth, .int .i64 x.fMeta.fMany])]) _) := ⟨(HS2.out.erase 0)⟩; refine ⟨HS.out, ?_⟩
   refine wh_y 9 rfl (by kernel_rfl) (by kernel_rfl) (by kernel_rfl) (fun _ _ _ h => h) rfl HF rfl rfl (fun _ HS => (yl_assign rfl (HF.ev rfl))) HS.out ?_; clear HF a; intro a HF
   refine wh_done (by kernel_rfl) ?_
   replace HS := HS2; clear HS2
   refine ex_then ?_
   refine wp_ret ?_
   refine bp_ret1 HF Tryz.results38 (HF.res rfl) ?_
   exact ⟨by rw [rootB_yes hok], HS.out.bel⟩

theorem specRootPut_any (x : RootD) (w0 : World) : Calls Tryz.prog 32 #[.agg #[.int .i64 x.fTxg, .int .i64 x.fMeta.fRoot.fAt, .int .i64 x.fMeta.fRoot.fBirth, .int .i64 x.fMeta.fRoot.fSize, .int .i64 x.fMeta.fRoot.fSum, .int .i64 x.fMeta.fRoot.fLevel, .int .i64 x.fMeta.fDepth, .int .i64 x.fMeta.fMany]] w0 fun e w' => e = .returned (.string (rootB x)) ∧ Below w0.heap.size w0 w' := by
 have HS := Bx.mk (St.start w0)
 refine wc_enter Tryz.func32 rfl Tryz.ntmps32 [(0, .agg #[.int .i64 x.fTxg, .int .i64 x.fMeta.fRoot.fAt, .int .i64 x.fMeta.fRoot.fBirth, .int .i64 x.fMeta.fRoot.fSize, .int .i64 x.fMeta.fRoot.fSum, .int .i64 x.fMeta.fRoot.fLevel, .int .i64 x.fMeta.fDepth, .int .i64 x.fMeta.fMany])] ⟨rfl, trivial⟩ rfl ?_; intro a HF
 refine wp_sr ?_
 refine wl_box rfl HF rfl (HF.ev rfl) (Z := [.int .i64 x.fTxg, .int .i64 x.fMeta.fRoot.fAt, .int .i64 x.fMeta.fRoot.fBirth, .int .i64 x.fMeta.fRoot.fSize, .int .i64 x.fMeta.fRoot.fSum, .int .i64 x.fMeta.fRoot.fLevel, .int .i64 x.fMeta.fDepth, .int .i64 x.fMeta.fMany]) rfl rfl rfl rfl HS.out ?_; clear HF HS a; intro a w1 b1 HF HS; replace HS := Bx.mk HS
 refine wl_as HF rfl rfl rfl rfl rfl ?_; clear HF a; intro a HF
 refine wl_ne ?_
 refine wp_seq ?_
 refine wp_sr ?_
 refine wl_y rfl HF rfl rfl (yl_loadR (cs := [.int .i64 x.fTxg, .int .i64 x.fMeta.fRoot.fAt, .int .i64 x.fMeta.fRoot.fBirth, .int .i64 x.fMeta.fRoot.fSize, .int .i64 x.fMeta.fRoot.fSum, .int .i64 x.fMeta.fRoot.fLevel, .int .i64 x.fMeta.fDepth, .int .i64 x.fMeta.fMany]) rfl (HF.ev rfl) ((HS.out.box 0 rfl).sub 0 8) (by kernel_rfl)) ?_; clear HF a; intro a HF
 refine wl_callB rfl HF rfl (enter_of Tryz.func29 (by kernel_rfl) rfl) (args := #[.agg #[.int .i64 x.fTxg, .int .i64 x.fMeta.fRoot.fAt, .int .i64 x.fMeta.fRoot.fBirth, .int .i64 x.fMeta.fRoot.fSize, .int .i64 x.fMeta.fRoot.fSum, .int .i64 x.fMeta.fRoot.fLevel, .int .i64 x.fMeta.fDepth, .int .i64 x.fMeta.fMany]]) rfl (v := .bool x.ok) (specRootOk_any x _) rfl rfl HS.out ?_; clear HF HS a; intro w2 a HS HF; replace HS := Bx.mk HS
 refine wl_y rfl HF rfl rfl (yl_not rfl (HF.ev rfl)) ?_; clear HF a; intro a HF
 refine wl_ne ?_
 refine HF.cases 10 rfl (fun cc1 HF1 => ?_) (fun cc1 HF1 => ?_)
 ·clear HF; have HF := HF1; clear HF1
  refine wc_true HF rfl ?_
  refine wp_sr ?_
  refine wl_as HF rfl rfl rfl rfl rfl ?_; clear HF a; intro a HF
  refine wl_ne ?_
  refine wp_ret ?_
  refine ex_then_ret ?_
  refine bp_ret1 HF Tryz.results32 (HF.res rfl) ?_
  exact ⟨by rw [rootB_no (by simpa using cc1)]; rfl, HS.out.bel⟩
 ·clear HF; have HF := HF1; clear HF1
  refine wc_false HF rfl ?_
  refine wp_skip ?_
  refine ex_then ?_
  refine wp_seq ?_
  have hok : x.ok = true := by simpa using cc1
  have hxb := RootD.ok_txg hok
  have htl : (treeB x.fMeta).length = 3 := rfl
  have hdz : decB x.fTxg.toNat = numB x.fTxg := (numB_in (by omega) (by omega)).symm
  have hdl : (decB x.fTxg.toNat).size ≤ 19 := decB_20 (by omega)
  refine wr_heldS (s := [boxA b1 8 42 (.agg #[.int .i64 x.fTxg, .int .i64 x.fMeta.fRoot.fAt, .int .i64 x.fMeta.fRoot.fBirth, .int .i64 x.fMeta.fRoot.fSize, .int .i64 x.fMeta.fRoot.fSum, .int .i64 x.fMeta.fRoot.fLevel, .int .i64 x.fMeta.fDepth, .int .i64 x.fMeta.fMany])]) (by kernel_rfl) (St.drew (HS.out)) ?_
  have HS2 := Bx.mk HS.out.drew; replace HS := Bx.mk (show St w0 ([boxA b1 8 42 (.agg #[.int .i64 x.fTxg, .int .i64 x.fMeta.fRoot.fAt, .int .i64 x.fMeta.fRoot.fBirth, .int .i64 x.fMeta.fRoot.fSize, .int .i64 x.fMeta.fRoot.fSum, .int .i64 x.fMeta.fRoot.fLevel, .int .i64 x.fMeta.fDepth, .int .i64 x.fMeta.fMany])]) _ from HS.out.drew)
  generalize World.drew _ = w3 at HS HS2 ⊢
  refine wh_y 0 rfl (by kernel_rfl) (by kernel_rfl) (by kernel_rfl) (fun _ _ _ h => h) rfl HF rfl rfl (fun _ HS => (yl_fieldAddr (j := 0) rfl (HF.ev rfl) (by kernel_rfl))) HS.out ?_; clear HF a; intro a HF
  refine wh_y 1 rfl (by kernel_rfl) (by kernel_rfl) (by kernel_rfl) (fun _ _ _ h => h) rfl HF rfl rfl (fun _ HS => (yl_load (v := .int .i64 x.fTxg) rfl (HF.ev rfl) (((HS.box 0 rfl).cell 0).trans rfl) (by kernel_rfl))) HS.out ?_; clear HF a; intro a HF
  refine wh_y 4 rfl (by kernel_rfl) (by kernel_rfl) (by kernel_rfl) (fun _ _ _ h => h) rfl HF rfl rfl (fun _ HS => (yl_fieldAddr (j := 1) rfl (HF.ev rfl) (by kernel_rfl))) HS.out ?_; clear HF a; intro a HF
  refine wh_y 5 rfl (by kernel_rfl) (by kernel_rfl) (by kernel_rfl) (fun _ _ _ h => h) rfl HF rfl rfl (fun _ HS => (yl_loadR (cs := [.int .i64 x.fMeta.fRoot.fAt, .int .i64 x.fMeta.fRoot.fBirth, .int .i64 x.fMeta.fRoot.fSize, .int .i64 x.fMeta.fRoot.fSum, .int .i64 x.fMeta.fRoot.fLevel, .int .i64 x.fMeta.fDepth, .int .i64 x.fMeta.fMany]) rfl (HF.ev rfl) ((HS.box 0 rfl).sub 1 7) (by kernel_rfl))) HS.out ?_; clear HF a; intro a HF
  refine wh_one 2 (by kernel_rfl) ?_
  refine wo_callB rfl rfl HF rfl (enter_of Tryz.func65 (by kernel_rfl) rfl) (args := #[.int .i64 x.fTxg]) rfl (v := .string (decB x.fTxg.toNat)) (l6DecI_any x.fTxg (by omega) (by omega) _) rfl rfl ?_
  intro w4 hb; replace HS := Bx.mk (HS.out.later hb); replace HS2 := Bx.mk (HS2.out.later hb); clear hb HF; clear a; intro a HF; refine ⟨HS.out, ?_⟩
  refine wh_two 3 6 (by kernel_rfl) ?_ ?_
  ·skip
   refine wo_buildS (enc := encS) (e := 9) (size := 1) rfl rfl HF rfl rfl rfl (ps := [(0, .string (⟨#[114, 111, 111, 116]⟩ : ByteArray)), (1, .string (decB x.fTxg.toNat))]) rfl (cells := [.string (⟨#[114, 111, 111, 116]⟩ : ByteArray), .string (decB x.fTxg.toNat)]) (by kernel_rfl) [(⟨#[114, 111, 111, 116]⟩ : ByteArray), decB x.fTxg.toNat] rfl rfl (by unfold maxLen; omega) rfl HS2.out HS.out ?_; clear HF HS HS2 a; intro b2 a w6 HF HS2 HS; replace HS := Bx.mk HS; replace HS2 := Bx.mk HS2; refine ⟨HS.out, ?_⟩
   refine wh_one 6 (by kernel_rfl) ?_
   refine wo_call rfl rfl HF rfl (enter_of Tryz.func66 (by kernel_rfl) rfl) (args := #[.agg #[.int .i64 x.fMeta.fRoot.fAt, .int .i64 x.fMeta.fRoot.fBirth, .int .i64 x.fMeta.fRoot.fSize, .int .i64 x.fMeta.fRoot.fSum, .int .i64 x.fMeta.fRoot.fLevel, .int .i64 x.fMeta.fDepth, .int .i64 x.fMeta.fMany]]) rfl (l21Tree_any x.fMeta _) rfl rfl ?_
   rintro _ w8 ⟨ao3, cp3, rfl, hs⟩
   refine ⟨_, rfl, ?_⟩
   replace HS := Bx.mk (HS.out.later hs.bel); replace HS2 := Bx.mk (HS2.out.add hs); clear hs HF; clear a; intro a HF
   replace HS2 : Bx (St w0 ([rowA encS 1 9 (.slice ao3 3 cp3) (treeB x.fMeta), rowA encS 1 9 (.slice (some ⟨b2, 0, none⟩) 2 2) ([(⟨#[114, 111, 111, 116]⟩ : ByteArray), decB x.fTxg.toNat]), boxA b1 8 42 (.agg #[.int .i64 x.fTxg, .int .i64 x.fMeta.fRoot.fAt, .int .i64 x.fMeta.fRoot.fBirth, .int .i64 x.fMeta.fRoot.fSize, .int .i64 x.fMeta.fRoot.fSum, .int .i64 x.fMeta.fRoot.fLevel, .int .i64 x.fMeta.fDepth, .int .i64 x.fMeta.fMany])]) _) := ⟨HS2.out⟩
   refine ⟨HS.out, ?_⟩
   refine wh_one 7 (by kernel_rfl) ?_
   refine wo_appL rfl rfl HF rfl rfl rfl (HF.ev rfl) (HF.ev rfl) elemS encS_len HS2.out 1 (xs := [(⟨#[114, 111, 111, 116]⟩ : ByteArray), decB x.fTxg.toNat]) rfl (ys := treeB x.fMeta) (St.rdN HS2.out encS_len 0 rfl) (cells_one_S _) (by unfold maxLen; (try simp only [List.length_append, List.length_cons, List.length_nil, List.nil_append, List.length_map, treeB_len]); omega) (by (try simp only [List.length_append, List.length_cons, List.length_nil, List.nil_append, List.length_map, treeB_len]); omega) ?_; clear HF HS HS2 a; intro ao4 cp5 w10 a HF HS2; replace HS2 := Bx.mk HS2
   replace HS2 : Bx (St w0 ([rowA encS 1 9 (.slice ao3 3 cp3) (treeB x.fMeta), rowA encS 1 9 (.slice ao4 (([(⟨#[114, 111, 111, 116]⟩ : ByteArray), decB x.fTxg.toNat]).length + (treeB x.fMeta).length) cp5) (([(⟨#[114, 111, 111, 116]⟩ : ByteArray), decB x.fTxg.toNat]) ++ (treeB x.fMeta)), boxA b1 8 42 (.agg #[.int .i64 x.fTxg, .int .i64 x.fMeta.fRoot.fAt, .int .i64 x.fMeta.fRoot.fBirth, .int .i64 x.fMeta.fRoot.fSize, .int .i64 x.fMeta.fRoot.fSum, .int .i64 x.fMeta.fRoot.fLevel, .int .i64 x.fMeta.fDepth, .int .i64 x.fMeta.fMany])]) _) := ⟨HS2.out⟩
   have HS : Bx (St w0 ([boxA b1 8 42 (.agg #[.int .i64 x.fTxg, .int .i64 x.fMeta.fRoot.fAt, .int .i64 x.fMeta.fRoot.fBirth, .int .i64 x.fMeta.fRoot.fSize, .int .i64 x.fMeta.fRoot.fSum, .int .i64 x.fMeta.fRoot.fLevel, .int .i64 x.fMeta.fDepth, .int .i64 x.fMeta.fMany])]) _) := ⟨((HS2.out.erase 1).erase 0)⟩; refine ⟨HS.out, ?_⟩
   refine wh_y 8 rfl (by kernel_rfl) (by kernel_rfl) (by kernel_rfl) (fun _ _ _ h => h) rfl HF rfl rfl (fun _ HS => (yl_assign rfl (HF.ev rfl))) HS.out ?_; clear HF a; intro a HF
   refine wh_done (by kernel_rfl) ?_
   replace HS := HS2; clear HS2
   refine ex_then ?_
   refine wp_sr ?_
   refine wl_mv HF rfl rfl rfl rfl rfl ?_; clear HF a; intro a HF
   refine wl_callB rfl HF rfl (enter_of Tryz.func67 (by kernel_rfl) rfl) (args := #[.slice ao4 (([(⟨#[114, 111, 111, 116]⟩ : ByteArray), decB x.fTxg.toNat]).length + (treeB x.fMeta).length) cp5]) rfl (v := .tuple #[.string ((fieldsPut (([(⟨#[114, 111, 111, 116]⟩ : ByteArray), decB x.fTxg.toNat]) ++ (treeB x.fMeta))).1), .bool ((fieldsPut (([(⟨#[114, 111, 111, 116]⟩ : ByteArray), decB x.fTxg.toNat]) ++ (treeB x.fMeta))).2)]) (fieldsPutS_any _ _ _ (([(⟨#[114, 111, 111, 116]⟩ : ByteArray), decB x.fTxg.toNat]) ++ (treeB x.fMeta)) _ (by (try simp only [List.length_append, List.length_cons, List.length_nil, List.nil_append, List.length_map]); omega) (szs_app (szs_cons (by decide) (szs_cons (by omega) szs_nil)) (szs_tree _)) (St.rdN HS.out encS_len 1 rfl)) rfl rfl HS.out ?_; clear HF HS a; intro w11 a HS HF; replace HS := Bx.mk HS
   refine wl_mv HF rfl rfl rfl rfl rfl ?_; clear HF a; intro a HF
   refine wl_y rfl HF rfl rfl (yl_extract rfl (HF.ev rfl) rfl) ?_; clear HF a; intro a HF
   refine wl_y rfl HF rfl rfl (yl_extract rfl (HF.ev rfl) rfl) ?_; clear HF a; intro a HF
   refine wl_as HF rfl rfl rfl rfl rfl ?_; clear HF a; intro a HF
   refine wl_as HF rfl rfl rfl rfl rfl ?_; clear HF a; intro a HF
   refine wl_ne ?_
   refine wp_seq ?_
   have hfz := fieldsPut_le ([(⟨#[114, 111, 111, 116]⟩ : ByteArray), decB x.fTxg.toNat] ++ treeB x.fMeta); have hsm := sumOf_le (fieldsPut ([(⟨#[114, 111, 111, 116]⟩ : ByteArray), decB x.fTxg.toNat] ++ treeB x.fMeta)).1; have hsl : (decB (sumOf (fieldsPut ([(⟨#[114, 111, 111, 116]⟩ : ByteArray), decB x.fTxg.toNat] ++ treeB x.fMeta)).1).toNat).size ≤ 19 := decB_20 (by omega)
   refine wp_region_lit ?_
   refine wl_mv HF rfl rfl rfl rfl rfl ?_; clear HF a; intro a HF
   refine wl_mv HF rfl rfl rfl rfl rfl ?_; clear HF a; intro a HF
   refine wl_callB rfl HF rfl (enter_of Tryz.func68 (by kernel_rfl) rfl) (args := #[.string ((fieldsPut (([(⟨#[114, 111, 111, 116]⟩ : ByteArray), decB x.fTxg.toNat]) ++ (treeB x.fMeta))).1)]) rfl (v := .int .i64 (sumOf ((fieldsPut (([(⟨#[114, 111, 111, 116]⟩ : ByteArray), decB x.fTxg.toNat]) ++ (treeB x.fMeta))).1))) (sumOfS_any ((fieldsPut (([(⟨#[114, 111, 111, 116]⟩ : ByteArray), decB x.fTxg.toNat]) ++ (treeB x.fMeta))).1) _ (by omega)) rfl rfl HS.out ?_; clear HF HS a; intro w12 a HS HF; replace HS := Bx.mk HS
   refine wl_callB rfl HF rfl (enter_of Tryz.func65 (by kernel_rfl) rfl) (args := #[.int .i64 (sumOf ((fieldsPut (([(⟨#[114, 111, 111, 116]⟩ : ByteArray), decB x.fTxg.toNat]) ++ (treeB x.fMeta))).1))]) rfl (v := .string (decB (sumOf ((fieldsPut (([(⟨#[114, 111, 111, 116]⟩ : ByteArray), decB x.fTxg.toNat]) ++ (treeB x.fMeta))).1)).toNat)) (l6DecI_any (sumOf ((fieldsPut (([(⟨#[114, 111, 111, 116]⟩ : ByteArray), decB x.fTxg.toNat]) ++ (treeB x.fMeta))).1)) (by omega) (by omega) _) rfl rfl HS.out ?_; clear HF HS a; intro w13 a HS HF; replace HS := Bx.mk HS
   refine wl_buildS (enc := encS) (e := 9) (size := 1) rfl HF rfl rfl rfl (ps := [(0, .string (decB (sumOf ((fieldsPut (([(⟨#[114, 111, 111, 116]⟩ : ByteArray), decB x.fTxg.toNat]) ++ (treeB x.fMeta))).1)).toNat))]) rfl (cells := [.string (decB (sumOf ((fieldsPut (([(⟨#[114, 111, 111, 116]⟩ : ByteArray), decB x.fTxg.toNat]) ++ (treeB x.fMeta))).1)).toNat)]) (by kernel_rfl) [decB (sumOf ((fieldsPut (([(⟨#[114, 111, 111, 116]⟩ : ByteArray), decB x.fTxg.toNat]) ++ (treeB x.fMeta))).1)).toNat] rfl rfl (by unfold maxLen; omega) rfl HS.out ?_; clear HF HS a; intro b6 a w14 HF HS; replace HS := Bx.mk HS
   refine wl_appL rfl HF rfl rfl rfl (HF.ev rfl) (HF.ev rfl) elemS encS_len HS.out 2 (xs := ([(⟨#[114, 111, 111, 116]⟩ : ByteArray), decB x.fTxg.toNat]) ++ (treeB x.fMeta)) rfl (ys := [decB (sumOf ((fieldsPut (([(⟨#[114, 111, 111, 116]⟩ : ByteArray), decB x.fTxg.toNat]) ++ (treeB x.fMeta))).1)).toNat]) (St.rdN HS.out encS_len 0 rfl) (cells_one_S _) (by unfold maxLen; (try simp only [List.length_append, List.length_cons, List.length_nil, List.nil_append, List.length_map, treeB_len]); omega) (by (try simp only [List.length_append, List.length_cons, List.length_nil, List.nil_append, List.length_map, treeB_len]); omega) ?_; clear HF HS a; intro ao7 cp8 w15 a HF HS; replace HS := Bx.mk HS
   replace HS : Bx (St w0 ([rowA encS 1 9 (.slice (some ⟨b6, 0, none⟩) 1 1) ([decB (sumOf ((fieldsPut (([(⟨#[114, 111, 111, 116]⟩ : ByteArray), decB x.fTxg.toNat]) ++ (treeB x.fMeta))).1)).toNat]), rowA encS 1 9 (.slice ao3 3 cp3) (treeB x.fMeta), rowA encS 1 9 (.slice ao7 ((([(⟨#[114, 111, 111, 116]⟩ : ByteArray), decB x.fTxg.toNat]) ++ (treeB x.fMeta)).length + ([decB (sumOf ((fieldsPut (([(⟨#[114, 111, 111, 116]⟩ : ByteArray), decB x.fTxg.toNat]) ++ (treeB x.fMeta))).1)).toNat]).length) cp8) ((([(⟨#[114, 111, 111, 116]⟩ : ByteArray), decB x.fTxg.toNat]) ++ (treeB x.fMeta)) ++ ([decB (sumOf ((fieldsPut (([(⟨#[114, 111, 111, 116]⟩ : ByteArray), decB x.fTxg.toNat]) ++ (treeB x.fMeta))).1)).toNat])), boxA b1 8 42 (.agg #[.int .i64 x.fTxg, .int .i64 x.fMeta.fRoot.fAt, .int .i64 x.fMeta.fRoot.fBirth, .int .i64 x.fMeta.fRoot.fSize, .int .i64 x.fMeta.fRoot.fSum, .int .i64 x.fMeta.fRoot.fLevel, .int .i64 x.fMeta.fDepth, .int .i64 x.fMeta.fMany])]) _) := ⟨HS.out⟩
   refine wl_callB rfl HF rfl (enter_of Tryz.func67 (by kernel_rfl) rfl) (args := #[.slice ao7 ((([(⟨#[114, 111, 111, 116]⟩ : ByteArray), decB x.fTxg.toNat]) ++ (treeB x.fMeta)).length + ([decB (sumOf ((fieldsPut (([(⟨#[114, 111, 111, 116]⟩ : ByteArray), decB x.fTxg.toNat]) ++ (treeB x.fMeta))).1)).toNat]).length) cp8]) rfl (v := .tuple #[.string ((fieldsPut ((([(⟨#[114, 111, 111, 116]⟩ : ByteArray), decB x.fTxg.toNat]) ++ (treeB x.fMeta)) ++ ([decB (sumOf ((fieldsPut (([(⟨#[114, 111, 111, 116]⟩ : ByteArray), decB x.fTxg.toNat]) ++ (treeB x.fMeta))).1)).toNat]))).1), .bool ((fieldsPut ((([(⟨#[114, 111, 111, 116]⟩ : ByteArray), decB x.fTxg.toNat]) ++ (treeB x.fMeta)) ++ ([decB (sumOf ((fieldsPut (([(⟨#[114, 111, 111, 116]⟩ : ByteArray), decB x.fTxg.toNat]) ++ (treeB x.fMeta))).1)).toNat]))).2)]) (fieldsPutS_any _ _ _ ((([(⟨#[114, 111, 111, 116]⟩ : ByteArray), decB x.fTxg.toNat]) ++ (treeB x.fMeta)) ++ ([decB (sumOf ((fieldsPut (([(⟨#[114, 111, 111, 116]⟩ : ByteArray), decB x.fTxg.toNat]) ++ (treeB x.fMeta))).1)).toNat])) _ (by (try simp only [List.length_append, List.length_cons, List.length_nil, List.nil_append, List.length_map]); omega) (szs_app (szs_app (szs_cons (by decide) (szs_cons (by omega) szs_nil)) (szs_tree _)) (szs_cons (by omega) szs_nil)) (St.rdN HS.out encS_len 2 rfl)) rfl rfl HS.out ?_; clear HF HS a; intro w16 a HS HF; replace HS := Bx.mk HS
   refine wl_mv HF rfl rfl rfl rfl rfl ?_; clear HF a; intro a HF
   refine wl_y rfl HF rfl rfl (yl_extract rfl (HF.ev rfl) rfl) ?_; clear HF a; intro a HF
   refine wl_y rfl HF rfl rfl (yl_extract rfl (HF.ev rfl) rfl) ?_; clear HF a; intro a HF
   refine wl_as HF rfl rfl rfl rfl rfl ?_; clear HF a; intro a HF
   refine wl_as HF rfl rfl rfl rfl rfl ?_; clear HF a; intro a HF
   refine wl_ne ?_
   refine wp_sr ?_
   refine wl_mv HF rfl rfl rfl rfl rfl ?_; clear HF a; intro a HF
   refine wl_as HF rfl rfl rfl rfl rfl ?_; clear HF a; intro a HF
   refine wl_ne ?_
   refine wp_ret ?_
   refine bp_ret1 HF Tryz.results32 (HF.res rfl) ?_
   exact ⟨by rw [rootB_yes hok, ← hdz]; rfl, HS.out.bel⟩
  ·skip
   refine wo_call rfl rfl HF rfl (enter_of Tryz.func66 (by kernel_rfl) rfl) (args := #[.agg #[.int .i64 x.fMeta.fRoot.fAt, .int .i64 x.fMeta.fRoot.fBirth, .int .i64 x.fMeta.fRoot.fSize, .int .i64 x.fMeta.fRoot.fSum, .int .i64 x.fMeta.fRoot.fLevel, .int .i64 x.fMeta.fDepth, .int .i64 x.fMeta.fMany]]) rfl (l21Tree_any x.fMeta _) rfl rfl ?_
   rintro _ w18 ⟨ao9, cp9, rfl, hs⟩
   refine ⟨_, rfl, ?_⟩
   replace HS := Bx.mk (HS.out.later hs.bel); replace HS2 := Bx.mk (HS2.out.add hs); clear hs HF; clear a; intro a HF
   replace HS2 : Bx (St w0 ([rowA encS 1 9 (.slice ao9 3 cp9) (treeB x.fMeta), boxA b1 8 42 (.agg #[.int .i64 x.fTxg, .int .i64 x.fMeta.fRoot.fAt, .int .i64 x.fMeta.fRoot.fBirth, .int .i64 x.fMeta.fRoot.fSize, .int .i64 x.fMeta.fRoot.fSum, .int .i64 x.fMeta.fRoot.fLevel, .int .i64 x.fMeta.fDepth, .int .i64 x.fMeta.fMany])]) _) := ⟨HS2.out⟩
   refine ⟨HS.out, ?_⟩
   refine wh_one 3 (by kernel_rfl) ?_
   refine wo_buildS (enc := encS) (e := 9) (size := 1) rfl rfl HF rfl rfl rfl (ps := [(0, .string (⟨#[114, 111, 111, 116]⟩ : ByteArray)), (1, .string (decB x.fTxg.toNat))]) rfl (cells := [.string (⟨#[114, 111, 111, 116]⟩ : ByteArray), .string (decB x.fTxg.toNat)]) (by kernel_rfl) [(⟨#[114, 111, 111, 116]⟩ : ByteArray), decB x.fTxg.toNat] rfl rfl (by unfold maxLen; omega) rfl HS2.out HS.out ?_; clear HF HS HS2 a; intro b10 a w20 HF HS2 HS; replace HS := Bx.mk HS; replace HS2 := Bx.mk HS2; refine ⟨HS.out, ?_⟩
   refine wh_one 7 (by kernel_rfl) ?_
   refine wo_appL rfl rfl HF rfl rfl rfl (HF.ev rfl) (HF.ev rfl) elemS encS_len HS2.out 0 (xs := [(⟨#[114, 111, 111, 116]⟩ : ByteArray), decB x.fTxg.toNat]) rfl (ys := treeB x.fMeta) (St.rdN HS2.out encS_len 1 rfl) (cells_one_S _) (by unfold maxLen; (try simp only [List.length_append, List.length_cons, List.length_nil, List.nil_append, List.length_map, treeB_len]); omega) (by (try simp only [List.length_append, List.length_cons, List.length_nil, List.nil_append, List.length_map, treeB_len]); omega) ?_; clear HF HS HS2 a; intro ao11 cp12 w22 a HF HS2; replace HS2 := Bx.mk HS2
   replace HS2 : Bx (St w0 ([rowA encS 1 9 (.slice ao11 (([(⟨#[114, 111, 111, 116]⟩ : ByteArray), decB x.fTxg.toNat]).length + (treeB x.fMeta).length) cp12) (([(⟨#[114, 111, 111, 116]⟩ : ByteArray), decB x.fTxg.toNat]) ++ (treeB x.fMeta)), rowA encS 1 9 (.slice ao9 3 cp9) (treeB x.fMeta), boxA b1 8 42 (.agg #[.int .i64 x.fTxg, .int .i64 x.fMeta.fRoot.fAt, .int .i64 x.fMeta.fRoot.fBirth, .int .i64 x.fMeta.fRoot.fSize, .int .i64 x.fMeta.fRoot.fSum, .int .i64 x.fMeta.fRoot.fLevel, .int .i64 x.fMeta.fDepth, .int .i64 x.fMeta.fMany])]) _) := ⟨HS2.out⟩
   have HS : Bx (St w0 ([boxA b1 8 42 (.agg #[.int .i64 x.fTxg, .int .i64 x.fMeta.fRoot.fAt, .int .i64 x.fMeta.fRoot.fBirth, .int .i64 x.fMeta.fRoot.fSize, .int .i64 x.fMeta.fRoot.fSum, .int .i64 x.fMeta.fRoot.fLevel, .int .i64 x.fMeta.fDepth, .int .i64 x.fMeta.fMany])]) _) := ⟨((HS2.out.erase 1).erase 0)⟩; refine ⟨HS.out, ?_⟩
   refine wh_y 8 rfl (by kernel_rfl) (by kernel_rfl) (by kernel_rfl) (fun _ _ _ h => h) rfl HF rfl rfl (fun _ HS => (yl_assign rfl (HF.ev rfl))) HS.out ?_; clear HF a; intro a HF
   refine wh_done (by kernel_rfl) ?_
   replace HS := HS2; clear HS2
   refine ex_then ?_
   refine wp_sr ?_
   refine wl_mv HF rfl rfl rfl rfl rfl ?_; clear HF a; intro a HF
   refine wl_callB rfl HF rfl (enter_of Tryz.func67 (by kernel_rfl) rfl) (args := #[.slice ao11 (([(⟨#[114, 111, 111, 116]⟩ : ByteArray), decB x.fTxg.toNat]).length + (treeB x.fMeta).length) cp12]) rfl (v := .tuple #[.string ((fieldsPut (([(⟨#[114, 111, 111, 116]⟩ : ByteArray), decB x.fTxg.toNat]) ++ (treeB x.fMeta))).1), .bool ((fieldsPut (([(⟨#[114, 111, 111, 116]⟩ : ByteArray), decB x.fTxg.toNat]) ++ (treeB x.fMeta))).2)]) (fieldsPutS_any _ _ _ (([(⟨#[114, 111, 111, 116]⟩ : ByteArray), decB x.fTxg.toNat]) ++ (treeB x.fMeta)) _ (by (try simp only [List.length_append, List.length_cons, List.length_nil, List.nil_append, List.length_map]); omega) (szs_app (szs_cons (by decide) (szs_cons (by omega) szs_nil)) (szs_tree _)) (St.rdN HS.out encS_len 0 rfl)) rfl rfl HS.out ?_; clear HF HS a; intro w23 a HS HF; replace HS := Bx.mk HS
   refine wl_mv HF rfl rfl rfl rfl rfl ?_; clear HF a; intro a HF
   refine wl_y rfl HF rfl rfl (yl_extract rfl (HF.ev rfl) rfl) ?_; clear HF a; intro a HF
   refine wl_y rfl HF rfl rfl (yl_extract rfl (HF.ev rfl) rfl) ?_; clear HF a; intro a HF
   refine wl_as HF rfl rfl rfl rfl rfl ?_; clear HF a; intro a HF
   refine wl_as HF rfl rfl rfl rfl rfl ?_; clear HF a; intro a HF
   refine wl_ne ?_
   refine wp_seq ?_
   have hfz := fieldsPut_le ([(⟨#[114, 111, 111, 116]⟩ : ByteArray), decB x.fTxg.toNat] ++ treeB x.fMeta); have hsm := sumOf_le (fieldsPut ([(⟨#[114, 111, 111, 116]⟩ : ByteArray), decB x.fTxg.toNat] ++ treeB x.fMeta)).1; have hsl : (decB (sumOf (fieldsPut ([(⟨#[114, 111, 111, 116]⟩ : ByteArray), decB x.fTxg.toNat] ++ treeB x.fMeta)).1).toNat).size ≤ 19 := decB_20 (by omega)
   refine wp_region_lit ?_
   refine wl_mv HF rfl rfl rfl rfl rfl ?_; clear HF a; intro a HF
   refine wl_mv HF rfl rfl rfl rfl rfl ?_; clear HF a; intro a HF
   refine wl_callB rfl HF rfl (enter_of Tryz.func68 (by kernel_rfl) rfl) (args := #[.string ((fieldsPut (([(⟨#[114, 111, 111, 116]⟩ : ByteArray), decB x.fTxg.toNat]) ++ (treeB x.fMeta))).1)]) rfl (v := .int .i64 (sumOf ((fieldsPut (([(⟨#[114, 111, 111, 116]⟩ : ByteArray), decB x.fTxg.toNat]) ++ (treeB x.fMeta))).1))) (sumOfS_any ((fieldsPut (([(⟨#[114, 111, 111, 116]⟩ : ByteArray), decB x.fTxg.toNat]) ++ (treeB x.fMeta))).1) _ (by omega)) rfl rfl HS.out ?_; clear HF HS a; intro w24 a HS HF; replace HS := Bx.mk HS
   refine wl_callB rfl HF rfl (enter_of Tryz.func65 (by kernel_rfl) rfl) (args := #[.int .i64 (sumOf ((fieldsPut (([(⟨#[114, 111, 111, 116]⟩ : ByteArray), decB x.fTxg.toNat]) ++ (treeB x.fMeta))).1))]) rfl (v := .string (decB (sumOf ((fieldsPut (([(⟨#[114, 111, 111, 116]⟩ : ByteArray), decB x.fTxg.toNat]) ++ (treeB x.fMeta))).1)).toNat)) (l6DecI_any (sumOf ((fieldsPut (([(⟨#[114, 111, 111, 116]⟩ : ByteArray), decB x.fTxg.toNat]) ++ (treeB x.fMeta))).1)) (by omega) (by omega) _) rfl rfl HS.out ?_; clear HF HS a; intro w25 a HS HF; replace HS := Bx.mk HS
   refine wl_buildS (enc := encS) (e := 9) (size := 1) rfl HF rfl rfl rfl (ps := [(0, .string (decB (sumOf ((fieldsPut (([(⟨#[114, 111, 111, 116]⟩ : ByteArray), decB x.fTxg.toNat]) ++ (treeB x.fMeta))).1)).toNat))]) rfl (cells := [.string (decB (sumOf ((fieldsPut (([(⟨#[114, 111, 111, 116]⟩ : ByteArray), decB x.fTxg.toNat]) ++ (treeB x.fMeta))).1)).toNat)]) (by kernel_rfl) [decB (sumOf ((fieldsPut (([(⟨#[114, 111, 111, 116]⟩ : ByteArray), decB x.fTxg.toNat]) ++ (treeB x.fMeta))).1)).toNat] rfl rfl (by unfold maxLen; omega) rfl HS.out ?_; clear HF HS a; intro b13 a w26 HF HS; replace HS := Bx.mk HS
   refine wl_appL rfl HF rfl rfl rfl (HF.ev rfl) (HF.ev rfl) elemS encS_len HS.out 1 (xs := ([(⟨#[114, 111, 111, 116]⟩ : ByteArray), decB x.fTxg.toNat]) ++ (treeB x.fMeta)) rfl (ys := [decB (sumOf ((fieldsPut (([(⟨#[114, 111, 111, 116]⟩ : ByteArray), decB x.fTxg.toNat]) ++ (treeB x.fMeta))).1)).toNat]) (St.rdN HS.out encS_len 0 rfl) (cells_one_S _) (by unfold maxLen; (try simp only [List.length_append, List.length_cons, List.length_nil, List.nil_append, List.length_map, treeB_len]); omega) (by (try simp only [List.length_append, List.length_cons, List.length_nil, List.nil_append, List.length_map, treeB_len]); omega) ?_; clear HF HS a; intro ao14 cp15 w27 a HF HS; replace HS := Bx.mk HS
   replace HS : Bx (St w0 ([rowA encS 1 9 (.slice (some ⟨b13, 0, none⟩) 1 1) ([decB (sumOf ((fieldsPut (([(⟨#[114, 111, 111, 116]⟩ : ByteArray), decB x.fTxg.toNat]) ++ (treeB x.fMeta))).1)).toNat]), rowA encS 1 9 (.slice ao14 ((([(⟨#[114, 111, 111, 116]⟩ : ByteArray), decB x.fTxg.toNat]) ++ (treeB x.fMeta)).length + ([decB (sumOf ((fieldsPut (([(⟨#[114, 111, 111, 116]⟩ : ByteArray), decB x.fTxg.toNat]) ++ (treeB x.fMeta))).1)).toNat]).length) cp15) ((([(⟨#[114, 111, 111, 116]⟩ : ByteArray), decB x.fTxg.toNat]) ++ (treeB x.fMeta)) ++ ([decB (sumOf ((fieldsPut (([(⟨#[114, 111, 111, 116]⟩ : ByteArray), decB x.fTxg.toNat]) ++ (treeB x.fMeta))).1)).toNat])), rowA encS 1 9 (.slice ao9 3 cp9) (treeB x.fMeta), boxA b1 8 42 (.agg #[.int .i64 x.fTxg, .int .i64 x.fMeta.fRoot.fAt, .int .i64 x.fMeta.fRoot.fBirth, .int .i64 x.fMeta.fRoot.fSize, .int .i64 x.fMeta.fRoot.fSum, .int .i64 x.fMeta.fRoot.fLevel, .int .i64 x.fMeta.fDepth, .int .i64 x.fMeta.fMany])]) _) := ⟨HS.out⟩
   refine wl_callB rfl HF rfl (enter_of Tryz.func67 (by kernel_rfl) rfl) (args := #[.slice ao14 ((([(⟨#[114, 111, 111, 116]⟩ : ByteArray), decB x.fTxg.toNat]) ++ (treeB x.fMeta)).length + ([decB (sumOf ((fieldsPut (([(⟨#[114, 111, 111, 116]⟩ : ByteArray), decB x.fTxg.toNat]) ++ (treeB x.fMeta))).1)).toNat]).length) cp15]) rfl (v := .tuple #[.string ((fieldsPut ((([(⟨#[114, 111, 111, 116]⟩ : ByteArray), decB x.fTxg.toNat]) ++ (treeB x.fMeta)) ++ ([decB (sumOf ((fieldsPut (([(⟨#[114, 111, 111, 116]⟩ : ByteArray), decB x.fTxg.toNat]) ++ (treeB x.fMeta))).1)).toNat]))).1), .bool ((fieldsPut ((([(⟨#[114, 111, 111, 116]⟩ : ByteArray), decB x.fTxg.toNat]) ++ (treeB x.fMeta)) ++ ([decB (sumOf ((fieldsPut (([(⟨#[114, 111, 111, 116]⟩ : ByteArray), decB x.fTxg.toNat]) ++ (treeB x.fMeta))).1)).toNat]))).2)]) (fieldsPutS_any _ _ _ ((([(⟨#[114, 111, 111, 116]⟩ : ByteArray), decB x.fTxg.toNat]) ++ (treeB x.fMeta)) ++ ([decB (sumOf ((fieldsPut (([(⟨#[114, 111, 111, 116]⟩ : ByteArray), decB x.fTxg.toNat]) ++ (treeB x.fMeta))).1)).toNat])) _ (by (try simp only [List.length_append, List.length_cons, List.length_nil, List.nil_append, List.length_map]); omega) (szs_app (szs_app (szs_cons (by decide) (szs_cons (by omega) szs_nil)) (szs_tree _)) (szs_cons (by omega) szs_nil)) (St.rdN HS.out encS_len 1 rfl)) rfl rfl HS.out ?_; clear HF HS a; intro w28 a HS HF; replace HS := Bx.mk HS
   refine wl_mv HF rfl rfl rfl rfl rfl ?_; clear HF a; intro a HF
   refine wl_y rfl HF rfl rfl (yl_extract rfl (HF.ev rfl) rfl) ?_; clear HF a; intro a HF
   refine wl_y rfl HF rfl rfl (yl_extract rfl (HF.ev rfl) rfl) ?_; clear HF a; intro a HF
   refine wl_as HF rfl rfl rfl rfl rfl ?_; clear HF a; intro a HF
   refine wl_as HF rfl rfl rfl rfl rfl ?_; clear HF a; intro a HF
   refine wl_ne ?_
   refine wp_sr ?_
   refine wl_mv HF rfl rfl rfl rfl rfl ?_; clear HF a; intro a HF
   refine wl_as HF rfl rfl rfl rfl rfl ?_; clear HF a; intro a HF
   refine wl_ne ?_
   refine wp_ret ?_
   refine bp_ret1 HF Tryz.results32 (HF.res rfl) ?_
   exact ⟨by rw [rootB_yes hok, ← hdz]; rfl, HS.out.bel⟩

end Go.Proofs.YtoaopmkbfifhaaaGreatDoor

/- The plain laws of healing and writing. -/
namespace Go.Proofs.YtoaopmkbfifhaaaGreatDoor
set_option linter.unusedVariables false
set_option linter.unusedSimpArgs false
set_option maxHeartbeats 1000000
set_option maxRecDepth 100000
open Go.RowKit
theorem okR_at {ds : List DiskD} (h : okR ds = true) : ds.length = 3 ∧ ∀ k, k < 3 → (ds.getD k default).ok = true := by
  unfold okR at h
  rw [Bool.and_eq_true, decide_eq_true_eq] at h
  obtain ⟨h1, h2⟩ := h
  rw [h1] at h2
  exact ⟨h1, fun k hk => allB_at h2 hk⟩
def fitsD (ds : List DiskD) : Prop := ∀ d, d ∈ ds → d.fits
theorem fitsL_of {ps : List HD} (h : fitsD (dsOf ps)) : fitsL ps := fun p hp => h p.d (List.mem_map_of_mem hp)
end Go.Proofs.YtoaopmkbfifhaaaGreatDoor

/- Writing to a set of disks, by both. -/
namespace Go.Proofs.YtoaopmkbfifhaaaGreatDoor
set_option linter.unusedVariables false
set_option linter.unusedSimpArgs false
set_option maxHeartbeats 1000000
set_option maxRecDepth 100000
open Go.RowKit

theorem waits_small {qs : List HD} (h : okR (dsOf qs) = true) (k : Nat) : (qs.getD k default).d.fWaits.length ≤ 120 := by
  by_cases hk : k < 3
  · have := (okR_at h).2 k hk
    rw [dsOf_get] at this
    exact (ok_waits this).2
  · have hl := (okR_at h).1
    rw [dsOf_len] at hl
    rw [show qs.getD k default = default by simp [List.getD, List.getElem?_eq_none (show qs.length ≤ k by omega)]]; exact Nat.zero_le _

end Go.Proofs.YtoaopmkbfifhaaaGreatDoor

/- A text to a row of all disks; roots written, by both. -/
namespace Go.Proofs.YtoaopmkbfifhaaaGreatDoor
set_option linter.unusedVariables false
set_option linter.unusedSimpArgs false
set_option maxHeartbeats 1000000
set_option maxRecDepth 100000
open Go.RowKit

theorem writeRow1_any (w0 w : World) (bi bt m : Nat) (hm : m < 64) (ps : List HD) (k : Nat) (hokk : (ps.getD k default).d.ok = true) (hf : (ps.getD k default).d.fits) (hp : (ps.getD k default).reads w0) (t : ByteArray) (ht : t.size ≤ 2048) (X : List Asr) (hS : St w0 (boxA bi 1 3 (.agg #[.int .i64 (m : Int)]) :: boxA bt 1 9 (.agg #[.string t]) :: X) w) : Calls Tryz.prog 76 #[.int .i64 (k : Int), .agg #[.slice ((ps.getD k default).a0) ((ps.getD k default).d.fCells.length) ((ps.getD k default).c0), .slice ((ps.getD k default).a1) ((ps.getD k default).d.fWaits.length) ((ps.getD k default).c1), .bool ((ps.getD k default).d.fGone)], .pointer (some ⟨bi, 0, none⟩), .pointer (some ⟨bt, 0, none⟩)] w fun e w' => (stepPut (m : Int) (fun _ => t) (fun _ => true) k (ps.getD k default).d = none ∧ ∃ q : HD, e = .returned (.tuple #[.agg #[.slice q.a0 q.d.fCells.length q.c0, .slice q.a1 q.d.fWaits.length q.c1, .bool q.d.fGone], .bool false]) ∧ St w0 X w') ∨ (∃ q : HD, stepPut (m : Int) (fun _ => t) (fun _ => true) k (ps.getD k default).d = some q.d ∧ e = .returned (.tuple #[.agg #[.slice q.a0 q.d.fCells.length q.c0, .slice q.a1 q.d.fWaits.length q.c1, .bool q.d.fGone], .bool true]) ∧ St w0 (q.asr :: boxA bi 1 3 (.agg #[.int .i64 (m : Int)]) :: boxA bt 1 9 (.agg #[.string t]) :: X) w') := by
 have hP := Bx.mk hp; clear hp
 have HS := Bx.mk hS; clear hS
 refine wc_enter Tryz.func76 rfl Tryz.ntmps76 [(0, .int .i64 (k : Int)), (1, .agg #[.slice ((ps.getD k default).a0) ((ps.getD k default).d.fCells.length) ((ps.getD k default).c0), .slice ((ps.getD k default).a1) ((ps.getD k default).d.fWaits.length) ((ps.getD k default).c1), .bool ((ps.getD k default).d.fGone)]), (2, .pointer (some ⟨bi, 0, none⟩)), (3, .pointer (some ⟨bt, 0, none⟩))] ⟨rfl, rfl, rfl, rfl, trivial⟩ rfl ?_; intro a HF
 refine wp_sr ?_
 refine wl_box rfl HF rfl (HF.ev rfl) (Z := [.slice ((ps.getD k default).a0) ((ps.getD k default).d.fCells.length) ((ps.getD k default).c0), .slice ((ps.getD k default).a1) ((ps.getD k default).d.fWaits.length) ((ps.getD k default).c1), .bool ((ps.getD k default).d.fGone)]) rfl rfl rfl rfl HS.out ?_; clear HF HS a; intro a w1 b1 HF HS; replace HS := Bx.mk HS
 refine wl_alloc rfl HF rfl rfl rfl (Z := [.slice none 0 0, .slice none 0 0, .bool false]) (by kernel_rfl) rfl HS.out ?_; clear HF HS a; intro a w2 b2 HF HS; replace HS := Bx.mk HS
 refine wl_as HF rfl rfl rfl rfl rfl ?_; clear HF a; intro a HF
 refine wl_ne ?_
 refine wp_seq ?_
 refine wp_sr ?_
 refine wl_y rfl HF rfl rfl (yl_fieldAddr (j := 2) rfl (HF.ev rfl) (by kernel_rfl)) ?_; clear HF a; intro a HF
 refine wl_y rfl HF rfl rfl (yl_load (v := .bool ((ps.getD k default).d.fGone)) rfl (HF.ev rfl) (((HS.out.box 1 rfl).cell 2).trans rfl) (by kernel_rfl)) ?_; clear HF a; intro a HF
 refine wl_ne ?_
 refine HF.cases 9 rfl (fun cc1 HF1 => ?_) (fun cc1 HF1 => ?_)
 ·clear HF; have HF := HF1; clear HF1
  refine wc_true HF rfl ?_
  refine wp_sr ?_
  refine wl_y rfl HF rfl rfl (yl_loadR (cs := [.slice ((ps.getD k default).a0) ((ps.getD k default).d.fCells.length) ((ps.getD k default).c0), .slice ((ps.getD k default).a1) ((ps.getD k default).d.fWaits.length) ((ps.getD k default).c1), .bool ((ps.getD k default).d.fGone)]) rfl (HF.ev rfl) ((HS.out.box 1 rfl).sub 0 3) (by kernel_rfl)) ?_; clear HF a; intro a HF
  refine wl_call rfl HF rfl (enter_of Tryz.func77 (by kernel_rfl) rfl) (args := #[.agg #[.slice ((ps.getD k default).a0) ((ps.getD k default).d.fCells.length) ((ps.getD k default).c0), .slice ((ps.getD k default).a1) ((ps.getD k default).d.fWaits.length) ((ps.getD k default).c1), .bool ((ps.getD k default).d.fGone)]]) rfl (clone_any (ps.getD k default) _ (hP.out.below HS.out.bel) hf) rfl rfl ?_
  rintro _ w3 ⟨⟨qa3, qc3, qb3, qe3, qd⟩, hqd, rfl, hs⟩; obtain rfl : qd = (ps.getD k default).d := hqd; refine ⟨_, rfl, ?_⟩
  replace HS := Bx.mk ((HS.out.add hs)); clear hs HF; clear a; intro a HF
  replace HS : Bx (St w0 (HD.asr ⟨qa3, qc3, qb3, qe3, (ps.getD k default).d⟩ :: boxA b2 3 94 (.agg #[.slice none 0 0, .slice none 0 0, .bool false]) :: boxA b1 3 94 (.agg #[.slice ((ps.getD k default).a0) ((ps.getD k default).d.fCells.length) ((ps.getD k default).c0), .slice ((ps.getD k default).a1) ((ps.getD k default).d.fWaits.length) ((ps.getD k default).c1), .bool ((ps.getD k default).d.fGone)]) :: boxA bi 1 3 (.agg #[.int .i64 (m : Int)]) :: boxA bt 1 9 (.agg #[.string t]) :: X) _) := ⟨HS.out⟩
  refine wl_storeBox rfl HF rfl rfl (HF.ev rfl) (HF.ev rfl) HS.out 1 rfl (cells_lit [.slice qa3 ((ps.getD k default).d.fCells.length) qc3, .slice qb3 ((ps.getD k default).d.fWaits.length) qe3, .bool ((ps.getD k default).d.fGone)] rfl rfl) (by kernel_rfl) ?_; clear HS; intro w4 HS; replace HS := Bx.mk HS
  have HS : Bx (St w0 (HD.asr ⟨qa3, qc3, qb3, qe3, (ps.getD k default).d⟩ :: boxA b2 3 94 (.agg #[.slice qa3 ((ps.getD k default).d.fCells.length) qc3, .slice qb3 ((ps.getD k default).d.fWaits.length) qe3, .bool ((ps.getD k default).d.fGone)]) :: boxA b1 3 94 (.agg #[.slice ((ps.getD k default).a0) ((ps.getD k default).d.fCells.length) ((ps.getD k default).c0), .slice ((ps.getD k default).a1) ((ps.getD k default).d.fWaits.length) ((ps.getD k default).c1), .bool ((ps.getD k default).d.fGone)]) :: boxA bi 1 3 (.agg #[.int .i64 (m : Int)]) :: boxA bt 1 9 (.agg #[.string t]) :: X) _) := HS
  refine wl_as HF rfl rfl rfl rfl rfl ?_; clear HF a; intro a HF
  refine wl_ne ?_
  refine wp_ret ?_
  refine ex_then_ret ?_
  refine bp_ret2 HF Tryz.results76 (HF.resBox rfl (HS.out.box 1 rfl) (by kernel_rfl)) (HF.res rfl) ?_
  replace HS : Bx (St w0 (HD.asr ⟨qa3, qc3, qb3, qe3, (ps.getD k default).d⟩ :: boxA bi 1 3 (.agg #[.int .i64 (m : Int)]) :: boxA bt 1 9 (.agg #[.string t]) :: boxA b2 3 94 (.agg #[.slice qa3 ((ps.getD k default).d.fCells.length) qc3, .slice qb3 ((ps.getD k default).d.fWaits.length) qe3, .bool ((ps.getD k default).d.fGone)]) :: boxA b1 3 94 (.agg #[.slice ((ps.getD k default).a0) ((ps.getD k default).d.fCells.length) ((ps.getD k default).c0), .slice ((ps.getD k default).a1) ((ps.getD k default).d.fWaits.length) ((ps.getD k default).c1), .bool ((ps.getD k default).d.fGone)]) :: X) _) := ⟨(((HS.out).pick 4 rfl).pick 4 rfl).pick 2 rfl⟩
  exact .inr ⟨⟨qa3, qc3, qb3, qe3, (ps.getD k default).d⟩, stepPut_skip (by rw [cc1, Bool.true_or]), rfl, ((HS.out.erase 4).erase 3)⟩
 ·clear HF; have HF := HF1; clear HF1
  refine wc_false HF rfl ?_
  refine wp_skip ?_
  refine ex_then ?_
  refine wp_sr ?_
  refine wl_y rfl HF rfl rfl (yl_loadR (cs := [.slice ((ps.getD k default).a0) ((ps.getD k default).d.fCells.length) ((ps.getD k default).c0), .slice ((ps.getD k default).a1) ((ps.getD k default).d.fWaits.length) ((ps.getD k default).c1), .bool ((ps.getD k default).d.fGone)]) rfl (HF.ev rfl) ((HS.out.box 1 rfl).sub 0 3) (by kernel_rfl)) ?_; clear HF a; intro a HF
  refine wl_y rfl HF rfl rfl (yl_load (v := .int .i64 (m : Int)) rfl (HF.ev rfl) (((HS.out.box 2 rfl).cell 0).trans rfl) (by kernel_rfl)) ?_; clear HF a; intro a HF
  refine wl_y rfl HF rfl rfl (yl_load (v := .string t) rfl (HF.ev rfl) (((HS.out.box 3 rfl).cell 0).trans rfl) (by kernel_rfl)) ?_; clear HF a; intro a HF
  refine wl_call rfl HF rfl (enter_of Tryz.func78 (by kernel_rfl) rfl) (args := #[.agg #[.slice ((ps.getD k default).a0) ((ps.getD k default).d.fCells.length) ((ps.getD k default).c0), .slice ((ps.getD k default).a1) ((ps.getD k default).d.fWaits.length) ((ps.getD k default).c1), .bool ((ps.getD k default).d.fGone)], .int .i64 (m : Int), .string t]) rfl (diskWrite_any (ps.getD k default) (m : Int) t _ (hP.out.below HS.out.bel) hf hokk (by omega)) rfl rfl ?_
  rintro _ w5 (⟨hcan, q, rfl, hs⟩ | ⟨hcan, q, hqd, rfl, hs⟩)
  ·skip
   refine ⟨_, rfl, ?_⟩; replace HS := Bx.mk (HS.out.add hs); clear hs HF; clear a; intro a HF
   replace HS : Bx (St w0 (HD.asr q :: boxA b2 3 94 (.agg #[.slice none 0 0, .slice none 0 0, .bool false]) :: boxA b1 3 94 (.agg #[.slice ((ps.getD k default).a0) ((ps.getD k default).d.fCells.length) ((ps.getD k default).c0), .slice ((ps.getD k default).a1) ((ps.getD k default).d.fWaits.length) ((ps.getD k default).c1), .bool ((ps.getD k default).d.fGone)]) :: boxA bi 1 3 (.agg #[.int .i64 (m : Int)]) :: boxA bt 1 9 (.agg #[.string t]) :: X) _) := ⟨HS.out⟩
   refine wl_y rfl HF rfl rfl (yl_extract rfl (HF.ev rfl) rfl) ?_; clear HF a; intro a HF
   refine wl_y rfl HF rfl rfl (yl_extract rfl (HF.ev rfl) rfl) ?_; clear HF a; intro a HF
   refine wl_storeBox rfl HF rfl rfl (HF.ev rfl) (HF.ev rfl) HS.out 1 rfl (cells_lit [.slice q.a0 q.d.fCells.length q.c0, .slice q.a1 q.d.fWaits.length q.c1, .bool q.d.fGone] rfl rfl) (by kernel_rfl) ?_; clear HS; intro w6 HS; replace HS := Bx.mk HS
   have HS : Bx (St w0 (HD.asr q :: boxA b2 3 94 (.agg #[.slice q.a0 q.d.fCells.length q.c0, .slice q.a1 q.d.fWaits.length q.c1, .bool q.d.fGone]) :: boxA b1 3 94 (.agg #[.slice ((ps.getD k default).a0) ((ps.getD k default).d.fCells.length) ((ps.getD k default).c0), .slice ((ps.getD k default).a1) ((ps.getD k default).d.fWaits.length) ((ps.getD k default).c1), .bool ((ps.getD k default).d.fGone)]) :: boxA bi 1 3 (.agg #[.int .i64 (m : Int)]) :: boxA bt 1 9 (.agg #[.string t]) :: X) _) := HS
   refine wl_as HF rfl rfl rfl rfl rfl ?_; clear HF a; intro a HF
   refine wl_ne ?_
   refine wp_ret ?_
   refine bp_ret2 HF Tryz.results76 (HF.resBox rfl (HS.out.box 1 rfl) (by kernel_rfl)) (HF.res rfl) ?_
   exact .inl ⟨stepPut_fail cc1 rfl hcan, q, rfl, (((((HS.out.erase 4).erase 3).erase 2).erase 1).erase 0)⟩
  ·skip
   refine ⟨_, rfl, ?_⟩; replace HS := Bx.mk (HS.out.add hs); clear hs HF; clear a; intro a HF
   replace HS : Bx (St w0 (HD.asr q :: boxA b2 3 94 (.agg #[.slice none 0 0, .slice none 0 0, .bool false]) :: boxA b1 3 94 (.agg #[.slice ((ps.getD k default).a0) ((ps.getD k default).d.fCells.length) ((ps.getD k default).c0), .slice ((ps.getD k default).a1) ((ps.getD k default).d.fWaits.length) ((ps.getD k default).c1), .bool ((ps.getD k default).d.fGone)]) :: boxA bi 1 3 (.agg #[.int .i64 (m : Int)]) :: boxA bt 1 9 (.agg #[.string t]) :: X) _) := ⟨HS.out⟩
   refine wl_y rfl HF rfl rfl (yl_extract rfl (HF.ev rfl) rfl) ?_; clear HF a; intro a HF
   refine wl_y rfl HF rfl rfl (yl_extract rfl (HF.ev rfl) rfl) ?_; clear HF a; intro a HF
   refine wl_storeBox rfl HF rfl rfl (HF.ev rfl) (HF.ev rfl) HS.out 1 rfl (cells_lit [.slice q.a0 q.d.fCells.length q.c0, .slice q.a1 q.d.fWaits.length q.c1, .bool q.d.fGone] rfl rfl) (by kernel_rfl) ?_; clear HS; intro w7 HS; replace HS := Bx.mk HS
   have HS : Bx (St w0 (HD.asr q :: boxA b2 3 94 (.agg #[.slice q.a0 q.d.fCells.length q.c0, .slice q.a1 q.d.fWaits.length q.c1, .bool q.d.fGone]) :: boxA b1 3 94 (.agg #[.slice ((ps.getD k default).a0) ((ps.getD k default).d.fCells.length) ((ps.getD k default).c0), .slice ((ps.getD k default).a1) ((ps.getD k default).d.fWaits.length) ((ps.getD k default).c1), .bool ((ps.getD k default).d.fGone)]) :: boxA bi 1 3 (.agg #[.int .i64 (m : Int)]) :: boxA bt 1 9 (.agg #[.string t]) :: X) _) := HS
   refine wl_as HF rfl rfl rfl rfl rfl ?_; clear HF a; intro a HF
   refine wl_ne ?_
   refine wp_ret ?_
   refine bp_ret2 HF Tryz.results76 (HF.resBox rfl (HS.out.box 1 rfl) (by kernel_rfl)) (HF.res rfl) ?_
   replace HS : Bx (St w0 (HD.asr q :: boxA bi 1 3 (.agg #[.int .i64 (m : Int)]) :: boxA bt 1 9 (.agg #[.string t]) :: boxA b2 3 94 (.agg #[.slice q.a0 q.d.fCells.length q.c0, .slice q.a1 q.d.fWaits.length q.c1, .bool q.d.fGone]) :: boxA b1 3 94 (.agg #[.slice ((ps.getD k default).a0) ((ps.getD k default).d.fCells.length) ((ps.getD k default).c0), .slice ((ps.getD k default).a1) ((ps.getD k default).d.fWaits.length) ((ps.getD k default).c1), .bool ((ps.getD k default).d.fGone)]) :: X) _) := ⟨(((HS.out).pick 4 rfl).pick 4 rfl).pick 2 rfl⟩
   exact .inr ⟨q, by rw [hqd]; exact stepPut_put cc1 rfl hcan, rfl, ((HS.out.erase 4).erase 3)⟩

/-- A text to a row of all disks that are not gone. -/
def sameF (ds : List DiskD) (row : Int) (t : ByteArray) : Option (List DiskD) := eachTo (stepPut row (fun _ => t) (fun _ => true)) ds 3
/-- A root written. -/
def rootF (ds : List DiskD) (x : RootD) : Option (List DiskD) := bif okR ds && x.ok then sameF ds (x.fTxg % 4) (rootB x) else none
theorem rootF_no {ds : List DiskD} {x : RootD} (h : (okR ds && x.ok) = false) : rootF ds x = none := by unfold rootF; rw [h]; rfl
theorem rootF_yes {ds : List DiskD} {x : RootD} (h1 : okR ds = true) (h2 : x.ok = true) : rootF ds x = sameF ds (x.fTxg % 4) (rootB x) := by unfold rootF; rw [h1, h2]; rfl

theorem writeRow_any (a0 : Option Addr) (c0 : Nat) (ps : List HD) (w0 : World) (hl : ps.length ≤ 1048576) (hf : fitsL ps) (hp : rdsP a0 ps w0) (row : Int) (hr0 : 0 ≤ row) (hr1 : row < 64) (t : ByteArray) (ht : t.size ≤ 2048) (hok : okR (dsOf ps) = true) : Calls Tryz.prog 37 #[.agg #[.slice a0 ps.length c0], .int .i64 row, .string t] w0 fun e w' => (sameF (dsOf ps) row t = none ∧ e = .returned (.tuple #[.agg #[.slice none 0 0], .bool false]) ∧ St w0 [] w') ∨ (∃ ao cp qs, sameF (dsOf ps) row t = some (dsOf qs) ∧ e = .returned (.tuple #[.agg #[.slice ao qs.length cp], .bool true]) ∧ St w0 [rowA HD.cells 3 94 (.slice ao qs.length cp) qs, sepA (qs.map HD.asr)] w') := by
 obtain ⟨m, rfl⟩ : ∃ m : Nat, row = (m : Int) := ⟨row.toNat, by omega⟩; have hm : m < 64 := by omega
 have h3 := okR_three hok
 have HS := Bx.mk (St.start w0)
 refine wc_enter Tryz.func37 rfl Tryz.ntmps37 [(0, .agg #[.slice a0 ps.length c0]), (1, .int .i64 (m : Int)), (2, .string t)] ⟨rfl, rfl, rfl, trivial⟩ rfl ?_; intro a HF
 refine wp_sr ?_
 refine wl_box rfl HF rfl (HF.ev rfl) (Z := [.slice a0 ps.length c0]) rfl rfl rfl rfl HS.out ?_; clear HF HS a; intro a w1 b1 HF HS; replace HS := Bx.mk HS
 refine wl_box rfl HF rfl (HF.ev rfl) (Z := [.int .i64 (m : Int)]) rfl rfl rfl rfl HS.out ?_; clear HF HS a; intro a w2 b2 HF HS; replace HS := Bx.mk HS
 refine wl_box rfl HF rfl (HF.ev rfl) (Z := [.string t]) rfl rfl rfl rfl HS.out ?_; clear HF HS a; intro a w3 b3 HF HS; replace HS := Bx.mk HS
 refine wl_alloc rfl HF rfl rfl rfl (Z := [.slice none 0 0]) (by kernel_rfl) rfl HS.out ?_; clear HF HS a; intro a w4 b4 HF HS; replace HS := Bx.mk HS
 refine wl_as HF rfl rfl rfl rfl rfl ?_; clear HF a; intro a HF
 refine wl_ne ?_
 refine wp_sr ?_
 refine wl_y rfl HF rfl rfl (yl_loadR (cs := [.slice a0 ps.length c0]) rfl (HF.ev rfl) ((HS.out.box 3 rfl).sub 0 1) (by kernel_rfl)) ?_; clear HF a; intro a HF
 refine wl_y rfl HF rfl rfl (yl_makeFunc HF rfl (cs := #[.pointer (some ⟨b2, 0, none⟩), .pointer (some ⟨b3, 0, none⟩)]) rfl) ?_; clear HF a; intro a HF
 replace HS : Bx (St w0 ([boxA b2 1 3 (.agg #[.int .i64 (m : Int)]), boxA b3 1 9 (.agg #[.string t]), boxA b4 1 34 (.agg #[.slice none 0 0]), boxA b1 1 34 (.agg #[.slice a0 ps.length c0])]) _) := ⟨((HS.out).pick 1 rfl).pick 2 rfl⟩
 refine wl_call rfl HF rfl (enter_of Tryz.func75 (by kernel_rfl) rfl) (args := #[.agg #[.slice a0 ps.length c0], .func (.func 76) #[] #[.pointer (some ⟨b2, 0, none⟩), .pointer (some ⟨b3, 0, none⟩)]]) rfl (each_any w0 _ a0 c0 ps 76 #[.pointer (some ⟨b2, 0, none⟩), .pointer (some ⟨b3, 0, none⟩)] (stepPut (m : Int) (fun _ => t) (fun _ => true)) (fun _ => [boxA b2 1 3 (.agg #[.int .i64 (m : Int)]), boxA b3 1 9 (.agg #[.string t])]) [boxA b4 1 34 (.agg #[.slice none 0 0]), boxA b1 1 34 (.agg #[.slice a0 ps.length c0])] hl (enter_of Tryz.func76 (by kernel_rfl) rfl) hp.1 (fun k hk w X _ hS => writeRow1_any w0 w b2 b3 m hm ps k (h3.2 k (by omega)) (hf.at k) (hp.at k hk) t ht X hS) HS.out) rfl rfl ?_
 rintro _ w5 (⟨hev, rfl, hs⟩ | ⟨ao, cp, qs, hev, rfl, hs⟩)
 ·skip
  refine ⟨_, rfl, ?_⟩; replace HS := Bx.mk (hs); clear hs HF; clear a; intro a HF
  replace HS : Bx (St w0 ([boxA b4 1 34 (.agg #[.slice none 0 0]), boxA b1 1 34 (.agg #[.slice a0 ps.length c0])]) _) := ⟨HS.out⟩
  refine wl_y rfl HF rfl rfl (yl_extract rfl (HF.ev rfl) rfl) ?_; clear HF a; intro a HF
  refine wl_y rfl HF rfl rfl (yl_extract rfl (HF.ev rfl) rfl) ?_; clear HF a; intro a HF
  refine wl_storeBox rfl HF rfl rfl (HF.ev rfl) (HF.ev rfl) HS.out 0 rfl (cells_lit [.slice none 0 0] rfl rfl) (by kernel_rfl) ?_; clear HS; intro w6 HS; replace HS := Bx.mk HS
  have HS : Bx (St w0 ([boxA b4 1 34 (.agg #[.slice none 0 0]), boxA b1 1 34 (.agg #[.slice a0 ps.length c0])]) _) := HS
  refine wl_as HF rfl rfl rfl rfl rfl ?_; clear HF a; intro a HF
  refine wl_ne ?_
  refine wp_ret ?_
  refine bp_ret2 HF Tryz.results37 (HF.resBox rfl (HS.out.box 0 rfl) (by kernel_rfl)) (HF.res rfl) ?_
  rw [h3.1] at hev
  exact .inl ⟨hev, rfl, ((HS.out.erase 1).erase 0)⟩
 ·skip
  refine ⟨_, rfl, ?_⟩; replace HS := Bx.mk (hs); clear hs HF; clear a; intro a HF
  replace HS : Bx (St w0 ([rowA HD.cells 3 94 (.slice ao qs.length cp) qs, sepA (qs.map HD.asr), boxA b2 1 3 (.agg #[.int .i64 (m : Int)]), boxA b3 1 9 (.agg #[.string t]), boxA b4 1 34 (.agg #[.slice none 0 0]), boxA b1 1 34 (.agg #[.slice a0 ps.length c0])]) _) := ⟨HS.out⟩
  refine wl_y rfl HF rfl rfl (yl_extract rfl (HF.ev rfl) rfl) ?_; clear HF a; intro a HF
  refine wl_y rfl HF rfl rfl (yl_extract rfl (HF.ev rfl) rfl) ?_; clear HF a; intro a HF
  refine wl_storeBox rfl HF rfl rfl (HF.ev rfl) (HF.ev rfl) HS.out 4 rfl (cells_lit [.slice ao qs.length cp] rfl rfl) (by kernel_rfl) ?_; clear HS; intro w7 HS; replace HS := Bx.mk HS
  have HS : Bx (St w0 ([rowA HD.cells 3 94 (.slice ao qs.length cp) qs, sepA (qs.map HD.asr), boxA b2 1 3 (.agg #[.int .i64 (m : Int)]), boxA b3 1 9 (.agg #[.string t]), boxA b4 1 34 (.agg #[.slice ao qs.length cp]), boxA b1 1 34 (.agg #[.slice a0 ps.length c0])]) _) := HS
  refine wl_as HF rfl rfl rfl rfl rfl ?_; clear HF a; intro a HF
  refine wl_ne ?_
  refine wp_ret ?_
  refine bp_ret2 HF Tryz.results37 (HF.resBox rfl (HS.out.box 4 rfl) (by kernel_rfl)) (HF.res rfl) ?_
  rw [h3.1] at hev
  replace HS : Bx (St w0 ([rowA HD.cells 3 94 (.slice ao qs.length cp) qs, sepA (qs.map HD.asr), boxA b2 1 3 (.agg #[.int .i64 (m : Int)]), boxA b3 1 9 (.agg #[.string t]), boxA b4 1 34 (.agg #[.slice ao qs.length cp]), boxA b1 1 34 (.agg #[.slice a0 ps.length c0])]) _) := ⟨((HS.out).pick 1 rfl).pick 1 rfl⟩
  exact .inr ⟨_, _, qs, hev, rfl, ((((HS.out.erase 5).erase 4).erase 3).erase 2)⟩

theorem l22Same_any (w0 w : World) (ga ca : Nat) (qs : List HD) (F : List Asr) (row : Int) (hr0 : 0 ≤ row) (hr1 : row < 64) (t : ByteArray) (ht : t.size ≤ 2048) (hok : okR (dsOf qs) = true) (hql : qs.length = 3) (hS : St w0 (rowA HD.cells 3 94 (.slice (some ⟨ga, 0, none⟩) qs.length ca) qs :: sepA (qs.map HD.asr) :: F) w) : Calls Tryz.prog 30 #[.agg #[.slice (some ⟨ga, 0, none⟩) qs.length ca], .int .i64 row, .string t] w fun e w' => (sameF (dsOf qs) row t = none ∧ e = .returned (.tuple #[.agg #[.slice none 0 0], .bool false]) ∧ St w0 F w') ∨ (∃ zs, sameF (dsOf qs) row t = some (dsOf zs) ∧ zs.length = qs.length ∧ e = .returned (.tuple #[.agg #[.slice (some ⟨ga, 0, none⟩) qs.length ca], .bool true]) ∧ St w0 (rowA HD.cells 3 94 (.slice (some ⟨ga, 0, none⟩) qs.length ca) zs :: sepA (zs.map HD.asr) :: F) w') := by
 obtain ⟨m, rfl⟩ : ∃ m : Nat, row = (m : Int) := ⟨row.toNat, by omega⟩; have hm : m < 64 := by omega
 have HS := Bx.mk hS; clear hS
 refine wc_enter Tryz.func30 rfl Tryz.ntmps30 [(0, .agg #[.slice (some ⟨ga, 0, none⟩) qs.length ca]), (1, .int .i64 (m : Int)), (2, .string t)] ⟨rfl, rfl, rfl, trivial⟩ rfl ?_; intro a HF
 refine wp_sr ?_
 refine wl_box rfl HF rfl (HF.ev rfl) (Z := [.slice (some ⟨ga, 0, none⟩) qs.length ca]) rfl rfl rfl rfl HS.out ?_; clear HF HS a; intro a w1 b1 HF HS; replace HS := Bx.mk HS
 refine wl_alloc rfl HF rfl rfl rfl (Z := [.slice none 0 0]) (by kernel_rfl) rfl HS.out ?_; clear HF HS a; intro a w2 b2 HF HS; replace HS := Bx.mk HS
 refine wl_as HF rfl rfl rfl rfl rfl ?_; clear HF a; intro a HF
 refine wl_ne ?_
 refine wp_sr ?_
 refine wl_y rfl HF rfl rfl (yl_loadR (cs := [.slice (some ⟨ga, 0, none⟩) qs.length ca]) rfl (HF.ev rfl) ((HS.out.box 1 rfl).sub 0 1) (by kernel_rfl)) ?_; clear HF a; intro a HF
 refine wl_mv HF rfl rfl rfl rfl rfl ?_; clear HF a; intro a HF
 refine wl_mv HF rfl rfl rfl rfl rfl ?_; clear HF a; intro a HF
 refine wl_mv HF rfl rfl rfl rfl rfl ?_; clear HF a; intro a HF
 refine wl_mv HF rfl rfl rfl rfl rfl ?_; clear HF a; intro a HF
 refine wl_buildS (enc := encS) (e := 9) (size := 1) rfl HF rfl rfl rfl (ps := [(0, .string t), (1, .string t), (2, .string t)]) rfl (cells := [.string t, .string t, .string t]) (by kernel_rfl) [t, t, t] rfl rfl (by unfold maxLen; omega) rfl HS.out ?_; clear HF HS a; intro b3 a w3 HF HS; replace HS := Bx.mk HS
 refine wl_buildS (enc := encL) (e := 4) (size := 1) rfl HF rfl rfl rfl (ps := [(0, .bool true), (1, .bool true), (2, .bool true)]) rfl (cells := [.bool true, .bool true, .bool true]) (by kernel_rfl) [true, true, true] rfl rfl (by unfold maxLen; omega) rfl HS.out ?_; clear HF HS a; intro b4 a w4 HF HS; replace HS := Bx.mk HS
 replace HS : Bx (St w0 (rowA HD.cells 3 94 (.slice (some ⟨ga, 0, none⟩) qs.length ca) qs :: sepA (qs.map HD.asr) :: rowA encS 1 9 (.slice (some ⟨b3, 0, none⟩) 3 3) ([t, t, t]) :: rowA encL 1 4 (.slice (some ⟨b4, 0, none⟩) 3 3) ([true, true, true]) :: boxA b2 1 34 (.agg #[.slice none 0 0]) :: boxA b1 1 34 (.agg #[.slice (some ⟨ga, 0, none⟩) qs.length ca]) :: F) _) := ⟨((((HS.out).pick 0 rfl).pick 1 rfl).pick 5 rfl).pick 5 rfl⟩
 have hcong : eachTo (stepPut (m : Int) (fun i => [t, t, t].getD i ByteArray.empty) (fun i => [true, true, true].getD i false)) (dsOf qs) qs.length = sameF (dsOf qs) (m : Int) t := by unfold sameF; rw [hql]; exact eachTo_congr fun k hk => by rcases (by omega : k = 0 ∨ k = 1 ∨ k = 2) with rfl | rfl | rfl <;> rfl
 refine wl_call rfl HF rfl (enter_of Tryz.func63 (by kernel_rfl) rfl) (args := #[.agg #[.slice (some ⟨ga, 0, none⟩) qs.length ca], .int .i64 (m : Int), .slice (some ⟨b3, 0, none⟩) 3 3, .slice (some ⟨b4, 0, none⟩) 3 3]) rfl (by have := l4Put_any w0 _ ga ca b3 3 b4 3 qs (m : Int) [t, t, t] [true, true, true] _ (by omega) (by rw [hql]; exact Nat.le_refl 3) (by rw [hql]; exact Nat.le_refl 3) (fun k => by have h9 := waits_small (qs := qs) hok k; omega) (fun i => by rcases (by omega : i = 0 ∨ i = 1 ∨ i = 2 ∨ 3 ≤ i) with rfl | rfl | rfl | h <;> first | (show t.size ≤ _; omega) | (rw [List.getD_eq_getElem?_getD, List.getElem?_eq_none (by simpa using h)]; exact Nat.zero_le _)) HS.out; rw [hcong] at this; exact this) rfl rfl ?_
 rintro _ w5 (⟨hev, rfl, hs⟩ | ⟨zs, hev, rfl, hs⟩)
 ·skip
  refine ⟨_, rfl, ?_⟩; replace HS := Bx.mk (hs); clear hs HF; clear a; intro a HF
  replace HS : Bx (St w0 (rowA encS 1 9 (.slice (some ⟨b3, 0, none⟩) 3 3) ([t, t, t]) :: rowA encL 1 4 (.slice (some ⟨b4, 0, none⟩) 3 3) ([true, true, true]) :: boxA b2 1 34 (.agg #[.slice none 0 0]) :: boxA b1 1 34 (.agg #[.slice (some ⟨ga, 0, none⟩) qs.length ca]) :: F) _) := ⟨HS.out⟩
  refine wl_y rfl HF rfl rfl (yl_extract rfl (HF.ev rfl) rfl) ?_; clear HF a; intro a HF
  refine wl_y rfl HF rfl rfl (yl_extract rfl (HF.ev rfl) rfl) ?_; clear HF a; intro a HF
  refine wl_storeBox rfl HF rfl rfl (HF.ev rfl) (HF.ev rfl) HS.out 2 rfl (cells_lit [.slice none 0 0] rfl rfl) (by kernel_rfl) ?_; clear HS; intro w6 HS; replace HS := Bx.mk HS
  have HS : Bx (St w0 (rowA encS 1 9 (.slice (some ⟨b3, 0, none⟩) 3 3) ([t, t, t]) :: rowA encL 1 4 (.slice (some ⟨b4, 0, none⟩) 3 3) ([true, true, true]) :: boxA b2 1 34 (.agg #[.slice none 0 0]) :: boxA b1 1 34 (.agg #[.slice (some ⟨ga, 0, none⟩) qs.length ca]) :: F) _) := HS
  refine wl_as HF rfl rfl rfl rfl rfl ?_; clear HF a; intro a HF
  refine wl_ne ?_
  refine wp_ret ?_
  refine bp_ret2 HF Tryz.results30 (HF.resBox rfl (HS.out.box 2 rfl) (by kernel_rfl)) (HF.res rfl) ?_
  exact .inl ⟨hev, rfl, ((((HS.out.erase 3).erase 2).erase 1).erase 0)⟩
 ·skip
  refine ⟨_, rfl, ?_⟩; replace HS := Bx.mk (hs); clear hs HF; clear a; intro a HF
  replace HS : Bx (St w0 (rowA HD.cells 3 94 (.slice (some ⟨ga, 0, none⟩) qs.length ca) zs :: sepA (zs.map HD.asr) :: rowA encS 1 9 (.slice (some ⟨b3, 0, none⟩) 3 3) ([t, t, t]) :: rowA encL 1 4 (.slice (some ⟨b4, 0, none⟩) 3 3) ([true, true, true]) :: boxA b2 1 34 (.agg #[.slice none 0 0]) :: boxA b1 1 34 (.agg #[.slice (some ⟨ga, 0, none⟩) qs.length ca]) :: F) _) := ⟨HS.out⟩
  refine wl_y rfl HF rfl rfl (yl_extract rfl (HF.ev rfl) rfl) ?_; clear HF a; intro a HF
  refine wl_y rfl HF rfl rfl (yl_extract rfl (HF.ev rfl) rfl) ?_; clear HF a; intro a HF
  refine wl_storeBox rfl HF rfl rfl (HF.ev rfl) (HF.ev rfl) HS.out 4 rfl (cells_lit [.slice (some ⟨ga, 0, none⟩) qs.length ca] rfl rfl) (by kernel_rfl) ?_; clear HS; intro w7 HS; replace HS := Bx.mk HS
  have HS : Bx (St w0 (rowA HD.cells 3 94 (.slice (some ⟨ga, 0, none⟩) qs.length ca) zs :: sepA (zs.map HD.asr) :: rowA encS 1 9 (.slice (some ⟨b3, 0, none⟩) 3 3) ([t, t, t]) :: rowA encL 1 4 (.slice (some ⟨b4, 0, none⟩) 3 3) ([true, true, true]) :: boxA b2 1 34 (.agg #[.slice (some ⟨ga, 0, none⟩) qs.length ca]) :: boxA b1 1 34 (.agg #[.slice (some ⟨ga, 0, none⟩) qs.length ca]) :: F) _) := HS
  refine wl_as HF rfl rfl rfl rfl rfl ?_; clear HF a; intro a HF
  refine wl_ne ?_
  refine wp_ret ?_
  refine bp_ret2 HF Tryz.results30 (HF.resBox rfl (HS.out.box 4 rfl) (by kernel_rfl)) (HF.res rfl) ?_
  replace HS : Bx (St w0 (rowA HD.cells 3 94 (.slice (some ⟨ga, 0, none⟩) qs.length ca) zs :: sepA (zs.map HD.asr) :: rowA encS 1 9 (.slice (some ⟨b3, 0, none⟩) 3 3) ([t, t, t]) :: rowA encL 1 4 (.slice (some ⟨b4, 0, none⟩) 3 3) ([true, true, true]) :: boxA b2 1 34 (.agg #[.slice (some ⟨ga, 0, none⟩) qs.length ca]) :: boxA b1 1 34 (.agg #[.slice (some ⟨ga, 0, none⟩) qs.length ca]) :: F) _) := ⟨((HS.out).pick 1 rfl).pick 1 rfl⟩
  have hzl : zs.length = qs.length := by have h8 := hev; unfold sameF at h8; rw [← dsOf_len, eachTo_len h8, hql]
  exact .inr ⟨zs, hev, hzl, rfl, ((((HS.out.erase 5).erase 4).erase 3).erase 2)⟩

theorem implRootWrite_any (a0 : Option Addr) (c0 : Nat) (ps : List HD) (w0 : World) (hl : ps.length ≤ 1048576) (hf : fitsL ps) (hp : rdsP a0 ps w0) (hT : TabP w0) (x : RootD) : Calls Tryz.prog 11 #[.agg #[.slice a0 ps.length c0], .agg #[.int .i64 x.fTxg, .int .i64 x.fMeta.fRoot.fAt, .int .i64 x.fMeta.fRoot.fBirth, .int .i64 x.fMeta.fRoot.fSize, .int .i64 x.fMeta.fRoot.fSum, .int .i64 x.fMeta.fRoot.fLevel, .int .i64 x.fMeta.fDepth, .int .i64 x.fMeta.fMany]] w0 fun e w' => (rootF (dsOf ps) x = none ∧ e = .returned (.tuple #[.agg #[.slice none 0 0], .bool false]) ∧ St w0 [] w') ∨ (∃ ao cp qs, rootF (dsOf ps) x = some (dsOf qs) ∧ e = .returned (.tuple #[.agg #[.slice ao qs.length cp], .bool true]) ∧ St w0 [rowA HD.cells 3 94 (.slice ao qs.length cp) qs, sepA (qs.map HD.asr)] w') := by
 have HT := Bx.mk hT; clear hT
 have HS := Bx.mk (St.start w0)
 refine wc_enter Tryz.func11 rfl Tryz.ntmps11 [(0, .agg #[.slice a0 ps.length c0]), (1, .agg #[.int .i64 x.fTxg, .int .i64 x.fMeta.fRoot.fAt, .int .i64 x.fMeta.fRoot.fBirth, .int .i64 x.fMeta.fRoot.fSize, .int .i64 x.fMeta.fRoot.fSum, .int .i64 x.fMeta.fRoot.fLevel, .int .i64 x.fMeta.fDepth, .int .i64 x.fMeta.fMany])] ⟨rfl, rfl, trivial⟩ rfl ?_; intro a HF
 refine wp_sr ?_
 refine wl_box rfl HF rfl (HF.ev rfl) (Z := [.slice a0 ps.length c0]) rfl rfl rfl rfl HS.out ?_; clear HF HS a; intro a w1 b1 HF HS; replace HS := Bx.mk HS
 refine wl_box rfl HF rfl (HF.ev rfl) (Z := [.int .i64 x.fTxg, .int .i64 x.fMeta.fRoot.fAt, .int .i64 x.fMeta.fRoot.fBirth, .int .i64 x.fMeta.fRoot.fSize, .int .i64 x.fMeta.fRoot.fSum, .int .i64 x.fMeta.fRoot.fLevel, .int .i64 x.fMeta.fDepth, .int .i64 x.fMeta.fMany]) rfl rfl rfl rfl HS.out ?_; clear HF HS a; intro a w2 b2 HF HS; replace HS := Bx.mk HS
 refine wl_alloc rfl HF rfl rfl rfl (Z := [.slice none 0 0]) (by kernel_rfl) rfl HS.out ?_; clear HF HS a; intro a w3 b3 HF HS; replace HS := Bx.mk HS
 refine wl_as HF rfl rfl rfl rfl rfl ?_; clear HF a; intro a HF
 refine wl_ne ?_
 refine wp_seq ?_
 refine wp_sr ?_
 refine wl_y rfl HF rfl rfl (yl_loadR (cs := [.slice a0 ps.length c0]) rfl (HF.ev rfl) ((HS.out.box 2 rfl).sub 0 1) (by kernel_rfl)) ?_; clear HF a; intro a HF
 refine wl_callB rfl HF rfl (enter_of Tryz.func35 (by kernel_rfl) rfl) (args := #[.agg #[.slice a0 ps.length c0]]) rfl (v := .bool (okR (dsOf ps))) (implRaidOk_any a0 c0 ps _ hl hf.at (hp.1.below HS.out.bel) (fun k hk => (hp.at k hk).below HS.out.bel)) rfl rfl HS.out ?_; clear HF HS a; intro w4 a HS HF; replace HS := Bx.mk HS
 refine wl_y rfl HF rfl rfl (yl_not rfl (HF.ev rfl)) ?_; clear HF a; intro a HF
 refine wl_mv HF rfl rfl rfl rfl rfl ?_; clear HF a; intro a HF
 refine HF.cases 9 rfl (fun cc1 HF1 => ?_) (fun cc1 HF1 => ?_)
 ·clear HF; have HF := HF1; clear HF1
  have hok : okR (dsOf ps) = false := by simpa using cc1
  refine wl_skip HF rfl rfl rfl rfl rfl rfl ?_; clear HF a; intro a HF
  refine wl_skip HF rfl rfl rfl rfl rfl rfl ?_; clear HF a; intro a HF
  refine wl_skip HF rfl rfl rfl rfl rfl rfl ?_; clear HF a; intro a HF
  refine wl_y rfl HF rfl rfl (yl_pick_t rfl (HF.ev rfl) (HF.ev rfl)) ?_; clear HF a; intro a HF
  refine wl_ne ?_
  refine wc_true HF rfl ?_
  refine wp_sr ?_
  refine wl_y rfl HF rfl rfl (yl_build HF rfl (ps := []) rfl (cs := #[.slice none 0 0]) (by kernel_rfl)) ?_; clear HF a; intro a HF
  refine wl_storeBox rfl HF rfl rfl (HF.ev rfl) (HF.ev rfl) HS.out 0 rfl (cells_lit [.slice none 0 0] rfl rfl) (by kernel_rfl) ?_; clear HS; intro w5 HS; replace HS := Bx.mk HS
  have HS : Bx (St w0 ([boxA b3 1 34 (.agg #[.slice none 0 0]), boxA b2 8 42 (.agg #[.int .i64 x.fTxg, .int .i64 x.fMeta.fRoot.fAt, .int .i64 x.fMeta.fRoot.fBirth, .int .i64 x.fMeta.fRoot.fSize, .int .i64 x.fMeta.fRoot.fSum, .int .i64 x.fMeta.fRoot.fLevel, .int .i64 x.fMeta.fDepth, .int .i64 x.fMeta.fMany]), boxA b1 1 34 (.agg #[.slice a0 ps.length c0])]) _) := HS
  refine wl_as HF rfl rfl rfl rfl rfl ?_; clear HF a; intro a HF
  refine wl_ne ?_
  refine wp_ret ?_
  refine ex_then_ret ?_
  refine bp_ret2 HF Tryz.results11 (HF.resBox rfl (HS.out.box 0 rfl) (by kernel_rfl)) (HF.res rfl) ?_
  exact .inl ⟨rootF_no (by rw [hok] <;> simp), rfl, (((HS.out.erase 2).erase 1).erase 0)⟩
 ·clear HF; have HF := HF1; clear HF1
  have hok : okR (dsOf ps) = true := by simpa using cc1
  refine wl_yg HF rfl rfl rfl rfl rfl (yl_loadR (cs := [.int .i64 x.fTxg, .int .i64 x.fMeta.fRoot.fAt, .int .i64 x.fMeta.fRoot.fBirth, .int .i64 x.fMeta.fRoot.fSize, .int .i64 x.fMeta.fRoot.fSum, .int .i64 x.fMeta.fRoot.fLevel, .int .i64 x.fMeta.fDepth, .int .i64 x.fMeta.fMany]) rfl (HF.ev rfl) ((HS.out.box 1 rfl).sub 0 8) (by kernel_rfl)) ?_; clear HF a; intro a HF
  refine wl_callBg HF rfl rfl rfl rfl (enter_of Tryz.func36 (by kernel_rfl) rfl) (args := #[.agg #[.int .i64 x.fTxg, .int .i64 x.fMeta.fRoot.fAt, .int .i64 x.fMeta.fRoot.fBirth, .int .i64 x.fMeta.fRoot.fSize, .int .i64 x.fMeta.fRoot.fSum, .int .i64 x.fMeta.fRoot.fLevel, .int .i64 x.fMeta.fDepth, .int .i64 x.fMeta.fMany]]) rfl (v := .bool x.ok) (implRootOk_any x _) rfl rfl HS.out ?_; clear HF HS a; intro w6 a HS HF; replace HS := Bx.mk HS
  refine wl_yg HF rfl rfl rfl rfl rfl (yl_not rfl (HF.ev rfl)) ?_; clear HF a; intro a HF
  refine wl_y rfl HF rfl rfl (yl_pick_f rfl (HF.ev rfl) (HF.ev rfl)) ?_; clear HF a; intro a HF
  refine wl_ne ?_
  refine HF.cases 13 rfl (fun cc2 HF1 => ?_) (fun cc2 HF1 => ?_)
  ·clear HF; have HF := HF1; clear HF1
   have hxk : x.ok = false := by simpa using cc2
   refine wc_true HF rfl ?_
   refine wp_sr ?_
   refine wl_y rfl HF rfl rfl (yl_build HF rfl (ps := []) rfl (cs := #[.slice none 0 0]) (by kernel_rfl)) ?_; clear HF a; intro a HF
   refine wl_storeBox rfl HF rfl rfl (HF.ev rfl) (HF.ev rfl) HS.out 0 rfl (cells_lit [.slice none 0 0] rfl rfl) (by kernel_rfl) ?_; clear HS; intro w7 HS; replace HS := Bx.mk HS
   have HS : Bx (St w0 ([boxA b3 1 34 (.agg #[.slice none 0 0]), boxA b2 8 42 (.agg #[.int .i64 x.fTxg, .int .i64 x.fMeta.fRoot.fAt, .int .i64 x.fMeta.fRoot.fBirth, .int .i64 x.fMeta.fRoot.fSize, .int .i64 x.fMeta.fRoot.fSum, .int .i64 x.fMeta.fRoot.fLevel, .int .i64 x.fMeta.fDepth, .int .i64 x.fMeta.fMany]), boxA b1 1 34 (.agg #[.slice a0 ps.length c0])]) _) := HS
   refine wl_as HF rfl rfl rfl rfl rfl ?_; clear HF a; intro a HF
   refine wl_ne ?_
   refine wp_ret ?_
   refine ex_then_ret ?_
   refine bp_ret2 HF Tryz.results11 (HF.resBox rfl (HS.out.box 0 rfl) (by kernel_rfl)) (HF.res rfl) ?_
   exact .inl ⟨rootF_no (by rw [hok, hxk] <;> simp), rfl, (((HS.out.erase 2).erase 1).erase 0)⟩
  ·clear HF; have HF := HF1; clear HF1
   have hxk : x.ok = true := by simpa using cc2
   refine wc_false HF rfl ?_
   refine wp_skip ?_
   refine ex_then ?_
   refine wp_seq ?_
   have htx := RootD.ok_txg hxk; have hrl := rootB_le x; have h3 := okR_three hok; have hmd : x.fTxg % 4 = x.fTxg % (4 : Int) := rfl; have hm0 : 0 ≤ x.fTxg % 4 := (by omega); have hm1 : x.fTxg % 4 < 64 := (by omega)
   refine wr_heldS (s := [boxA b2 8 42 (.agg #[.int .i64 x.fTxg, .int .i64 x.fMeta.fRoot.fAt, .int .i64 x.fMeta.fRoot.fBirth, .int .i64 x.fMeta.fRoot.fSize, .int .i64 x.fMeta.fRoot.fSum, .int .i64 x.fMeta.fRoot.fLevel, .int .i64 x.fMeta.fDepth, .int .i64 x.fMeta.fMany]), boxA b1 1 34 (.agg #[.slice a0 ps.length c0])]) (by kernel_rfl) (St.drew ((HS.out.erase 0))) ?_
   have HS2 := Bx.mk HS.out.drew; replace HS := Bx.mk (show St w0 ([boxA b2 8 42 (.agg #[.int .i64 x.fTxg, .int .i64 x.fMeta.fRoot.fAt, .int .i64 x.fMeta.fRoot.fBirth, .int .i64 x.fMeta.fRoot.fSize, .int .i64 x.fMeta.fRoot.fSum, .int .i64 x.fMeta.fRoot.fLevel, .int .i64 x.fMeta.fDepth, .int .i64 x.fMeta.fMany]), boxA b1 1 34 (.agg #[.slice a0 ps.length c0])]) _ from (HS.out.drew.erase 0))
   generalize World.drew _ = w8 at HS HS2 ⊢
   refine wh_y 0 rfl (by kernel_rfl) (by kernel_rfl) (by kernel_rfl) (fun _ _ _ h => h) rfl HF rfl rfl (fun _ HS => (yl_loadR (cs := [.slice a0 ps.length c0]) rfl (HF.ev rfl) ((HS.box 1 rfl).sub 0 1) (by kernel_rfl))) HS.out ?_; clear HF a; intro a HF
   refine wh_y 1 rfl (by kernel_rfl) (by kernel_rfl) (by kernel_rfl) (fun _ _ _ h => h) rfl HF rfl rfl (fun _ HS => (yl_fieldAddr (j := 0) rfl (HF.ev rfl) (by kernel_rfl))) HS.out ?_; clear HF a; intro a HF
   refine wh_y 2 rfl (by kernel_rfl) (by kernel_rfl) (by kernel_rfl) (fun _ _ _ h => h) rfl HF rfl rfl (fun _ HS => (yl_load (v := .int .i64 x.fTxg) rfl (HF.ev rfl) (((HS.box 0 rfl).cell 0).trans rfl) (by kernel_rfl))) HS.out ?_; clear HF a; intro a HF
   refine wh_y 3 rfl (by kernel_rfl) (by kernel_rfl) (by kernel_rfl) (fun _ _ _ h => h) rfl HF rfl rfl (fun _ HS => (yl_remI rfl (HF.ev rfl) (HF.ev rfl) (by omega) (rem_pos (by omega) (by omega)))) HS.out ?_; clear HF a; intro a HF
   refine wh_y 4 rfl (by kernel_rfl) (by kernel_rfl) (by kernel_rfl) (fun _ _ _ h => h) rfl HF rfl rfl (fun _ HS => (yl_loadR (cs := [.int .i64 x.fTxg, .int .i64 x.fMeta.fRoot.fAt, .int .i64 x.fMeta.fRoot.fBirth, .int .i64 x.fMeta.fRoot.fSize, .int .i64 x.fMeta.fRoot.fSum, .int .i64 x.fMeta.fRoot.fLevel, .int .i64 x.fMeta.fDepth, .int .i64 x.fMeta.fMany]) rfl (HF.ev rfl) ((HS.box 0 rfl).sub 0 8) (by kernel_rfl))) HS.out ?_; clear HF a; intro a HF
   refine wh_one 5 (by kernel_rfl) ?_
   refine wo_callB rfl rfl HF rfl (enter_of Tryz.func38 (by kernel_rfl) rfl) (args := #[.agg #[.int .i64 x.fTxg, .int .i64 x.fMeta.fRoot.fAt, .int .i64 x.fMeta.fRoot.fBirth, .int .i64 x.fMeta.fRoot.fSize, .int .i64 x.fMeta.fRoot.fSum, .int .i64 x.fMeta.fRoot.fLevel, .int .i64 x.fMeta.fDepth, .int .i64 x.fMeta.fMany]]) rfl (v := .string (rootB x)) (implRootPut_any x _ (HT.out.below HS2.out.bel)) rfl rfl ?_
   intro w9 hb; replace HS := Bx.mk (HS.out.later hb); replace HS2 := Bx.mk (HS2.out.later hb); clear hb HF; clear a; intro a HF; refine ⟨HS.out, ?_⟩
   refine wh_one 6 (by kernel_rfl) ?_
   refine wo_call rfl rfl HF rfl (enter_of Tryz.func37 (by kernel_rfl) rfl) (args := #[.agg #[.slice a0 ps.length c0], .int .i64 (x.fTxg % 4), .string (rootB x)]) rfl (writeRow_any a0 c0 ps _ hl hf ⟨hp.1.below HS2.out.bel, fun p hm => (hp.2 p hm).below HS2.out.bel⟩ (x.fTxg % (4 : Int)) hm0 hm1 (rootB x) hrl hok) rfl rfl ?_
   rintro _ w11 (⟨hev, rfl, hs⟩ | ⟨ao, cp, qs, hev, rfl, hs⟩)
   ·skip
    refine ⟨_, rfl, ?_⟩; replace HS := Bx.mk (HS.out.later hs.bel); replace HS2 := Bx.mk (HS2.out.add hs); clear hs HF; clear a; intro a HF
    replace HS2 : Bx (St w0 ([boxA b3 1 34 (.agg #[.slice none 0 0]), boxA b2 8 42 (.agg #[.int .i64 x.fTxg, .int .i64 x.fMeta.fRoot.fAt, .int .i64 x.fMeta.fRoot.fBirth, .int .i64 x.fMeta.fRoot.fSize, .int .i64 x.fMeta.fRoot.fSum, .int .i64 x.fMeta.fRoot.fLevel, .int .i64 x.fMeta.fDepth, .int .i64 x.fMeta.fMany]), boxA b1 1 34 (.agg #[.slice a0 ps.length c0])]) _) := ⟨HS2.out⟩; refine ⟨HS.out, ?_⟩
    refine wh_y 7 rfl (by kernel_rfl) (by kernel_rfl) (by kernel_rfl) (fun _ _ _ h => h) rfl HF rfl rfl (fun _ HS => (yl_extract rfl (HF.ev rfl) rfl)) HS.out ?_; clear HF a; intro a HF
    refine wh_y 8 rfl (by kernel_rfl) (by kernel_rfl) (by kernel_rfl) (fun _ _ _ h => h) rfl HF rfl rfl (fun _ HS => (yl_extract rfl (HF.ev rfl) rfl)) HS.out ?_; clear HF a; intro a HF
    refine wh_one 9 (by kernel_rfl) ?_
    refine wo_storeBox rfl rfl rfl rfl (HF.ev rfl) (HF.ev rfl) HS2.out 0 rfl (cells_lit [.slice none 0 0] rfl rfl) (by kernel_rfl) ?_
    clear HS HS2; intro w12 HS2; replace HS2 : Bx (St w0 ([boxA b3 1 34 (.agg #[.slice none 0 0]), boxA b2 8 42 (.agg #[.int .i64 x.fTxg, .int .i64 x.fMeta.fRoot.fAt, .int .i64 x.fMeta.fRoot.fBirth, .int .i64 x.fMeta.fRoot.fSize, .int .i64 x.fMeta.fRoot.fSum, .int .i64 x.fMeta.fRoot.fLevel, .int .i64 x.fMeta.fDepth, .int .i64 x.fMeta.fMany]), boxA b1 1 34 (.agg #[.slice a0 ps.length c0])]) _) := ⟨HS2⟩
    have HS : Bx (St w0 ([boxA b2 8 42 (.agg #[.int .i64 x.fTxg, .int .i64 x.fMeta.fRoot.fAt, .int .i64 x.fMeta.fRoot.fBirth, .int .i64 x.fMeta.fRoot.fSize, .int .i64 x.fMeta.fRoot.fSum, .int .i64 x.fMeta.fRoot.fLevel, .int .i64 x.fMeta.fDepth, .int .i64 x.fMeta.fMany]), boxA b1 1 34 (.agg #[.slice a0 ps.length c0])]) _) := ⟨(HS2.out.erase 0)⟩; refine ⟨HS.out, ?_⟩
    refine wh_y 10 rfl (by kernel_rfl) (by kernel_rfl) (by kernel_rfl) (fun _ _ _ h => h) rfl HF rfl rfl (fun _ HS => (yl_assign rfl (HF.ev rfl))) HS.out ?_; clear HF a; intro a HF
    refine wh_done (by kernel_rfl) ?_
    replace HS := HS2; clear HS2
    refine ex_then ?_
    refine wp_ret ?_
    refine bp_ret2 HF Tryz.results11 (HF.resBox rfl (HS.out.box 0 rfl) (by kernel_rfl)) (HF.res rfl) ?_
    exact .inl ⟨by rw [rootF_yes hok hxk]; exact hev, rfl, (((HS.out.erase 2).erase 1).erase 0)⟩
   ·skip
    refine ⟨_, rfl, ?_⟩; replace HS := Bx.mk (HS.out.later hs.bel); replace HS2 := Bx.mk (HS2.out.add hs); clear hs HF; clear a; intro a HF
    replace HS2 : Bx (St w0 ([rowA HD.cells 3 94 (.slice ao qs.length cp) qs, sepA (qs.map HD.asr), boxA b3 1 34 (.agg #[.slice none 0 0]), boxA b2 8 42 (.agg #[.int .i64 x.fTxg, .int .i64 x.fMeta.fRoot.fAt, .int .i64 x.fMeta.fRoot.fBirth, .int .i64 x.fMeta.fRoot.fSize, .int .i64 x.fMeta.fRoot.fSum, .int .i64 x.fMeta.fRoot.fLevel, .int .i64 x.fMeta.fDepth, .int .i64 x.fMeta.fMany]), boxA b1 1 34 (.agg #[.slice a0 ps.length c0])]) _) := ⟨HS2.out⟩; refine ⟨HS.out, ?_⟩
    refine wh_y 7 rfl (by kernel_rfl) (by kernel_rfl) (by kernel_rfl) (fun _ _ _ h => h) rfl HF rfl rfl (fun _ HS => (yl_extract rfl (HF.ev rfl) rfl)) HS.out ?_; clear HF a; intro a HF
    refine wh_y 8 rfl (by kernel_rfl) (by kernel_rfl) (by kernel_rfl) (fun _ _ _ h => h) rfl HF rfl rfl (fun _ HS => (yl_extract rfl (HF.ev rfl) rfl)) HS.out ?_; clear HF a; intro a HF
    refine wh_one 9 (by kernel_rfl) ?_
    refine wo_storeBox rfl rfl rfl rfl (HF.ev rfl) (HF.ev rfl) HS2.out 2 rfl (cells_lit [.slice ao qs.length cp] rfl rfl) (by kernel_rfl) ?_
    clear HS HS2; intro w13 HS2; replace HS2 : Bx (St w0 ([rowA HD.cells 3 94 (.slice ao qs.length cp) qs, sepA (qs.map HD.asr), boxA b3 1 34 (.agg #[.slice ao qs.length cp]), boxA b2 8 42 (.agg #[.int .i64 x.fTxg, .int .i64 x.fMeta.fRoot.fAt, .int .i64 x.fMeta.fRoot.fBirth, .int .i64 x.fMeta.fRoot.fSize, .int .i64 x.fMeta.fRoot.fSum, .int .i64 x.fMeta.fRoot.fLevel, .int .i64 x.fMeta.fDepth, .int .i64 x.fMeta.fMany]), boxA b1 1 34 (.agg #[.slice a0 ps.length c0])]) _) := ⟨HS2⟩
    have HS : Bx (St w0 ([boxA b2 8 42 (.agg #[.int .i64 x.fTxg, .int .i64 x.fMeta.fRoot.fAt, .int .i64 x.fMeta.fRoot.fBirth, .int .i64 x.fMeta.fRoot.fSize, .int .i64 x.fMeta.fRoot.fSum, .int .i64 x.fMeta.fRoot.fLevel, .int .i64 x.fMeta.fDepth, .int .i64 x.fMeta.fMany]), boxA b1 1 34 (.agg #[.slice a0 ps.length c0])]) _) := ⟨(((HS2.out.erase 2).erase 1).erase 0)⟩; refine ⟨HS.out, ?_⟩
    refine wh_y 10 rfl (by kernel_rfl) (by kernel_rfl) (by kernel_rfl) (fun _ _ _ h => h) rfl HF rfl rfl (fun _ HS => (yl_assign rfl (HF.ev rfl))) HS.out ?_; clear HF a; intro a HF
    refine wh_done (by kernel_rfl) ?_
    replace HS := HS2; clear HS2
    refine ex_then ?_
    refine wp_ret ?_
    refine bp_ret2 HF Tryz.results11 (HF.resBox rfl (HS.out.box 2 rfl) (by kernel_rfl)) (HF.res rfl) ?_
    replace HS : Bx (St w0 ([rowA HD.cells 3 94 (.slice ao qs.length cp) qs, sepA (qs.map HD.asr), boxA b3 1 34 (.agg #[.slice ao qs.length cp]), boxA b2 8 42 (.agg #[.int .i64 x.fTxg, .int .i64 x.fMeta.fRoot.fAt, .int .i64 x.fMeta.fRoot.fBirth, .int .i64 x.fMeta.fRoot.fSize, .int .i64 x.fMeta.fRoot.fSum, .int .i64 x.fMeta.fRoot.fLevel, .int .i64 x.fMeta.fDepth, .int .i64 x.fMeta.fMany]), boxA b1 1 34 (.agg #[.slice a0 ps.length c0])]) _) := ⟨((HS.out).pick 1 rfl).pick 1 rfl⟩
    exact .inr ⟨_, _, qs, by rw [rootF_yes hok hxk]; exact hev, rfl, (((HS.out.erase 4).erase 3).erase 2)⟩

theorem specRootWrite_any (a0 : Option Addr) (c0 : Nat) (ps : List HD) (w0 : World) (hl : ps.length ≤ 1048576) (hf : fitsL ps) (hp : rdsP a0 ps w0) (x : RootD) : Calls Tryz.prog 8 #[.agg #[.slice a0 ps.length c0], .agg #[.int .i64 x.fTxg, .int .i64 x.fMeta.fRoot.fAt, .int .i64 x.fMeta.fRoot.fBirth, .int .i64 x.fMeta.fRoot.fSize, .int .i64 x.fMeta.fRoot.fSum, .int .i64 x.fMeta.fRoot.fLevel, .int .i64 x.fMeta.fDepth, .int .i64 x.fMeta.fMany]] w0 fun e w' => (rootF (dsOf ps) x = none ∧ e = .returned (.tuple #[.agg #[.slice none 0 0], .bool false]) ∧ St w0 [] w') ∨ (∃ ao cp qs, rootF (dsOf ps) x = some (dsOf qs) ∧ e = .returned (.tuple #[.agg #[.slice ao qs.length cp], .bool true]) ∧ St w0 [rowA HD.cells 3 94 (.slice ao qs.length cp) qs, sepA (qs.map HD.asr)] w') := by
 have HS := Bx.mk (St.start w0)
 refine wc_enter Tryz.func8 rfl Tryz.ntmps8 [(0, .agg #[.slice a0 ps.length c0]), (1, .agg #[.int .i64 x.fTxg, .int .i64 x.fMeta.fRoot.fAt, .int .i64 x.fMeta.fRoot.fBirth, .int .i64 x.fMeta.fRoot.fSize, .int .i64 x.fMeta.fRoot.fSum, .int .i64 x.fMeta.fRoot.fLevel, .int .i64 x.fMeta.fDepth, .int .i64 x.fMeta.fMany])] ⟨rfl, rfl, trivial⟩ rfl ?_; intro a HF
 refine wp_sr ?_
 refine wl_box rfl HF rfl (HF.ev rfl) (Z := [.slice a0 ps.length c0]) rfl rfl rfl rfl HS.out ?_; clear HF HS a; intro a w1 b1 HF HS; replace HS := Bx.mk HS
 refine wl_box rfl HF rfl (HF.ev rfl) (Z := [.int .i64 x.fTxg, .int .i64 x.fMeta.fRoot.fAt, .int .i64 x.fMeta.fRoot.fBirth, .int .i64 x.fMeta.fRoot.fSize, .int .i64 x.fMeta.fRoot.fSum, .int .i64 x.fMeta.fRoot.fLevel, .int .i64 x.fMeta.fDepth, .int .i64 x.fMeta.fMany]) rfl rfl rfl rfl HS.out ?_; clear HF HS a; intro a w2 b2 HF HS; replace HS := Bx.mk HS
 refine wl_alloc rfl HF rfl rfl rfl (Z := [.slice none 0 0]) (by kernel_rfl) rfl HS.out ?_; clear HF HS a; intro a w3 b3 HF HS; replace HS := Bx.mk HS
 refine wl_as HF rfl rfl rfl rfl rfl ?_; clear HF a; intro a HF
 refine wl_ne ?_
 refine wp_seq ?_
 refine wp_sr ?_
 refine wl_y rfl HF rfl rfl (yl_loadR (cs := [.slice a0 ps.length c0]) rfl (HF.ev rfl) ((HS.out.box 2 rfl).sub 0 1) (by kernel_rfl)) ?_; clear HF a; intro a HF
 refine wl_callB rfl HF rfl (enter_of Tryz.func28 (by kernel_rfl) rfl) (args := #[.agg #[.slice a0 ps.length c0]]) rfl (v := .bool (okR (dsOf ps))) (specRaidOk_any a0 c0 ps _ hl hf.at (hp.1.below HS.out.bel) (fun k hk => (hp.at k hk).below HS.out.bel)) rfl rfl HS.out ?_; clear HF HS a; intro w4 a HS HF; replace HS := Bx.mk HS
 refine wl_y rfl HF rfl rfl (yl_not rfl (HF.ev rfl)) ?_; clear HF a; intro a HF
 refine wl_mv HF rfl rfl rfl rfl rfl ?_; clear HF a; intro a HF
 refine HF.cases 9 rfl (fun cc1 HF1 => ?_) (fun cc1 HF1 => ?_)
 ·clear HF; have HF := HF1; clear HF1
  have hok : okR (dsOf ps) = false := by simpa using cc1
  refine wl_skip HF rfl rfl rfl rfl rfl rfl ?_; clear HF a; intro a HF
  refine wl_skip HF rfl rfl rfl rfl rfl rfl ?_; clear HF a; intro a HF
  refine wl_skip HF rfl rfl rfl rfl rfl rfl ?_; clear HF a; intro a HF
  refine wl_y rfl HF rfl rfl (yl_pick_t rfl (HF.ev rfl) (HF.ev rfl)) ?_; clear HF a; intro a HF
  refine wl_ne ?_
  refine wc_true HF rfl ?_
  refine wp_sr ?_
  refine wl_y rfl HF rfl rfl (yl_build HF rfl (ps := []) rfl (cs := #[.slice none 0 0]) (by kernel_rfl)) ?_; clear HF a; intro a HF
  refine wl_storeBox rfl HF rfl rfl (HF.ev rfl) (HF.ev rfl) HS.out 0 rfl (cells_lit [.slice none 0 0] rfl rfl) (by kernel_rfl) ?_; clear HS; intro w5 HS; replace HS := Bx.mk HS
  have HS : Bx (St w0 ([boxA b3 1 34 (.agg #[.slice none 0 0]), boxA b2 8 42 (.agg #[.int .i64 x.fTxg, .int .i64 x.fMeta.fRoot.fAt, .int .i64 x.fMeta.fRoot.fBirth, .int .i64 x.fMeta.fRoot.fSize, .int .i64 x.fMeta.fRoot.fSum, .int .i64 x.fMeta.fRoot.fLevel, .int .i64 x.fMeta.fDepth, .int .i64 x.fMeta.fMany]), boxA b1 1 34 (.agg #[.slice a0 ps.length c0])]) _) := HS
  refine wl_as HF rfl rfl rfl rfl rfl ?_; clear HF a; intro a HF
  refine wl_ne ?_
  refine wp_ret ?_
  refine ex_then_ret ?_
  refine bp_ret2 HF Tryz.results8 (HF.resBox rfl (HS.out.box 0 rfl) (by kernel_rfl)) (HF.res rfl) ?_
  exact .inl ⟨rootF_no (by rw [hok] <;> simp), rfl, (((HS.out.erase 2).erase 1).erase 0)⟩
 ·clear HF; have HF := HF1; clear HF1
  have hok : okR (dsOf ps) = true := by simpa using cc1
  refine wl_yg HF rfl rfl rfl rfl rfl (yl_loadR (cs := [.int .i64 x.fTxg, .int .i64 x.fMeta.fRoot.fAt, .int .i64 x.fMeta.fRoot.fBirth, .int .i64 x.fMeta.fRoot.fSize, .int .i64 x.fMeta.fRoot.fSum, .int .i64 x.fMeta.fRoot.fLevel, .int .i64 x.fMeta.fDepth, .int .i64 x.fMeta.fMany]) rfl (HF.ev rfl) ((HS.out.box 1 rfl).sub 0 8) (by kernel_rfl)) ?_; clear HF a; intro a HF
  refine wl_callBg HF rfl rfl rfl rfl (enter_of Tryz.func29 (by kernel_rfl) rfl) (args := #[.agg #[.int .i64 x.fTxg, .int .i64 x.fMeta.fRoot.fAt, .int .i64 x.fMeta.fRoot.fBirth, .int .i64 x.fMeta.fRoot.fSize, .int .i64 x.fMeta.fRoot.fSum, .int .i64 x.fMeta.fRoot.fLevel, .int .i64 x.fMeta.fDepth, .int .i64 x.fMeta.fMany]]) rfl (v := .bool x.ok) (specRootOk_any x _) rfl rfl HS.out ?_; clear HF HS a; intro w6 a HS HF; replace HS := Bx.mk HS
  refine wl_yg HF rfl rfl rfl rfl rfl (yl_not rfl (HF.ev rfl)) ?_; clear HF a; intro a HF
  refine wl_y rfl HF rfl rfl (yl_pick_f rfl (HF.ev rfl) (HF.ev rfl)) ?_; clear HF a; intro a HF
  refine wl_ne ?_
  refine HF.cases 13 rfl (fun cc2 HF1 => ?_) (fun cc2 HF1 => ?_)
  ·clear HF; have HF := HF1; clear HF1
   have hxk : x.ok = false := by simpa using cc2
   refine wc_true HF rfl ?_
   refine wp_sr ?_
   refine wl_y rfl HF rfl rfl (yl_build HF rfl (ps := []) rfl (cs := #[.slice none 0 0]) (by kernel_rfl)) ?_; clear HF a; intro a HF
   refine wl_storeBox rfl HF rfl rfl (HF.ev rfl) (HF.ev rfl) HS.out 0 rfl (cells_lit [.slice none 0 0] rfl rfl) (by kernel_rfl) ?_; clear HS; intro w7 HS; replace HS := Bx.mk HS
   have HS : Bx (St w0 ([boxA b3 1 34 (.agg #[.slice none 0 0]), boxA b2 8 42 (.agg #[.int .i64 x.fTxg, .int .i64 x.fMeta.fRoot.fAt, .int .i64 x.fMeta.fRoot.fBirth, .int .i64 x.fMeta.fRoot.fSize, .int .i64 x.fMeta.fRoot.fSum, .int .i64 x.fMeta.fRoot.fLevel, .int .i64 x.fMeta.fDepth, .int .i64 x.fMeta.fMany]), boxA b1 1 34 (.agg #[.slice a0 ps.length c0])]) _) := HS
   refine wl_as HF rfl rfl rfl rfl rfl ?_; clear HF a; intro a HF
   refine wl_ne ?_
   refine wp_ret ?_
   refine ex_then_ret ?_
   refine bp_ret2 HF Tryz.results8 (HF.resBox rfl (HS.out.box 0 rfl) (by kernel_rfl)) (HF.res rfl) ?_
   exact .inl ⟨rootF_no (by rw [hok, hxk] <;> simp), rfl, (((HS.out.erase 2).erase 1).erase 0)⟩
  ·clear HF; have HF := HF1; clear HF1
   have hxk : x.ok = true := by simpa using cc2
   refine wc_false HF rfl ?_
   refine wp_skip ?_
   refine ex_then ?_
   refine wp_seq ?_
   have htx := RootD.ok_txg hxk; have hrl := rootB_le x; have h3 := okR_three hok; have hmd : x.fTxg % 4 = x.fTxg % (4 : Int) := rfl; have hm0 : 0 ≤ x.fTxg % 4 := (by omega); have hm1 : x.fTxg % 4 < 64 := (by omega)
   refine wr_heldS (s := [boxA b2 8 42 (.agg #[.int .i64 x.fTxg, .int .i64 x.fMeta.fRoot.fAt, .int .i64 x.fMeta.fRoot.fBirth, .int .i64 x.fMeta.fRoot.fSize, .int .i64 x.fMeta.fRoot.fSum, .int .i64 x.fMeta.fRoot.fLevel, .int .i64 x.fMeta.fDepth, .int .i64 x.fMeta.fMany]), boxA b1 1 34 (.agg #[.slice a0 ps.length c0])]) (by kernel_rfl) (St.drew ((HS.out.erase 0))) ?_
   have HS2 := Bx.mk HS.out.drew; replace HS := Bx.mk (show St w0 ([boxA b2 8 42 (.agg #[.int .i64 x.fTxg, .int .i64 x.fMeta.fRoot.fAt, .int .i64 x.fMeta.fRoot.fBirth, .int .i64 x.fMeta.fRoot.fSize, .int .i64 x.fMeta.fRoot.fSum, .int .i64 x.fMeta.fRoot.fLevel, .int .i64 x.fMeta.fDepth, .int .i64 x.fMeta.fMany]), boxA b1 1 34 (.agg #[.slice a0 ps.length c0])]) _ from (HS.out.drew.erase 0))
   generalize World.drew _ = w8 at HS HS2 ⊢
   refine wh_y 0 rfl (by kernel_rfl) (by kernel_rfl) (by kernel_rfl) (fun _ _ _ h => h) rfl HF rfl rfl (fun _ HS => (yl_loadR (cs := [.slice a0 ps.length c0]) rfl (HF.ev rfl) ((HS.box 1 rfl).sub 0 1) (by kernel_rfl))) HS.out ?_; clear HF a; intro a HF
   refine wh_y 2 rfl (by kernel_rfl) (by kernel_rfl) (by kernel_rfl) (fun _ _ _ h => h) rfl HF rfl rfl (fun _ HS => (yl_fieldAddr (j := 0) rfl (HF.ev rfl) (by kernel_rfl))) HS.out ?_; clear HF a; intro a HF
   refine wh_y 3 rfl (by kernel_rfl) (by kernel_rfl) (by kernel_rfl) (fun _ _ _ h => h) rfl HF rfl rfl (fun _ HS => (yl_load (v := .int .i64 x.fTxg) rfl (HF.ev rfl) (((HS.box 0 rfl).cell 0).trans rfl) (by kernel_rfl))) HS.out ?_; clear HF a; intro a HF
   refine wh_y 4 rfl (by kernel_rfl) (by kernel_rfl) (by kernel_rfl) (fun _ _ _ h => h) rfl HF rfl rfl (fun _ HS => (yl_remI rfl (HF.ev rfl) (HF.ev rfl) (by omega) (rem_pos (by omega) (by omega)))) HS.out ?_; clear HF a; intro a HF
   refine wh_y 5 rfl (by kernel_rfl) (by kernel_rfl) (by kernel_rfl) (fun _ _ _ h => h) rfl HF rfl rfl (fun _ HS => (yl_loadR (cs := [.int .i64 x.fTxg, .int .i64 x.fMeta.fRoot.fAt, .int .i64 x.fMeta.fRoot.fBirth, .int .i64 x.fMeta.fRoot.fSize, .int .i64 x.fMeta.fRoot.fSum, .int .i64 x.fMeta.fRoot.fLevel, .int .i64 x.fMeta.fDepth, .int .i64 x.fMeta.fMany]) rfl (HF.ev rfl) ((HS.box 0 rfl).sub 0 8) (by kernel_rfl))) HS.out ?_; clear HF a; intro a HF
   refine wh_one 1 (by kernel_rfl) ?_
   refine wo_call rfl rfl HF rfl (enter_of Tryz.func31 (by kernel_rfl) rfl) (args := #[.agg #[.slice a0 ps.length c0]]) rfl (l4Copy_any a0 c0 ps _ hl hf.at (hp.1.below HS2.out.bel) (fun k hk => (hp.at k hk).below HS2.out.bel)) rfl rfl ?_
   rintro _ w10 ⟨ao, cp, qs, rfl, hqd, hs⟩
   have hql : qs.length = 3 := by rw [← dsOf_len, hqd, dsOf_len]; exact h3.1
   refine ⟨_, rfl, ?_⟩; replace HS := Bx.mk (HS.out.later hs.bel); replace HS2 := Bx.mk (HS2.out.add hs); clear hs HF; clear a; intro a HF
   replace HS2 : Bx (St w0 ([rowA HD.cells 3 94 (.slice ao qs.length cp) qs, sepA (qs.map HD.asr), boxA b3 1 34 (.agg #[.slice none 0 0]), boxA b2 8 42 (.agg #[.int .i64 x.fTxg, .int .i64 x.fMeta.fRoot.fAt, .int .i64 x.fMeta.fRoot.fBirth, .int .i64 x.fMeta.fRoot.fSize, .int .i64 x.fMeta.fRoot.fSum, .int .i64 x.fMeta.fRoot.fLevel, .int .i64 x.fMeta.fDepth, .int .i64 x.fMeta.fMany]), boxA b1 1 34 (.agg #[.slice a0 ps.length c0])]) _) := ⟨HS2.out⟩
   obtain ⟨g4, rfl, _, _, _, _⟩ := HS2.out.rowOpen 0 rfl (by omega)
   refine ⟨HS.out, ?_⟩
   refine wh_one 6 (by kernel_rfl) ?_
   refine wo_callB rfl rfl HF rfl (enter_of Tryz.func32 (by kernel_rfl) rfl) (args := #[.agg #[.int .i64 x.fTxg, .int .i64 x.fMeta.fRoot.fAt, .int .i64 x.fMeta.fRoot.fBirth, .int .i64 x.fMeta.fRoot.fSize, .int .i64 x.fMeta.fRoot.fSum, .int .i64 x.fMeta.fRoot.fLevel, .int .i64 x.fMeta.fDepth, .int .i64 x.fMeta.fMany]]) rfl (v := .string (rootB x)) (specRootPut_any x _) rfl rfl ?_
   intro w11 hb; replace HS := Bx.mk (HS.out.later hb); replace HS2 := Bx.mk (HS2.out.later hb); clear hb HF; clear a; intro a HF; refine ⟨HS.out, ?_⟩
   refine wh_one 7 (by kernel_rfl) ?_
   replace HS2 : Bx (St w0 ([rowA HD.cells 3 94 (.slice (some ⟨g4, 0, none⟩) qs.length cp) qs, sepA (qs.map HD.asr), boxA b3 1 34 (.agg #[.slice none 0 0]), boxA b2 8 42 (.agg #[.int .i64 x.fTxg, .int .i64 x.fMeta.fRoot.fAt, .int .i64 x.fMeta.fRoot.fBirth, .int .i64 x.fMeta.fRoot.fSize, .int .i64 x.fMeta.fRoot.fSum, .int .i64 x.fMeta.fRoot.fLevel, .int .i64 x.fMeta.fDepth, .int .i64 x.fMeta.fMany]), boxA b1 1 34 (.agg #[.slice a0 ps.length c0])]) _) := ⟨((HS2.out).pick 1 rfl).pick 1 rfl⟩
   refine wo_call rfl rfl HF rfl (enter_of Tryz.func30 (by kernel_rfl) rfl) (args := #[.agg #[.slice (some ⟨g4, 0, none⟩) qs.length cp], .int .i64 (x.fTxg % 4), .string (rootB x)]) rfl (l22Same_any w0 _ g4 cp qs _ (x.fTxg % (4 : Int)) hm0 hm1 (rootB x) hrl (by rw [hqd]; exact hok) hql HS2.out) rfl rfl ?_
   rintro _ w13 (⟨hev, rfl, hs⟩ | ⟨zs, hev, hzl, rfl, hs⟩)
   ·skip
    refine ⟨_, rfl, ?_⟩; replace HS2 := Bx.mk hs; clear hs HF; clear a; intro a HF
    replace HS2 : Bx (St w0 ([boxA b3 1 34 (.agg #[.slice none 0 0]), boxA b2 8 42 (.agg #[.int .i64 x.fTxg, .int .i64 x.fMeta.fRoot.fAt, .int .i64 x.fMeta.fRoot.fBirth, .int .i64 x.fMeta.fRoot.fSize, .int .i64 x.fMeta.fRoot.fSum, .int .i64 x.fMeta.fRoot.fLevel, .int .i64 x.fMeta.fDepth, .int .i64 x.fMeta.fMany]), boxA b1 1 34 (.agg #[.slice a0 ps.length c0])]) _) := ⟨HS2.out⟩; clear HS; have HS : Bx (St w0 ([boxA b2 8 42 (.agg #[.int .i64 x.fTxg, .int .i64 x.fMeta.fRoot.fAt, .int .i64 x.fMeta.fRoot.fBirth, .int .i64 x.fMeta.fRoot.fSize, .int .i64 x.fMeta.fRoot.fSum, .int .i64 x.fMeta.fRoot.fLevel, .int .i64 x.fMeta.fDepth, .int .i64 x.fMeta.fMany]), boxA b1 1 34 (.agg #[.slice a0 ps.length c0])]) _) := ⟨(HS2.out.erase 0)⟩; refine ⟨HS.out, ?_⟩
    refine wh_y 8 rfl (by kernel_rfl) (by kernel_rfl) (by kernel_rfl) (fun _ _ _ h => h) rfl HF rfl rfl (fun _ HS => (yl_extract rfl (HF.ev rfl) rfl)) HS.out ?_; clear HF a; intro a HF
    refine wh_y 9 rfl (by kernel_rfl) (by kernel_rfl) (by kernel_rfl) (fun _ _ _ h => h) rfl HF rfl rfl (fun _ HS => (yl_extract rfl (HF.ev rfl) rfl)) HS.out ?_; clear HF a; intro a HF
    refine wh_one 10 (by kernel_rfl) ?_
    refine wo_storeBox rfl rfl rfl rfl (HF.ev rfl) (HF.ev rfl) HS2.out 0 rfl (cells_lit [.slice none 0 0] rfl rfl) (by kernel_rfl) ?_
    clear HS HS2; intro w14 HS2; replace HS2 : Bx (St w0 ([boxA b3 1 34 (.agg #[.slice none 0 0]), boxA b2 8 42 (.agg #[.int .i64 x.fTxg, .int .i64 x.fMeta.fRoot.fAt, .int .i64 x.fMeta.fRoot.fBirth, .int .i64 x.fMeta.fRoot.fSize, .int .i64 x.fMeta.fRoot.fSum, .int .i64 x.fMeta.fRoot.fLevel, .int .i64 x.fMeta.fDepth, .int .i64 x.fMeta.fMany]), boxA b1 1 34 (.agg #[.slice a0 ps.length c0])]) _) := ⟨HS2⟩
    have HS : Bx (St w0 ([boxA b2 8 42 (.agg #[.int .i64 x.fTxg, .int .i64 x.fMeta.fRoot.fAt, .int .i64 x.fMeta.fRoot.fBirth, .int .i64 x.fMeta.fRoot.fSize, .int .i64 x.fMeta.fRoot.fSum, .int .i64 x.fMeta.fRoot.fLevel, .int .i64 x.fMeta.fDepth, .int .i64 x.fMeta.fMany]), boxA b1 1 34 (.agg #[.slice a0 ps.length c0])]) _) := ⟨(HS2.out.erase 0)⟩; refine ⟨HS.out, ?_⟩
    refine wh_y 11 rfl (by kernel_rfl) (by kernel_rfl) (by kernel_rfl) (fun _ _ _ h => h) rfl HF rfl rfl (fun _ HS => (yl_assign rfl (HF.ev rfl))) HS.out ?_; clear HF a; intro a HF
    refine wh_done (by kernel_rfl) ?_
    replace HS := HS2; clear HS2
    refine ex_then ?_
    refine wp_ret ?_
    refine bp_ret2 HF Tryz.results8 (HF.resBox rfl (HS.out.box 0 rfl) (by kernel_rfl)) (HF.res rfl) ?_
    exact .inl ⟨by rw [rootF_yes hok hxk, ← hqd]; exact hev, rfl, (((HS.out.erase 2).erase 1).erase 0)⟩
   ·skip
    refine ⟨_, rfl, ?_⟩; replace HS2 := Bx.mk hs; clear hs HF; clear a; intro a HF
    replace HS2 : Bx (St w0 ([rowA HD.cells 3 94 (.slice (some ⟨g4, 0, none⟩) qs.length cp) zs, sepA (zs.map HD.asr), boxA b3 1 34 (.agg #[.slice none 0 0]), boxA b2 8 42 (.agg #[.int .i64 x.fTxg, .int .i64 x.fMeta.fRoot.fAt, .int .i64 x.fMeta.fRoot.fBirth, .int .i64 x.fMeta.fRoot.fSize, .int .i64 x.fMeta.fRoot.fSum, .int .i64 x.fMeta.fRoot.fLevel, .int .i64 x.fMeta.fDepth, .int .i64 x.fMeta.fMany]), boxA b1 1 34 (.agg #[.slice a0 ps.length c0])]) _) := ⟨HS2.out⟩; clear HS; have HS : Bx (St w0 ([boxA b2 8 42 (.agg #[.int .i64 x.fTxg, .int .i64 x.fMeta.fRoot.fAt, .int .i64 x.fMeta.fRoot.fBirth, .int .i64 x.fMeta.fRoot.fSize, .int .i64 x.fMeta.fRoot.fSum, .int .i64 x.fMeta.fRoot.fLevel, .int .i64 x.fMeta.fDepth, .int .i64 x.fMeta.fMany]), boxA b1 1 34 (.agg #[.slice a0 ps.length c0])]) _) := ⟨(((HS2.out.erase 2).erase 1).erase 0)⟩; refine ⟨HS.out, ?_⟩
    refine wh_y 8 rfl (by kernel_rfl) (by kernel_rfl) (by kernel_rfl) (fun _ _ _ h => h) rfl HF rfl rfl (fun _ HS => (yl_extract rfl (HF.ev rfl) rfl)) HS.out ?_; clear HF a; intro a HF
    refine wh_y 9 rfl (by kernel_rfl) (by kernel_rfl) (by kernel_rfl) (fun _ _ _ h => h) rfl HF rfl rfl (fun _ HS => (yl_extract rfl (HF.ev rfl) rfl)) HS.out ?_; clear HF a; intro a HF
    refine wh_one 10 (by kernel_rfl) ?_
    refine wo_storeBox rfl rfl rfl rfl (HF.ev rfl) (HF.ev rfl) HS2.out 2 rfl (cells_lit [.slice (some ⟨g4, 0, none⟩) qs.length cp] rfl rfl) (by kernel_rfl) ?_
    clear HS HS2; intro w15 HS2; replace HS2 : Bx (St w0 ([rowA HD.cells 3 94 (.slice (some ⟨g4, 0, none⟩) qs.length cp) zs, sepA (zs.map HD.asr), boxA b3 1 34 (.agg #[.slice (some ⟨g4, 0, none⟩) qs.length cp]), boxA b2 8 42 (.agg #[.int .i64 x.fTxg, .int .i64 x.fMeta.fRoot.fAt, .int .i64 x.fMeta.fRoot.fBirth, .int .i64 x.fMeta.fRoot.fSize, .int .i64 x.fMeta.fRoot.fSum, .int .i64 x.fMeta.fRoot.fLevel, .int .i64 x.fMeta.fDepth, .int .i64 x.fMeta.fMany]), boxA b1 1 34 (.agg #[.slice a0 ps.length c0])]) _) := ⟨HS2⟩
    have HS : Bx (St w0 ([boxA b2 8 42 (.agg #[.int .i64 x.fTxg, .int .i64 x.fMeta.fRoot.fAt, .int .i64 x.fMeta.fRoot.fBirth, .int .i64 x.fMeta.fRoot.fSize, .int .i64 x.fMeta.fRoot.fSum, .int .i64 x.fMeta.fRoot.fLevel, .int .i64 x.fMeta.fDepth, .int .i64 x.fMeta.fMany]), boxA b1 1 34 (.agg #[.slice a0 ps.length c0])]) _) := ⟨(((HS2.out.erase 2).erase 1).erase 0)⟩; refine ⟨HS.out, ?_⟩
    refine wh_y 11 rfl (by kernel_rfl) (by kernel_rfl) (by kernel_rfl) (fun _ _ _ h => h) rfl HF rfl rfl (fun _ HS => (yl_assign rfl (HF.ev rfl))) HS.out ?_; clear HF a; intro a HF
    refine wh_done (by kernel_rfl) ?_
    replace HS := HS2; clear HS2
    refine ex_then ?_
    refine wp_ret ?_
    refine bp_ret2 HF Tryz.results8 (HF.resBox rfl (HS.out.box 2 rfl) (by kernel_rfl)) (HF.res rfl) ?_
    replace HS : Bx (St w0 ([rowA HD.cells 3 94 (.slice (some ⟨g4, 0, none⟩) qs.length cp) zs, sepA (zs.map HD.asr), boxA b3 1 34 (.agg #[.slice (some ⟨g4, 0, none⟩) qs.length cp]), boxA b2 8 42 (.agg #[.int .i64 x.fTxg, .int .i64 x.fMeta.fRoot.fAt, .int .i64 x.fMeta.fRoot.fBirth, .int .i64 x.fMeta.fRoot.fSize, .int .i64 x.fMeta.fRoot.fSum, .int .i64 x.fMeta.fRoot.fLevel, .int .i64 x.fMeta.fDepth, .int .i64 x.fMeta.fMany]), boxA b1 1 34 (.agg #[.slice a0 ps.length c0])]) _) := ⟨((HS.out).pick 1 rfl).pick 1 rfl⟩
    have HT2 := (((HS.out.erase 4).erase 3).erase 2); rw [← hzl] at HT2
    exact .inr ⟨_, _, zs, by rw [rootF_yes hok hxk, ← hqd]; exact hev, by rw [hzl]; rfl, HT2⟩

end Go.Proofs.YtoaopmkbfifhaaaGreatDoor

/- A part of a box is written as a whole. -/
namespace Go.Proofs.YtoaopmkbfifhaaaGreatDoor
set_option linter.unusedVariables false
set_option linter.unusedSimpArgs false
set_option maxHeartbeats 1000000
set_option maxRecDepth 100000
open Go.RowKit

theorem Box.putAt {w : World} {b n : Nat} {t : TypeId} {cs : List Value} (h : Box w b n t (.agg cs.toArray)) (k : Nat) (ds : List Value) (hk : k + ds.length ≤ cs.length) (g1 : ∀ u ∈ ds, u.oneCell' = true) :
    w.there b k ds.length ∧ Box (w.setCells b k ds) b n t (.agg (splice cs k ds).toArray) ∧ Outside b (b + 1) w (w.setCells b k ds) := by
  obtain ⟨cs', e, hl, h1, hh⟩ := h
  obtain rfl : cs = cs' := by simpa using e
  obtain ⟨k1, k2, k3⟩ := blk_setCells ds k w cs hh hk
  refine ⟨fun j hj => ⟨by rw [blk_cell hh]; simp; omega, blk_frozen hh _⟩, ⟨_, rfl, ?_, ?_, k1⟩, k2⟩
  · unfold splice; simp; omega
  · intro u hu
    unfold splice at hu
    rcases List.mem_append.1 hu with hu | hu
    · rcases List.mem_append.1 hu with hu | hu
      · exact h1 u (List.mem_of_mem_take hu)
      · exact g1 u hu
    · exact h1 u (List.mem_of_mem_drop hu)
section
variable {P : Program} {ops : Array Oper} {Q : Exit → Act → World → Prop} {rest : List Oper} {o : Oper} {a : Act} {W w : World} {s : List Asr}
theorem wl_storeSub (hg : o.guard = none) {t : TypeId} {x y : Operand} (ho : o.op = .store t x y) (hd : o.dst = none) {b n k : Nat} {T : TypeId} {cs ds rs : List Value} (hx : a.eval x = .pointer (some ⟨b, k, none⟩)) (hy : a.eval y = .agg ds.toArray) (hS : St W s w) (i : Nat) (hi : s[i]? = some (boxA b n T (.agg cs.toArray))) (hk : Nat.ble (k + ds.length) cs.length = true) (hv : (ds.all fun u => u.oneCell') = true) (hn : rowOf? P t ds.length = true) (hr : splice cs k ds = rs)
    (h : ∀ w', St W (s.set i (boxA b n T (.agg rs.toArray))) w' → wpList P ops Q rest a w') : wpList P ops Q (o :: rest) a w := by
  obtain ⟨k1, k2, k3⟩ := (hS.box i hi).putAt k ds (Nat.le_of_ble_eq_true hk) (List.all_eq_true.1 hv)
  refine wpList_plain hg fun K hK => wp_store_mid t x y ho b k ds.toArray hx hy (by simpa using k1) (by rw [(rowOf_spec hn).2]; simp) (by simpa using hv) ?_
  rw [hd]
  exact hK _ _ (h _ (by rw [← hr]; exact hS.putBox i hi k2 k3))
end
end Go.Proofs.YtoaopmkbfifhaaaGreatDoor
