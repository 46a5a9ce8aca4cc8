/- A part of the proof in YtoaopmkbfifhaaaGreatDoorIwZ22. -/
import Derived.ArgAppend
import Derived.BigQuiet
import Derived.BigRegion
import Derived.Deep.AppendLies
import Derived.Deep.MidRow
import Derived.Deep.Quiet
import Derived.Deep.QuietTactic
import Derived.Deep.RegionHeld3
import Derived.Deep.RegionWith
import Derived.IntWalk
import Derived.Laws.BytesArg
import Derived.Lib.AppendIntMem
import Derived.Lib.Hide
import Derived.Lib.ItoaNum
import Derived.Lib.LazyBuf
import Derived.Lib.SlBytesConst
import Derived.LoopIn
import Derived.LoopN
import Derived.LoopNIn
import Derived.Orders
import Derived.OrdersHeld
import Derived.OwnWalkIn
import Derived.RangeFuncLeaves
import Derived.RangeFuncNested
import Derived.Shelf.Abstract
import Derived.Shelf.Strconv.Itoa3
import Derived.Shelf.Strings.BuilderF
import Derived.Shelf.Strings.BuilderK
import Derived.Shelf.Strings.OnBuilder
import Derived.Still
import Derived.StillTail
import Derived.StillTailTactics
import Derived.TacticsInMore
import Derived.Test.YtoaopmkbfifhaaaGreatDoorRows
import Derived.WalkKit
import Derived.WalkLawsBesides
import Derived.WalkSpells
import Derived.Test.YtoaopmkbfifhaaaGreatDoorIwZ15
/- Laws for the draws: numbers and bytes, bytes of a constant; the reader of a code, as a thing. -/
namespace Go.Proofs.YtoaopmkbfifhaaaGreatDoor
set_option linter.unusedVariables false
set_option linter.unusedSimpArgs false
set_option maxHeartbeats 1000000
set_option maxRecDepth 100000
open Go.RowKit
section
variable {P : Program} {ops : Array Oper} {Q : Exit → Act → World → Prop} {rest : List Oper} {o : Oper} {a : Act} {w W : World} {N : Nat} {l : List (Nat × Value)} {s : List Asr} {t t' e : TypeId} {x y z : Operand} {α : Type} {enc : α → List Value} {size : Nat}
theorem yl_toU8 (ho : o.op = .convert t t' x) {n : Int} {b : UInt8} (hx : a.eval x = .int .i64 n) (hn : 0 ≤ n ∧ n ≤ 255) (hb : b = UInt8.ofNat n.toNat) (hu : P.underlying t = some (.int .i64)) (hu' : P.underlying t' = some (.int .u8)) : Yl P w o a (.int .u8 (b.toNat : Int)) := by
  have hv : (b.toNat : Int) = n := by
    subst hb
    rw [UInt8.toNat_ofNat']
    omega
  unfold Yl execOp
  simp only [ho, hx]
  rw [hv]
  simp [convert, go_sem, run_underlying hu w, run_underlying hu' w, Conv.intToInt]
  simp [IntKind.wrap, IntKind.bits, IntKind.signed]
  omega
end
end Go.Proofs.YtoaopmkbfifhaaaGreatDoor

/- Laws for the draws, 2: stores into rows in drawn regions; what holds as long as blocks lie as they lie. -/
namespace Go.Proofs.YtoaopmkbfifhaaaGreatDoor
set_option linter.unusedVariables false
set_option linter.unusedSimpArgs false
set_option maxHeartbeats 1000000
set_option maxRecDepth 100000
open Go.RowKit
section
variable {P : Program} {o : Oper} {a : Act} {w : World} {e : TypeId}
theorem yl_sliceLo {t : TypeId} {x y : Operand} (ho : o.op = .slice t x (some y) none none) {g off n cap : Nat} (hx : a.eval x = .slice (some ⟨g, off, none⟩) n cap) {kk : IntKind} {m : Int} (hy : a.eval y = .int kk m) {size : Nat} (hu : elemOf? P t = some (e, size)) {k : Nat} (hm : m = (k : Int)) (hk : k ≤ n) (hc : k < cap) : Yl P w o a (.slice (some ⟨g, off + k * size, none⟩) (n - k) (cap - k)) := by
  unfold elemOf? at hu
  split at hu
  · rename_i e' hu'
    split at hu
    · rename_i inf hq
      simp only [Option.some.injEq, Prod.mk.injEq] at hu
      obtain ⟨_, rfl⟩ := hu
      subst hm
      have h2 : ((k : Int) ≤ (n : Int)) := by omega
      have h3 : ¬ cap = k := by omega
      unfold Yl execOp
      simp only [ho, hx, hy, Option.map_some, Option.map_none, Instr.sliceAt, Instr.slice, Sem.run_bind, run_underlying hu' w, Result.andThen_ok]
      simp [Instr.slice, Instr.sliceBounds, Instr.sliceBound, asIntOf, go_sem, run_underlying hu' w, sizeOf, typeInfo, hq, h2, h3, Addr.add]
      rw [if_pos hk]
      by_cases hz : k * inf.size = 0
      · rw [if_pos hz, hz, Nat.add_zero]
      · rw [if_neg hz]
    · cases hu
  · cases hu
end
section
variable {P : Program} {ops : Array Oper} {Q : Exit → Act → World → Prop} {a : Act} {w W : World} {s : List Asr} {fuel m N : Nat} {listed : Array Bool} {oi : Oper} {l : List (Nat × Value)} {K : Act → World → Prop}
theorem wo_y {i : Nat} (hi : ops[i]? = some oi) (hg : oi.guard = none) (hF : Fr N a l) {d : Nat} (hd : oi.dst = some d) (hN : Nat.blt d N = true) {v : Value} (hy : Yl P w oi a v) (h : ∀ a', Fr N a' ((d, v) :: l) → K a' w) : wpOp P ops Q i K a w := by
  refine wo_of hi hg ?_
  unfold Oper.wp
  rw [hy]
  show K (a.put oi.dst v) w
  rw [hd]
  exact h _ (hF.put (Nat.le_of_ble_eq_true hN) v)
end
theorem Rd.drop {α : Type} {enc : α → List Value} {size : Nat} {w : World} {g o n : Nat} {xs : List α} (h : Rd enc size w (some ⟨g, o, none⟩) n xs) {k : Nat} (hk : k ≤ xs.length) : Rd enc size w (some ⟨g, o + k * size, none⟩) (n - k) (xs.drop k) := by
  refine ⟨by rw [List.length_drop, h.len], fun i hi => ?_⟩
  rw [List.length_drop] at hi
  obtain ⟨b, off, x, hx, e, hlt, hr⟩ := h.at_ (k + i) (by omega)
  simp only [Option.some.injEq, Addr.mk.injEq, and_true] at e
  obtain ⟨rfl, rfl⟩ := e
  exact ⟨g, o + k * size, x, by rw [List.getElem?_drop]; exact hx, rfl, hlt, by rw [Nat.add_assoc, ← Nat.add_mul]; exact hr⟩
/-- A disk of which all can be written, at most so many writes waiting. -/
structure DiskD.nice (n : Nat) (d : DiskD) : Prop where
  g : d.fGone = false
  c : d.fCells.length = 64
  w : d.fWaits.length ≤ n
  a : ∀ k, k < d.fWaits.length → 0 ≤ (d.fWaits.getD k default).fAt ∧ (d.fWaits.getD k default).fAt < 64
  z : ∀ x, x ∈ d.fCells → x.size ≤ 1000
  u : ∀ x, x ∈ d.fWaits → x.fText.size ≤ 1000
theorem getD_le {xs : List ByteArray} {m : Nat} (h : ∀ x, x ∈ xs → x.size ≤ m) (k : Nat) : (xs.getD k ByteArray.empty).size ≤ m := by
  by_cases hk : k < xs.length
  · rw [show xs.getD k ByteArray.empty = xs[k] by simp [List.getD, hk]]
    exact h _ (List.getElem_mem hk)
  · rw [show xs.getD k ByteArray.empty = ByteArray.empty by simp [List.getD, List.getElem?_eq_none (Nat.le_of_not_lt hk)]]
    exact Nat.zero_le _
theorem waits_le {xs : List WaitD} {m : Nat} (h : ∀ x, x ∈ xs → x.fText.size ≤ m) (k : Nat) : (xs.getD k default).fText.size ≤ m := by
  by_cases hk : k < xs.length
  · rw [show xs.getD k default = xs[k] by simp [List.getD, hk]]
    exact h _ (List.getElem_mem hk)
  · rw [show xs.getD k default = default by simp [List.getD, List.getElem?_eq_none (Nat.le_of_not_lt hk)]]
    exact Nat.zero_le _
theorem DiskD.nice.fits {n : Nat} {d : DiskD} (h : d.nice n) (hn : n ≤ 1000) : d.fits := ⟨by rw [h.c]; omega, by have := h.w; omega, fun k => by have := getD_le h.z k; omega, fun k => by have := waits_le h.u k; omega⟩
/-- Three such disks. -/
def niceS (n : Nat) (ds : List DiskD) : Prop := ds.length = 3 ∧ ∀ d, d ∈ ds → d.nice n
theorem niceS.at {n : Nat} {ds : List DiskD} (h : niceS n ds) {k : Nat} (hk : k < 3) : (ds.getD k default).nice n := by
  rw [getD_get (by rw [h.1]; exact hk)]; exact h.2 _ (List.getElem_mem _)
end Go.Proofs.YtoaopmkbfifhaaaGreatDoor

/- Numbers and records as texts: walked. -/
namespace Go.Proofs.YtoaopmkbfifhaaaGreatDoor
set_option linter.unusedVariables false
set_option linter.unusedSimpArgs false
set_option maxHeartbeats 1000000
set_option maxRecDepth 100000
open Go.RowKit

theorem numPutI_any (n : Int) (w0 : World) (hT : TabP w0) : Calls Tryz.prog 80 #[.int .i64 n] w0 fun e w' => e = .returned (.string (numB n)) ∧ Below w0.heap.size w0 w' := by
 have HT := Bx.mk hT; clear hT
 have HS := Bx.mk (St.start w0)
 refine wc_enter Tryz.func80 rfl Tryz.ntmps80 [(0, .int .i64 n)] ⟨rfl, trivial⟩ rfl ?_; intro a HF
 refine wp_sr ?_
 refine wl_as HF rfl rfl rfl rfl rfl ?_; clear HF a; intro a HF
 refine wl_ne ?_
 refine wp_seq ?_
 refine wp_sr ?_
 refine wl_mv HF rfl rfl rfl rfl rfl ?_; clear HF a; intro a HF
 refine wl_callB rfl HF rfl (enter_of Tryz.func52 (by kernel_rfl) rfl) (args := #[.int .i64 n, .int .i64 0, .int .i64 999999999]) rfl (v := .bool (inB n 0 999999999)) (((within_any n 0 999999999 _).mono fun _ _ h => ⟨h.1, h.2 ▸ Below.refl _ _⟩)) rfl rfl HS.out ?_; clear HF HS a; intro w1 a HS HF; replace HS := Bx.mk HS
 refine wl_y rfl HF rfl rfl (yl_not rfl (HF.ev rfl)) ?_; clear HF a; intro a HF
 refine wl_ne ?_
 refine HF.cases 5 rfl (fun cc1 HF1 => ?_) (fun cc1 HF1 => ?_)
 ·clear HF; have HF := HF1; clear HF1
  refine wc_true HF rfl ?_
  refine wp_sr ?_
  refine wl_as HF rfl rfl rfl rfl rfl ?_; clear HF a; intro a HF
  refine wl_ne ?_
  refine wp_ret ?_
  refine ex_then_ret ?_
  refine bp_ret1 HF Tryz.results80 (HF.res rfl) ?_
  exact ⟨by rw [numB_out (by have := cc1; simp [inB] at this; omega)]; rfl, HS.out.bel⟩
 ·clear HF; have HF := HF1; clear HF1
  refine wc_false HF rfl ?_
  refine wp_skip ?_
  refine ex_then ?_
  refine wp_seq ?_
  have hin : inB n 0 999999999 = true := by simpa using cc1
  obtain ⟨hn0, hn1⟩ : 0 ≤ n ∧ n ≤ 999999999 := by unfold inB at hin; simpa using hin
  obtain ⟨m, rfl⟩ : ∃ m : Nat, n = (m : Int) := ⟨n.toNat, by omega⟩
  refine wp_region_lit ?_
  refine wl_mv HF rfl rfl rfl rfl rfl ?_; clear HF a; intro a HF
  refine wl_callB rfl HF rfl (enter_of Tryz.func126 (by kernel_rfl) rfl) (args := #[.int .i64 (m : Int)]) rfl (v := .string (decB m)) (itoa_any m (by omega) _ (HT.out.below HS.out.bel)) rfl rfl HS.out ?_; clear HF HS a; intro w2 a HS HF; replace HS := Bx.mk HS
  refine wl_as HF rfl rfl rfl rfl rfl ?_; clear HF a; intro a HF
  refine wl_ne ?_
  refine wp_ret ?_
  refine bp_ret1 HF Tryz.results80 (HF.res rfl) ?_
  exact ⟨by rw [numB_in hn0 hn1, Int.toNat_natCast], HS.out.bel⟩

theorem size1 (x : UInt8) : (⟨#[x]⟩ : ByteArray).size = 1 := rfl
theorem le_of_cmp {n : Nat} (h : decide ((2048 : Int) < (n : Int)) = false) : n ≤ 2048 := by have := of_decide_eq_false h; omega
theorem gt_of_cmp {n : Nat} (h : decide ((2048 : Int) < (n : Int)) = true) : ¬ n ≤ 2048 := by have := of_decide_eq_true h; omega

theorem fieldsPutI_any (a0 : Option Addr) (n c0 : Nat) (xs : List ByteArray) (w0 : World) (hT : TabP w0) (hl : xs.length ≤ 1048576) (hx : szs xs) (hR : Rd encS 1 w0 a0 n xs) : Calls Tryz.prog 124 #[.slice a0 n c0] w0 fun e w' => e = .returned (.tuple #[.string (fieldsPut xs).1, .bool (fieldsPut xs).2]) ∧ Below w0.heap.size w0 w' := by
 obtain rfl := hR.len
 obtain ⟨g0, o0, r0⟩ := hR.opn; have R0 := Bx.mk r0; clear r0 hR
 have HT := Bx.mk hT; clear hT
 have HS := Bx.mk (St.start w0)
 refine wc_enter Tryz.func124 rfl Tryz.ntmps124 [(0, .slice a0 xs.length c0)] ⟨rfl, trivial⟩ rfl ?_; intro a HF
 refine wp_sr ?_
 refine wl_as HF rfl rfl rfl rfl rfl ?_; clear HF a; intro a HF
 refine wl_as HF rfl rfl rfl rfl rfl ?_; clear HF a; intro a HF
 refine wl_ne ?_
 refine wp_seq ?_
 refine wp_sr ?_
 refine wl_mv HF rfl rfl rfl rfl rfl ?_; clear HF a; intro a HF
 refine wl_y rfl HF rfl rfl (yl_lenL (e := 9) (size := 1) rfl (HF.ev rfl) (by kernel_rfl)) ?_; clear HF a; intro a HF
 refine wl_y rfl HF rfl rfl (yl_gtrI rfl (HF.ev rfl) (HF.ev rfl)) ?_; clear HF a; intro a HF
 refine wl_ne ?_
 refine HF.cases 9 rfl (fun cc1 HF1 => ?_) (fun cc1 HF1 => ?_)
 ·clear HF; have HF := HF1; clear HF1
  have dcc1 := of_decide_eq_true cc1
  refine wc_true HF rfl ?_
  refine wp_sr ?_
  refine wl_as HF rfl rfl rfl rfl rfl ?_; clear HF a; intro a HF
  refine wl_as HF rfl rfl rfl rfl rfl ?_; clear HF a; intro a HF
  refine wl_ne ?_
  refine wp_ret ?_
  refine ex_then_ret ?_
  refine bp_ret2 HF Tryz.results124 (HF.res rfl) (HF.res rfl) ?_
  exact ⟨by rw [fieldsPut_long (by omega)]; rfl, HS.out.bel⟩
 ·clear HF; have HF := HF1; clear HF1
  have dcc1 := of_decide_eq_false cc1
  refine wc_false HF rfl ?_
  refine wp_skip ?_
  refine ex_then ?_
  refine wp_sr ?_
  refine wl_alloc rfl HF rfl rfl rfl (Z := [.pointer none, .slice none 0 0]) (by kernel_rfl) rfl HS.out ?_; clear HF HS a; intro a w1 b1 HF HS; replace HS := Bx.mk HS
  refine wl_ne ?_
  refine wp_seq ?_
  refine wp_sr ?_
  refine wl_mv HF rfl rfl rfl rfl rfl ?_; clear HF a; intro a HF
  refine wl_y rfl HF rfl rfl (yl_lenL (e := 9) (size := 1) rfl (HF.ev rfl) (by kernel_rfl)) ?_; clear HF a; intro a HF
  refine wl_mv HF rfl rfl rfl rfl rfl ?_; clear HF a; intro a HF
  refine wl_ne ?_
  refine wp_block ?_
  replace HS := Bx.mk HS.out.bldNew
  refine wc_loop (ι := Nat) (fun k a w => (k ≤ xs.length ∧ (recB (xs.take k)).size ≤ 2048) ∧ Fr 27 a [(4, .pointer (some ⟨b1, 0, none⟩)), (10, .slice a0 xs.length c0), (11, .int .i64 (xs.length : Int)), (12, .int .i64 (k : Int))] ∧ St w0 ([bldA b1 (recB (xs.take k)).data.toList]) w) (fun k => xs.length - k) 0 ⟨⟨Nat.zero_le _, by simp [recB]⟩, HF.less _ ⟨rfl, rfl, rfl, rfl, trivial⟩, HS.out⟩ ?_
  clear HF HS; clear a
  rintro k a w2 ⟨⟨hk, hr⟩, HF, HS⟩
  replace HS := Bx.mk HS
  have hxk := hx k; have hdec := decB_20 (n := (xs.getD k ByteArray.empty).size) (by omega)
  refine wp_sr ?_
  refine wl_y rfl HF rfl rfl (yl_lssI rfl (HF.ev rfl) (HF.ev rfl)) ?_; clear HF a; intro a HF
  refine wl_ne ?_
  refine wp_seq ?_
  refine HF.cases 13 rfl (fun cc2 HF1 => ?_) (fun cc2 HF1 => ?_)
  ·clear HF; have HF := HF1; clear HF1
   have dcc2 := of_decide_eq_true cc2
   refine wc_true HF rfl ?_
   refine wp_skip ?_
   refine ex_then ?_
   refine wp_seq ?_
   refine wp_block ?_
   refine wp_sr ?_
   refine wl_y rfl HF rfl rfl (yl_indexAddrR (e := 9) (i := k) (size := 1) rfl (HF.ev rfl) (HF.ev rfl) (by kernel_rfl) rfl (by omega) (R0.out.ao k (by omega))) ?_; clear HF a; intro a HF
   refine wl_y rfl HF rfl rfl (yl_load (v := .string (xs.getD k ByteArray.empty)) rfl (HF.ev rfl) (R0.out.elem1 HS.out (get_getD (xs := xs) (j := k) (d := ByteArray.empty) (by omega)) rfl) (by kernel_rfl)) ?_; clear HF a; intro a HF
   refine wl_as HF rfl rfl rfl rfl rfl ?_; clear HF a; intro a HF
   refine wl_ne ?_
   refine wp_sr ?_
   refine wl_mv HF rfl rfl rfl rfl rfl ?_; clear HF a; intro a HF
   refine wl_y rfl HF rfl rfl (yl_lenS rfl (HF.ev rfl) (by kernel_rfl)) ?_; clear HF a; intro a HF
   refine wl_callB rfl HF rfl (enter_of Tryz.func126 (by kernel_rfl) rfl) (args := #[.int .i64 ((xs.getD k ByteArray.empty).size : Int)]) rfl (v := .string (decB ((xs.getD k ByteArray.empty).size))) (itoa_any ((xs.getD k ByteArray.empty).size) (by omega) _ (HT.out.below HS.out.bel)) rfl rfl HS.out ?_; clear HF HS a; intro w3 a HS HF; replace HS := Bx.mk HS
   replace HS : Bx (St w0 ([bldA b1 (recB (xs.take k)).data.toList]) _) := ⟨(HS.out).pick 0 rfl⟩
   refine wl_call rfl HF rfl (enter_of Tryz.func153 (by kernel_rfl) rfl) (args := #[.pointer (some ⟨b1, 0, none⟩), .string (decB ((xs.getD k ByteArray.empty).size))]) rfl (writeS_any w0 _ b1 ((recB (xs.take k)).data.toList) (decB ((xs.getD k ByteArray.empty).size)) (by simp only [List.length_append, List.length_cons, List.length_nil, ← size_list]; omega) HS.out) rfl rfl ?_
   rintro _ w4 ⟨rfl, hs1⟩
   refine ⟨_, rfl, ?_⟩; replace HS := Bx.mk hs1; clear hs1 HF; clear a; intro a HF
   replace HS : Bx (St w0 ([bldA b1 ((recB (xs.take k)).data.toList ++ (decB ((xs.getD k ByteArray.empty).size)).data.toList)]) _) := ⟨HS.out⟩
   refine wl_ne ?_
   refine wp_sr ?_
   replace HS : Bx (St w0 ([bldA b1 ((recB (xs.take k)).data.toList ++ (decB ((xs.getD k ByteArray.empty).size)).data.toList)]) _) := ⟨(HS.out).pick 0 rfl⟩
   refine wl_call rfl HF rfl (enter_of Tryz.func154 (by kernel_rfl) rfl) (args := #[.pointer (some ⟨b1, 0, none⟩), .int .u8 58]) rfl (writeB_any w0 _ b1 ((recB (xs.take k)).data.toList ++ (decB ((xs.getD k ByteArray.empty).size)).data.toList) (58 : UInt8) (by simp only [List.length_append, List.length_cons, List.length_nil, ← size_list]; omega) HS.out) rfl rfl ?_
   rintro _ w5 ⟨rfl, hs1⟩
   refine ⟨_, rfl, ?_⟩; replace HS := Bx.mk hs1; clear hs1 HF; clear a; intro a HF
   replace HS : Bx (St w0 ([bldA b1 (((recB (xs.take k)).data.toList ++ (decB ((xs.getD k ByteArray.empty).size)).data.toList) ++ [(58 : UInt8)])]) _) := ⟨HS.out⟩
   refine wl_ne ?_
   refine wp_sr ?_
   refine wl_mv HF rfl rfl rfl rfl rfl ?_; clear HF a; intro a HF
   replace HS : Bx (St w0 ([bldA b1 (((recB (xs.take k)).data.toList ++ (decB ((xs.getD k ByteArray.empty).size)).data.toList) ++ [(58 : UInt8)])]) _) := ⟨(HS.out).pick 0 rfl⟩
   refine wl_call rfl HF rfl (enter_of Tryz.func153 (by kernel_rfl) rfl) (args := #[.pointer (some ⟨b1, 0, none⟩), .string (xs.getD k ByteArray.empty)]) rfl (writeS_any w0 _ b1 (((recB (xs.take k)).data.toList ++ (decB ((xs.getD k ByteArray.empty).size)).data.toList) ++ [(58 : UInt8)]) (xs.getD k ByteArray.empty) (by simp only [List.length_append, List.length_cons, List.length_nil, ← size_list]; omega) HS.out) rfl rfl ?_
   rintro _ w6 ⟨rfl, hs1⟩
   refine ⟨_, rfl, ?_⟩; replace HS := Bx.mk hs1; clear hs1 HF; clear a; intro a HF
   replace HS : Bx (St w0 ([bldA b1 ((((recB (xs.take k)).data.toList ++ (decB ((xs.getD k ByteArray.empty).size)).data.toList) ++ [(58 : UInt8)]) ++ (xs.getD k ByteArray.empty).data.toList)]) _) := ⟨HS.out⟩
   refine wl_ne ?_
   refine wp_sr ?_
   refine wl_callB rfl HF rfl (enter_of Tryz.func155 (by kernel_rfl) rfl) (args := #[.pointer (some ⟨b1, 0, none⟩)]) rfl (v := .int .i64 (((((recB (xs.take k)).data.toList ++ (decB ((xs.getD k ByteArray.empty).size)).data.toList) ++ [(58 : UInt8)]) ++ (xs.getD k ByteArray.empty).data.toList).length : Int)) (bldLen_any w0 _ b1 ((((recB (xs.take k)).data.toList ++ (decB ((xs.getD k ByteArray.empty).size)).data.toList) ++ [(58 : UInt8)]) ++ (xs.getD k ByteArray.empty).data.toList) HS.out) rfl rfl HS.out ?_; clear HF HS a; intro w7 a HS HF; replace HS := Bx.mk HS
   refine wl_y rfl HF rfl rfl (yl_gtrI rfl (HF.ev rfl) (HF.ev rfl)) ?_; clear HF a; intro a HF
   refine wl_ne ?_
   refine HF.cases 24 rfl (fun cc3 HF1 => ?_) (fun cc3 HF1 => ?_)
   ·clear HF; have HF := HF1; clear HF1
    have dcc3 := of_decide_eq_true cc3
    refine wc_true HF rfl ?_
    refine wp_sr ?_
    refine wl_as HF rfl rfl rfl rfl rfl ?_; clear HF a; intro a HF
    refine wl_as HF rfl rfl rfl rfl rfl ?_; clear HF a; intro a HF
    refine wl_ne ?_
    refine wp_ret ?_
    refine ex_block_ret ?_
    refine ex_then_ret ?_
    refine ex_then_ret ?_
    refine ex_block_ret ?_
    refine ex_then_ret ?_
    refine bp_ret2 HF Tryz.results124 (HF.res rfl) (HF.res rfl) ?_
    have hgt : ¬ (recB (xs.take (k + 1))).size ≤ 2048 := by rw [recB_step xs (by omega), size_list, list_append, list_append, list_append]; exact gt_of_cmp cc3
    exact ⟨by rw [fieldsPut_big hgt]; rfl, HS.out.bel⟩
   ·clear HF; have HF := HF1; clear HF1
    have dcc3 := of_decide_eq_false cc3
    refine wc_false HF rfl ?_
    refine wp_skip ?_
    refine ex_block ?_
    refine ex_then ?_
    refine wp_region_lit ?_
    refine wl_y rfl HF rfl rfl (yl_addI rfl (HF.ev rfl) (HF.ev rfl) (i64w (by omega))) ?_; clear HF a; intro a HF
    refine wl_mv HF rfl rfl rfl rfl rfl ?_; clear HF a; intro a HF
    refine wl_ne ?_
    replace HS : Bx (St w0 [bldA b1 (recB (xs.take (k + 1))).data.toList] _) := ⟨by rw [recB_step xs (by omega), list_append, list_append, list_append]; exact HS.out⟩
    have hle : (recB (xs.take (k + 1))).size ≤ 2048 := by rw [recB_step xs (by omega), size_list, list_append, list_append, list_append]; exact le_of_cmp cc3
    exact ⟨k + 1, ⟨⟨by omega, hle⟩, HF.less _ ⟨rfl, rfl, rfl, rfl, trivial⟩, HS.out⟩, (by omega)⟩
  ·clear HF; have HF := HF1; clear HF1
   have dcc2 := of_decide_eq_false cc2
   refine wc_false HF rfl ?_
   refine wp_exit ?_
   refine ex_then_exit ?_
   refine ex_then_exit ?_
   refine ex_block_hit ?_
   refine ex_then ?_
   refine wp_sr ?_
   replace HS : Bx (St w0 ([bldA b1 (recB (xs.take k)).data.toList]) _) := ⟨(HS.out).pick 0 rfl⟩
   refine wl_call rfl HF rfl (enter_of Tryz.func156 (by kernel_rfl) rfl) (args := #[.pointer (some ⟨b1, 0, none⟩)]) rfl (bldStr_any w0 _ b1 ((recB (xs.take k)).data.toList) HS.out) rfl rfl ?_
   rintro _ w8 ⟨rfl, hs1⟩
   refine ⟨_, rfl, ?_⟩; replace HS := Bx.mk hs1; clear hs1 HF; clear a; intro a HF
   replace HS : Bx (St w0 ([bldA b1 (recB (xs.take k)).data.toList]) _) := ⟨HS.out⟩
   refine wl_as HF rfl rfl rfl rfl rfl ?_; clear HF a; intro a HF
   refine wl_as HF rfl rfl rfl rfl rfl ?_; clear HF a; intro a HF
   refine wl_ne ?_
   refine wp_ret ?_
   refine bp_ret2 HF Tryz.results124 (HF.res rfl) (HF.res rfl) ?_
   obtain rfl : k = xs.length := by omega
   rw [List.take_length] at hr
   exact ⟨by rw [fieldsPut_yes (by omega) hr]; simp [List.take_length], HS.out.bel⟩

theorem l6Dec_any (n : Nat) (hn : n ≤ 9223372036854775807) (w0 : World) : Calls Tryz.prog 65 #[.int .i64 (n : Int)] w0 fun e w' => e = .returned (.string (decB n)) ∧ Below w0.heap.size w0 w' := by
 induction n using Nat.strongRecOn generalizing w0
 rename_i n ih
 have hd := decB_20 (n := n / 10) (by omega)
 have HS := Bx.mk (St.start w0)
 refine wc_enter Tryz.func65 rfl Tryz.ntmps65 [(0, .int .i64 (n : Int))] ⟨rfl, trivial⟩ rfl ?_; intro a HF
 refine wp_sr ?_
 refine wl_as HF rfl rfl rfl rfl rfl ?_; clear HF a; intro a HF
 refine wl_ne ?_
 refine wp_seq ?_
 refine wp_sr ?_
 refine wl_mv HF rfl rfl rfl rfl rfl ?_; clear HF a; intro a HF
 refine wl_y rfl HF rfl rfl (yl_lssI rfl (HF.ev rfl) (HF.ev rfl)) ?_; clear HF a; intro a HF
 refine wl_ne ?_
 refine HF.cases 4 rfl (fun cc1 HF1 => ?_) (fun cc1 HF1 => ?_)
 ·clear HF; have HF := HF1; clear HF1
  have dcc1 := of_decide_eq_true cc1
  omega
 ·clear HF; have HF := HF1; clear HF1
  have dcc1 := of_decide_eq_false cc1
  refine wc_false HF rfl ?_
  refine wp_skip ?_
  refine ex_then ?_
  refine wp_seq ?_
  refine wp_sr ?_
  refine wl_mv HF rfl rfl rfl rfl rfl ?_; clear HF a; intro a HF
  refine wl_y rfl HF rfl rfl (yl_lssI rfl (HF.ev rfl) (HF.ev rfl)) ?_; clear HF a; intro a HF
  refine wl_ne ?_
  refine HF.cases 6 rfl (fun cc2 HF1 => ?_) (fun cc2 HF1 => ?_)
  ·clear HF; have HF := HF1; clear HF1
   have dcc2 := of_decide_eq_true cc2
   omega
  ·clear HF; have HF := HF1; clear HF1
   have dcc2 := of_decide_eq_false cc2
   refine wc_false HF rfl ?_
   refine wp_skip ?_
   refine ex_then ?_
   refine wp_seq ?_
   refine wp_sr ?_
   refine wl_mv HF rfl rfl rfl rfl rfl ?_; clear HF a; intro a HF
   refine wl_y rfl HF rfl rfl (yl_lssI rfl (HF.ev rfl) (HF.ev rfl)) ?_; clear HF a; intro a HF
   refine wl_ne ?_
   refine HF.cases 12 rfl (fun cc3 HF1 => ?_) (fun cc3 HF1 => ?_)
   ·clear HF; have HF := HF1; clear HF1
    have dcc3 := of_decide_eq_true cc3
    refine wc_true HF rfl ?_
    refine wp_sr ?_
    refine wl_mv HF rfl rfl rfl rfl rfl ?_; clear HF a; intro a HF
    refine wl_y rfl HF rfl rfl (yl_addI rfl (HF.ev rfl) (HF.ev rfl) (i64w (by omega))) ?_; clear HF a; intro a HF
    refine wl_y rfl HF rfl rfl (yl_toU8 (b := UInt8.ofNat ((48 : Int) + (n : Int)).toNat) rfl (HF.ev rfl) (by omega) rfl (by kernel_rfl) (by kernel_rfl)) ?_; clear HF a; intro a HF
    refine wl_buildS (enc := encB) (e := 5) (size := 1) rfl HF rfl rfl rfl (ps := [(0, .int .u8 ((UInt8.ofNat ((48 : Int) + (n : Int)).toNat).toNat : Int))]) rfl (cells := [.int .u8 ((UInt8.ofNat ((48 : Int) + (n : Int)).toNat).toNat : Int)]) (by kernel_rfl) [(UInt8.ofNat ((48 : Int) + (n : Int)).toNat)] rfl rfl (by unfold maxLen; omega) rfl HS.out ?_; clear HF HS a; intro b1 a w1 HF HS; replace HS := Bx.mk HS
    refine wl_y rfl HF rfl rfl (yl_convBS (e1 := 5) rfl (HF.ev rfl) (by kernel_rfl) (by kernel_rfl) (by kernel_rfl) (xs := [(UInt8.ofNat ((48 : Int) + (n : Int)).toNat)]) (St.rdN HS.out encB_len 0 rfl)) ?_; clear HF a; intro a HF
    refine wl_as HF rfl rfl rfl rfl rfl ?_; clear HF a; intro a HF
    refine wl_ne ?_
    refine wp_ret ?_
    refine ex_then_ret ?_
    refine bp_ret1 HF Tryz.results65 (HF.res rfl) ?_
    exact ⟨by rw [decB_small (by omega), show UInt8.ofNat (48 + (n : Int)).toNat = UInt8.ofNat (48 + n) from congrArg UInt8.ofNat (by omega)], HS.out.bel⟩
   ·clear HF; have HF := HF1; clear HF1
    have dcc3 := of_decide_eq_false cc3
    refine wc_false HF rfl ?_
    refine wp_skip ?_
    refine ex_then ?_
    refine wp_seq ?_
    refine wr_heldS (s := []) (by kernel_rfl) (St.drew (HS.out)) ?_
    have HS2 := Bx.mk HS.out.drew; replace HS := Bx.mk (show St w0 ([]) _ from HS.out.drew)
    generalize World.drew _ = w2 at HS HS2 ⊢
    refine wh_y 0 rfl (by kernel_rfl) (by kernel_rfl) (by kernel_rfl) (fun _ _ _ h => h) rfl HF rfl rfl (fun _ HS => (yl_move rfl (HF.ev rfl))) HS.out ?_; clear HF a; intro a HF
    refine wh_y 1 rfl (by kernel_rfl) (by kernel_rfl) (by kernel_rfl) (fun _ _ _ h => h) rfl HF rfl rfl (fun _ HS => (yl_quoI rfl (HF.ev rfl) (HF.ev rfl) (by omega) (quo_pos (by omega) (by omega) (by omega)))) HS.out ?_; clear HF a; intro a HF
    refine wh_y 3 rfl (by kernel_rfl) (by kernel_rfl) (by kernel_rfl) (fun _ _ _ h => h) rfl HF rfl rfl (fun _ HS => (yl_move rfl (HF.ev rfl))) HS.out ?_; clear HF a; intro a HF
    refine wh_y 4 rfl (by kernel_rfl) (by kernel_rfl) (by kernel_rfl) (fun _ _ _ h => h) rfl HF rfl rfl (fun _ HS => (yl_remI rfl (HF.ev rfl) (HF.ev rfl) (by omega) (rem_pos (by omega) (by omega)))) HS.out ?_; clear HF a; intro a HF
    refine wh_y 5 rfl (by kernel_rfl) (by kernel_rfl) (by kernel_rfl) (fun _ _ _ h => h) rfl HF rfl rfl (fun _ HS => (yl_addI rfl (HF.ev rfl) (HF.ev rfl) (i64w (by omega)))) HS.out ?_; clear HF a; intro a HF
    refine wh_y 6 rfl (by kernel_rfl) (by kernel_rfl) (by kernel_rfl) (fun _ _ _ h => h) rfl HF rfl rfl (fun _ HS => (yl_toU8 (b := UInt8.ofNat ((48 : Int) + ((n : Int) % 10)).toNat) rfl (HF.ev rfl) (by omega) rfl (by kernel_rfl) (by kernel_rfl))) HS.out ?_; clear HF a; intro a HF
    refine wh_two 2 7 (by kernel_rfl) ?_ ?_
    ·skip
     refine wo_callB rfl rfl HF rfl (enter_of Tryz.func65 (by kernel_rfl) rfl) (args := #[.int .i64 ((n : Int) / 10)]) rfl (v := .string (decB (n / 10))) (ih (n / 10) (by omega) (by omega) _) rfl rfl ?_
     intro w3 hb; replace HS := Bx.mk (HS.out.later hb); replace HS2 := Bx.mk (HS2.out.later hb); clear hb HF; clear a; intro a HF; refine ⟨HS.out, ?_⟩
     refine wh_one 7 (by kernel_rfl) ?_
     refine wo_buildS (enc := encB) (e := 5) (size := 1) rfl rfl HF rfl rfl rfl (ps := [(0, .int .u8 ((UInt8.ofNat ((48 : Int) + ((n : Int) % 10)).toNat).toNat : Int))]) rfl (cells := [.int .u8 ((UInt8.ofNat ((48 : Int) + ((n : Int) % 10)).toNat).toNat : Int)]) (by kernel_rfl) [(UInt8.ofNat ((48 : Int) + ((n : Int) % 10)).toNat)] rfl rfl (by unfold maxLen; omega) rfl HS2.out HS.out ?_; clear HF HS HS2 a; intro b2 a w5 HF HS2 HS; replace HS := Bx.mk HS; replace HS2 := Bx.mk HS2; refine ⟨HS.out, ?_⟩
     refine wh_one 8 (by kernel_rfl) ?_
     refine wo_y rfl rfl HF rfl rfl (yl_convBS (e1 := 5) rfl (HF.ev rfl) (by kernel_rfl) (by kernel_rfl) (by kernel_rfl) (xs := [(UInt8.ofNat ((48 : Int) + ((n : Int) % 10)).toNat)]) (St.rdN HS2.out encB_len 0 rfl)) ?_; clear HF a; intro a HF; refine ⟨HS.out, ?_⟩
     refine wh_y 9 rfl (by kernel_rfl) (by kernel_rfl) (by kernel_rfl) (fun _ _ _ h => h) rfl HF rfl rfl (fun _ HS => (yl_addS rfl (HF.ev rfl) (HF.ev rfl) (by (try simp only [size1, app_size]); omega))) HS.out ?_; clear HF a; intro a HF
     refine wh_y 10 rfl (by kernel_rfl) (by kernel_rfl) (by kernel_rfl) (fun _ _ _ h => h) rfl HF rfl rfl (fun _ HS => (yl_assign rfl (HF.ev rfl))) HS.out ?_; clear HF a; intro a HF
     refine wh_done (by kernel_rfl) ?_
     replace HS := HS2; clear HS2
     refine ex_then ?_
     refine wp_ret ?_
     refine bp_ret1 HF Tryz.results65 (HF.res rfl) ?_
     exact ⟨by rw [decB_big (n := n) (by omega), show UInt8.ofNat (48 + (n : Int) % (10 : Int)).toNat = UInt8.ofNat (48 + n % 10) from congrArg UInt8.ofNat (by omega)], HS.out.bel⟩
    ·skip
     refine wo_buildS (enc := encB) (e := 5) (size := 1) rfl rfl HF rfl rfl rfl (ps := [(0, .int .u8 ((UInt8.ofNat ((48 : Int) + ((n : Int) % 10)).toNat).toNat : Int))]) rfl (cells := [.int .u8 ((UInt8.ofNat ((48 : Int) + ((n : Int) % 10)).toNat).toNat : Int)]) (by kernel_rfl) [(UInt8.ofNat ((48 : Int) + ((n : Int) % 10)).toNat)] rfl rfl (by unfold maxLen; omega) rfl HS2.out HS.out ?_; clear HF HS HS2 a; intro b3 a w8 HF HS2 HS; replace HS := Bx.mk HS; replace HS2 := Bx.mk HS2; refine ⟨HS.out, ?_⟩
     refine wh_two 2 8 (by kernel_rfl) ?_ ?_
     ·skip
      refine wo_callB rfl rfl HF rfl (enter_of Tryz.func65 (by kernel_rfl) rfl) (args := #[.int .i64 ((n : Int) / 10)]) rfl (v := .string (decB (n / 10))) (ih (n / 10) (by omega) (by omega) _) rfl rfl ?_
      intro w9 hb; replace HS := Bx.mk (HS.out.later hb); replace HS2 := Bx.mk (HS2.out.later hb); clear hb HF; clear a; intro a HF; refine ⟨HS.out, ?_⟩
      refine wh_one 8 (by kernel_rfl) ?_
      refine wo_y rfl rfl HF rfl rfl (yl_convBS (e1 := 5) rfl (HF.ev rfl) (by kernel_rfl) (by kernel_rfl) (by kernel_rfl) (xs := [(UInt8.ofNat ((48 : Int) + ((n : Int) % 10)).toNat)]) (St.rdN HS2.out encB_len 0 rfl)) ?_; clear HF a; intro a HF; refine ⟨HS.out, ?_⟩
      refine wh_y 9 rfl (by kernel_rfl) (by kernel_rfl) (by kernel_rfl) (fun _ _ _ h => h) rfl HF rfl rfl (fun _ HS => (yl_addS rfl (HF.ev rfl) (HF.ev rfl) (by (try simp only [size1, app_size]); omega))) HS.out ?_; clear HF a; intro a HF
      refine wh_y 10 rfl (by kernel_rfl) (by kernel_rfl) (by kernel_rfl) (fun _ _ _ h => h) rfl HF rfl rfl (fun _ HS => (yl_assign rfl (HF.ev rfl))) HS.out ?_; clear HF a; intro a HF
      refine wh_done (by kernel_rfl) ?_
      replace HS := HS2; clear HS2
      refine ex_then ?_
      refine wp_ret ?_
      refine bp_ret1 HF Tryz.results65 (HF.res rfl) ?_
      exact ⟨by rw [decB_big (n := n) (by omega), show UInt8.ofNat (48 + (n : Int) % (10 : Int)).toNat = UInt8.ofNat (48 + n % 10) from congrArg UInt8.ofNat (by omega)], HS.out.bel⟩
     ·skip
      refine wo_y rfl rfl HF rfl rfl (yl_convBS (e1 := 5) rfl (HF.ev rfl) (by kernel_rfl) (by kernel_rfl) (by kernel_rfl) (xs := [(UInt8.ofNat ((48 : Int) + ((n : Int) % 10)).toNat)]) (St.rdN HS2.out encB_len 0 rfl)) ?_; clear HF a; intro a HF; refine ⟨HS.out, ?_⟩
      refine wh_one 2 (by kernel_rfl) ?_
      refine wo_callB rfl rfl HF rfl (enter_of Tryz.func65 (by kernel_rfl) rfl) (args := #[.int .i64 ((n : Int) / 10)]) rfl (v := .string (decB (n / 10))) (ih (n / 10) (by omega) (by omega) _) rfl rfl ?_
      intro w12 hb; replace HS := Bx.mk (HS.out.later hb); replace HS2 := Bx.mk (HS2.out.later hb); clear hb HF; clear a; intro a HF; refine ⟨HS.out, ?_⟩
      refine wh_y 9 rfl (by kernel_rfl) (by kernel_rfl) (by kernel_rfl) (fun _ _ _ h => h) rfl HF rfl rfl (fun _ HS => (yl_addS rfl (HF.ev rfl) (HF.ev rfl) (by (try simp only [size1, app_size]); omega))) HS.out ?_; clear HF a; intro a HF
      refine wh_y 10 rfl (by kernel_rfl) (by kernel_rfl) (by kernel_rfl) (fun _ _ _ h => h) rfl HF rfl rfl (fun _ HS => (yl_assign rfl (HF.ev rfl))) HS.out ?_; clear HF a; intro a HF
      refine wh_done (by kernel_rfl) ?_
      replace HS := HS2; clear HS2
      refine ex_then ?_
      refine wp_ret ?_
      refine bp_ret1 HF Tryz.results65 (HF.res rfl) ?_
      exact ⟨by rw [decB_big (n := n) (by omega), show UInt8.ofNat (48 + (n : Int) % (10 : Int)).toNat = UInt8.ofNat (48 + n % 10) from congrArg UInt8.ofNat (by omega)], HS.out.bel⟩

theorem size_colon : (⟨#[58]⟩ : ByteArray).size = 1 := rfl
theorem fieldsPutS_any (a0 : Option Addr) (n c0 : Nat) (xs : List ByteArray) (w0 : World) (hl : xs.length ≤ 1048576) (hx : szs xs) (hR : Rd encS 1 w0 a0 n xs) : Calls Tryz.prog 67 #[.slice a0 n c0] w0 fun e w' => e = .returned (.tuple #[.string (fieldsPut xs).1, .bool (fieldsPut xs).2]) ∧ Below w0.heap.size w0 w' := by
 obtain rfl := hR.len
 obtain ⟨g0, o0, r0⟩ := hR.opn; have R0 := Bx.mk r0; clear r0 hR
 have HS := Bx.mk (St.start w0)
 refine wc_enter Tryz.func67 rfl Tryz.ntmps67 [(0, .slice a0 xs.length c0)] ⟨rfl, trivial⟩ rfl ?_; intro a HF
 refine wp_sr ?_
 refine wl_as HF rfl rfl rfl rfl rfl ?_; clear HF a; intro a HF
 refine wl_as HF rfl rfl rfl rfl rfl ?_; clear HF a; intro a HF
 refine wl_ne ?_
 refine wp_sr ?_
 refine wl_as HF rfl rfl rfl rfl rfl ?_; clear HF a; intro a HF
 refine wl_ne ?_
 refine wp_seq ?_
 refine wp_sr ?_
 refine wl_as HF rfl rfl rfl rfl rfl ?_; clear HF a; intro a HF
 refine wl_ne ?_
 refine wp_block ?_
 refine wc_loop (ι := Nat) (fun k a w => (k ≤ xs.length ∧ (recB (xs.take k)).size ≤ 2048 ∧ (¬ xs.length ≤ 60 → k = 0)) ∧ Fr 44 a [(0, .slice a0 xs.length c0), (4, .string (recB (xs.take k))), (5, .int .i64 (k : Int))] ∧ St w0 ([]) w) (fun k => xs.length - k) 0 ⟨⟨Nat.zero_le _, by simp [recB], fun _ => rfl⟩, HF.less _ ⟨rfl, rfl, rfl, trivial⟩, HS.out⟩ ?_
 clear HF HS; clear a
 rintro k a w1 ⟨⟨hk, hr, h0k⟩, HF, HS⟩
 replace HS := Bx.mk HS
 have hxk := hx k; have hdec := decB_20 (n := (xs.getD k ByteArray.empty).size) (by omega)
 refine wp_seq ?_
 refine wp_sr ?_
 refine wl_mv HF rfl rfl rfl rfl rfl ?_; clear HF a; intro a HF
 refine wl_mv HF rfl rfl rfl rfl rfl ?_; clear HF a; intro a HF
 refine wl_y rfl HF rfl rfl (yl_lenL (e := 9) (size := 1) rfl (HF.ev rfl) (by kernel_rfl)) ?_; clear HF a; intro a HF
 refine wl_y rfl HF rfl rfl (yl_lssI rfl (HF.ev rfl) (HF.ev rfl)) ?_; clear HF a; intro a HF
 refine wl_mv HF rfl rfl rfl rfl rfl ?_; clear HF a; intro a HF
 refine HF.cases 10 rfl (fun cc1 HF1 => ?_) (fun cc1 HF1 => ?_)
 ·clear HF; have HF := HF1; clear HF1
  have dcc1 := of_decide_eq_true cc1
  refine wl_yg HF rfl rfl rfl rfl rfl (yl_move rfl (HF.ev rfl)) ?_; clear HF a; intro a HF
  refine wl_yg HF rfl rfl rfl rfl rfl (yl_lenL (e := 9) (size := 1) rfl (HF.ev rfl) (by kernel_rfl)) ?_; clear HF a; intro a HF
  refine wl_yg HF rfl rfl rfl rfl rfl (yl_leqI rfl (HF.ev rfl) (HF.ev rfl)) ?_; clear HF a; intro a HF
  refine wl_y rfl HF rfl rfl (yl_pick_t rfl (HF.ev rfl) (HF.ev rfl)) ?_; clear HF a; intro a HF
  refine wl_ne ?_
  refine HF.cases 14 rfl (fun cc2 HF1 => ?_) (fun cc2 HF1 => ?_)
  ·clear HF; have HF := HF1; clear HF1
   have dcc2 := of_decide_eq_true cc2
   refine wc_true HF rfl ?_
   refine wp_skip ?_
   refine ex_then ?_
   refine wp_seq ?_
   refine wp_block ?_
   refine wp_seq ?_
   refine wp_sr ?_
   refine wl_mv HF rfl rfl rfl rfl rfl ?_; clear HF a; intro a HF
   refine wl_mv HF rfl rfl rfl rfl rfl ?_; clear HF a; intro a HF
   refine wl_y rfl HF rfl rfl (yl_indexAddrR (e := 9) (i := k) (size := 1) rfl (HF.ev rfl) (HF.ev rfl) (by kernel_rfl) rfl (by omega) (R0.out.ao k (by omega))) ?_; clear HF a; intro a HF
   refine wl_y rfl HF rfl rfl (yl_load (v := .string (xs.getD k ByteArray.empty)) rfl (HF.ev rfl) (R0.out.elem1 HS.out (get_getD (xs := xs) (j := k) (d := ByteArray.empty) (by omega)) rfl) (by kernel_rfl)) ?_; clear HF a; intro a HF
   refine wl_y rfl HF rfl rfl (yl_lenS rfl (HF.ev rfl) (by kernel_rfl)) ?_; clear HF a; intro a HF
   refine wl_y rfl HF rfl rfl (yl_gtrI rfl (HF.ev rfl) (HF.ev rfl)) ?_; clear HF a; intro a HF
   refine wl_ne ?_
   refine HF.cases 22 rfl (fun cc3 HF1 => ?_) (fun cc3 HF1 => ?_)
   ·clear HF; have HF := HF1; clear HF1
    have dcc3 := of_decide_eq_true cc3
    refine wc_true HF rfl ?_
    refine wp_sr ?_
    refine wl_as HF rfl rfl rfl rfl rfl ?_; clear HF a; intro a HF
    refine wl_as HF rfl rfl rfl rfl rfl ?_; clear HF a; intro a HF
    refine wl_ne ?_
    refine wp_ret ?_
    refine ex_then_ret ?_
    refine ex_block_ret ?_
    refine ex_then_ret ?_
    refine ex_then_ret ?_
    refine ex_block_ret ?_
    refine ex_then_ret ?_
    refine bp_ret2 HF Tryz.results67 (HF.res rfl) (HF.res rfl) ?_
    exact ⟨by rw [fieldsPut_elem (k := k) (by omega) (by omega)]; rfl, HS.out.bel⟩
   ·clear HF; have HF := HF1; clear HF1
    have dcc3 := of_decide_eq_false cc3
    refine wc_false HF rfl ?_
    refine wp_skip ?_
    refine ex_then ?_
    refine wp_seq ?_
    refine wr_quiet (by kernel_rfl) (by kernel_rfl) HS.out ?_
    refine wq_y rfl HF rfl rfl (fun _ HS => (yl_move rfl (HF.ev rfl))) ?_; clear HF a; intro a HF
    refine wq_y rfl HF rfl rfl (fun _ HS => (yl_move rfl (HF.ev rfl))) ?_; clear HF a; intro a HF
    refine wq_y rfl HF rfl rfl (fun _ HS => (yl_move rfl (HF.ev rfl))) ?_; clear HF a; intro a HF
    refine wq_y rfl HF rfl rfl (fun _ HS => (yl_indexAddrR (e := 9) (i := k) (size := 1) rfl (HF.ev rfl) (HF.ev rfl) (by kernel_rfl) rfl (by omega) (R0.out.ao k (by omega)))) ?_; clear HF a; intro a HF
    refine wq_y rfl HF rfl rfl (fun _ HS => (yl_load (v := .string (xs.getD k ByteArray.empty)) rfl (HF.ev rfl) (R0.out.elem1 HS (get_getD (xs := xs) (j := k) (d := ByteArray.empty) (by omega)) rfl) (by kernel_rfl))) ?_; clear HF a; intro a HF
    refine wq_y rfl HF rfl rfl (fun _ HS => (yl_lenS rfl (HF.ev rfl) (by kernel_rfl))) ?_; clear HF a; intro a HF
    refine wq_call rfl HF rfl (enter_of Tryz.func65 (by kernel_rfl) rfl) (args := #[.int .i64 ((xs.getD k ByteArray.empty).size : Int)]) rfl (v := .string (decB ((xs.getD k ByteArray.empty).size))) (fun _ HS => l6Dec_any ((xs.getD k ByteArray.empty).size) (by omega) _) rfl rfl ?_; clear HF a; intro a HF
    refine wq_y rfl HF rfl rfl (fun _ HS => (yl_addS rfl (HF.ev rfl) (HF.ev rfl) (by (try simp only [size_colon, app_size]); omega))) ?_; clear HF a; intro a HF
    refine wq_y rfl HF rfl rfl (fun _ HS => (yl_addS rfl (HF.ev rfl) (HF.ev rfl) (by (try simp only [size_colon, app_size]); omega))) ?_; clear HF a; intro a HF
    refine wq_y rfl HF rfl rfl (fun _ HS => (yl_move rfl (HF.ev rfl))) ?_; clear HF a; intro a HF
    refine wq_y rfl HF rfl rfl (fun _ HS => (yl_move rfl (HF.ev rfl))) ?_; clear HF a; intro a HF
    refine wq_y rfl HF rfl rfl (fun _ HS => (yl_indexAddrR (e := 9) (i := k) (size := 1) rfl (HF.ev rfl) (HF.ev rfl) (by kernel_rfl) rfl (by omega) (R0.out.ao k (by omega)))) ?_; clear HF a; intro a HF
    refine wq_y rfl HF rfl rfl (fun _ HS => (yl_load (v := .string (xs.getD k ByteArray.empty)) rfl (HF.ev rfl) (R0.out.elem1 HS (get_getD (xs := xs) (j := k) (d := ByteArray.empty) (by omega)) rfl) (by kernel_rfl))) ?_; clear HF a; intro a HF
    refine wq_y rfl HF rfl rfl (fun _ HS => (yl_addS rfl (HF.ev rfl) (HF.ev rfl) (by (try simp only [size_colon, app_size]); omega))) ?_; clear HF a; intro a HF
    refine wq_y rfl HF rfl rfl (fun _ HS => (yl_assign rfl (HF.ev rfl))) ?_; clear HF a; intro a HF
    refine wpQuiet_nil ?_; intro w2 HS; replace HS := Bx.mk HS
    refine ex_then ?_
    refine wp_sr ?_
    refine wl_mv HF rfl rfl rfl rfl rfl ?_; clear HF a; intro a HF
    refine wl_y rfl HF rfl rfl (yl_lenS rfl (HF.ev rfl) (by kernel_rfl)) ?_; clear HF a; intro a HF
    refine wl_y rfl HF rfl rfl (yl_gtrI rfl (HF.ev rfl) (HF.ev rfl)) ?_; clear HF a; intro a HF
    refine wl_ne ?_
    refine HF.cases 39 rfl (fun cc4 HF1 => ?_) (fun cc4 HF1 => ?_)
    ·clear HF; have HF := HF1; clear HF1
     have dcc4 := of_decide_eq_true cc4
     refine wc_true HF rfl ?_
     refine wp_sr ?_
     refine wl_as HF rfl rfl rfl rfl rfl ?_; clear HF a; intro a HF
     refine wl_as HF rfl rfl rfl rfl rfl ?_; clear HF a; intro a HF
     refine wl_ne ?_
     refine wp_ret ?_
     refine ex_block_ret ?_
     refine ex_then_ret ?_
     refine ex_then_ret ?_
     refine ex_block_ret ?_
     refine ex_then_ret ?_
     refine bp_ret2 HF Tryz.results67 (HF.res rfl) (HF.res rfl) ?_
     have hgt : ¬ (recB (xs.take (k + 1))).size ≤ 2048 := by rw [recB_step xs (by omega)]; exact gt_of_cmp cc4
     exact ⟨by rw [fieldsPut_big hgt]; rfl, HS.out.bel⟩
    ·clear HF; have HF := HF1; clear HF1
     have dcc4 := of_decide_eq_false cc4
     refine wc_false HF rfl ?_
     refine wp_skip ?_
     refine ex_block ?_
     refine ex_then ?_
     refine wp_region_lit ?_
     refine wl_mv HF rfl rfl rfl rfl rfl ?_; clear HF a; intro a HF
     refine wl_y rfl HF rfl rfl (yl_addI rfl (HF.ev rfl) (HF.ev rfl) (i64w (by omega))) ?_; clear HF a; intro a HF
     refine wl_as HF rfl rfl rfl rfl rfl ?_; clear HF a; intro a HF
     refine wl_ne ?_
     have hst := recB_step xs (k := k) (by omega)
     have hle : (recB (xs.take (k + 1))).size ≤ 2048 := by rw [hst]; exact le_of_cmp cc4
     exact ⟨k + 1, ⟨⟨by omega, hle, fun h => absurd h (by omega)⟩, HF.less _ ⟨rfl, (congrArg (fun z => some (Value.string z)) hst.symm), rfl, trivial⟩, HS.out⟩, (by omega)⟩
  ·clear HF; have HF := HF1; clear HF1
   have dcc2 := of_decide_eq_false cc2
   refine wc_false HF rfl ?_
   refine wp_exit ?_
   refine ex_then_exit ?_
   refine ex_then_exit ?_
   refine ex_block_hit ?_
   refine ex_then ?_
   refine wp_sr ?_
   refine wl_mv HF rfl rfl rfl rfl rfl ?_; clear HF a; intro a HF
   refine wl_mv HF rfl rfl rfl rfl rfl ?_; clear HF a; intro a HF
   refine wl_y rfl HF rfl rfl (yl_lenL (e := 9) (size := 1) rfl (HF.ev rfl) (by kernel_rfl)) ?_; clear HF a; intro a HF
   refine wl_y rfl HF rfl rfl (yl_leqI rfl (HF.ev rfl) (HF.ev rfl)) ?_; clear HF a; intro a HF
   refine wl_as HF rfl rfl rfl rfl rfl ?_; clear HF a; intro a HF
   refine wl_as HF rfl rfl rfl rfl rfl ?_; clear HF a; intro a HF
   refine wl_ne ?_
   refine wp_ret ?_
   refine bp_ret2 HF Tryz.results67 (HF.res rfl) (HF.res rfl) ?_
   by_cases h60 : xs.length ≤ 60
   ·obtain rfl : k = xs.length := by omega
    rw [List.take_length] at hr
    exact ⟨by rw [fieldsPut_yes h60 hr, List.take_length, show ((decide ((xs.length : Int) ≤ 60))) = true from decide_eq_true (by omega)], HS.out.bel⟩
   ·obtain rfl : k = 0 := h0k (by omega)
    exact ⟨by rw [fieldsPut_long h60, show ((decide ((xs.length : Int) ≤ 60))) = false from decide_eq_false (by omega)]; rfl, HS.out.bel⟩
 ·clear HF; have HF := HF1; clear HF1
  have dcc1 := of_decide_eq_false cc1
  refine wl_skip HF rfl rfl rfl rfl rfl rfl ?_; clear HF a; intro a HF
  refine wl_skip HF rfl rfl rfl rfl rfl rfl ?_; clear HF a; intro a HF
  refine wl_skip HF rfl rfl rfl rfl rfl rfl ?_; clear HF a; intro a HF
  refine wl_y rfl HF rfl rfl (yl_pick_f rfl (HF.ev rfl) (HF.ev rfl)) ?_; clear HF a; intro a HF
  refine wl_ne ?_
  refine wc_false HF rfl ?_
  refine wp_exit ?_
  refine ex_then_exit ?_
  refine ex_then_exit ?_
  refine ex_block_hit ?_
  refine ex_then ?_
  refine wp_sr ?_
  refine wl_mv HF rfl rfl rfl rfl rfl ?_; clear HF a; intro a HF
  refine wl_mv HF rfl rfl rfl rfl rfl ?_; clear HF a; intro a HF
  refine wl_y rfl HF rfl rfl (yl_lenL (e := 9) (size := 1) rfl (HF.ev rfl) (by kernel_rfl)) ?_; clear HF a; intro a HF
  refine wl_y rfl HF rfl rfl (yl_leqI rfl (HF.ev rfl) (HF.ev rfl)) ?_; clear HF a; intro a HF
  refine wl_as HF rfl rfl rfl rfl rfl ?_; clear HF a; intro a HF
  refine wl_as HF rfl rfl rfl rfl rfl ?_; clear HF a; intro a HF
  refine wl_ne ?_
  refine wp_ret ?_
  refine bp_ret2 HF Tryz.results67 (HF.res rfl) (HF.res rfl) ?_
  by_cases h60 : xs.length ≤ 60
  ·obtain rfl : k = xs.length := by omega
   rw [List.take_length] at hr
   exact ⟨by rw [fieldsPut_yes h60 hr, List.take_length, show ((decide ((xs.length : Int) ≤ 60))) = true from decide_eq_true (by omega)], HS.out.bel⟩
  ·obtain rfl : k = 0 := h0k (by omega)
   exact ⟨by rw [fieldsPut_long h60, show ((decide ((xs.length : Int) ≤ 60))) = false from decide_eq_false (by omega)]; rfl, HS.out.bel⟩

end Go.Proofs.YtoaopmkbfifhaaaGreatDoor

/- Laws for the draws, 3: sets of disks that read. -/
namespace Go.Proofs.YtoaopmkbfifhaaaGreatDoor
set_option linter.unusedVariables false
set_option linter.unusedSimpArgs false
set_option maxHeartbeats 1000000
set_option maxRecDepth 100000
open Go.RowKit
/-- A set of disks reads. -/
def rdsP (ao : Option Addr) (ps : List HD) (w : World) : Prop := Rd HD.cells 3 w ao ps.length ps ∧ ∀ p, p ∈ ps → p.reads w
def fitsL (ps : List HD) : Prop := ∀ p, p ∈ ps → p.d.fits
theorem default_fits : (default : HD).d.fits := ⟨Nat.zero_le _, Nat.zero_le _, fun k => Nat.zero_le _, fun k => Nat.zero_le _⟩
theorem fitsL.at {ps : List HD} (h : fitsL ps) (k : Nat) : (ps.getD k default).d.fits := by
  by_cases hk : k < ps.length
  · rw [getD_get hk]; exact h _ (List.getElem_mem hk)
  · rw [show ps.getD k default = default by simp [List.getD, List.getElem?_eq_none (Nat.le_of_not_lt hk)]]
    exact default_fits
theorem fitsL.set {ps : List HD} (h : fitsL ps) {q : HD} (hq : q.d.fits) (k : Nat) : fitsL (ps.set k q) := fun p hp => (List.mem_or_eq_of_mem_set hp).elim (h p) fun e => by rw [e]; exact hq
theorem fitsL.drop {ps : List HD} (h : fitsL ps) (k : Nat) : fitsL (ps.drop k) := fun p hp => h p (List.mem_of_mem_drop hp)
theorem niceS.fitsL {n : Nat} {ps : List HD} (h : niceS n (dsOf ps)) (hn : n ≤ 1000) : fitsL ps := fun p hp => (h.2 p.d (List.mem_map_of_mem hp)).fits hn
theorem niceS.len {n : Nat} {ps : List HD} (h : niceS n (dsOf ps)) : ps.length = 3 := by rw [← dsOf_len]; exact h.1
theorem rdsP.at {ao : Option Addr} {ps : List HD} {w : World} (h : rdsP ao ps w) : ∀ k, k < ps.length → (ps.getD k default).reads w := fun k hk => by rw [getD_get hk]; exact h.2 _ (List.getElem_mem hk)
end Go.Proofs.YtoaopmkbfifhaaaGreatDoor

/- Pointers and trees as texts; signed records: walked. -/
namespace Go.Proofs.YtoaopmkbfifhaaaGreatDoor
set_option linter.unusedVariables false
set_option linter.unusedSimpArgs false
set_option maxHeartbeats 1000000
set_option maxRecDepth 100000
open Go.RowKit

theorem l6DecI_any (n : Int) (h0 : 0 ≤ n) (h1 : n ≤ 9223372036854775807) (w0 : World) : Calls Tryz.prog 65 #[.int .i64 n] w0 fun e w' => e = .returned (.string (decB n.toNat)) ∧ Below w0.heap.size w0 w' := by
  obtain ⟨m, rfl⟩ : ∃ m : Nat, n = (m : Int) := ⟨n.toNat, by omega⟩
  rw [Int.toNat_natCast]; exact l6Dec_any m (by omega) w0
end Go.Proofs.YtoaopmkbfifhaaaGreatDoor

/- Trees and roots as texts: walked. -/
namespace Go.Proofs.YtoaopmkbfifhaaaGreatDoor
set_option linter.unusedVariables false
set_option linter.unusedSimpArgs false
set_option maxHeartbeats 1000000
set_option maxRecDepth 100000
open Go.RowKit

structure TreeD where
  fRoot : PtrD
  fDepth : Int
  fMany : Int
def TreeD.cells (t : TreeD) : List Value := t.fRoot.cells ++ [.int .i64 t.fDepth, .int .i64 t.fMany]
structure RootD where
  fTxg : Int
  fMeta : TreeD
def RootD.cells (x : RootD) : List Value := .int .i64 x.fTxg :: x.fMeta.cells
theorem signed_any (w0 w : World) (ao : Option Addr) (n c : Nat) (xs : List ByteArray) (F : List Asr) (hT : TabP w0) (hl : xs.length ≤ 100) (hx : szs xs) (hS : St w0 (rowA encS 1 9 (.slice ao n c) xs :: F) w) : Calls Tryz.prog 79 #[.slice ao n c] w fun e w' => e = .returned (.string (signB xs)) ∧ St w0 F w' := by
 have hfz := fieldsPut_le xs
 have HT := Bx.mk hT; clear hT
 have HS := Bx.mk hS; clear hS
 refine wc_enter Tryz.func79 rfl Tryz.ntmps79 [(0, .slice ao n c)] ⟨rfl, trivial⟩ rfl ?_; intro a HF
 refine wp_sr ?_
 refine wl_as HF rfl rfl rfl rfl rfl ?_; clear HF a; intro a HF
 refine wl_ne ?_
 refine wp_sr ?_
 refine wl_mv HF rfl rfl rfl rfl rfl ?_; clear HF a; intro a HF
 refine wl_callB rfl HF rfl (enter_of Tryz.func124 (by kernel_rfl) rfl) (args := #[.slice ao n c]) rfl (v := .tuple #[.string ((fieldsPut xs).1), .bool ((fieldsPut xs).2)]) (fieldsPutI_any _ _ _ xs _ (HT.out.below HS.out.bel) (by (try simp only [List.length_append, List.length_cons, List.length_nil, List.nil_append, List.length_map]); omega) hx (St.rdN HS.out encS_len 0 rfl)) rfl rfl HS.out ?_; clear HF HS a; intro w1 a HS HF; replace HS := Bx.mk HS
 refine wl_mv HF rfl rfl rfl rfl rfl ?_; clear HF a; intro a HF
 refine wl_y rfl HF rfl rfl (yl_extract rfl (HF.ev rfl) rfl) ?_; clear HF a; intro a HF
 refine wl_y rfl HF rfl rfl (yl_extract rfl (HF.ev rfl) rfl) ?_; clear HF a; intro a HF
 refine wl_as HF rfl rfl rfl rfl rfl ?_; clear HF a; intro a HF
 refine wl_as HF rfl rfl rfl rfl rfl ?_; clear HF a; intro a HF
 refine wl_ne ?_
 refine wp_sr ?_
 refine wl_mv HF rfl rfl rfl rfl rfl ?_; clear HF a; intro a HF
 refine wl_mv HF rfl rfl rfl rfl rfl ?_; clear HF a; intro a HF
 refine wl_callB rfl HF rfl (enter_of Tryz.func125 (by kernel_rfl) rfl) (args := #[.string ((fieldsPut xs).1)]) rfl (v := .int .i64 (sumOf ((fieldsPut xs).1))) (sumOfI_any ((fieldsPut xs).1) _ (by omega)) rfl rfl HS.out ?_; clear HF HS a; intro w2 a HS HF; replace HS := Bx.mk HS
 refine wl_callB rfl HF rfl (enter_of Tryz.func80 (by kernel_rfl) rfl) (args := #[.int .i64 (sumOf ((fieldsPut xs).1))]) rfl (v := .string (numB (sumOf ((fieldsPut xs).1)))) (numPutI_any (sumOf ((fieldsPut xs).1)) _ (HT.out.below HS.out.bel)) rfl rfl HS.out ?_; clear HF HS a; intro w3 a HS HF; replace HS := Bx.mk HS
 refine wl_buildS (enc := encS) (e := 9) (size := 1) rfl HF rfl rfl rfl (ps := [(0, .string (numB (sumOf ((fieldsPut xs).1))))]) rfl (cells := [.string (numB (sumOf ((fieldsPut xs).1)))]) (by kernel_rfl) [numB (sumOf ((fieldsPut xs).1))] rfl rfl (by unfold maxLen; omega) rfl HS.out ?_; clear HF HS a; intro b1 a w4 HF HS; replace HS := Bx.mk HS
 refine wl_appL rfl HF rfl rfl rfl (HF.ev rfl) (HF.ev rfl) elemS encS_len HS.out 1 (xs := xs) rfl (ys := [numB (sumOf ((fieldsPut xs).1))]) (St.rdN HS.out encS_len 0 rfl) (cells_one_S _) (by unfold maxLen; (try simp only [List.length_append, List.length_cons, List.length_nil, List.nil_append, List.length_map]); omega) (by (try simp only [List.length_append, List.length_cons, List.length_nil, List.nil_append, List.length_map]); omega) ?_; clear HF HS a; intro ao2 cp3 w5 a HF HS; replace HS := Bx.mk HS
 replace HS : Bx (St w0 (rowA encS 1 9 (.slice (some ⟨b1, 0, none⟩) 1 1) ([numB (sumOf ((fieldsPut xs).1))]) :: rowA encS 1 9 (.slice ao2 (xs.length + ([numB (sumOf ((fieldsPut xs).1))]).length) cp3) (xs ++ ([numB (sumOf ((fieldsPut xs).1))])) :: F) _) := ⟨HS.out⟩
 refine wl_callB rfl HF rfl (enter_of Tryz.func124 (by kernel_rfl) rfl) (args := #[.slice ao2 (xs.length + ([numB (sumOf ((fieldsPut xs).1))]).length) cp3]) rfl (v := .tuple #[.string ((fieldsPut (xs ++ ([numB (sumOf ((fieldsPut xs).1))]))).1), .bool ((fieldsPut (xs ++ ([numB (sumOf ((fieldsPut xs).1))]))).2)]) (fieldsPutI_any _ _ _ (xs ++ ([numB (sumOf ((fieldsPut xs).1))])) _ (HT.out.below HS.out.bel) (by (try simp only [List.length_append, List.length_cons, List.length_nil, List.nil_append, List.length_map]); omega) (szs_app hx (szs_cons (Nat.le_trans (numB_le _) (by decide)) szs_nil)) (St.rdN HS.out encS_len 1 rfl)) rfl rfl HS.out ?_; clear HF HS a; intro w6 a HS HF; replace HS := Bx.mk HS
 refine wl_mv HF rfl rfl rfl rfl rfl ?_; clear HF a; intro a HF
 refine wl_y rfl HF rfl rfl (yl_extract rfl (HF.ev rfl) rfl) ?_; clear HF a; intro a HF
 refine wl_y rfl HF rfl rfl (yl_extract rfl (HF.ev rfl) rfl) ?_; clear HF a; intro a HF
 refine wl_as HF rfl rfl rfl rfl rfl ?_; clear HF a; intro a HF
 refine wl_as HF rfl rfl rfl rfl rfl ?_; clear HF a; intro a HF
 refine wl_ne ?_
 refine wp_sr ?_
 refine wl_mv HF rfl rfl rfl rfl rfl ?_; clear HF a; intro a HF
 refine wl_as HF rfl rfl rfl rfl rfl ?_; clear HF a; intro a HF
 refine wl_ne ?_
 refine wp_ret ?_
 refine bp_ret1 HF Tryz.results79 (HF.res rfl) ?_
 exact ⟨by unfold signB; rw [← numB_sum]; rfl, ((HS.out.erase 1).erase 0)⟩

def RootD.ok (x : RootD) : Bool := (bif inB x.fTxg 1 900 then (bif x.fMeta.fRoot.ok then (bif inB x.fMeta.fDepth 0 2 then inB x.fMeta.fMany 1 16 else false) else false) else false)

end Go.Proofs.YtoaopmkbfifhaaaGreatDoor

/- The plain laws of healing and writing. -/
namespace Go.Proofs.YtoaopmkbfifhaaaGreatDoor
set_option linter.unusedVariables false
set_option linter.unusedSimpArgs false
set_option maxHeartbeats 1000000
set_option maxRecDepth 100000
open Go.RowKit
theorem bytes_toList {a b : ByteArray} (h : (a.toList == b.toList) = true) : a = b := by
  have h := eq_of_beq h
  rw [ByteArray.toList_eq, ByteArray.toList_eq] at h
  exact ByteArray.ext (Array.toList_inj.1 h)
theorem okR_at {ds : List DiskD} (h : okR ds = true) : ds.length = 3 ∧ ∀ k, k < 3 → (ds.getD k default).ok = true := by
  unfold okR at h
  rw [Bool.and_eq_true, decide_eq_true_eq] at h
  obtain ⟨h1, h2⟩ := h
  rw [h1] at h2
  exact ⟨h1, fun k hk => allB_at h2 hk⟩
def fitsD (ds : List DiskD) : Prop := ∀ d, d ∈ ds → d.fits
theorem fitsL_of {ps : List HD} (h : fitsD (dsOf ps)) : fitsL ps := fun p hp => h p.d (List.mem_map_of_mem hp)
end Go.Proofs.YtoaopmkbfifhaaaGreatDoor

/- Writing to a set of disks, by both. -/
namespace Go.Proofs.YtoaopmkbfifhaaaGreatDoor
set_option linter.unusedVariables false
set_option linter.unusedSimpArgs false
set_option maxHeartbeats 1000000
set_option maxRecDepth 100000
open Go.RowKit

theorem waits_small {qs : List HD} (h : okR (dsOf qs) = true) (k : Nat) : (qs.getD k default).d.fWaits.length ≤ 120 := by
  by_cases hk : k < 3
  · have := (okR_at h).2 k hk
    rw [dsOf_get] at this
    exact (ok_waits this).2
  · have hl := (okR_at h).1
    rw [dsOf_len] at hl
    rw [show qs.getD k default = default by simp [List.getD, List.getElem?_eq_none (show qs.length ≤ k by omega)]]; exact Nat.zero_le _

end Go.Proofs.YtoaopmkbfifhaaaGreatDoor

/- A text to a row of all disks; roots written, by both. -/
namespace Go.Proofs.YtoaopmkbfifhaaaGreatDoor
set_option linter.unusedVariables false
set_option linter.unusedSimpArgs false
set_option maxHeartbeats 1000000
set_option maxRecDepth 100000
open Go.RowKit

theorem writeRow1_any (w0 w : World) (bi bt m : Nat) (hm : m < 64) (ps : List HD) (k : Nat) (hokk : (ps.getD k default).d.ok = true) (hf : (ps.getD k default).d.fits) (hp : (ps.getD k default).reads w0) (t : ByteArray) (ht : t.size ≤ 2048) (X : List Asr) (hS : St w0 (boxA bi 1 3 (.agg #[.int .i64 (m : Int)]) :: boxA bt 1 9 (.agg #[.string t]) :: X) w) : Calls Tryz.prog 76 #[.int .i64 (k : Int), .agg #[.slice ((ps.getD k default).a0) ((ps.getD k default).d.fCells.length) ((ps.getD k default).c0), .slice ((ps.getD k default).a1) ((ps.getD k default).d.fWaits.length) ((ps.getD k default).c1), .bool ((ps.getD k default).d.fGone)], .pointer (some ⟨bi, 0, none⟩), .pointer (some ⟨bt, 0, none⟩)] w fun e w' => (stepPut (m : Int) (fun _ => t) (fun _ => true) k (ps.getD k default).d = none ∧ ∃ q : HD, e = .returned (.tuple #[.agg #[.slice q.a0 q.d.fCells.length q.c0, .slice q.a1 q.d.fWaits.length q.c1, .bool q.d.fGone], .bool false]) ∧ St w0 X w') ∨ (∃ q : HD, stepPut (m : Int) (fun _ => t) (fun _ => true) k (ps.getD k default).d = some q.d ∧ e = .returned (.tuple #[.agg #[.slice q.a0 q.d.fCells.length q.c0, .slice q.a1 q.d.fWaits.length q.c1, .bool q.d.fGone], .bool true]) ∧ St w0 (q.asr :: boxA bi 1 3 (.agg #[.int .i64 (m : Int)]) :: boxA bt 1 9 (.agg #[.string t]) :: X) w') := by
 have hP := Bx.mk hp; clear hp
 have HS := Bx.mk hS; clear hS
 refine wc_enter Tryz.func76 rfl Tryz.ntmps76 [(0, .int .i64 (k : Int)), (1, .agg #[.slice ((ps.getD k default).a0) ((ps.getD k default).d.fCells.length) ((ps.getD k default).c0), .slice ((ps.getD k default).a1) ((ps.getD k default).d.fWaits.length) ((ps.getD k default).c1), .bool ((ps.getD k default).d.fGone)]), (2, .pointer (some ⟨bi, 0, none⟩)), (3, .pointer (some ⟨bt, 0, none⟩))] ⟨rfl, rfl, rfl, rfl, trivial⟩ rfl ?_; intro a HF
 refine wp_sr ?_
 refine wl_box rfl HF rfl (HF.ev rfl) (Z := [.slice ((ps.getD k default).a0) ((ps.getD k default).d.fCells.length) ((ps.getD k default).c0), .slice ((ps.getD k default).a1) ((ps.getD k default).d.fWaits.length) ((ps.getD k default).c1), .bool ((ps.getD k default).d.fGone)]) rfl rfl rfl rfl HS.out ?_; clear HF HS a; intro a w1 b1 HF HS; replace HS := Bx.mk HS
 refine wl_alloc rfl HF rfl rfl rfl (Z := [.slice none 0 0, .slice none 0 0, .bool false]) (by kernel_rfl) rfl HS.out ?_; clear HF HS a; intro a w2 b2 HF HS; replace HS := Bx.mk HS
 refine wl_as HF rfl rfl rfl rfl rfl ?_; clear HF a; intro a HF
 refine wl_ne ?_
 refine wp_seq ?_
 refine wp_sr ?_
 refine wl_y rfl HF rfl rfl (yl_fieldAddr (j := 2) rfl (HF.ev rfl) (by kernel_rfl)) ?_; clear HF a; intro a HF
 refine wl_y rfl HF rfl rfl (yl_load (v := .bool ((ps.getD k default).d.fGone)) rfl (HF.ev rfl) (((HS.out.box 1 rfl).cell 2).trans rfl) (by kernel_rfl)) ?_; clear HF a; intro a HF
 refine wl_ne ?_
 refine HF.cases 9 rfl (fun cc1 HF1 => ?_) (fun cc1 HF1 => ?_)
 ·clear HF; have HF := HF1; clear HF1
  refine wc_true HF rfl ?_
  refine wp_sr ?_
  refine wl_y rfl HF rfl rfl (yl_loadR (cs := [.slice ((ps.getD k default).a0) ((ps.getD k default).d.fCells.length) ((ps.getD k default).c0), .slice ((ps.getD k default).a1) ((ps.getD k default).d.fWaits.length) ((ps.getD k default).c1), .bool ((ps.getD k default).d.fGone)]) rfl (HF.ev rfl) ((HS.out.box 1 rfl).sub 0 3) (by kernel_rfl)) ?_; clear HF a; intro a HF
  refine wl_call rfl HF rfl (enter_of Tryz.func77 (by kernel_rfl) rfl) (args := #[.agg #[.slice ((ps.getD k default).a0) ((ps.getD k default).d.fCells.length) ((ps.getD k default).c0), .slice ((ps.getD k default).a1) ((ps.getD k default).d.fWaits.length) ((ps.getD k default).c1), .bool ((ps.getD k default).d.fGone)]]) rfl (clone_any (ps.getD k default) _ (hP.out.below HS.out.bel) hf) rfl rfl ?_
  rintro _ w3 ⟨⟨qa3, qc3, qb3, qe3, qd⟩, hqd, rfl, hs⟩; obtain rfl : qd = (ps.getD k default).d := hqd; refine ⟨_, rfl, ?_⟩
  replace HS := Bx.mk ((HS.out.add hs)); clear hs HF; clear a; intro a HF
  replace HS : Bx (St w0 (HD.asr ⟨qa3, qc3, qb3, qe3, (ps.getD k default).d⟩ :: boxA b2 3 94 (.agg #[.slice none 0 0, .slice none 0 0, .bool false]) :: boxA b1 3 94 (.agg #[.slice ((ps.getD k default).a0) ((ps.getD k default).d.fCells.length) ((ps.getD k default).c0), .slice ((ps.getD k default).a1) ((ps.getD k default).d.fWaits.length) ((ps.getD k default).c1), .bool ((ps.getD k default).d.fGone)]) :: boxA bi 1 3 (.agg #[.int .i64 (m : Int)]) :: boxA bt 1 9 (.agg #[.string t]) :: X) _) := ⟨HS.out⟩
  refine wl_storeBox rfl HF rfl rfl (HF.ev rfl) (HF.ev rfl) HS.out 1 rfl (cells_lit [.slice qa3 ((ps.getD k default).d.fCells.length) qc3, .slice qb3 ((ps.getD k default).d.fWaits.length) qe3, .bool ((ps.getD k default).d.fGone)] rfl rfl) (by kernel_rfl) ?_; clear HS; intro w4 HS; replace HS := Bx.mk HS
  have HS : Bx (St w0 (HD.asr ⟨qa3, qc3, qb3, qe3, (ps.getD k default).d⟩ :: boxA b2 3 94 (.agg #[.slice qa3 ((ps.getD k default).d.fCells.length) qc3, .slice qb3 ((ps.getD k default).d.fWaits.length) qe3, .bool ((ps.getD k default).d.fGone)]) :: boxA b1 3 94 (.agg #[.slice ((ps.getD k default).a0) ((ps.getD k default).d.fCells.length) ((ps.getD k default).c0), .slice ((ps.getD k default).a1) ((ps.getD k default).d.fWaits.length) ((ps.getD k default).c1), .bool ((ps.getD k default).d.fGone)]) :: boxA bi 1 3 (.agg #[.int .i64 (m : Int)]) :: boxA bt 1 9 (.agg #[.string t]) :: X) _) := HS
  refine wl_as HF rfl rfl rfl rfl rfl ?_; clear HF a; intro a HF
  refine wl_ne ?_
  refine wp_ret ?_
  refine ex_then_ret ?_
  refine bp_ret2 HF Tryz.results76 (HF.resBox rfl (HS.out.box 1 rfl) (by kernel_rfl)) (HF.res rfl) ?_
  replace HS : Bx (St w0 (HD.asr ⟨qa3, qc3, qb3, qe3, (ps.getD k default).d⟩ :: boxA bi 1 3 (.agg #[.int .i64 (m : Int)]) :: boxA bt 1 9 (.agg #[.string t]) :: boxA b2 3 94 (.agg #[.slice qa3 ((ps.getD k default).d.fCells.length) qc3, .slice qb3 ((ps.getD k default).d.fWaits.length) qe3, .bool ((ps.getD k default).d.fGone)]) :: boxA b1 3 94 (.agg #[.slice ((ps.getD k default).a0) ((ps.getD k default).d.fCells.length) ((ps.getD k default).c0), .slice ((ps.getD k default).a1) ((ps.getD k default).d.fWaits.length) ((ps.getD k default).c1), .bool ((ps.getD k default).d.fGone)]) :: X) _) := ⟨(((HS.out).pick 4 rfl).pick 4 rfl).pick 2 rfl⟩
  exact .inr ⟨⟨qa3, qc3, qb3, qe3, (ps.getD k default).d⟩, stepPut_skip (by rw [cc1, Bool.true_or]), rfl, ((HS.out.erase 4).erase 3)⟩
 ·clear HF; have HF := HF1; clear HF1
  refine wc_false HF rfl ?_
  refine wp_skip ?_
  refine ex_then ?_
  refine wp_sr ?_
  refine wl_y rfl HF rfl rfl (yl_loadR (cs := [.slice ((ps.getD k default).a0) ((ps.getD k default).d.fCells.length) ((ps.getD k default).c0), .slice ((ps.getD k default).a1) ((ps.getD k default).d.fWaits.length) ((ps.getD k default).c1), .bool ((ps.getD k default).d.fGone)]) rfl (HF.ev rfl) ((HS.out.box 1 rfl).sub 0 3) (by kernel_rfl)) ?_; clear HF a; intro a HF
  refine wl_y rfl HF rfl rfl (yl_load (v := .int .i64 (m : Int)) rfl (HF.ev rfl) (((HS.out.box 2 rfl).cell 0).trans rfl) (by kernel_rfl)) ?_; clear HF a; intro a HF
  refine wl_y rfl HF rfl rfl (yl_load (v := .string t) rfl (HF.ev rfl) (((HS.out.box 3 rfl).cell 0).trans rfl) (by kernel_rfl)) ?_; clear HF a; intro a HF
  refine wl_call rfl HF rfl (enter_of Tryz.func78 (by kernel_rfl) rfl) (args := #[.agg #[.slice ((ps.getD k default).a0) ((ps.getD k default).d.fCells.length) ((ps.getD k default).c0), .slice ((ps.getD k default).a1) ((ps.getD k default).d.fWaits.length) ((ps.getD k default).c1), .bool ((ps.getD k default).d.fGone)], .int .i64 (m : Int), .string t]) rfl (diskWrite_any (ps.getD k default) (m : Int) t _ (hP.out.below HS.out.bel) hf hokk (by omega)) rfl rfl ?_
  rintro _ w5 (⟨hcan, q, rfl, hs⟩ | ⟨hcan, q, hqd, rfl, hs⟩)
  ·skip
   refine ⟨_, rfl, ?_⟩; replace HS := Bx.mk (HS.out.add hs); clear hs HF; clear a; intro a HF
   replace HS : Bx (St w0 (HD.asr q :: boxA b2 3 94 (.agg #[.slice none 0 0, .slice none 0 0, .bool false]) :: boxA b1 3 94 (.agg #[.slice ((ps.getD k default).a0) ((ps.getD k default).d.fCells.length) ((ps.getD k default).c0), .slice ((ps.getD k default).a1) ((ps.getD k default).d.fWaits.length) ((ps.getD k default).c1), .bool ((ps.getD k default).d.fGone)]) :: boxA bi 1 3 (.agg #[.int .i64 (m : Int)]) :: boxA bt 1 9 (.agg #[.string t]) :: X) _) := ⟨HS.out⟩
   refine wl_y rfl HF rfl rfl (yl_extract rfl (HF.ev rfl) rfl) ?_; clear HF a; intro a HF
   refine wl_y rfl HF rfl rfl (yl_extract rfl (HF.ev rfl) rfl) ?_; clear HF a; intro a HF
   refine wl_storeBox rfl HF rfl rfl (HF.ev rfl) (HF.ev rfl) HS.out 1 rfl (cells_lit [.slice q.a0 q.d.fCells.length q.c0, .slice q.a1 q.d.fWaits.length q.c1, .bool q.d.fGone] rfl rfl) (by kernel_rfl) ?_; clear HS; intro w6 HS; replace HS := Bx.mk HS
   have HS : Bx (St w0 (HD.asr q :: boxA b2 3 94 (.agg #[.slice q.a0 q.d.fCells.length q.c0, .slice q.a1 q.d.fWaits.length q.c1, .bool q.d.fGone]) :: boxA b1 3 94 (.agg #[.slice ((ps.getD k default).a0) ((ps.getD k default).d.fCells.length) ((ps.getD k default).c0), .slice ((ps.getD k default).a1) ((ps.getD k default).d.fWaits.length) ((ps.getD k default).c1), .bool ((ps.getD k default).d.fGone)]) :: boxA bi 1 3 (.agg #[.int .i64 (m : Int)]) :: boxA bt 1 9 (.agg #[.string t]) :: X) _) := HS
   refine wl_as HF rfl rfl rfl rfl rfl ?_; clear HF a; intro a HF
   refine wl_ne ?_
   refine wp_ret ?_
   refine bp_ret2 HF Tryz.results76 (HF.resBox rfl (HS.out.box 1 rfl) (by kernel_rfl)) (HF.res rfl) ?_
   exact .inl ⟨stepPut_fail cc1 rfl hcan, q, rfl, (((((HS.out.erase 4).erase 3).erase 2).erase 1).erase 0)⟩
  ·skip
   refine ⟨_, rfl, ?_⟩; replace HS := Bx.mk (HS.out.add hs); clear hs HF; clear a; intro a HF
   replace HS : Bx (St w0 (HD.asr q :: boxA b2 3 94 (.agg #[.slice none 0 0, .slice none 0 0, .bool false]) :: boxA b1 3 94 (.agg #[.slice ((ps.getD k default).a0) ((ps.getD k default).d.fCells.length) ((ps.getD k default).c0), .slice ((ps.getD k default).a1) ((ps.getD k default).d.fWaits.length) ((ps.getD k default).c1), .bool ((ps.getD k default).d.fGone)]) :: boxA bi 1 3 (.agg #[.int .i64 (m : Int)]) :: boxA bt 1 9 (.agg #[.string t]) :: X) _) := ⟨HS.out⟩
   refine wl_y rfl HF rfl rfl (yl_extract rfl (HF.ev rfl) rfl) ?_; clear HF a; intro a HF
   refine wl_y rfl HF rfl rfl (yl_extract rfl (HF.ev rfl) rfl) ?_; clear HF a; intro a HF
   refine wl_storeBox rfl HF rfl rfl (HF.ev rfl) (HF.ev rfl) HS.out 1 rfl (cells_lit [.slice q.a0 q.d.fCells.length q.c0, .slice q.a1 q.d.fWaits.length q.c1, .bool q.d.fGone] rfl rfl) (by kernel_rfl) ?_; clear HS; intro w7 HS; replace HS := Bx.mk HS
   have HS : Bx (St w0 (HD.asr q :: boxA b2 3 94 (.agg #[.slice q.a0 q.d.fCells.length q.c0, .slice q.a1 q.d.fWaits.length q.c1, .bool q.d.fGone]) :: boxA b1 3 94 (.agg #[.slice ((ps.getD k default).a0) ((ps.getD k default).d.fCells.length) ((ps.getD k default).c0), .slice ((ps.getD k default).a1) ((ps.getD k default).d.fWaits.length) ((ps.getD k default).c1), .bool ((ps.getD k default).d.fGone)]) :: boxA bi 1 3 (.agg #[.int .i64 (m : Int)]) :: boxA bt 1 9 (.agg #[.string t]) :: X) _) := HS
   refine wl_as HF rfl rfl rfl rfl rfl ?_; clear HF a; intro a HF
   refine wl_ne ?_
   refine wp_ret ?_
   refine bp_ret2 HF Tryz.results76 (HF.resBox rfl (HS.out.box 1 rfl) (by kernel_rfl)) (HF.res rfl) ?_
   replace HS : Bx (St w0 (HD.asr q :: boxA bi 1 3 (.agg #[.int .i64 (m : Int)]) :: boxA bt 1 9 (.agg #[.string t]) :: boxA b2 3 94 (.agg #[.slice q.a0 q.d.fCells.length q.c0, .slice q.a1 q.d.fWaits.length q.c1, .bool q.d.fGone]) :: boxA b1 3 94 (.agg #[.slice ((ps.getD k default).a0) ((ps.getD k default).d.fCells.length) ((ps.getD k default).c0), .slice ((ps.getD k default).a1) ((ps.getD k default).d.fWaits.length) ((ps.getD k default).c1), .bool ((ps.getD k default).d.fGone)]) :: X) _) := ⟨(((HS.out).pick 4 rfl).pick 4 rfl).pick 2 rfl⟩
   exact .inr ⟨q, by rw [hqd]; exact stepPut_put cc1 rfl hcan, rfl, ((HS.out.erase 4).erase 3)⟩

/-- A text to a row of all disks that are not gone. -/
def sameF (ds : List DiskD) (row : Int) (t : ByteArray) : Option (List DiskD) := eachTo (stepPut row (fun _ => t) (fun _ => true)) ds 3
theorem writeRow_any (a0 : Option Addr) (c0 : Nat) (ps : List HD) (w0 : World) (hl : ps.length ≤ 1048576) (hf : fitsL ps) (hp : rdsP a0 ps w0) (row : Int) (hr0 : 0 ≤ row) (hr1 : row < 64) (t : ByteArray) (ht : t.size ≤ 2048) (hok : okR (dsOf ps) = true) : Calls Tryz.prog 37 #[.agg #[.slice a0 ps.length c0], .int .i64 row, .string t] w0 fun e w' => (sameF (dsOf ps) row t = none ∧ e = .returned (.tuple #[.agg #[.slice none 0 0], .bool false]) ∧ St w0 [] w') ∨ (∃ ao cp qs, sameF (dsOf ps) row t = some (dsOf qs) ∧ e = .returned (.tuple #[.agg #[.slice ao qs.length cp], .bool true]) ∧ St w0 [rowA HD.cells 3 94 (.slice ao qs.length cp) qs, sepA (qs.map HD.asr)] w') := by
 obtain ⟨m, rfl⟩ : ∃ m : Nat, row = (m : Int) := ⟨row.toNat, by omega⟩; have hm : m < 64 := by omega
 have h3 := okR_three hok
 have HS := Bx.mk (St.start w0)
 refine wc_enter Tryz.func37 rfl Tryz.ntmps37 [(0, .agg #[.slice a0 ps.length c0]), (1, .int .i64 (m : Int)), (2, .string t)] ⟨rfl, rfl, rfl, trivial⟩ rfl ?_; intro a HF
 refine wp_sr ?_
 refine wl_box rfl HF rfl (HF.ev rfl) (Z := [.slice a0 ps.length c0]) rfl rfl rfl rfl HS.out ?_; clear HF HS a; intro a w1 b1 HF HS; replace HS := Bx.mk HS
 refine wl_box rfl HF rfl (HF.ev rfl) (Z := [.int .i64 (m : Int)]) rfl rfl rfl rfl HS.out ?_; clear HF HS a; intro a w2 b2 HF HS; replace HS := Bx.mk HS
 refine wl_box rfl HF rfl (HF.ev rfl) (Z := [.string t]) rfl rfl rfl rfl HS.out ?_; clear HF HS a; intro a w3 b3 HF HS; replace HS := Bx.mk HS
 refine wl_alloc rfl HF rfl rfl rfl (Z := [.slice none 0 0]) (by kernel_rfl) rfl HS.out ?_; clear HF HS a; intro a w4 b4 HF HS; replace HS := Bx.mk HS
 refine wl_as HF rfl rfl rfl rfl rfl ?_; clear HF a; intro a HF
 refine wl_ne ?_
 refine wp_sr ?_
 refine wl_y rfl HF rfl rfl (yl_loadR (cs := [.slice a0 ps.length c0]) rfl (HF.ev rfl) ((HS.out.box 3 rfl).sub 0 1) (by kernel_rfl)) ?_; clear HF a; intro a HF
 refine wl_y rfl HF rfl rfl (yl_makeFunc HF rfl (cs := #[.pointer (some ⟨b2, 0, none⟩), .pointer (some ⟨b3, 0, none⟩)]) rfl) ?_; clear HF a; intro a HF
 replace HS : Bx (St w0 ([boxA b2 1 3 (.agg #[.int .i64 (m : Int)]), boxA b3 1 9 (.agg #[.string t]), boxA b4 1 34 (.agg #[.slice none 0 0]), boxA b1 1 34 (.agg #[.slice a0 ps.length c0])]) _) := ⟨((HS.out).pick 1 rfl).pick 2 rfl⟩
 refine wl_call rfl HF rfl (enter_of Tryz.func75 (by kernel_rfl) rfl) (args := #[.agg #[.slice a0 ps.length c0], .func (.func 76) #[] #[.pointer (some ⟨b2, 0, none⟩), .pointer (some ⟨b3, 0, none⟩)]]) rfl (each_any w0 _ a0 c0 ps 76 #[.pointer (some ⟨b2, 0, none⟩), .pointer (some ⟨b3, 0, none⟩)] (stepPut (m : Int) (fun _ => t) (fun _ => true)) (fun _ => [boxA b2 1 3 (.agg #[.int .i64 (m : Int)]), boxA b3 1 9 (.agg #[.string t])]) [boxA b4 1 34 (.agg #[.slice none 0 0]), boxA b1 1 34 (.agg #[.slice a0 ps.length c0])] hl (enter_of Tryz.func76 (by kernel_rfl) rfl) hp.1 (fun k hk w X _ hS => writeRow1_any w0 w b2 b3 m hm ps k (h3.2 k (by omega)) (hf.at k) (hp.at k hk) t ht X hS) HS.out) rfl rfl ?_
 rintro _ w5 (⟨hev, rfl, hs⟩ | ⟨ao, cp, qs, hev, rfl, hs⟩)
 ·skip
  refine ⟨_, rfl, ?_⟩; replace HS := Bx.mk (hs); clear hs HF; clear a; intro a HF
  replace HS : Bx (St w0 ([boxA b4 1 34 (.agg #[.slice none 0 0]), boxA b1 1 34 (.agg #[.slice a0 ps.length c0])]) _) := ⟨HS.out⟩
  refine wl_y rfl HF rfl rfl (yl_extract rfl (HF.ev rfl) rfl) ?_; clear HF a; intro a HF
  refine wl_y rfl HF rfl rfl (yl_extract rfl (HF.ev rfl) rfl) ?_; clear HF a; intro a HF
  refine wl_storeBox rfl HF rfl rfl (HF.ev rfl) (HF.ev rfl) HS.out 0 rfl (cells_lit [.slice none 0 0] rfl rfl) (by kernel_rfl) ?_; clear HS; intro w6 HS; replace HS := Bx.mk HS
  have HS : Bx (St w0 ([boxA b4 1 34 (.agg #[.slice none 0 0]), boxA b1 1 34 (.agg #[.slice a0 ps.length c0])]) _) := HS
  refine wl_as HF rfl rfl rfl rfl rfl ?_; clear HF a; intro a HF
  refine wl_ne ?_
  refine wp_ret ?_
  refine bp_ret2 HF Tryz.results37 (HF.resBox rfl (HS.out.box 0 rfl) (by kernel_rfl)) (HF.res rfl) ?_
  rw [h3.1] at hev
  exact .inl ⟨hev, rfl, ((HS.out.erase 1).erase 0)⟩
 ·skip
  refine ⟨_, rfl, ?_⟩; replace HS := Bx.mk (hs); clear hs HF; clear a; intro a HF
  replace HS : Bx (St w0 ([rowA HD.cells 3 94 (.slice ao qs.length cp) qs, sepA (qs.map HD.asr), boxA b2 1 3 (.agg #[.int .i64 (m : Int)]), boxA b3 1 9 (.agg #[.string t]), boxA b4 1 34 (.agg #[.slice none 0 0]), boxA b1 1 34 (.agg #[.slice a0 ps.length c0])]) _) := ⟨HS.out⟩
  refine wl_y rfl HF rfl rfl (yl_extract rfl (HF.ev rfl) rfl) ?_; clear HF a; intro a HF
  refine wl_y rfl HF rfl rfl (yl_extract rfl (HF.ev rfl) rfl) ?_; clear HF a; intro a HF
  refine wl_storeBox rfl HF rfl rfl (HF.ev rfl) (HF.ev rfl) HS.out 4 rfl (cells_lit [.slice ao qs.length cp] rfl rfl) (by kernel_rfl) ?_; clear HS; intro w7 HS; replace HS := Bx.mk HS
  have HS : Bx (St w0 ([rowA HD.cells 3 94 (.slice ao qs.length cp) qs, sepA (qs.map HD.asr), boxA b2 1 3 (.agg #[.int .i64 (m : Int)]), boxA b3 1 9 (.agg #[.string t]), boxA b4 1 34 (.agg #[.slice ao qs.length cp]), boxA b1 1 34 (.agg #[.slice a0 ps.length c0])]) _) := HS
  refine wl_as HF rfl rfl rfl rfl rfl ?_; clear HF a; intro a HF
  refine wl_ne ?_
  refine wp_ret ?_
  refine bp_ret2 HF Tryz.results37 (HF.resBox rfl (HS.out.box 4 rfl) (by kernel_rfl)) (HF.res rfl) ?_
  rw [h3.1] at hev
  replace HS : Bx (St w0 ([rowA HD.cells 3 94 (.slice ao qs.length cp) qs, sepA (qs.map HD.asr), boxA b2 1 3 (.agg #[.int .i64 (m : Int)]), boxA b3 1 9 (.agg #[.string t]), boxA b4 1 34 (.agg #[.slice ao qs.length cp]), boxA b1 1 34 (.agg #[.slice a0 ps.length c0])]) _) := ⟨((HS.out).pick 1 rfl).pick 1 rfl⟩
  exact .inr ⟨_, _, qs, hev, rfl, ((((HS.out.erase 5).erase 4).erase 3).erase 2)⟩

theorem l22Same_any (w0 w : World) (ga ca : Nat) (qs : List HD) (F : List Asr) (row : Int) (hr0 : 0 ≤ row) (hr1 : row < 64) (t : ByteArray) (ht : t.size ≤ 2048) (hok : okR (dsOf qs) = true) (hql : qs.length = 3) (hS : St w0 (rowA HD.cells 3 94 (.slice (some ⟨ga, 0, none⟩) qs.length ca) qs :: sepA (qs.map HD.asr) :: F) w) : Calls Tryz.prog 30 #[.agg #[.slice (some ⟨ga, 0, none⟩) qs.length ca], .int .i64 row, .string t] w fun e w' => (sameF (dsOf qs) row t = none ∧ e = .returned (.tuple #[.agg #[.slice none 0 0], .bool false]) ∧ St w0 F w') ∨ (∃ zs, sameF (dsOf qs) row t = some (dsOf zs) ∧ zs.length = qs.length ∧ e = .returned (.tuple #[.agg #[.slice (some ⟨ga, 0, none⟩) qs.length ca], .bool true]) ∧ St w0 (rowA HD.cells 3 94 (.slice (some ⟨ga, 0, none⟩) qs.length ca) zs :: sepA (zs.map HD.asr) :: F) w') := by
 obtain ⟨m, rfl⟩ : ∃ m : Nat, row = (m : Int) := ⟨row.toNat, by omega⟩; have hm : m < 64 := by omega
 have HS := Bx.mk hS; clear hS
 refine wc_enter Tryz.func30 rfl Tryz.ntmps30 [(0, .agg #[.slice (some ⟨ga, 0, none⟩) qs.length ca]), (1, .int .i64 (m : Int)), (2, .string t)] ⟨rfl, rfl, rfl, trivial⟩ rfl ?_; intro a HF
 refine wp_sr ?_
 refine wl_box rfl HF rfl (HF.ev rfl) (Z := [.slice (some ⟨ga, 0, none⟩) qs.length ca]) rfl rfl rfl rfl HS.out ?_; clear HF HS a; intro a w1 b1 HF HS; replace HS := Bx.mk HS
 refine wl_alloc rfl HF rfl rfl rfl (Z := [.slice none 0 0]) (by kernel_rfl) rfl HS.out ?_; clear HF HS a; intro a w2 b2 HF HS; replace HS := Bx.mk HS
 refine wl_as HF rfl rfl rfl rfl rfl ?_; clear HF a; intro a HF
 refine wl_ne ?_
 refine wp_sr ?_
 refine wl_y rfl HF rfl rfl (yl_loadR (cs := [.slice (some ⟨ga, 0, none⟩) qs.length ca]) rfl (HF.ev rfl) ((HS.out.box 1 rfl).sub 0 1) (by kernel_rfl)) ?_; clear HF a; intro a HF
 refine wl_mv HF rfl rfl rfl rfl rfl ?_; clear HF a; intro a HF
 refine wl_mv HF rfl rfl rfl rfl rfl ?_; clear HF a; intro a HF
 refine wl_mv HF rfl rfl rfl rfl rfl ?_; clear HF a; intro a HF
 refine wl_mv HF rfl rfl rfl rfl rfl ?_; clear HF a; intro a HF
 refine wl_buildS (enc := encS) (e := 9) (size := 1) rfl HF rfl rfl rfl (ps := [(0, .string t), (1, .string t), (2, .string t)]) rfl (cells := [.string t, .string t, .string t]) (by kernel_rfl) [t, t, t] rfl rfl (by unfold maxLen; omega) rfl HS.out ?_; clear HF HS a; intro b3 a w3 HF HS; replace HS := Bx.mk HS
 refine wl_buildS (enc := encL) (e := 4) (size := 1) rfl HF rfl rfl rfl (ps := [(0, .bool true), (1, .bool true), (2, .bool true)]) rfl (cells := [.bool true, .bool true, .bool true]) (by kernel_rfl) [true, true, true] rfl rfl (by unfold maxLen; omega) rfl HS.out ?_; clear HF HS a; intro b4 a w4 HF HS; replace HS := Bx.mk HS
 replace HS : Bx (St w0 (rowA HD.cells 3 94 (.slice (some ⟨ga, 0, none⟩) qs.length ca) qs :: sepA (qs.map HD.asr) :: rowA encS 1 9 (.slice (some ⟨b3, 0, none⟩) 3 3) ([t, t, t]) :: rowA encL 1 4 (.slice (some ⟨b4, 0, none⟩) 3 3) ([true, true, true]) :: boxA b2 1 34 (.agg #[.slice none 0 0]) :: boxA b1 1 34 (.agg #[.slice (some ⟨ga, 0, none⟩) qs.length ca]) :: F) _) := ⟨((((HS.out).pick 0 rfl).pick 1 rfl).pick 5 rfl).pick 5 rfl⟩
 have hcong : eachTo (stepPut (m : Int) (fun i => [t, t, t].getD i ByteArray.empty) (fun i => [true, true, true].getD i false)) (dsOf qs) qs.length = sameF (dsOf qs) (m : Int) t := by unfold sameF; rw [hql]; exact eachTo_congr fun k hk => by rcases (by omega : k = 0 ∨ k = 1 ∨ k = 2) with rfl | rfl | rfl <;> rfl
 refine wl_call rfl HF rfl (enter_of Tryz.func63 (by kernel_rfl) rfl) (args := #[.agg #[.slice (some ⟨ga, 0, none⟩) qs.length ca], .int .i64 (m : Int), .slice (some ⟨b3, 0, none⟩) 3 3, .slice (some ⟨b4, 0, none⟩) 3 3]) rfl (by have := l4Put_any w0 _ ga ca b3 3 b4 3 qs (m : Int) [t, t, t] [true, true, true] _ (by omega) (by rw [hql]; exact Nat.le_refl 3) (by rw [hql]; exact Nat.le_refl 3) (fun k => by have h9 := waits_small (qs := qs) hok k; omega) (fun i => by rcases (by omega : i = 0 ∨ i = 1 ∨ i = 2 ∨ 3 ≤ i) with rfl | rfl | rfl | h <;> first | (show t.size ≤ _; omega) | (rw [List.getD_eq_getElem?_getD, List.getElem?_eq_none (by simpa using h)]; exact Nat.zero_le _)) HS.out; rw [hcong] at this; exact this) rfl rfl ?_
 rintro _ w5 (⟨hev, rfl, hs⟩ | ⟨zs, hev, rfl, hs⟩)
 ·skip
  refine ⟨_, rfl, ?_⟩; replace HS := Bx.mk (hs); clear hs HF; clear a; intro a HF
  replace HS : Bx (St w0 (rowA encS 1 9 (.slice (some ⟨b3, 0, none⟩) 3 3) ([t, t, t]) :: rowA encL 1 4 (.slice (some ⟨b4, 0, none⟩) 3 3) ([true, true, true]) :: boxA b2 1 34 (.agg #[.slice none 0 0]) :: boxA b1 1 34 (.agg #[.slice (some ⟨ga, 0, none⟩) qs.length ca]) :: F) _) := ⟨HS.out⟩
  refine wl_y rfl HF rfl rfl (yl_extract rfl (HF.ev rfl) rfl) ?_; clear HF a; intro a HF
  refine wl_y rfl HF rfl rfl (yl_extract rfl (HF.ev rfl) rfl) ?_; clear HF a; intro a HF
  refine wl_storeBox rfl HF rfl rfl (HF.ev rfl) (HF.ev rfl) HS.out 2 rfl (cells_lit [.slice none 0 0] rfl rfl) (by kernel_rfl) ?_; clear HS; intro w6 HS; replace HS := Bx.mk HS
  have HS : Bx (St w0 (rowA encS 1 9 (.slice (some ⟨b3, 0, none⟩) 3 3) ([t, t, t]) :: rowA encL 1 4 (.slice (some ⟨b4, 0, none⟩) 3 3) ([true, true, true]) :: boxA b2 1 34 (.agg #[.slice none 0 0]) :: boxA b1 1 34 (.agg #[.slice (some ⟨ga, 0, none⟩) qs.length ca]) :: F) _) := HS
  refine wl_as HF rfl rfl rfl rfl rfl ?_; clear HF a; intro a HF
  refine wl_ne ?_
  refine wp_ret ?_
  refine bp_ret2 HF Tryz.results30 (HF.resBox rfl (HS.out.box 2 rfl) (by kernel_rfl)) (HF.res rfl) ?_
  exact .inl ⟨hev, rfl, ((((HS.out.erase 3).erase 2).erase 1).erase 0)⟩
 ·skip
  refine ⟨_, rfl, ?_⟩; replace HS := Bx.mk (hs); clear hs HF; clear a; intro a HF
  replace HS : Bx (St w0 (rowA HD.cells 3 94 (.slice (some ⟨ga, 0, none⟩) qs.length ca) zs :: sepA (zs.map HD.asr) :: rowA encS 1 9 (.slice (some ⟨b3, 0, none⟩) 3 3) ([t, t, t]) :: rowA encL 1 4 (.slice (some ⟨b4, 0, none⟩) 3 3) ([true, true, true]) :: boxA b2 1 34 (.agg #[.slice none 0 0]) :: boxA b1 1 34 (.agg #[.slice (some ⟨ga, 0, none⟩) qs.length ca]) :: F) _) := ⟨HS.out⟩
  refine wl_y rfl HF rfl rfl (yl_extract rfl (HF.ev rfl) rfl) ?_; clear HF a; intro a HF
  refine wl_y rfl HF rfl rfl (yl_extract rfl (HF.ev rfl) rfl) ?_; clear HF a; intro a HF
  refine wl_storeBox rfl HF rfl rfl (HF.ev rfl) (HF.ev rfl) HS.out 4 rfl (cells_lit [.slice (some ⟨ga, 0, none⟩) qs.length ca] rfl rfl) (by kernel_rfl) ?_; clear HS; intro w7 HS; replace HS := Bx.mk HS
  have HS : Bx (St w0 (rowA HD.cells 3 94 (.slice (some ⟨ga, 0, none⟩) qs.length ca) zs :: sepA (zs.map HD.asr) :: rowA encS 1 9 (.slice (some ⟨b3, 0, none⟩) 3 3) ([t, t, t]) :: rowA encL 1 4 (.slice (some ⟨b4, 0, none⟩) 3 3) ([true, true, true]) :: boxA b2 1 34 (.agg #[.slice (some ⟨ga, 0, none⟩) qs.length ca]) :: boxA b1 1 34 (.agg #[.slice (some ⟨ga, 0, none⟩) qs.length ca]) :: F) _) := HS
  refine wl_as HF rfl rfl rfl rfl rfl ?_; clear HF a; intro a HF
  refine wl_ne ?_
  refine wp_ret ?_
  refine bp_ret2 HF Tryz.results30 (HF.resBox rfl (HS.out.box 4 rfl) (by kernel_rfl)) (HF.res rfl) ?_
  replace HS : Bx (St w0 (rowA HD.cells 3 94 (.slice (some ⟨ga, 0, none⟩) qs.length ca) zs :: sepA (zs.map HD.asr) :: rowA encS 1 9 (.slice (some ⟨b3, 0, none⟩) 3 3) ([t, t, t]) :: rowA encL 1 4 (.slice (some ⟨b4, 0, none⟩) 3 3) ([true, true, true]) :: boxA b2 1 34 (.agg #[.slice (some ⟨ga, 0, none⟩) qs.length ca]) :: boxA b1 1 34 (.agg #[.slice (some ⟨ga, 0, none⟩) qs.length ca]) :: F) _) := ⟨((HS.out).pick 1 rfl).pick 1 rfl⟩
  have hzl : zs.length = qs.length := by have h8 := hev; unfold sameF at h8; rw [← dsOf_len, eachTo_len h8, hql]
  exact .inr ⟨zs, hev, hzl, rfl, ((((HS.out.erase 5).erase 4).erase 3).erase 2)⟩

end Go.Proofs.YtoaopmkbfifhaaaGreatDoor

/- A part of a box is written as a whole. -/
namespace Go.Proofs.YtoaopmkbfifhaaaGreatDoor
set_option linter.unusedVariables false
set_option linter.unusedSimpArgs false
set_option maxHeartbeats 1000000
set_option maxRecDepth 100000
open Go.RowKit

theorem Box.putAt {w : World} {b n : Nat} {t : TypeId} {cs : List Value} (h : Box w b n t (.agg cs.toArray)) (k : Nat) (ds : List Value) (hk : k + ds.length ≤ cs.length) (g1 : ∀ u ∈ ds, u.oneCell' = true) :
    w.there b k ds.length ∧ Box (w.setCells b k ds) b n t (.agg (splice cs k ds).toArray) ∧ Outside b (b + 1) w (w.setCells b k ds) := by
  obtain ⟨cs', e, hl, h1, hh⟩ := h
  obtain rfl : cs = cs' := by simpa using e
  obtain ⟨k1, k2, k3⟩ := blk_setCells ds k w cs hh hk
  refine ⟨fun j hj => ⟨by rw [blk_cell hh]; simp; omega, blk_frozen hh _⟩, ⟨_, rfl, ?_, ?_, k1⟩, k2⟩
  · unfold splice; simp; omega
  · intro u hu
    unfold splice at hu
    rcases List.mem_append.1 hu with hu | hu
    · rcases List.mem_append.1 hu with hu | hu
      · exact h1 u (List.mem_of_mem_take hu)
      · exact g1 u hu
    · exact h1 u (List.mem_of_mem_drop hu)
section
variable {P : Program} {ops : Array Oper} {Q : Exit → Act → World → Prop} {rest : List Oper} {o : Oper} {a : Act} {W w : World} {s : List Asr}
theorem wl_storeSub (hg : o.guard = none) {t : TypeId} {x y : Operand} (ho : o.op = .store t x y) (hd : o.dst = none) {b n k : Nat} {T : TypeId} {cs ds rs : List Value} (hx : a.eval x = .pointer (some ⟨b, k, none⟩)) (hy : a.eval y = .agg ds.toArray) (hS : St W s w) (i : Nat) (hi : s[i]? = some (boxA b n T (.agg cs.toArray))) (hk : Nat.ble (k + ds.length) cs.length = true) (hv : (ds.all fun u => u.oneCell') = true) (hn : rowOf? P t ds.length = true) (hr : splice cs k ds = rs)
    (h : ∀ w', St W (s.set i (boxA b n T (.agg rs.toArray))) w' → wpList P ops Q rest a w') : wpList P ops Q (o :: rest) a w := by
  obtain ⟨k1, k2, k3⟩ := (hS.box i hi).putAt k ds (Nat.le_of_ble_eq_true hk) (List.all_eq_true.1 hv)
  refine wpList_plain hg fun K hK => wp_store_mid t x y ho b k ds.toArray hx hy (by simpa using k1) (by rw [(rowOf_spec hn).2]; simp) (by simpa using hv) ?_
  rw [hd]
  exact hK _ _ (h _ (by rw [← hr]; exact hS.putBox i hi k2 k3))
end
end Go.Proofs.YtoaopmkbfifhaaaGreatDoor

/- FnExactRootWrite: the law's walk. -/
namespace Go.Proofs.YtoaopmkbfifhaaaGreatDoor
set_option linter.unusedVariables false
set_option linter.unusedSimpArgs false
set_option maxHeartbeats 1000000
set_option maxRecDepth 100000
open Go.RowKit

theorem same_fit {ds xs : List DiskD} {row : Int} {t : ByteArray} (hok : okR ds = true) (h : sameF ds row t = some xs) : (⟨xs⟩ : RaidD).Fit := by
  unfold okR at hok
  simp only [Bool.and_eq_true, decide_eq_true_eq] at hok
  have hl : xs.length = 3 := eachTo_len h
  have hk : ∀ k, k < 3 → (xs.getD k default).fCells.length ≤ 64 ∧ (xs.getD k default).fWaits.length ≤ 121 := fun k hk => by
    have h4 := stepPut_len (eachTo_at h k hk)
    have h5 := ok_waits (allB_at (p := fun k => (ds.getD k default).ok) hok.2 (show k < ds.length by omega))
    omega
  have ht : tot lenT xs ≤ 10000000 := by
    match xs, hl with
    | [a, b, c], _ =>
      have k0 := hk 0 (by omega)
      have k1 := hk 1 (by omega)
      have k2 := hk 2 (by omega)
      simp only [List.getD_cons_zero, List.getD_cons_succ] at k0 k1 k2
      simp only [tot, lenT]
      omega
  refine ⟨by show xs.length ≤ _; omega, ht, fun k => ?_⟩
  show (xs.getD k default).Fit
  by_cases hkk : k < 3
  · have := hk k hkk; exact ⟨by omega, by omega⟩
  · rw [List.getD_eq_getElem?_getD, List.getElem?_eq_none (by omega)]; exact ⟨Nat.zero_le _, Nat.zero_le _⟩
end Go.Proofs.YtoaopmkbfifhaaaGreatDoor
