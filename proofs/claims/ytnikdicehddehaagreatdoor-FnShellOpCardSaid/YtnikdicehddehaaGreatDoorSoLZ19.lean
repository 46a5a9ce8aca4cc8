/- A part of the proof in YtnikdicehddehaaGreatDoorSoLZ30. -/
import Derived.ArgAppend
import Derived.BigQuiet
import Derived.BigRegion
import Derived.Deep.AppendLies
import Derived.Deep.MidRow
import Derived.Deep.Quiet
import Derived.Deep.QuietTactic
import Derived.Deep.RegionHeld3
import Derived.Deep.RegionWith
import Derived.IntWalk
import Derived.Laws.BytesArg
import Derived.Laws.IdiomRangeMap
import Derived.Laws.RangeAny
import Derived.Lib.AppendIntMem
import Derived.Lib.Atoi
import Derived.Lib.Hide
import Derived.Lib.IndexBytes
import Derived.Lib.IndexLaws
import Derived.Lib.ItoaNum
import Derived.Lib.Join
import Derived.Lib.LazyBuf
import Derived.Lib.SlBytesConst
import Derived.Lib.Split
import Derived.Lib.SplitLaws
import Derived.LoopIn
import Derived.LoopN
import Derived.LoopNIn
import Derived.Orders
import Derived.OrdersHeld
import Derived.OwnWalkIn
import Derived.RangeFuncLeaves
import Derived.RangeFuncNested
import Derived.Shelf.Abstract
import Derived.Shelf.GgClosure.StringsIndexFunc
import Derived.Shelf.Small.Wraps
import Derived.Shelf.Strconv.Itoa3
import Derived.Shelf.Strings.BuilderF
import Derived.Shelf.Strings.BuilderK
import Derived.Shelf.Strings.FuncGrows
import Derived.Shelf.Strings.OnBuilder
import Derived.Shelf.Strings.Split
import Derived.Shelf.Strings.SplitShaped
import Derived.Shelf.Vars
import Derived.Still
import Derived.StillTail
import Derived.StillTailTactics
import Derived.StringKeys
import Derived.TacticsInMore
import Derived.Test.YtnikdicehddehaaGreatDoorRows
import Derived.WalkKit
import Derived.WalkLawsBesides
import Derived.WalkSpells
import Derived.WideKeyMaps2
import Derived.Test.YtnikdicehddehaaGreatDoorSoLZ18
/- Disks in rows; the first place at which a function says yes. -/
namespace Go.Proofs.YtnikdicehddehaaGreatDoor
set_option linter.unusedVariables false
set_option linter.unusedSimpArgs false
set_option maxHeartbeats 1000000
set_option maxRecDepth 100000
open Go.RowKit

/-- A disk's header beside its datum. -/
structure HD where
  a0 : Option Addr
  c0 : Nat
  a1 : Option Addr
  c1 : Nat
  d : DiskD
def HD.cells (p : HD) : List Value := [.slice p.a0 p.d.fCells.length p.c0, .slice p.a1 p.d.fWaits.length p.c1, .bool p.d.fGone]
instance : Inhabited DiskD := ⟨⟨[], [], false⟩⟩
instance : Inhabited HD := ⟨⟨none, 0, none, 0, default⟩⟩
structure HD.reads (w : World) (p : HD) : Prop where
  rc : Rd encS 1 w p.a0 p.d.fCells.length p.d.fCells
  rw : Rd WaitD.cells 2 w p.a1 p.d.fWaits.length p.d.fWaits
theorem HD.reads.below {w w' : World} {p : HD} (h : p.reads w) (hb : Below w.heap.size w w') : p.reads w' := ⟨h.rc.below hb, h.rw.below hb⟩
end Go.Proofs.YtnikdicehddehaaGreatDoor

/- Disks that are valid, by the program; sets of disks. -/
namespace Go.Proofs.YtnikdicehddehaaGreatDoor
set_option linter.unusedVariables false
set_option linter.unusedSimpArgs false
set_option maxHeartbeats 1000000
set_option maxRecDepth 100000
open Go.RowKit

structure DiskD.fits (d : DiskD) : Prop where
  c : d.fCells.length ≤ 1048576
  w : d.fWaits.length ≤ 1048576
  cz : ∀ k, (d.fCells.getD k ByteArray.empty).size ≤ 9223372036854775807
  wz : ∀ k, (d.fWaits.getD k default).fText.size ≤ 9223372036854775807
def dsOf (ps : List HD) : List DiskD := ps.map HD.d
theorem dsOf_len (ps : List HD) : (dsOf ps).length = ps.length := List.length_map ..
theorem dsOf_get (ps : List HD) (k : Nat) : (dsOf ps).getD k default = (ps.getD k default).d := by
  unfold dsOf
  simp only [List.getD_eq_getElem?_getD, List.getElem?_map]
  cases ps[k]? <;> rfl
end Go.Proofs.YtnikdicehddehaaGreatDoor

/- Disks in rows, put in and taken out; copies. -/
namespace Go.Proofs.YtnikdicehddehaaGreatDoor
set_option linter.unusedVariables false
set_option linter.unusedSimpArgs false
set_option maxHeartbeats 1000000
set_option maxRecDepth 100000
open Go.RowKit

theorem St.swap {W w : World} {a b : Asr} {F : List Asr} (h : St W (a :: b :: F) w) : St W (b :: a :: F) w := h.perm (List.Perm.swap ..)
theorem getD_get {α : Type} [Inhabited α] {xs : List α} {k : Nat} (h : k < xs.length) : xs.getD k default = xs[k] := by simp [List.getD, h]
end Go.Proofs.YtnikdicehddehaaGreatDoor

/- Laws for the draws, 2: stores into rows in drawn regions; what holds as long as blocks lie as they lie. -/
namespace Go.Proofs.YtnikdicehddehaaGreatDoor
set_option linter.unusedVariables false
set_option linter.unusedSimpArgs false
set_option maxHeartbeats 1000000
set_option maxRecDepth 100000
open Go.RowKit
section
variable {P : Program} {o : Oper} {a : Act} {w : World} {e : TypeId}
theorem yl_sliceLo {t : TypeId} {x y : Operand} (ho : o.op = .slice t x (some y) none none) {g off n cap : Nat} (hx : a.eval x = .slice (some ⟨g, off, none⟩) n cap) {kk : IntKind} {m : Int} (hy : a.eval y = .int kk m) {size : Nat} (hu : elemOf? P t = some (e, size)) {k : Nat} (hm : m = (k : Int)) (hk : k ≤ n) (hc : k < cap) : Yl P w o a (.slice (some ⟨g, off + k * size, none⟩) (n - k) (cap - k)) := by
  unfold elemOf? at hu
  split at hu
  · rename_i e' hu'
    split at hu
    · rename_i inf hq
      simp only [Option.some.injEq, Prod.mk.injEq] at hu
      obtain ⟨_, rfl⟩ := hu
      subst hm
      have h2 : ((k : Int) ≤ (n : Int)) := by omega
      have h3 : ¬ cap = k := by omega
      unfold Yl execOp
      simp only [ho, hx, hy, Option.map_some, Option.map_none, Instr.sliceAt, Instr.slice, Sem.run_bind, run_underlying hu' w, Result.andThen_ok]
      simp [Instr.slice, Instr.sliceBounds, Instr.sliceBound, asIntOf, go_sem, run_underlying hu' w, sizeOf, typeInfo, hq, h2, h3, Addr.add]
      rw [if_pos hk]
      by_cases hz : k * inf.size = 0
      · rw [if_pos hz, hz, Nat.add_zero]
      · rw [if_neg hz]
    · cases hu
  · cases hu
end
section
variable {P : Program} {ops : Array Oper} {Q : Exit → Act → World → Prop} {a : Act} {w W : World} {s : List Asr} {fuel m N : Nat} {listed : Array Bool} {oi : Oper} {l : List (Nat × Value)} {K : Act → World → Prop}
theorem wo_y {i : Nat} (hi : ops[i]? = some oi) (hg : oi.guard = none) (hF : Fr N a l) {d : Nat} (hd : oi.dst = some d) (hN : Nat.blt d N = true) {v : Value} (hy : Yl P w oi a v) (h : ∀ a', Fr N a' ((d, v) :: l) → K a' w) : wpOp P ops Q i K a w := by
  refine wo_of hi hg ?_
  unfold Oper.wp
  rw [hy]
  show K (a.put oi.dst v) w
  rw [hd]
  exact h _ (hF.put (Nat.le_of_ble_eq_true hN) v)
end
/-! ### What holds as long as blocks lie as they lie -/
def holdsA (P : World → Prop) : Asr := ⟨fun w f => ∀ w', w.heap.size ≤ w'.heap.size → (∀ b, b ∈ f → w'.heap[b]? = w.heap[b]?) → P w', fun w w' f hs hb h w2 hs2 hb2 => h w2 (Nat.le_trans hs hs2) fun b hm => (hb2 b hm).trans (hb b hm)⟩
theorem St.hold {W w : World} {A : Asr} {F : List Asr} {P : World → Prop} (h : St W (A :: F) w) (hP : ∀ w f, A.P w f → P w) : St W (holdsA P :: F) w := by
  obtain ⟨f, ⟨f1, f2, rfl, h1, h2⟩, hn, hb⟩ := h.sep
  exact ⟨h.bel, f1 ++ f2, ⟨f1, f2, rfl, fun w' hs hb => hP w' f1 (A.loc _ _ _ hs hb h1), h2⟩, hn, hb⟩
theorem Rd.drop {α : Type} {enc : α → List Value} {size : Nat} {w : World} {g o n : Nat} {xs : List α} (h : Rd enc size w (some ⟨g, o, none⟩) n xs) {k : Nat} (hk : k ≤ xs.length) : Rd enc size w (some ⟨g, o + k * size, none⟩) (n - k) (xs.drop k) := by
  refine ⟨by rw [List.length_drop, h.len], fun i hi => ?_⟩
  rw [List.length_drop] at hi
  obtain ⟨b, off, x, hx, e, hlt, hr⟩ := h.at_ (k + i) (by omega)
  simp only [Option.some.injEq, Addr.mk.injEq, and_true] at e
  obtain ⟨rfl, rfl⟩ := e
  exact ⟨g, o + k * size, x, by rw [List.getElem?_drop]; exact hx, rfl, hlt, by rw [Nat.add_assoc, ← Nat.add_mul]; exact hr⟩
/-- A disk of which all can be written, at most so many writes waiting. -/
structure DiskD.nice (n : Nat) (d : DiskD) : Prop where
  g : d.fGone = false
  c : d.fCells.length = 64
  w : d.fWaits.length ≤ n
  a : ∀ k, k < d.fWaits.length → 0 ≤ (d.fWaits.getD k default).fAt ∧ (d.fWaits.getD k default).fAt < 64
  z : ∀ x, x ∈ d.fCells → x.size ≤ 1000
  u : ∀ x, x ∈ d.fWaits → x.fText.size ≤ 1000
theorem getD_le {xs : List ByteArray} {m : Nat} (h : ∀ x, x ∈ xs → x.size ≤ m) (k : Nat) : (xs.getD k ByteArray.empty).size ≤ m := by
  by_cases hk : k < xs.length
  · rw [show xs.getD k ByteArray.empty = xs[k] by simp [List.getD, hk]]
    exact h _ (List.getElem_mem hk)
  · rw [show xs.getD k ByteArray.empty = ByteArray.empty by simp [List.getD, List.getElem?_eq_none (Nat.le_of_not_lt hk)]]
    exact Nat.zero_le _
theorem waits_le {xs : List WaitD} {m : Nat} (h : ∀ x, x ∈ xs → x.fText.size ≤ m) (k : Nat) : (xs.getD k default).fText.size ≤ m := by
  by_cases hk : k < xs.length
  · rw [show xs.getD k default = xs[k] by simp [List.getD, hk]]
    exact h _ (List.getElem_mem hk)
  · rw [show xs.getD k default = default by simp [List.getD, List.getElem?_eq_none (Nat.le_of_not_lt hk)]]
    exact Nat.zero_le _
theorem DiskD.nice.fits {n : Nat} {d : DiskD} (h : d.nice n) (hn : n ≤ 1000) : d.fits := ⟨by rw [h.c]; omega, by have := h.w; omega, fun k => by have := getD_le h.z k; omega, fun k => by have := waits_le h.u k; omega⟩
/-- Three such disks. -/
def niceS (n : Nat) (ds : List DiskD) : Prop := ds.length = 3 ∧ ∀ d, d ∈ ds → d.nice n
theorem niceS.at {n : Nat} {ds : List DiskD} (h : niceS n ds) {k : Nat} (hk : k < 3) : (ds.getD k default).nice n := by
  rw [getD_get (by rw [h.1]; exact hk)]; exact h.2 _ (List.getElem_mem _)
end Go.Proofs.YtnikdicehddehaaGreatDoor

/- Numbers and records as texts: walked. -/
namespace Go.Proofs.YtnikdicehddehaaGreatDoor
set_option linter.unusedVariables false
set_option linter.unusedSimpArgs false
set_option maxHeartbeats 1000000
set_option maxRecDepth 100000
open Go.RowKit

theorem numPutI_any (n : Int) (w0 : World) (hT : TabP w0) : Calls Tryz.prog 15 #[.int .i64 n] w0 fun e w' => e = .returned (.string (numB n)) ∧ Below w0.heap.size w0 w' := by
 have HT := Bx.mk hT; clear hT
 have HS := Bx.mk (St.start w0)
 refine wc_enter Tryz.func15 rfl Tryz.ntmps15 [(0, .int .i64 n)] ⟨rfl, trivial⟩ rfl ?_; intro a HF
 refine wp_sr ?_
 refine wl_as HF rfl rfl rfl rfl rfl ?_; clear HF a; intro a HF
 refine wl_ne ?_
 refine wp_seq ?_
 refine wp_sr ?_
 refine wl_mv HF rfl rfl rfl rfl rfl ?_; clear HF a; intro a HF
 refine wl_callB rfl HF rfl (enter_of Tryz.func24 (by kernel_rfl) rfl) (args := #[.int .i64 n, .int .i64 0, .int .i64 999999999]) rfl (v := .bool (inB n 0 999999999)) (((within_any n 0 999999999 _).mono fun _ _ h => ⟨h.1, h.2 ▸ Below.refl _ _⟩)) rfl rfl HS.out ?_; clear HF HS a; intro w1 a HS HF; replace HS := Bx.mk HS
 refine wl_y rfl HF rfl rfl (yl_not rfl (HF.ev rfl)) ?_; clear HF a; intro a HF
 refine wl_ne ?_
 refine HF.cases 5 rfl (fun cc1 HF1 => ?_) (fun cc1 HF1 => ?_)
 ·clear HF; have HF := HF1; clear HF1
  refine wc_true HF rfl ?_
  refine wp_sr ?_
  refine wl_as HF rfl rfl rfl rfl rfl ?_; clear HF a; intro a HF
  refine wl_ne ?_
  refine wp_ret ?_
  refine ex_then_ret ?_
  refine bp_ret1 HF Tryz.results15 (HF.res rfl) ?_
  exact ⟨by rw [numB_out (by have := cc1; simp [inB] at this; omega)]; rfl, HS.out.bel⟩
 ·clear HF; have HF := HF1; clear HF1
  refine wc_false HF rfl ?_
  refine wp_skip ?_
  refine ex_then ?_
  refine wp_seq ?_
  have hin : inB n 0 999999999 = true := by simpa using cc1
  obtain ⟨hn0, hn1⟩ : 0 ≤ n ∧ n ≤ 999999999 := by unfold inB at hin; simpa using hin
  obtain ⟨m, rfl⟩ : ∃ m : Nat, n = (m : Int) := ⟨n.toNat, by omega⟩
  refine wp_region_lit ?_
  refine wl_mv HF rfl rfl rfl rfl rfl ?_; clear HF a; intro a HF
  refine wl_callB rfl HF rfl (enter_of Tryz.func31 (by kernel_rfl) rfl) (args := #[.int .i64 (m : Int)]) rfl (v := .string (decB m)) (itoa_any m (by omega) _ (HT.out.below HS.out.bel)) rfl rfl HS.out ?_; clear HF HS a; intro w2 a HS HF; replace HS := Bx.mk HS
  refine wl_as HF rfl rfl rfl rfl rfl ?_; clear HF a; intro a HF
  refine wl_ne ?_
  refine wp_ret ?_
  refine bp_ret1 HF Tryz.results15 (HF.res rfl) ?_
  exact ⟨by rw [numB_in hn0 hn1, Int.toNat_natCast], HS.out.bel⟩

theorem size1 (x : UInt8) : (⟨#[x]⟩ : ByteArray).size = 1 := rfl
theorem l6Dec_any (n : Nat) (hn : n ≤ 9223372036854775807) (w0 : World) : Calls Tryz.prog 18 #[.int .i64 (n : Int)] w0 fun e w' => e = .returned (.string (decB n)) ∧ Below w0.heap.size w0 w' := by
 induction n using Nat.strongRecOn generalizing w0
 rename_i n ih
 have hd := decB_20 (n := n / 10) (by omega)
 have HS := Bx.mk (St.start w0)
 refine wc_enter Tryz.func18 rfl Tryz.ntmps18 [(0, .int .i64 (n : Int))] ⟨rfl, trivial⟩ rfl ?_; intro a HF
 refine wp_sr ?_
 refine wl_as HF rfl rfl rfl rfl rfl ?_; clear HF a; intro a HF
 refine wl_ne ?_
 refine wp_seq ?_
 refine wp_sr ?_
 refine wl_mv HF rfl rfl rfl rfl rfl ?_; clear HF a; intro a HF
 refine wl_y rfl HF rfl rfl (yl_lssI rfl (HF.ev rfl) (HF.ev rfl)) ?_; clear HF a; intro a HF
 refine wl_ne ?_
 refine HF.cases 4 rfl (fun cc1 HF1 => ?_) (fun cc1 HF1 => ?_)
 ·clear HF; have HF := HF1; clear HF1
  have dcc1 := of_decide_eq_true cc1
  omega
 ·clear HF; have HF := HF1; clear HF1
  have dcc1 := of_decide_eq_false cc1
  refine wc_false HF rfl ?_
  refine wp_skip ?_
  refine ex_then ?_
  refine wp_seq ?_
  refine wp_sr ?_
  refine wl_mv HF rfl rfl rfl rfl rfl ?_; clear HF a; intro a HF
  refine wl_y rfl HF rfl rfl (yl_lssI rfl (HF.ev rfl) (HF.ev rfl)) ?_; clear HF a; intro a HF
  refine wl_ne ?_
  refine HF.cases 6 rfl (fun cc2 HF1 => ?_) (fun cc2 HF1 => ?_)
  ·clear HF; have HF := HF1; clear HF1
   have dcc2 := of_decide_eq_true cc2
   omega
  ·clear HF; have HF := HF1; clear HF1
   have dcc2 := of_decide_eq_false cc2
   refine wc_false HF rfl ?_
   refine wp_skip ?_
   refine ex_then ?_
   refine wp_seq ?_
   refine wp_sr ?_
   refine wl_mv HF rfl rfl rfl rfl rfl ?_; clear HF a; intro a HF
   refine wl_y rfl HF rfl rfl (yl_lssI rfl (HF.ev rfl) (HF.ev rfl)) ?_; clear HF a; intro a HF
   refine wl_ne ?_
   refine HF.cases 12 rfl (fun cc3 HF1 => ?_) (fun cc3 HF1 => ?_)
   ·clear HF; have HF := HF1; clear HF1
    have dcc3 := of_decide_eq_true cc3
    refine wc_true HF rfl ?_
    refine wp_sr ?_
    refine wl_mv HF rfl rfl rfl rfl rfl ?_; clear HF a; intro a HF
    refine wl_y rfl HF rfl rfl (yl_addI rfl (HF.ev rfl) (HF.ev rfl) (i64w (by omega))) ?_; clear HF a; intro a HF
    refine wl_y rfl HF rfl rfl (yl_toU8 (b := UInt8.ofNat ((48 : Int) + (n : Int)).toNat) rfl (HF.ev rfl) (by omega) rfl (by kernel_rfl) (by kernel_rfl)) ?_; clear HF a; intro a HF
    refine wl_buildS (enc := encB) (e := 5) (size := 1) rfl HF rfl rfl rfl (ps := [(0, .int .u8 ((UInt8.ofNat ((48 : Int) + (n : Int)).toNat).toNat : Int))]) rfl (cells := [.int .u8 ((UInt8.ofNat ((48 : Int) + (n : Int)).toNat).toNat : Int)]) (by kernel_rfl) [(UInt8.ofNat ((48 : Int) + (n : Int)).toNat)] rfl rfl (by unfold maxLen; omega) rfl HS.out ?_; clear HF HS a; intro b1 a w1 HF HS; replace HS := Bx.mk HS
    refine wl_y rfl HF rfl rfl (yl_convBS (e1 := 5) rfl (HF.ev rfl) (by kernel_rfl) (by kernel_rfl) (by kernel_rfl) (xs := [(UInt8.ofNat ((48 : Int) + (n : Int)).toNat)]) (St.rdN HS.out encB_len 0 rfl)) ?_; clear HF a; intro a HF
    refine wl_as HF rfl rfl rfl rfl rfl ?_; clear HF a; intro a HF
    refine wl_ne ?_
    refine wp_ret ?_
    refine ex_then_ret ?_
    refine bp_ret1 HF Tryz.results18 (HF.res rfl) ?_
    exact ⟨by rw [decB_small (by omega), show UInt8.ofNat (48 + (n : Int)).toNat = UInt8.ofNat (48 + n) from congrArg UInt8.ofNat (by omega)], HS.out.bel⟩
   ·clear HF; have HF := HF1; clear HF1
    have dcc3 := of_decide_eq_false cc3
    refine wc_false HF rfl ?_
    refine wp_skip ?_
    refine ex_then ?_
    refine wp_seq ?_
    refine wr_heldS (s := []) (by kernel_rfl) (St.drew (HS.out)) ?_
    have HS2 := Bx.mk HS.out.drew; replace HS := Bx.mk (show St w0 ([]) _ from HS.out.drew)
    generalize World.drew _ = w2 at HS HS2 ⊢
    refine wh_y 0 rfl (by kernel_rfl) (by kernel_rfl) (by kernel_rfl) (fun _ _ _ h => h) rfl HF rfl rfl (fun _ HS => (yl_move rfl (HF.ev rfl))) HS.out ?_; clear HF a; intro a HF
    refine wh_y 1 rfl (by kernel_rfl) (by kernel_rfl) (by kernel_rfl) (fun _ _ _ h => h) rfl HF rfl rfl (fun _ HS => (yl_quoI rfl (HF.ev rfl) (HF.ev rfl) (by omega) (quo_pos (by omega) (by omega) (by omega)))) HS.out ?_; clear HF a; intro a HF
    refine wh_y 3 rfl (by kernel_rfl) (by kernel_rfl) (by kernel_rfl) (fun _ _ _ h => h) rfl HF rfl rfl (fun _ HS => (yl_move rfl (HF.ev rfl))) HS.out ?_; clear HF a; intro a HF
    refine wh_y 4 rfl (by kernel_rfl) (by kernel_rfl) (by kernel_rfl) (fun _ _ _ h => h) rfl HF rfl rfl (fun _ HS => (yl_remI rfl (HF.ev rfl) (HF.ev rfl) (by omega) (rem_pos (by omega) (by omega)))) HS.out ?_; clear HF a; intro a HF
    refine wh_y 5 rfl (by kernel_rfl) (by kernel_rfl) (by kernel_rfl) (fun _ _ _ h => h) rfl HF rfl rfl (fun _ HS => (yl_addI rfl (HF.ev rfl) (HF.ev rfl) (i64w (by omega)))) HS.out ?_; clear HF a; intro a HF
    refine wh_y 6 rfl (by kernel_rfl) (by kernel_rfl) (by kernel_rfl) (fun _ _ _ h => h) rfl HF rfl rfl (fun _ HS => (yl_toU8 (b := UInt8.ofNat ((48 : Int) + ((n : Int) % 10)).toNat) rfl (HF.ev rfl) (by omega) rfl (by kernel_rfl) (by kernel_rfl))) HS.out ?_; clear HF a; intro a HF
    refine wh_two 2 7 (by kernel_rfl) ?_ ?_
    ·skip
     refine wo_callB rfl rfl HF rfl (enter_of Tryz.func18 (by kernel_rfl) rfl) (args := #[.int .i64 ((n : Int) / 10)]) rfl (v := .string (decB (n / 10))) (ih (n / 10) (by omega) (by omega) _) rfl rfl ?_
     intro w3 hb; replace HS := Bx.mk (HS.out.later hb); replace HS2 := Bx.mk (HS2.out.later hb); clear hb HF; clear a; intro a HF; refine ⟨HS.out, ?_⟩
     refine wh_one 7 (by kernel_rfl) ?_
     refine wo_buildS (enc := encB) (e := 5) (size := 1) rfl rfl HF rfl rfl rfl (ps := [(0, .int .u8 ((UInt8.ofNat ((48 : Int) + ((n : Int) % 10)).toNat).toNat : Int))]) rfl (cells := [.int .u8 ((UInt8.ofNat ((48 : Int) + ((n : Int) % 10)).toNat).toNat : Int)]) (by kernel_rfl) [(UInt8.ofNat ((48 : Int) + ((n : Int) % 10)).toNat)] rfl rfl (by unfold maxLen; omega) rfl HS2.out HS.out ?_; clear HF HS HS2 a; intro b2 a w5 HF HS2 HS; replace HS := Bx.mk HS; replace HS2 := Bx.mk HS2; refine ⟨HS.out, ?_⟩
     refine wh_one 8 (by kernel_rfl) ?_
     refine wo_y rfl rfl HF rfl rfl (yl_convBS (e1 := 5) rfl (HF.ev rfl) (by kernel_rfl) (by kernel_rfl) (by kernel_rfl) (xs := [(UInt8.ofNat ((48 : Int) + ((n : Int) % 10)).toNat)]) (St.rdN HS2.out encB_len 0 rfl)) ?_; clear HF a; intro a HF; refine ⟨HS.out, ?_⟩
     refine wh_y 9 rfl (by kernel_rfl) (by kernel_rfl) (by kernel_rfl) (fun _ _ _ h => h) rfl HF rfl rfl (fun _ HS => (yl_addS rfl (HF.ev rfl) (HF.ev rfl) (by (try simp only [size1, app_size]); omega))) HS.out ?_; clear HF a; intro a HF
     refine wh_y 10 rfl (by kernel_rfl) (by kernel_rfl) (by kernel_rfl) (fun _ _ _ h => h) rfl HF rfl rfl (fun _ HS => (yl_assign rfl (HF.ev rfl))) HS.out ?_; clear HF a; intro a HF
     refine wh_done (by kernel_rfl) ?_
     replace HS := HS2; clear HS2
     refine ex_then ?_
     refine wp_ret ?_
     refine bp_ret1 HF Tryz.results18 (HF.res rfl) ?_
     exact ⟨by rw [decB_big (n := n) (by omega), show UInt8.ofNat (48 + (n : Int) % (10 : Int)).toNat = UInt8.ofNat (48 + n % 10) from congrArg UInt8.ofNat (by omega)], HS.out.bel⟩
    ·skip
     refine wo_buildS (enc := encB) (e := 5) (size := 1) rfl rfl HF rfl rfl rfl (ps := [(0, .int .u8 ((UInt8.ofNat ((48 : Int) + ((n : Int) % 10)).toNat).toNat : Int))]) rfl (cells := [.int .u8 ((UInt8.ofNat ((48 : Int) + ((n : Int) % 10)).toNat).toNat : Int)]) (by kernel_rfl) [(UInt8.ofNat ((48 : Int) + ((n : Int) % 10)).toNat)] rfl rfl (by unfold maxLen; omega) rfl HS2.out HS.out ?_; clear HF HS HS2 a; intro b3 a w8 HF HS2 HS; replace HS := Bx.mk HS; replace HS2 := Bx.mk HS2; refine ⟨HS.out, ?_⟩
     refine wh_two 2 8 (by kernel_rfl) ?_ ?_
     ·skip
      refine wo_callB rfl rfl HF rfl (enter_of Tryz.func18 (by kernel_rfl) rfl) (args := #[.int .i64 ((n : Int) / 10)]) rfl (v := .string (decB (n / 10))) (ih (n / 10) (by omega) (by omega) _) rfl rfl ?_
      intro w9 hb; replace HS := Bx.mk (HS.out.later hb); replace HS2 := Bx.mk (HS2.out.later hb); clear hb HF; clear a; intro a HF; refine ⟨HS.out, ?_⟩
      refine wh_one 8 (by kernel_rfl) ?_
      refine wo_y rfl rfl HF rfl rfl (yl_convBS (e1 := 5) rfl (HF.ev rfl) (by kernel_rfl) (by kernel_rfl) (by kernel_rfl) (xs := [(UInt8.ofNat ((48 : Int) + ((n : Int) % 10)).toNat)]) (St.rdN HS2.out encB_len 0 rfl)) ?_; clear HF a; intro a HF; refine ⟨HS.out, ?_⟩
      refine wh_y 9 rfl (by kernel_rfl) (by kernel_rfl) (by kernel_rfl) (fun _ _ _ h => h) rfl HF rfl rfl (fun _ HS => (yl_addS rfl (HF.ev rfl) (HF.ev rfl) (by (try simp only [size1, app_size]); omega))) HS.out ?_; clear HF a; intro a HF
      refine wh_y 10 rfl (by kernel_rfl) (by kernel_rfl) (by kernel_rfl) (fun _ _ _ h => h) rfl HF rfl rfl (fun _ HS => (yl_assign rfl (HF.ev rfl))) HS.out ?_; clear HF a; intro a HF
      refine wh_done (by kernel_rfl) ?_
      replace HS := HS2; clear HS2
      refine ex_then ?_
      refine wp_ret ?_
      refine bp_ret1 HF Tryz.results18 (HF.res rfl) ?_
      exact ⟨by rw [decB_big (n := n) (by omega), show UInt8.ofNat (48 + (n : Int) % (10 : Int)).toNat = UInt8.ofNat (48 + n % 10) from congrArg UInt8.ofNat (by omega)], HS.out.bel⟩
     ·skip
      refine wo_y rfl rfl HF rfl rfl (yl_convBS (e1 := 5) rfl (HF.ev rfl) (by kernel_rfl) (by kernel_rfl) (by kernel_rfl) (xs := [(UInt8.ofNat ((48 : Int) + ((n : Int) % 10)).toNat)]) (St.rdN HS2.out encB_len 0 rfl)) ?_; clear HF a; intro a HF; refine ⟨HS.out, ?_⟩
      refine wh_one 2 (by kernel_rfl) ?_
      refine wo_callB rfl rfl HF rfl (enter_of Tryz.func18 (by kernel_rfl) rfl) (args := #[.int .i64 ((n : Int) / 10)]) rfl (v := .string (decB (n / 10))) (ih (n / 10) (by omega) (by omega) _) rfl rfl ?_
      intro w12 hb; replace HS := Bx.mk (HS.out.later hb); replace HS2 := Bx.mk (HS2.out.later hb); clear hb HF; clear a; intro a HF; refine ⟨HS.out, ?_⟩
      refine wh_y 9 rfl (by kernel_rfl) (by kernel_rfl) (by kernel_rfl) (fun _ _ _ h => h) rfl HF rfl rfl (fun _ HS => (yl_addS rfl (HF.ev rfl) (HF.ev rfl) (by (try simp only [size1, app_size]); omega))) HS.out ?_; clear HF a; intro a HF
      refine wh_y 10 rfl (by kernel_rfl) (by kernel_rfl) (by kernel_rfl) (fun _ _ _ h => h) rfl HF rfl rfl (fun _ HS => (yl_assign rfl (HF.ev rfl))) HS.out ?_; clear HF a; intro a HF
      refine wh_done (by kernel_rfl) ?_
      replace HS := HS2; clear HS2
      refine ex_then ?_
      refine wp_ret ?_
      refine bp_ret1 HF Tryz.results18 (HF.res rfl) ?_
      exact ⟨by rw [decB_big (n := n) (by omega), show UInt8.ofNat (48 + (n : Int) % (10 : Int)).toNat = UInt8.ofNat (48 + n % 10) from congrArg UInt8.ofNat (by omega)], HS.out.bel⟩

end Go.Proofs.YtnikdicehddehaaGreatDoor

/- Reading a set of disks, by the reference. -/
namespace Go.Proofs.YtnikdicehddehaaGreatDoor
set_option linter.unusedVariables false
set_option linter.unusedSimpArgs false
set_option maxHeartbeats 1000000
set_option maxRecDepth 100000
open Go.RowKit

def PtrD.fits (p : PtrD) (t : ByteArray) : Bool := (bif p.ok then (bif !p.hole then (bif (p.fSize == (t.size : Int)) then (p.fSum == (sumOf t)) else false) else false) else false)

/-- A text, so many times. -/
def manyB (s : ByteArray) : Nat → ByteArray
  | 0 => ByteArray.empty
  | n + 1 => s ++ manyB s n
theorem manyB_size (s : ByteArray) (n : Nat) : (manyB s n).size = n * s.size := by
  induction n with
  | zero => simp [manyB]
  | succ n ih => unfold manyB; rw [ByteArray.size_append, ih, Nat.succ_mul]; omega
theorem manyB_two (s : ByteArray) (n : Nat) : manyB (s ++ s) n = manyB s (2 * n) := by
  induction n with
  | zero => rfl
  | succ n ih =>
    rw [show 2 * (n + 1) = 2 * n + 1 + 1 by omega]
    unfold manyB
    rw [ih]
    conv => rhs; rw [show manyB s (2 * n + 1) = s ++ manyB s (2 * n) from rfl]
    apply ba_ext
    simp [list_append]
theorem many_odd (o s : ByteArray) (n : Nat) (h : n % 2 = 1) : o ++ manyB s n = (o ++ s) ++ manyB (s ++ s) (n / 2) := by
  rw [manyB_two]
  obtain ⟨m, rfl⟩ : ∃ m, n = 2 * m + 1 := ⟨n / 2, by omega⟩
  rw [show (2 * m + 1) / 2 = m by omega]
  conv => lhs; rw [show manyB s (2 * m + 1) = s ++ manyB s (2 * m) from rfl]
  apply ba_ext
  simp [list_append]
theorem many_even (o s : ByteArray) (n : Nat) (h : ¬ n % 2 = 1) : o ++ manyB s n = o ++ manyB (s ++ s) (n / 2) := by
  rw [manyB_two, show 2 * (n / 2) = n by omega]

theorem l6Many_any (s : ByteArray) (n : Nat) (w0 : World) (hn : n ≤ 1000000) (hs : n * s.size ≤ 1000000000) (hs2 : s.size ≤ 1000000000) : Calls Tryz.prog 29 #[.string s, .int .i64 (n : Int)] w0 fun e w' => e = .returned (.string (manyB s n)) ∧ Below w0.heap.size w0 w' := by
 have HS := Bx.mk (St.start w0)
 refine wc_enter Tryz.func29 rfl Tryz.ntmps29 [(0, .string s), (1, .int .i64 (n : Int))] ⟨rfl, rfl, trivial⟩ rfl ?_; intro a HF
 refine wp_sr ?_
 refine wl_as HF rfl rfl rfl rfl rfl ?_; clear HF a; intro a HF
 refine wl_ne ?_
 refine wp_sr ?_
 refine wl_as HF rfl rfl rfl rfl rfl ?_; clear HF a; intro a HF
 refine wl_ne ?_
 refine wp_seq ?_
 refine wp_block ?_
 refine wc_loop (ι := Nat) (fun m a w => ∃ (t o : ByteArray), (m ≤ n ∧ o ++ manyB t m = manyB s n ∧ o.size + m * t.size = n * s.size ∧ t.size ≤ 2 * (n * s.size) + s.size) ∧ Fr 20 a [(0, .string t), (1, .int .i64 (m : Int)), (5, .string o)] ∧ St w0 ([]) w) (fun m => m) n ⟨s, ByteArray.empty, ⟨Nat.le_refl _, rfl, by simp, by omega⟩, HF.less _ ⟨rfl, rfl, rfl, trivial⟩, HS.out⟩ ?_
 clear HF HS; clear a
 rintro m a w1 ⟨t, o, ⟨hm, hq, hz, ht⟩, HF, HS⟩
 replace HS := Bx.mk HS
 refine wp_seq ?_
 refine wp_sr ?_
 refine wl_mv HF rfl rfl rfl rfl rfl ?_; clear HF a; intro a HF
 refine wl_y rfl HF rfl rfl (yl_gtrI rfl (HF.ev rfl) (HF.ev rfl)) ?_; clear HF a; intro a HF
 refine wl_ne ?_
 refine HF.cases 7 rfl (fun cc1 HF1 => ?_) (fun cc1 HF1 => ?_)
 ·clear HF; have HF := HF1; clear HF1
  have dcc1 := of_decide_eq_true cc1
  refine wc_true HF rfl ?_
  refine wp_skip ?_
  refine ex_then ?_
  refine wp_block ?_
  refine wp_seq ?_
  refine wp_seq ?_
  have hm1 : 1 * t.size ≤ m * t.size := Nat.mul_le_mul_right _ (by omega)
  refine wp_region_lit ?_
  refine wl_mv HF rfl rfl rfl rfl rfl ?_; clear HF a; intro a HF
  refine wl_y rfl HF rfl rfl (yl_remI rfl (HF.ev rfl) (HF.ev rfl) (by omega) (rem_pos (by omega) (by omega))) ?_; clear HF a; intro a HF
  refine wl_y rfl HF rfl rfl (yl_eqlI rfl (HF.ev rfl) (HF.ev rfl)) ?_; clear HF a; intro a HF
  refine wl_ne ?_
  refine HF.cases 10 rfl (fun cc2 HF1 => ?_) (fun cc2 HF1 => ?_)
  ·clear HF; have HF := HF1; clear HF1
   have dcc2 := eq_of_beq cc2
   refine wc_true HF rfl ?_
   refine wp_region_lit ?_
   refine wl_mv HF rfl rfl rfl rfl rfl ?_; clear HF a; intro a HF
   refine wl_mv HF rfl rfl rfl rfl rfl ?_; clear HF a; intro a HF
   refine wl_y rfl HF rfl rfl (yl_addS rfl (HF.ev rfl) (HF.ev rfl) (by omega)) ?_; clear HF a; intro a HF
   refine wl_as HF rfl rfl rfl rfl rfl ?_; clear HF a; intro a HF
   refine wl_ne ?_
   refine wp_sr ?_
   refine wl_mv HF rfl rfl rfl rfl rfl ?_; clear HF a; intro a HF
   refine wl_mv HF rfl rfl rfl rfl rfl ?_; clear HF a; intro a HF
   refine wl_y rfl HF rfl rfl (yl_addS rfl (HF.ev rfl) (HF.ev rfl) (by omega)) ?_; clear HF a; intro a HF
   refine wl_as HF rfl rfl rfl rfl rfl ?_; clear HF a; intro a HF
   refine wl_ne ?_
   refine wp_region_lit ?_
   refine wl_mv HF rfl rfl rfl rfl rfl ?_; clear HF a; intro a HF
   refine wl_y rfl HF rfl rfl (yl_quoI rfl (HF.ev rfl) (HF.ev rfl) (by omega) (quo_pos (by omega) (by omega) (by omega))) ?_; clear HF a; intro a HF
   refine wl_as HF rfl rfl rfl rfl rfl ?_; clear HF a; intro a HF
   refine wpList_nil ?_
   refine ex_block ?_
   refine ex_then ?_
   have hmm : m / 2 + m / 2 + m % 2 = m := by omega
   have ho : m % 2 = 1 := by omega
   rw [many_odd o t m ho] at hq
   have hts : (t ++ t).size = t.size + t.size := ByteArray.size_append
   have hos : (o ++ t).size = o.size + t.size := ByteArray.size_append
   have hmt : (m / 2) * (t.size + t.size) + (m % 2) * t.size = m * t.size := by rw [Nat.mul_add, ← Nat.add_mul, ← Nat.add_mul, hmm]
   have hm1 : 1 * t.size ≤ m * t.size := Nat.mul_le_mul_right _ (by omega)
   rw [ho, Nat.one_mul] at hmt
   exact ⟨m / 2, ⟨_, _, ⟨by omega, hq, by rw [hts, hos]; omega, by rw [hts]; omega⟩, HF.less _ ⟨rfl, (by show _ = some (Value.int .i64 ((m / 2 : Nat) : Int)); rw [show ((m / 2 : Nat) : Int) = (m : Int) / 2 by omega]; rfl), rfl, trivial⟩, HS.out⟩, (by omega)⟩
  ·clear HF; have HF := HF1; clear HF1
   have dcc2 := ne_of_beq_false cc2
   refine wc_false HF rfl ?_
   refine wp_skip ?_
   refine ex_then ?_
   refine wp_sr ?_
   refine wl_mv HF rfl rfl rfl rfl rfl ?_; clear HF a; intro a HF
   refine wl_mv HF rfl rfl rfl rfl rfl ?_; clear HF a; intro a HF
   refine wl_y rfl HF rfl rfl (yl_addS rfl (HF.ev rfl) (HF.ev rfl) (by omega)) ?_; clear HF a; intro a HF
   refine wl_as HF rfl rfl rfl rfl rfl ?_; clear HF a; intro a HF
   refine wl_ne ?_
   refine wp_region_lit ?_
   refine wl_mv HF rfl rfl rfl rfl rfl ?_; clear HF a; intro a HF
   refine wl_y rfl HF rfl rfl (yl_quoI rfl (HF.ev rfl) (HF.ev rfl) (by omega) (quo_pos (by omega) (by omega) (by omega))) ?_; clear HF a; intro a HF
   refine wl_as HF rfl rfl rfl rfl rfl ?_; clear HF a; intro a HF
   refine wpList_nil ?_
   refine ex_block ?_
   refine ex_then ?_
   have hmm : m / 2 + m / 2 + m % 2 = m := by omega
   have ho : ¬ m % 2 = 1 := by omega
   rw [many_even o t m ho] at hq
   have hts : (t ++ t).size = t.size + t.size := ByteArray.size_append
   have hmt : (m / 2) * (t.size + t.size) + (m % 2) * t.size = m * t.size := by rw [Nat.mul_add, ← Nat.add_mul, ← Nat.add_mul, hmm]
   have hm1 : 1 * t.size ≤ m * t.size := Nat.mul_le_mul_right _ (by omega)
   rw [show m % 2 = 0 by omega, Nat.zero_mul] at hmt
   exact ⟨m / 2, ⟨_, _, ⟨by omega, hq, by rw [hts]; omega, by rw [hts]; omega⟩, HF.less _ ⟨rfl, (by show _ = some (Value.int .i64 ((m / 2 : Nat) : Int)); rw [show ((m / 2 : Nat) : Int) = (m : Int) / 2 by omega]; rfl), rfl, trivial⟩, HS.out⟩, (by omega)⟩
 ·clear HF; have HF := HF1; clear HF1
  have dcc1 := of_decide_eq_false cc1
  refine wc_false HF rfl ?_
  refine wp_exit ?_
  refine ex_then_exit ?_
  refine ex_then_exit ?_
  refine ex_block_hit ?_
  refine ex_then ?_
  refine wp_sr ?_
  refine wl_mv HF rfl rfl rfl rfl rfl ?_; clear HF a; intro a HF
  refine wl_as HF rfl rfl rfl rfl rfl ?_; clear HF a; intro a HF
  refine wl_ne ?_
  refine wp_ret ?_
  refine bp_ret1 HF Tryz.results29 (HF.res rfl) ?_
  obtain rfl : m = 0 := by omega
  have ho : o = manyB s n := by rw [← hq]; apply ba_ext; simp [list_append, manyB]
  exact ⟨by rw [ho], HS.out.bel⟩

end Go.Proofs.YtnikdicehddehaaGreatDoor

/- Sets of disks: read, owned, apart. -/
namespace Go.Proofs.YtnikdicehddehaaGreatDoor
set_option linter.unusedVariables false
set_option linter.unusedSimpArgs false
set_option maxHeartbeats 1000000
set_option maxRecDepth 100000
open Go.RowKit

structure RaidD where
  fDisks : List DiskD
def RaidD.Reads (w : World) (v : Value) (x : RaidD) : Prop := ∃ (a : Option Addr) (c : Nat) (ps : List HD), v = .agg #[.slice a ps.length c] ∧ dsOf ps = x.fDisks ∧ Rd HD.cells 3 w a ps.length ps ∧ ∀ k, k < ps.length → (ps.getD k default).reads w
theorem RaidD.Reads.below {w w' : World} {v : Value} {x : RaidD} (h : RaidD.Reads w v x) (hb : Below w.heap.size w w') : RaidD.Reads w' v x := by
  obtain ⟨a, c, ps, e, hx, hr, hp⟩ := h
  exact ⟨a, c, ps, e, hx, hr.below hb, fun k hk => (hp k hk).below hb⟩
/-- The slices of a disk, of a set of disks. -/
def HD.vs (p : HD) : List Value := [.slice p.a0 p.d.fCells.length p.c0, .slice p.a1 p.d.fWaits.length p.c1]
end Go.Proofs.YtnikdicehddehaaGreatDoor

/- Laws for the draws, 3: sets of disks that read. -/
namespace Go.Proofs.YtnikdicehddehaaGreatDoor
set_option linter.unusedVariables false
set_option linter.unusedSimpArgs false
set_option maxHeartbeats 1000000
set_option maxRecDepth 100000
open Go.RowKit
/-- A set of disks reads. -/
def rdsP (ao : Option Addr) (ps : List HD) (w : World) : Prop := Rd HD.cells 3 w ao ps.length ps ∧ ∀ p, p ∈ ps → p.reads w
def fitsL (ps : List HD) : Prop := ∀ p, p ∈ ps → p.d.fits
theorem default_fits : (default : HD).d.fits := ⟨Nat.zero_le _, Nat.zero_le _, fun k => Nat.zero_le _, fun k => Nat.zero_le _⟩
theorem fitsL.at {ps : List HD} (h : fitsL ps) (k : Nat) : (ps.getD k default).d.fits := by
  by_cases hk : k < ps.length
  · rw [getD_get hk]; exact h _ (List.getElem_mem hk)
  · rw [show ps.getD k default = default by simp [List.getD, List.getElem?_eq_none (Nat.le_of_not_lt hk)]]
    exact default_fits
theorem fitsL.set {ps : List HD} (h : fitsL ps) {q : HD} (hq : q.d.fits) (k : Nat) : fitsL (ps.set k q) := fun p hp => (List.mem_or_eq_of_mem_set hp).elim (h p) fun e => by rw [e]; exact hq
theorem fitsL.drop {ps : List HD} (h : fitsL ps) (k : Nat) : fitsL (ps.drop k) := fun p hp => h p (List.mem_of_mem_drop hp)
theorem niceS.len {n : Nat} {ps : List HD} (h : niceS n (dsOf ps)) : ps.length = 3 := by rw [← dsOf_len]; exact h.1
theorem niceS.get {n : Nat} {ps : List HD} (h : niceS n (dsOf ps)) {k : Nat} (hk : k < 3) : (ps.getD k default).d.nice n := by rw [← dsOf_get]; exact h.at hk
theorem rdsP.at {ao : Option Addr} {ps : List HD} {w : World} (h : rdsP ao ps w) : ∀ k, k < ps.length → (ps.getD k default).reads w := fun k hk => by rw [getD_get hk]; exact h.2 _ (List.getElem_mem hk)
end Go.Proofs.YtnikdicehddehaaGreatDoor

/- Pointers and trees as texts; signed records: walked. -/
namespace Go.Proofs.YtnikdicehddehaaGreatDoor
set_option linter.unusedVariables false
set_option linter.unusedSimpArgs false
set_option maxHeartbeats 1000000
set_option maxRecDepth 100000
open Go.RowKit

theorem l6DecI_any (n : Int) (h0 : 0 ≤ n) (h1 : n ≤ 9223372036854775807) (w0 : World) : Calls Tryz.prog 18 #[.int .i64 n] w0 fun e w' => e = .returned (.string (decB n.toNat)) ∧ Below w0.heap.size w0 w' := by
  obtain ⟨m, rfl⟩ : ∃ m : Nat, n = (m : Int) := ⟨n.toNat, by omega⟩
  rw [Int.toNat_natCast]; exact l6Dec_any m (by omega) w0
end Go.Proofs.YtnikdicehddehaaGreatDoor

/- The plain laws of healing and writing. -/
namespace Go.Proofs.YtnikdicehddehaaGreatDoor
set_option linter.unusedVariables false
set_option linter.unusedSimpArgs false
set_option maxHeartbeats 1000000
set_option maxRecDepth 100000
open Go.RowKit
section
variable {P : Program} {o : Oper} {a : Act} {w : World} {t t' : TypeId} {x y : Operand}
theorem yl_eqlB (ho : o.op = .binOp .eql t x y t') {b c : Bool} (hx : a.eval x = .bool b) (hy : a.eval y = .bool c) (hu : P.underlying t = some .bool) : Yl P w o a (.bool (b == c)) := by
  have h : (Op.equal t (.bool b) (.bool c)).run P w = .ok (b == c) w := by
    unfold Op.equal Op.maxDepth
    rw [Op.equalIn]
    simp only [Sem.run_bind, run_underlying hu w, Result.andThen_ok, Sem.run_pure]
  unfold Yl execOp
  simp only [ho, hx, hy]
  simp [eqGuard, binOp, h]
theorem yl_eqlBs (ho : o.op = .binOp .eql t x y t') {b : Bool} (hx : a.eval x = .bool b) (hy : a.eval y = .bool b) (hu : P.underlying t = some .bool) : Yl P w o a (.bool true) := by
  have := yl_eqlB (P := P) (w := w) ho hx hy hu
  simpa using this
end
theorem bytes_toList {a b : ByteArray} (h : (a.toList == b.toList) = true) : a = b := by
  have h := eq_of_beq h
  rw [ByteArray.toList_eq, ByteArray.toList_eq] at h
  exact ByteArray.ext (Array.toList_inj.1 h)
end Go.Proofs.YtnikdicehddehaaGreatDoor

/- Names, paths, texts cut: walked. -/
namespace Go.Proofs.YtnikdicehddehaaGreatDoor
set_option linter.unusedVariables false
set_option linter.unusedSimpArgs false
set_option maxHeartbeats 1000000
set_option maxRecDepth 100000
open Go.RowKit

section
variable {P : Program} {w : World} {o : Oper} {a : Act} {t : TypeId} {x y z : Operand}
theorem yl_sliceSm (ho : o.op = .slice t x (some y) (some z) none) {b : ByteArray} (hx : a.eval x = .string b) {k1 k2 : IntKind} {m n : Int} (hy : a.eval y = .int k1 m) (hz : a.eval z = .int k2 n) (hu : P.underlying t = some .string) {i j : Nat} (hm : m = (i : Int)) (hn : n = (j : Int)) (hij : i ≤ j) (hj : j ≤ b.size) : Yl P w o a (.string (b.extract i j)) := by
  subst hm; subst hn
  have h1 : ((i : Int) ≤ (j : Int)) := by omega
  have h2 : ((j : Int) ≤ (b.size : Int)) := by omega
  unfold Yl execOp
  simp only [ho, hx, hy, hz, Option.map_some, Option.map_none, Instr.sliceAt, Instr.slice, Sem.run_bind, run_underlying hu w, Result.andThen_ok]
  simp [Instr.slice, Instr.sliceBounds, Instr.sliceBound, asIntOf, go_sem, run_underlying hu w, h1, h2]
  rw [if_pos hj, if_pos hij]
end
theorem u8_eqI {a b : UInt8} (h : ((a.toNat : Int) == (b.toNat : Int)) = true) : a = b := by
  have := eq_of_beq h
  exact UInt8.toNat_inj.1 (by omega)
theorem u8_neI {a b : UInt8} (h : ((a.toNat : Int) == (b.toNat : Int)) = false) : a ≠ b := fun e => by rw [e] at h; simp at h
/-- The variable of the library that tells how long a text may be for its fast road holds some number. -/
def MaxP (w : World) : Prop := ∃ m, w.cell? ⟨1, 0, none⟩ = some (.int .i64 m)
theorem MaxP.below {w w' : World} (h : MaxP w) (hb : Below w.heap.size w w') : MaxP w' := by
  obtain ⟨m, hm⟩ := h
  have hlt : 1 < w.heap.size := World.block_lt_of_cell? w _ hm
  exact ⟨m, (hb.cell (p := ⟨1, 0, none⟩) hlt).trans hm⟩

theorem nameOk1_any (r : Nat) (w0 : World) : Calls Tryz.prog 89 #[.int .i32 (r : Int)] w0 fun e w' => e = .returned (.bool (badR r)) ∧ Below w0.heap.size w0 w' := by
 have HS := Bx.mk (St.start w0)
 refine wc_enter Tryz.func89 rfl Tryz.ntmps89 [(0, .int .i32 (r : Int))] ⟨rfl, trivial⟩ rfl ?_; intro a HF
 refine wp_sr ?_
 refine wl_as HF rfl rfl rfl rfl rfl ?_; clear HF a; intro a HF
 refine wl_ne ?_
 refine wp_sr ?_
 refine wl_mv HF rfl rfl rfl rfl rfl ?_; clear HF a; intro a HF
 refine wl_y rfl HF rfl rfl (yl_lssI rfl (HF.ev rfl) (HF.ev rfl)) ?_; clear HF a; intro a HF
 refine wl_mv HF rfl rfl rfl rfl rfl ?_; clear HF a; intro a HF
 refine HF.cases 5 rfl (fun cc1 HF1 => ?_) (fun cc1 HF1 => ?_)
 ·clear HF; have HF := HF1; clear HF1
  have dcc1 := of_decide_eq_true cc1
  refine wl_skip HF rfl rfl rfl rfl rfl rfl ?_; clear HF a; intro a HF
  refine wl_skip HF rfl rfl rfl rfl rfl rfl ?_; clear HF a; intro a HF
  refine wl_y rfl HF rfl rfl (yl_pick_t rfl (HF.ev rfl) (HF.ev rfl)) ?_; clear HF a; intro a HF
  refine wl_as HF rfl rfl rfl rfl rfl ?_; clear HF a; intro a HF
  refine wl_ne ?_
  refine wp_ret ?_
  refine bp_ret1 HF Tryz.results89 (HF.res rfl) ?_
  exact ⟨by unfold badR; rw [cc1] <;> rfl, HS.out.bel⟩
 ·clear HF; have HF := HF1; clear HF1
  have dcc1 := of_decide_eq_false cc1
  refine wl_yg HF rfl rfl rfl rfl rfl (yl_move rfl (HF.ev rfl)) ?_; clear HF a; intro a HF
  refine wl_yg HF rfl rfl rfl rfl rfl (yl_gtrI rfl (HF.ev rfl) (HF.ev rfl)) ?_; clear HF a; intro a HF
  refine wl_y rfl HF rfl rfl (yl_pick_f rfl (HF.ev rfl) (HF.ev rfl)) ?_; clear HF a; intro a HF
  refine wl_as HF rfl rfl rfl rfl rfl ?_; clear HF a; intro a HF
  refine wl_ne ?_
  refine wp_ret ?_
  refine bp_ret1 HF Tryz.results89 (HF.res rfl) ?_
  exact ⟨by unfold badR; rw [cc1] <;> rfl, HS.out.bel⟩

theorem idxF_any (s : ByteArray) (w : World) : Calls Tryz.prog 88 #[.string s, .func (.func 89) #[] #[]] w fun e w' => e = .returned (.int .i64 (Go.Lib.idxFunc badR true s)) ∧ Below w.heap.size w w' :=
  Any.strings_IndexFunc_grows layIdxF 89 #[] (enter_of Tryz.func89 (by kernel_rfl) rfl) badR s w fun W x _ _ => nameOk1_any x W

theorem implNameOk_any (s : ByteArray) (w0 : World) (hs : s.size ≤ 9223372036854775806) : Calls Tryz.prog 72 #[.string s] w0 fun e w' => e = .returned (.bool (nameB s)) ∧ Below w0.heap.size w0 w' := by
 have HS := Bx.mk (St.start w0)
 refine wc_enter Tryz.func72 rfl Tryz.ntmps72 [(0, .string s)] ⟨rfl, trivial⟩ rfl ?_; intro a HF
 refine wp_sr ?_
 refine wl_as HF rfl rfl rfl rfl rfl ?_; clear HF a; intro a HF
 refine wl_ne ?_
 refine wp_sr ?_
 refine wl_mv HF rfl rfl rfl rfl rfl ?_; clear HF a; intro a HF
 refine wl_y rfl HF rfl rfl (yl_lenS rfl (HF.ev rfl) (by kernel_rfl)) ?_; clear HF a; intro a HF
 refine wl_callB rfl HF rfl (enter_of Tryz.func24 (by kernel_rfl) rfl) (args := #[.int .i64 (s.size : Int), .int .i64 1, .int .i64 4]) rfl (v := .bool (inB (s.size : Int) 1 4)) (((within_any (s.size : Int) 1 4 _).mono fun _ _ h => ⟨h.1, h.2 ▸ Below.refl _ _⟩)) rfl rfl HS.out ?_; clear HF HS a; intro w1 a HS HF; replace HS := Bx.mk HS
 refine wl_mv HF rfl rfl rfl rfl rfl ?_; clear HF a; intro a HF
 refine HF.cases 6 rfl (fun cc1 HF1 => ?_) (fun cc1 HF1 => ?_)
 ·clear HF; have HF := HF1; clear HF1
  refine wl_yg HF rfl rfl rfl rfl rfl (yl_move rfl (HF.ev rfl)) ?_; clear HF a; intro a HF
  refine wl_callBg HF rfl rfl rfl rfl (enter_of Tryz.func88 (by kernel_rfl) rfl) (args := #[.string s, .func (.func 89) #[] #[]]) rfl (v := .int .i64 (Go.Lib.idxFunc badR true s)) (idxF_any s _) rfl rfl HS.out ?_; clear HF HS a; intro w2 a HS HF; replace HS := Bx.mk HS
  refine wl_yg HF rfl rfl rfl rfl rfl (yl_lssI rfl (HF.ev rfl) (HF.ev rfl)) ?_; clear HF a; intro a HF
  refine wl_y rfl HF rfl rfl (yl_pick_t rfl (HF.ev rfl) (HF.ev rfl)) ?_; clear HF a; intro a HF
  refine wl_as HF rfl rfl rfl rfl rfl ?_; clear HF a; intro a HF
  refine wl_ne ?_
  refine wp_ret ?_
  refine bp_ret1 HF Tryz.results72 (HF.res rfl) ?_
  exact ⟨by unfold nameB; rw [cc1, Bool.true_and, ← idx_good], HS.out.bel⟩
 ·clear HF; have HF := HF1; clear HF1
  refine wl_skip HF rfl rfl rfl rfl rfl rfl ?_; clear HF a; intro a HF
  refine wl_skip HF rfl rfl rfl rfl rfl rfl ?_; clear HF a; intro a HF
  refine wl_skip HF rfl rfl rfl rfl rfl rfl ?_; clear HF a; intro a HF
  refine wl_y rfl HF rfl rfl (yl_pick_f rfl (HF.ev rfl) (HF.ev rfl)) ?_; clear HF a; intro a HF
  refine wl_as HF rfl rfl rfl rfl rfl ?_; clear HF a; intro a HF
  refine wl_ne ?_
  refine wp_ret ?_
  refine bp_ret1 HF Tryz.results72 (HF.res rfl) ?_
  exact ⟨by unfold nameB; rw [cc1]; rfl, HS.out.bel⟩

theorem specNameOk_any (s : ByteArray) (w0 : World) (hs : s.size ≤ 9223372036854775806) : Calls Tryz.prog 48 #[.string s] w0 fun e w' => e = .returned (.bool (nameB s)) ∧ Below w0.heap.size w0 w' := by
 have HS := Bx.mk (St.start w0)
 refine wc_enter Tryz.func48 rfl Tryz.ntmps48 [(0, .string s)] ⟨rfl, trivial⟩ rfl ?_; intro a HF
 refine wp_sr ?_
 refine wl_as HF rfl rfl rfl rfl rfl ?_; clear HF a; intro a HF
 refine wl_ne ?_
 refine wp_seq ?_
 refine wp_sr ?_
 refine wl_as HF rfl rfl rfl rfl rfl ?_; clear HF a; intro a HF
 refine wl_ne ?_
 refine wp_block ?_
 refine wc_loop (ι := Nat) (fun k a w => (k ≤ s.size ∧ s.data.toList.all goodC = (s.data.toList.drop k).all goodC) ∧ Fr 23 a [(0, .string s), (3, .int .i64 (k : Int))] ∧ St w0 ([]) w) (fun k => s.size - k) 0 ⟨⟨Nat.zero_le _, rfl⟩, HF.less _ ⟨rfl, rfl, trivial⟩, HS.out⟩ ?_
 clear HF HS; clear a
 rintro k a w1 ⟨⟨hk, hg⟩, HF, HS⟩
 replace HS := Bx.mk HS
 refine wp_seq ?_
 refine wp_sr ?_
 refine wl_mv HF rfl rfl rfl rfl rfl ?_; clear HF a; intro a HF
 refine wl_mv HF rfl rfl rfl rfl rfl ?_; clear HF a; intro a HF
 refine wl_y rfl HF rfl rfl (yl_lenS rfl (HF.ev rfl) (by kernel_rfl)) ?_; clear HF a; intro a HF
 refine wl_y rfl HF rfl rfl (yl_lssI rfl (HF.ev rfl) (HF.ev rfl)) ?_; clear HF a; intro a HF
 refine wl_ne ?_
 refine HF.cases 7 rfl (fun cc1 HF1 => ?_) (fun cc1 HF1 => ?_)
 ·clear HF; have HF := HF1; clear HF1
  have dcc1 := of_decide_eq_true cc1
  refine wc_true HF rfl ?_
  refine wp_skip ?_
  refine ex_then ?_
  refine wp_seq ?_
  refine wp_block ?_
  refine wp_sr ?_
  refine wl_mv HF rfl rfl rfl rfl rfl ?_; clear HF a; intro a HF
  refine wl_mv HF rfl rfl rfl rfl rfl ?_; clear HF a; intro a HF
  refine wl_y rfl HF rfl rfl (yl_indexS (i := k) rfl (HF.ev rfl) (HF.ev rfl) (by kernel_rfl) (by omega) (by omega)) ?_; clear HF a; intro a HF
  refine wl_y rfl HF rfl rfl (yl_lssI rfl (HF.ev rfl) (HF.ev rfl)) ?_; clear HF a; intro a HF
  refine wl_mv HF rfl rfl rfl rfl rfl ?_; clear HF a; intro a HF
  refine HF.cases 14 rfl (fun cc2 HF1 => ?_) (fun cc2 HF1 => ?_)
  ·clear HF; have HF := HF1; clear HF1
   have dcc2 := of_decide_eq_true cc2
   refine wl_skip HF rfl rfl rfl rfl rfl rfl ?_; clear HF a; intro a HF
   refine wl_skip HF rfl rfl rfl rfl rfl rfl ?_; clear HF a; intro a HF
   refine wl_skip HF rfl rfl rfl rfl rfl rfl ?_; clear HF a; intro a HF
   refine wl_skip HF rfl rfl rfl rfl rfl rfl ?_; clear HF a; intro a HF
   refine wl_y rfl HF rfl rfl (yl_pick_t rfl (HF.ev rfl) (HF.ev rfl)) ?_; clear HF a; intro a HF
   refine wl_ne ?_
   refine wc_true HF rfl ?_
   refine wp_sr ?_
   refine wl_as HF rfl rfl rfl rfl rfl ?_; clear HF a; intro a HF
   refine wl_ne ?_
   refine wp_ret ?_
   refine ex_block_ret ?_
   refine ex_then_ret ?_
   refine ex_then_ret ?_
   refine ex_block_ret ?_
   refine ex_then_ret ?_
   refine bp_ret1 HF Tryz.results48 (HF.res rfl) ?_
   have hgk : goodC (s.get! k) = false := by unfold goodC; rw [decide_eq_false (by have := of_decide_eq_true cc2; omega)]; rfl
   exact ⟨by unfold nameB; rw [hg, goodB_drop (by omega), hgk, Bool.false_and, Bool.and_false], HS.out.bel⟩
  ·clear HF; have HF := HF1; clear HF1
   have dcc2 := of_decide_eq_false cc2
   refine wl_yg HF rfl rfl rfl rfl rfl (yl_move rfl (HF.ev rfl)) ?_; clear HF a; intro a HF
   refine wl_yg HF rfl rfl rfl rfl rfl (yl_move rfl (HF.ev rfl)) ?_; clear HF a; intro a HF
   refine wl_yg HF rfl rfl rfl rfl rfl (yl_indexS (i := k) rfl (HF.ev rfl) (HF.ev rfl) (by kernel_rfl) (by omega) (by omega)) ?_; clear HF a; intro a HF
   refine wl_yg HF rfl rfl rfl rfl rfl (yl_gtrI rfl (HF.ev rfl) (HF.ev rfl)) ?_; clear HF a; intro a HF
   refine wl_y rfl HF rfl rfl (yl_pick_f rfl (HF.ev rfl) (HF.ev rfl)) ?_; clear HF a; intro a HF
   refine wl_ne ?_
   refine HF.cases 19 rfl (fun cc3 HF1 => ?_) (fun cc3 HF1 => ?_)
   ·clear HF; have HF := HF1; clear HF1
    have dcc3 := of_decide_eq_true cc3
    refine wc_true HF rfl ?_
    refine wp_sr ?_
    refine wl_as HF rfl rfl rfl rfl rfl ?_; clear HF a; intro a HF
    refine wl_ne ?_
    refine wp_ret ?_
    refine ex_block_ret ?_
    refine ex_then_ret ?_
    refine ex_then_ret ?_
    refine ex_block_ret ?_
    refine ex_then_ret ?_
    refine bp_ret1 HF Tryz.results48 (HF.res rfl) ?_
    have hgk : goodC (s.get! k) = false := by unfold goodC; rw [decide_eq_false (show ¬ (s.get! k).toNat ≤ 122 by have := of_decide_eq_true cc3; omega), Bool.and_false]
    exact ⟨by unfold nameB; rw [hg, goodB_drop (by omega), hgk, Bool.false_and, Bool.and_false], HS.out.bel⟩
   ·clear HF; have HF := HF1; clear HF1
    have dcc3 := of_decide_eq_false cc3
    refine wc_false HF rfl ?_
    refine wp_skip ?_
    refine ex_block ?_
    refine ex_then ?_
    refine wp_region_lit ?_
    refine wl_mv HF rfl rfl rfl rfl rfl ?_; clear HF a; intro a HF
    refine wl_y rfl HF rfl rfl (yl_addI rfl (HF.ev rfl) (HF.ev rfl) (i64w (by omega))) ?_; clear HF a; intro a HF
    refine wl_as HF rfl rfl rfl rfl rfl ?_; clear HF a; intro a HF
    refine wl_ne ?_
    have hgk : goodC (s.get! k) = true := by have := of_decide_eq_false cc2; have := of_decide_eq_false cc3; unfold goodC; rw [decide_eq_true (by omega), decide_eq_true (by omega)]; rfl
    have hnx : s.data.toList.all goodC = (s.data.toList.drop (k + 1)).all goodC := by rw [hg, goodB_drop (by omega), hgk, Bool.true_and]
    exact ⟨k + 1, ⟨⟨by omega, hnx⟩, HF.less _ ⟨rfl, rfl, trivial⟩, HS.out⟩, (by omega)⟩
 ·clear HF; have HF := HF1; clear HF1
  have dcc1 := of_decide_eq_false cc1
  refine wc_false HF rfl ?_
  refine wp_exit ?_
  refine ex_then_exit ?_
  refine ex_then_exit ?_
  refine ex_block_hit ?_
  refine ex_then ?_
  refine wp_sr ?_
  refine wl_mv HF rfl rfl rfl rfl rfl ?_; clear HF a; intro a HF
  refine wl_y rfl HF rfl rfl (yl_lenS rfl (HF.ev rfl) (by kernel_rfl)) ?_; clear HF a; intro a HF
  refine wl_callB rfl HF rfl (enter_of Tryz.func32 (by kernel_rfl) rfl) (args := #[.int .i64 (s.size : Int), .int .i64 1, .int .i64 4]) rfl (v := .bool (inB (s.size : Int) 1 4)) (((l6In_any (s.size : Int) 1 4 _).mono fun _ _ h => ⟨h.1, h.2 ▸ Below.refl _ _⟩)) rfl rfl HS.out ?_; clear HF HS a; intro w2 a HS HF; replace HS := Bx.mk HS
  refine wl_as HF rfl rfl rfl rfl rfl ?_; clear HF a; intro a HF
  refine wl_ne ?_
  refine wp_ret ?_
  refine bp_ret1 HF Tryz.results48 (HF.res rfl) ?_
  exact ⟨by unfold nameB; rw [hg, goodB_end (by omega), Bool.and_true], HS.out.bel⟩

theorem l2Cut_any (s : ByteArray) (c : UInt8) (w0 : World) (hs : s.size ≤ 1099511627776) : Calls Tryz.prog 19 #[.string s, .int .u8 (c.toNat : Int)] w0 fun e w' => ∃ ao cp, e = .returned (.slice ao (piecesB s c).length cp) ∧ St w0 [rowA encS 1 9 (.slice ao (piecesB s c).length cp) (piecesB s c)] w' := by
 have HS := Bx.mk (St.start w0)
 refine wc_enter Tryz.func19 rfl Tryz.ntmps19 [(0, .string s), (1, .int .u8 (c.toNat : Int))] ⟨rfl, rfl, trivial⟩ rfl ?_; intro a HF
 refine wp_sr ?_
 refine wl_as HF rfl rfl rfl rfl rfl ?_; clear HF a; intro a HF
 refine wl_ne ?_
 refine wp_sr ?_
 refine wl_empty (e := 9) (size := 1) rfl HF rfl rfl rfl (by kernel_rfl) HS.out ?_; clear HF HS a; intro a w1 b1 HF HS; replace HS := Bx.mk HS
 refine wl_as HF rfl rfl rfl rfl rfl ?_; clear HF a; intro a HF
 refine wl_ne ?_
 refine wp_sr ?_
 refine wl_as HF rfl rfl rfl rfl rfl ?_; clear HF a; intro a HF
 refine wl_ne ?_
 refine wp_seq ?_
 refine wp_sr ?_
 refine wl_as HF rfl rfl rfl rfl rfl ?_; clear HF a; intro a HF
 refine wl_ne ?_
 refine wp_block ?_
 replace HS := Bx.mk (HS.out.nilRow encS 1 9 (some ⟨b1, 0, none⟩))
 refine wc_loop (ι := Nat) (fun k a w => ∃ (ao : Option Addr) (cp : Nat) (xs : List ByteArray), (k ≤ s.size ∧ xs = (cutAt s c k).1) ∧ Fr 35 a [(0, .string s), (1, .int .u8 (c.toNat : Int)), (5, .slice ao xs.length cp), (6, .int .i64 ((cutAt s c k).2 : Int)), (7, .int .i64 (k : Int))] ∧ St w0 ([rowA encS 1 9 (.slice ao xs.length cp) xs]) w) (fun k => s.size - k) 0 ⟨_, _, [], ⟨Nat.zero_le _, rfl⟩, HF.less _ ⟨rfl, rfl, rfl, rfl, rfl, trivial⟩, HS.out⟩ ?_
 clear HF HS; clear a
 rintro k a w2 ⟨ao, cp, xs, ⟨hk, hq⟩, HF, HS⟩
 replace HS := Bx.mk HS
 have hfl := cutAt_le s c k; have hml := cutAt_many s c k; have hxl : xs.length = (cutAt s c k).1.length := by rw [hq]
 refine wp_seq ?_
 refine wp_sr ?_
 refine wl_mv HF rfl rfl rfl rfl rfl ?_; clear HF a; intro a HF
 refine wl_mv HF rfl rfl rfl rfl rfl ?_; clear HF a; intro a HF
 refine wl_y rfl HF rfl rfl (yl_lenS rfl (HF.ev rfl) (by kernel_rfl)) ?_; clear HF a; intro a HF
 refine wl_y rfl HF rfl rfl (yl_lssI rfl (HF.ev rfl) (HF.ev rfl)) ?_; clear HF a; intro a HF
 refine wl_ne ?_
 refine HF.cases 12 rfl (fun cc1 HF1 => ?_) (fun cc1 HF1 => ?_)
 ·clear HF; have HF := HF1; clear HF1
  have dcc1 := of_decide_eq_true cc1
  refine wc_true HF rfl ?_
  refine wp_skip ?_
  refine ex_then ?_
  refine wp_seq ?_
  refine wp_block ?_
  refine wp_sr ?_
  refine wl_mv HF rfl rfl rfl rfl rfl ?_; clear HF a; intro a HF
  refine wl_mv HF rfl rfl rfl rfl rfl ?_; clear HF a; intro a HF
  refine wl_y rfl HF rfl rfl (yl_indexS (i := k) rfl (HF.ev rfl) (HF.ev rfl) (by kernel_rfl) (by omega) (by omega)) ?_; clear HF a; intro a HF
  refine wl_mv HF rfl rfl rfl rfl rfl ?_; clear HF a; intro a HF
  refine wl_y rfl HF rfl rfl (yl_eqlI rfl (HF.ev rfl) (HF.ev rfl)) ?_; clear HF a; intro a HF
  refine wl_ne ?_
  refine HF.cases 19 rfl (fun cc2 HF1 => ?_) (fun cc2 HF1 => ?_)
  ·clear HF; have HF := HF1; clear HF1
   have dcc2 := eq_of_beq cc2
   refine wc_true HF rfl ?_
   refine wp_sr ?_
   refine wl_mv HF rfl rfl rfl rfl rfl ?_; clear HF a; intro a HF
   refine wl_mv HF rfl rfl rfl rfl rfl ?_; clear HF a; intro a HF
   refine wl_mv HF rfl rfl rfl rfl rfl ?_; clear HF a; intro a HF
   refine wl_mv HF rfl rfl rfl rfl rfl ?_; clear HF a; intro a HF
   refine wl_y rfl HF rfl rfl (yl_sliceSm (i := (cutAt s c k).2) (j := k) rfl (HF.ev rfl) (HF.ev rfl) (HF.ev rfl) (by kernel_rfl) (by omega) (by omega) (by omega) (by omega)) ?_; clear HF a; intro a HF
   refine wl_buildS (enc := encS) (e := 9) (size := 1) rfl HF rfl rfl rfl (ps := [(0, .string (s.extract ((cutAt s c k).2) k))]) rfl (cells := [.string (s.extract ((cutAt s c k).2) k)]) (by kernel_rfl) [s.extract ((cutAt s c k).2) k] rfl rfl (by unfold maxLen; omega) rfl HS.out ?_; clear HF HS a; intro b2 a w3 HF HS; replace HS := Bx.mk HS
   refine wl_appL rfl HF rfl rfl rfl (HF.ev rfl) (HF.ev rfl) elemS encS_len HS.out 1 (xs := xs) rfl (ys := [s.extract ((cutAt s c k).2) k]) (St.rdN HS.out encS_len 0 rfl) (cells_one_S _) (by unfold maxLen; (try simp only [List.length_append, List.length_cons, List.length_nil, List.nil_append, List.length_map]); omega) (by (try simp only [List.length_append, List.length_cons, List.length_nil, List.nil_append, List.length_map]); omega) ?_; clear HF HS a; intro ao3 cp4 w4 a HF HS; replace HS := Bx.mk HS
   replace HS : Bx (St w0 ([rowA encS 1 9 (.slice (some ⟨b2, 0, none⟩) 1 1) ([s.extract ((cutAt s c k).2) k]), rowA encS 1 9 (.slice ao3 (xs.length + ([s.extract ((cutAt s c k).2) k]).length) cp4) (xs ++ ([s.extract ((cutAt s c k).2) k]))]) _) := ⟨HS.out⟩
   refine wl_as HF rfl rfl rfl rfl rfl ?_; clear HF a; intro a HF
   refine wl_ne ?_
   refine wp_region_lit ?_
   refine wl_mv HF rfl rfl rfl rfl rfl ?_; clear HF a; intro a HF
   refine wl_y rfl HF rfl rfl (yl_addI rfl (HF.ev rfl) (HF.ev rfl) (i64w (by omega))) ?_; clear HF a; intro a HF
   refine wl_as HF rfl rfl rfl rfl rfl ?_; clear HF a; intro a HF
   refine wpList_nil ?_
   refine ex_block ?_
   refine ex_then ?_
   refine wp_region_lit ?_
   refine wl_mv HF rfl rfl rfl rfl rfl ?_; clear HF a; intro a HF
   refine wl_y rfl HF rfl rfl (yl_addI rfl (HF.ev rfl) (HF.ev rfl) (i64w (by omega))) ?_; clear HF a; intro a HF
   refine wl_as HF rfl rfl rfl rfl rfl ?_; clear HF a; intro a HF
   refine wl_ne ?_
   have hst := cutAt_hit (s := s) (c := c) (k := k) (u8_eqI cc2)
   have hz : xs.length + [s.extract (cutAt s c k).2 k].length = (xs ++ [s.extract (cutAt s c k).2 k]).length := (List.length_append ..).symm
   rw [hz] at HS HF
   have hnext : xs ++ [s.extract (cutAt s c k).2 k] = (cutAt s c (k + 1)).1 := by rw [hst, hq]
   replace HS : Bx (St w0 ([rowA encS 1 9 (.slice ao3 ((xs ++ [s.extract (cutAt s c k).2 k]).length) cp4) (xs ++ [s.extract (cutAt s c k).2 k]), rowA encS 1 9 (.slice (some ⟨b2, 0, none⟩) 1 1) ([s.extract ((cutAt s c k).2) k])]) _) := ⟨(HS.out).pick 1 rfl⟩
   exact ⟨k + 1, ⟨_, _, xs ++ [s.extract (cutAt s c k).2 k], ⟨by omega, hnext⟩, HF.less _ ⟨rfl, rfl, rfl, (by rw [hst]; rfl), rfl, trivial⟩, (HS.out.erase 1)⟩, (by omega)⟩
  ·clear HF; have HF := HF1; clear HF1
   have dcc2 := ne_of_beq_false cc2
   refine wc_false HF rfl ?_
   refine wp_skip ?_
   refine ex_block ?_
   refine ex_then ?_
   refine wp_region_lit ?_
   refine wl_mv HF rfl rfl rfl rfl rfl ?_; clear HF a; intro a HF
   refine wl_y rfl HF rfl rfl (yl_addI rfl (HF.ev rfl) (HF.ev rfl) (i64w (by omega))) ?_; clear HF a; intro a HF
   refine wl_as HF rfl rfl rfl rfl rfl ?_; clear HF a; intro a HF
   refine wl_ne ?_
   have hst := cutAt_miss (s := s) (c := c) (k := k) (u8_neI cc2)
   have hnext : xs = (cutAt s c (k + 1)).1 := by rw [hst, hq]
   exact ⟨k + 1, ⟨_, _, xs, ⟨by omega, hnext⟩, HF.less _ ⟨rfl, rfl, rfl, (by rw [hst]; rfl), rfl, trivial⟩, HS.out⟩, (by omega)⟩
 ·clear HF; have HF := HF1; clear HF1
  have dcc1 := of_decide_eq_false cc1
  refine wc_false HF rfl ?_
  refine wp_exit ?_
  refine ex_then_exit ?_
  refine ex_then_exit ?_
  refine ex_block_hit ?_
  refine ex_then ?_
  refine wp_sr ?_
  refine wl_mv HF rfl rfl rfl rfl rfl ?_; clear HF a; intro a HF
  refine wl_mv HF rfl rfl rfl rfl rfl ?_; clear HF a; intro a HF
  refine wl_mv HF rfl rfl rfl rfl rfl ?_; clear HF a; intro a HF
  refine wl_y rfl HF rfl rfl (yl_sliceSl (k := (cutAt s c k).2) rfl (HF.ev rfl) (HF.ev rfl) (by kernel_rfl) (by omega) (by omega)) ?_; clear HF a; intro a HF
  refine wl_buildS (enc := encS) (e := 9) (size := 1) rfl HF rfl rfl rfl (ps := [(0, .string (s.extract ((cutAt s c k).2) s.size))]) rfl (cells := [.string (s.extract ((cutAt s c k).2) s.size)]) (by kernel_rfl) [s.extract ((cutAt s c k).2) s.size] rfl rfl (by unfold maxLen; omega) rfl HS.out ?_; clear HF HS a; intro b5 a w5 HF HS; replace HS := Bx.mk HS
  refine wl_appL rfl HF rfl rfl rfl (HF.ev rfl) (HF.ev rfl) elemS encS_len HS.out 1 (xs := xs) rfl (ys := [s.extract ((cutAt s c k).2) s.size]) (St.rdN HS.out encS_len 0 rfl) (cells_one_S _) (by unfold maxLen; (try simp only [List.length_append, List.length_cons, List.length_nil, List.nil_append, List.length_map]); omega) (by (try simp only [List.length_append, List.length_cons, List.length_nil, List.nil_append, List.length_map]); omega) ?_; clear HF HS a; intro ao6 cp7 w6 a HF HS; replace HS := Bx.mk HS
  replace HS : Bx (St w0 ([rowA encS 1 9 (.slice (some ⟨b5, 0, none⟩) 1 1) ([s.extract ((cutAt s c k).2) s.size]), rowA encS 1 9 (.slice ao6 (xs.length + ([s.extract ((cutAt s c k).2) s.size]).length) cp7) (xs ++ ([s.extract ((cutAt s c k).2) s.size]))]) _) := ⟨HS.out⟩
  refine wl_as HF rfl rfl rfl rfl rfl ?_; clear HF a; intro a HF
  refine wl_ne ?_
  refine wp_ret ?_
  refine bp_ret1 HF Tryz.results19 (HF.res rfl) ?_
  replace HS : Bx (St w0 ([rowA encS 1 9 (.slice ao6 (xs.length + ([s.extract ((cutAt s c k).2) s.size]).length) cp7) (xs ++ ([s.extract ((cutAt s c k).2) s.size])), rowA encS 1 9 (.slice (some ⟨b5, 0, none⟩) 1 1) ([s.extract ((cutAt s c k).2) s.size])]) _) := ⟨(HS.out).pick 1 rfl⟩
  obtain rfl : k = s.size := by omega
  have hcb : xs ++ [s.extract (cutAt s c s.size).2 s.size] = cutB s c := by rw [hq]; rfl
  have hz : xs.length + [s.extract (cutAt s c s.size).2 s.size].length = (cutB s c).length := by rw [← hcb, List.length_append]
  refine ⟨ao6, cp7, ?_, ?_⟩
  ·rw [hz, cutB_pieces]
  ·have HT2 := (HS.out.erase 1); rw [hz, hcb, cutB_pieces] at HT2; exact HT2

theorem max_of {w : World} (h : w.ShapedOpen Tryz.prog) : MaxP w := laySplit.s1_3 w h
theorem split_any (s : ByteArray) (c : UInt8) (w : World) (hs : s.size < 4294967281) (hM : MaxP w) : Calls Tryz.prog 34 #[.string s, .string ⟨#[c]⟩] w fun e w' => ∃ ao cp, e = .returned (.slice ao (piecesB s c).length cp) ∧ St w [rowA encS 1 9 (.slice ao (piecesB s c).length cp) (piecesB s c)] w' := by
  obtain ⟨m, hm⟩ := hM
  refine (Any.strings_Split { laySplit with } laySplit.i9 s ⟨#[c]⟩ m w hs hm (Nat.le_refl 1)).mono ?_
  rintro e w' ⟨rfl, rfl⟩
  have hl : Go.Lib.countB s ⟨#[c]⟩ + 1 = (piecesB s c).length := by rw [← splitB_pieces, Go.Lib.splitB_all ⟨#[c]⟩ (Nat.le_refl 1) 0 _ s rfl]
  rw [hl, splitB_pieces]
  refine ⟨_, _, rfl, ?_⟩
  have hm2 : (piecesB s c).length ≤ maxLen := by
    have h1 := pieces_len s c
    have h2 := List.count_le_length (a := c) (l := s.data.toList)
    have h3 := size_list s
    unfold maxLen; omega
  refine (St.start w).rowNew (enc := encS) (size := 1) (ys := piecesB s c) ((Below.refl _ _).alloc (Nat.le_refl _) _) (blk_new w _ _ rfl) (Nat.le_refl _) (by simp) (Nat.le_refl _) hm2 ?_
  rw [Nat.mul_one, List.take_of_length_le (by simp), List.map_eq_flatMap]; rfl
theorem cutP_any (s : ByteArray) (w : World) : Calls Tryz.prog 54 #[.string s, .string (⟨#[47]⟩ : ByteArray)] w fun e w' => e = .returned (.tuple #[.string (bif s.data.toList.head? == some 47 then s.extract 1 s.size else s), .bool (s.data.toList.head? == some 47)]) ∧ Below w.heap.size w w' := by
  refine (Any.strings_CutPrefix layCutP s ⟨#[47]⟩ w).mono ?_
  rintro e w' ⟨rfl, rfl⟩
  refine ⟨?_, Below.refl _ _⟩
  have hz := size_list s
  have hx : (s.extract 1 s.size).data.toList = s.data.toList.drop 1 := by rw [list_extract, List.take_of_length_le (by rw [List.length_drop]; omega)]
  have hp : Go.Lib.hasPrefix s.data.toList (⟨#[47]⟩ : ByteArray).data.toList = (s.data.toList.head? == some 47) := by
    unfold Go.Lib.hasPrefix
    cases s.data.toList with
    | nil => rfl
    | cons b t => show (((47 : UInt8) == b) && List.isPrefixOf [] t) = (some b == some 47); rw [List.isPrefixOf_nil_left, Bool.and_true]; by_cases hb : b = 47
                  · subst hb; rfl
                  · rw [beq_eq_false_iff_ne.2 (fun e => hb e.symm), beq_eq_false_iff_ne.2 (fun e => hb (Option.some.inj e))]
  have ht : (⟨(Go.Lib.trimPrefix s.data.toList (⟨#[47]⟩ : ByteArray).data.toList).toArray⟩ : ByteArray) = bif s.data.toList.head? == some 47 then s.extract 1 s.size else s := by
    unfold Go.Lib.trimPrefix
    rw [hp]
    cases h : (s.data.toList.head? == some 47) with
    | true => rw [cond_true]; apply ba_ext; rw [hx]; rfl
    | false => rw [cond_false]; apply ba_ext; rfl
  rw [ht, hp]

theorem indexFuncT_any (a0 : Option Addr) (c0 : Nat) (xs : List ByteArray) (f : FuncId) (caps : Array Value) (p : Nat → Bool) (w0 : World) (hl : xs.length ≤ 1048576) (HE : ∀ (args : Array Value) (w : World), (callFunc f args).run Tryz.prog w = .ok (.enter f args) w) (hR : Rd encS 1 w0 a0 xs.length xs) (hf : ∀ k, k < xs.length → ∀ w, Below w0.heap.size w0 w → Calls Tryz.prog f (#[] ++ #[.string (xs.getD k ByteArray.empty)] ++ caps) w fun e w' => e = .returned (.bool (p k)) ∧ Below w.heap.size w w') : Calls Tryz.prog 87 #[.slice a0 xs.length c0, .func (.func f) #[] caps] w0 fun e w' => e = .returned (.int .i64 (idxB p xs.length 0)) ∧ Below w0.heap.size w0 w' := by
 have HR := Bx.mk hR; have HF0 := Bx.mk hf; clear hR hf
 have HS := Bx.mk (St.start w0)
 refine wc_enter Tryz.func87 rfl Tryz.ntmps87 [(0, .slice a0 xs.length c0), (1, .func (.func f) #[] caps)] ⟨rfl, rfl, trivial⟩ rfl ?_; intro a HF
 refine wp_sr ?_
 refine wl_as HF rfl rfl rfl rfl rfl ?_; clear HF a; intro a HF
 refine wl_ne ?_
 refine wp_seq ?_
 refine wp_sr ?_
 refine wl_mv HF rfl rfl rfl rfl rfl ?_; clear HF a; intro a HF
 refine wl_y rfl HF rfl rfl (yl_lenL (e := 9) (size := 1) rfl (HF.ev rfl) (by kernel_rfl)) ?_; clear HF a; intro a HF
 refine wl_mv HF rfl rfl rfl rfl rfl ?_; clear HF a; intro a HF
 refine wl_ne ?_
 refine wp_block ?_
 refine wc_loop (ι := Nat) (fun k a w => (k ≤ xs.length ∧ idxB p xs.length 0 = idxB p xs.length k) ∧ Fr 19 a [(0, .slice a0 xs.length c0), (1, .func (.func f) #[] caps), (7, .int .i64 (xs.length : Int)), (8, .int .i64 (k : Int))] ∧ St w0 ([]) w) (fun k => xs.length - k) 0 ⟨⟨Nat.zero_le _, rfl⟩, HF.less _ ⟨rfl, rfl, rfl, rfl, trivial⟩, HS.out⟩ ?_
 clear HF HS; clear a
 rintro k a w1 ⟨⟨hk, hf⟩, HF, HS⟩
 replace HS := Bx.mk HS
 refine wp_sr ?_
 refine wl_y rfl HF rfl rfl (yl_lssI rfl (HF.ev rfl) (HF.ev rfl)) ?_; clear HF a; intro a HF
 refine wl_ne ?_
 refine wp_seq ?_
 refine HF.cases 9 rfl (fun cc1 HF1 => ?_) (fun cc1 HF1 => ?_)
 ·clear HF; have HF := HF1; clear HF1
  have dcc1 := of_decide_eq_true cc1
  refine wc_true HF rfl ?_
  refine wp_skip ?_
  refine ex_then ?_
  refine wp_seq ?_
  refine wp_block ?_
  refine wp_sr ?_
  refine wl_mv HF rfl rfl rfl rfl rfl ?_; clear HF a; intro a HF
  refine wl_as HF rfl rfl rfl rfl rfl ?_; clear HF a; intro a HF
  refine wl_ne ?_
  refine wp_seq ?_
  obtain ⟨g0, o0, r0⟩ := HR.out.opn; have R0 := Bx.mk r0; clear r0
  refine wp_region_lit ?_
  refine wl_mv HF rfl rfl rfl rfl rfl ?_; clear HF a; intro a HF
  refine wl_mv HF rfl rfl rfl rfl rfl ?_; clear HF a; intro a HF
  refine wl_mv HF rfl rfl rfl rfl rfl ?_; clear HF a; intro a HF
  refine wl_y rfl HF rfl rfl (yl_indexAddrR (e := 9) (i := k) (size := 1) rfl (HF.ev rfl) (HF.ev rfl) (by kernel_rfl) rfl (by omega) (R0.out.ao k (by omega))) ?_; clear HF a; intro a HF
  refine wl_y rfl HF rfl rfl (yl_load (v := .string (xs.getD k ByteArray.empty)) rfl (HF.ev rfl) (R0.out.elem1 HS.out (get_getD (xs := xs) (j := k) (d := ByteArray.empty) (by omega)) rfl) (by kernel_rfl)) ?_; clear HF a; intro a HF
  refine wl_callvB rfl HF rfl (HF.ev rfl) HE (args := #[.string (xs.getD k ByteArray.empty)]) rfl (v := .bool (p k)) (HF0.out k (by omega) _ HS.out.bel) rfl rfl HS.out ?_; clear HF HS a; intro w2 a HS HF; replace HS := Bx.mk HS
  refine wl_ne ?_
  refine HF.cases 16 rfl (fun cc2 HF1 => ?_) (fun cc2 HF1 => ?_)
  ·clear HF; have HF := HF1; clear HF1
   refine wc_true HF rfl ?_
   refine wp_sr ?_
   refine wl_mv HF rfl rfl rfl rfl rfl ?_; clear HF a; intro a HF
   refine wl_as HF rfl rfl rfl rfl rfl ?_; clear HF a; intro a HF
   refine wl_ne ?_
   refine wp_ret ?_
   refine ex_block_ret ?_
   refine ex_then_ret ?_
   refine ex_then_ret ?_
   refine ex_block_ret ?_
   refine ex_then_ret ?_
   refine bp_ret1 HF Tryz.results87 (HF.res rfl) ?_
   rw [idxB_lt (k := k) (by omega), if_pos cc2] at hf
   exact ⟨by rw [hf], HS.out.bel⟩
  ·clear HF; have HF := HF1; clear HF1
   refine wc_false HF rfl ?_
   refine wp_skip ?_
   refine ex_block ?_
   refine ex_then ?_
   refine wp_region_lit ?_
   refine wl_y rfl HF rfl rfl (yl_addI rfl (HF.ev rfl) (HF.ev rfl) (i64w (by omega))) ?_; clear HF a; intro a HF
   refine wl_mv HF rfl rfl rfl rfl rfl ?_; clear HF a; intro a HF
   refine wl_ne ?_
   rw [idxB_lt (k := k) (by omega), if_neg (by rw [cc2]; simp)] at hf
   exact ⟨k + 1, ⟨⟨by omega, hf⟩, HF.less _ ⟨rfl, rfl, rfl, rfl, trivial⟩, HS.out⟩, (by omega)⟩
 ·clear HF; have HF := HF1; clear HF1
  have dcc1 := of_decide_eq_false cc1
  refine wc_false HF rfl ?_
  refine wp_exit ?_
  refine ex_then_exit ?_
  refine ex_then_exit ?_
  refine ex_block_hit ?_
  refine ex_then ?_
  refine wp_sr ?_
  refine wl_as HF rfl rfl rfl rfl rfl ?_; clear HF a; intro a HF
  refine wl_ne ?_
  refine wp_ret ?_
  refine bp_ret1 HF Tryz.results87 (HF.res rfl) ?_
  rw [idxB_end (k := k) (by omega)] at hf
  exact ⟨by rw [hf], HS.out.bel⟩

theorem containsFuncT_any (a0 : Option Addr) (c0 : Nat) (xs : List ByteArray) (f : FuncId) (caps : Array Value) (p : Nat → Bool) (w0 : World) (hl : xs.length ≤ 1048576) (HE : ∀ (args : Array Value) (w : World), (callFunc f args).run Tryz.prog w = .ok (.enter f args) w) (hR : Rd encS 1 w0 a0 xs.length xs) (hf : ∀ k, k < xs.length → ∀ w, Below w0.heap.size w0 w → Calls Tryz.prog f (#[] ++ #[.string (xs.getD k ByteArray.empty)] ++ caps) w fun e w' => e = .returned (.bool (p k)) ∧ Below w.heap.size w w') : Calls Tryz.prog 70 #[.slice a0 xs.length c0, .func (.func f) #[] caps] w0 fun e w' => e = .returned (.bool (!allB (fun k => !p k) xs.length)) ∧ Below w0.heap.size w0 w' := by
 have HR := Bx.mk hR; have HF0 := Bx.mk hf; clear hR hf
 have HS := Bx.mk (St.start w0)
 refine wc_enter Tryz.func70 rfl Tryz.ntmps70 [(0, .slice a0 xs.length c0), (1, .func (.func f) #[] caps)] ⟨rfl, rfl, trivial⟩ rfl ?_; intro a HF
 refine wp_sr ?_
 refine wl_as HF rfl rfl rfl rfl rfl ?_; clear HF a; intro a HF
 refine wl_ne ?_
 refine wp_sr ?_
 refine wl_mv HF rfl rfl rfl rfl rfl ?_; clear HF a; intro a HF
 refine wl_mv HF rfl rfl rfl rfl rfl ?_; clear HF a; intro a HF
 refine wl_callB rfl HF rfl (enter_of Tryz.func87 (by kernel_rfl) rfl) (args := #[.slice a0 xs.length c0, .func (.func f) #[] caps]) rfl (v := .int .i64 (idxB p xs.length 0)) (indexFuncT_any a0 c0 xs f caps p _ hl HE (HR.out.below HS.out.bel) (fun k hk w hb => HF0.out k hk w (HS.out.bel.trans (hb.mono HS.out.bel.size)))) rfl rfl HS.out ?_; clear HF HS a; intro w1 a HS HF; replace HS := Bx.mk HS
 refine wl_y rfl HF rfl rfl (yl_geqI rfl (HF.ev rfl) (HF.ev rfl)) ?_; clear HF a; intro a HF
 refine wl_as HF rfl rfl rfl rfl rfl ?_; clear HF a; intro a HF
 refine wl_ne ?_
 refine wp_ret ?_
 refine bp_ret1 HF Tryz.results70 (HF.res rfl) ?_
 exact ⟨by rw [← idxB_any], HS.out.bel⟩

theorem pathOf1_any (s : ByteArray) (w0 : World) (hs : s.size ≤ 9223372036854775806) : Calls Tryz.prog 71 #[.string s] w0 fun e w' => e = .returned (.bool (!nameB s)) ∧ Below w0.heap.size w0 w' := by
 have HS := Bx.mk (St.start w0)
 refine wc_enter Tryz.func71 rfl Tryz.ntmps71 [(0, .string s)] ⟨rfl, trivial⟩ rfl ?_; intro a HF
 refine wp_sr ?_
 refine wl_as HF rfl rfl rfl rfl rfl ?_; clear HF a; intro a HF
 refine wl_ne ?_
 refine wp_sr ?_
 refine wl_mv HF rfl rfl rfl rfl rfl ?_; clear HF a; intro a HF
 refine wl_callB rfl HF rfl (enter_of Tryz.func72 (by kernel_rfl) rfl) (args := #[.string s]) rfl (v := .bool (nameB s)) (implNameOk_any s _ (by omega)) rfl rfl HS.out ?_; clear HF HS a; intro w1 a HS HF; replace HS := Bx.mk HS
 refine wl_y rfl HF rfl rfl (yl_not rfl (HF.ev rfl)) ?_; clear HF a; intro a HF
 refine wl_as HF rfl rfl rfl rfl rfl ?_; clear HF a; intro a HF
 refine wl_ne ?_
 refine wp_ret ?_
 refine bp_ret1 HF Tryz.results71 (HF.res rfl) ?_
 exact ⟨rfl, HS.out.bel⟩

theorem allB_all (xs : List ByteArray) : allB (fun k => !!nameB (xs.getD k ByteArray.empty)) xs.length = xs.all nameB := by
  cases h : xs.all nameB with
  | true =>
    rw [List.all_eq_true] at h
    exact allB_mk fun k hk => by
      rw [Bool.not_not]
      have := h (xs.getD k ByteArray.empty) (by rw [List.getD_eq_getElem?_getD, List.getElem?_eq_getElem hk]; exact List.getElem_mem hk)
      exact this
  | false =>
    cases h2 : allB (fun k => !!nameB (xs.getD k ByteArray.empty)) xs.length with
    | false => rfl
    | true =>
      exfalso
      have : xs.all nameB = true := List.all_eq_true.2 fun x hx => by
        obtain ⟨k, hk, rfl⟩ := List.getElem_of_mem hx
        have := allB_at h2 hk
        rw [Bool.not_not, List.getD_eq_getElem?_getD, List.getElem?_eq_getElem hk] at this
        exact this
      rw [h] at this; cases this

theorem pathText_any (a0 : Option Addr) (n c0 : Nat) (xs : List ByteArray) (w0 : World) (hl : xs.length ≤ 100) (hx : szs xs) (hc : xs.length ≤ c0) (hR : Rd encS 1 w0 a0 n xs) : Calls Tryz.prog 73 #[.slice a0 n c0] w0 fun e w' => e = .returned (.string (slB ++ joinT xs slB)) ∧ Below w0.heap.size w0 w' := by
 obtain rfl := hR.len
 have hR0 := Bx.mk hR
 obtain ⟨g0, o0, r0⟩ := hR.opn; have R0 := Bx.mk r0; clear r0 hR
 have HS := Bx.mk (St.start w0)
 refine wc_enter Tryz.func73 rfl Tryz.ntmps73 [(0, .slice a0 xs.length c0)] ⟨rfl, trivial⟩ rfl ?_; intro a HF
 refine wp_sr ?_
 refine wl_as HF rfl rfl rfl rfl rfl ?_; clear HF a; intro a HF
 refine wl_ne ?_
 refine wp_seq ?_
 have hjz : (joinT xs (⟨#[47]⟩ : ByteArray)).size ≤ 100 * (100 + 1099511627776) := Nat.le_trans (joinT_size xs _ hx) (Nat.mul_le_mul hl (by decide))
 refine wp_region_lit ?_
 refine wl_mv HF rfl rfl rfl rfl rfl ?_; clear HF a; intro a HF
 refine wl_callB rfl HF rfl (enter_of Tryz.func90 (by kernel_rfl) rfl) (args := #[.slice a0 xs.length c0, .string (⟨#[47]⟩ : ByteArray)]) rfl (v := .string (joinT xs (⟨#[47]⟩ : ByteArray))) (join_any _ _ _ xs (⟨#[47]⟩ : ByteArray) _ (hR0.out.below HS.out.bel) hc (by omega) hx (by decide)) rfl rfl HS.out ?_; clear HF HS a; intro w1 a HS HF; replace HS := Bx.mk HS
 refine wl_y rfl HF rfl rfl (yl_addS rfl (HF.ev rfl) (HF.ev rfl) (by (try simp only [size1]); omega)) ?_; clear HF a; intro a HF
 refine wl_as HF rfl rfl rfl rfl rfl ?_; clear HF a; intro a HF
 refine wl_ne ?_
 refine wp_ret ?_
 refine bp_ret1 HF Tryz.results73 (HF.res rfl) ?_
 exact ⟨rfl, HS.out.bel⟩

theorem pathOf_any (a0 : Option Addr) (n c0 : Nat) (xs : List ByteArray) (w0 : World) (hl : xs.length ≤ 100) (hx : szs xs) (hc : xs.length ≤ c0) (hR : Rd encS 1 w0 a0 n xs) : Calls Tryz.prog 55 #[.slice a0 n c0] w0 fun e w' => (okN xs = true ∧ e = .returned (.tuple #[.string (slB ++ joinT xs slB), .bool true]) ∧ Below w0.heap.size w0 w') ∨ (okN xs = false ∧ e = .returned (.tuple #[.string ByteArray.empty, .bool false]) ∧ Below w0.heap.size w0 w') := by
 obtain rfl := hR.len
 have hR0 := Bx.mk hR
 obtain ⟨g0, o0, r0⟩ := hR.opn; have R0 := Bx.mk r0; clear r0 hR
 have HS := Bx.mk (St.start w0)
 refine wc_enter Tryz.func55 rfl Tryz.ntmps55 [(0, .slice a0 xs.length c0)] ⟨rfl, trivial⟩ rfl ?_; intro a HF
 refine wp_sr ?_
 refine wl_as HF rfl rfl rfl rfl rfl ?_; clear HF a; intro a HF
 refine wl_as HF rfl rfl rfl rfl rfl ?_; clear HF a; intro a HF
 refine wl_ne ?_
 refine wp_seq ?_
 refine wp_sr ?_
 refine wl_mv HF rfl rfl rfl rfl rfl ?_; clear HF a; intro a HF
 refine wl_y rfl HF rfl rfl (yl_lenL (e := 9) (size := 1) rfl (HF.ev rfl) (by kernel_rfl)) ?_; clear HF a; intro a HF
 refine wl_y rfl HF rfl rfl (yl_gtrI rfl (HF.ev rfl) (HF.ev rfl)) ?_; clear HF a; intro a HF
 refine wl_mv HF rfl rfl rfl rfl rfl ?_; clear HF a; intro a HF
 refine HF.cases 7 rfl (fun cc1 HF1 => ?_) (fun cc1 HF1 => ?_)
 ·clear HF; have HF := HF1; clear HF1
  have dcc1 := of_decide_eq_true cc1
  refine wl_skip HF rfl rfl rfl rfl rfl rfl ?_; clear HF a; intro a HF
  refine wl_skip HF rfl rfl rfl rfl rfl rfl ?_; clear HF a; intro a HF
  refine wl_y rfl HF rfl rfl (yl_pick_t rfl (HF.ev rfl) (HF.ev rfl)) ?_; clear HF a; intro a HF
  refine wl_ne ?_
  refine wc_true HF rfl ?_
  refine wp_sr ?_
  refine wl_as HF rfl rfl rfl rfl rfl ?_; clear HF a; intro a HF
  refine wl_as HF rfl rfl rfl rfl rfl ?_; clear HF a; intro a HF
  refine wl_ne ?_
  refine wp_ret ?_
  refine ex_then_ret ?_
  refine bp_ret2 HF Tryz.results55 (HF.res rfl) (HF.res rfl) ?_
  exact .inr ⟨by unfold okN; rw [decide_eq_false (by omega)]; rfl, rfl, HS.out.bel⟩
 ·clear HF; have HF := HF1; clear HF1
  have dcc1 := of_decide_eq_false cc1
  refine wl_yg HF rfl rfl rfl rfl rfl (yl_move rfl (HF.ev rfl)) ?_; clear HF a; intro a HF
  refine wl_callBg HF rfl rfl rfl rfl (enter_of Tryz.func70 (by kernel_rfl) rfl) (args := #[.slice a0 xs.length c0, .func (.func 71) #[] #[]]) rfl (v := .bool (!allB (fun k => !!nameB (xs.getD k ByteArray.empty)) xs.length)) (containsFuncT_any a0 c0 xs 71 #[] (fun k => !nameB (xs.getD k ByteArray.empty)) _ (by omega) (enter_of Tryz.func71 (by kernel_rfl) rfl) (hR0.out.below HS.out.bel) (fun k hk w _ => pathOf1_any _ w (by have := hx k; omega))) rfl rfl HS.out ?_; clear HF HS a; intro w1 a HS HF; replace HS := Bx.mk HS
  refine wl_y rfl HF rfl rfl (yl_pick_f rfl (HF.ev rfl) (HF.ev rfl)) ?_; clear HF a; intro a HF
  refine wl_ne ?_
  refine HF.cases 10 rfl (fun cc2 HF1 => ?_) (fun cc2 HF1 => ?_)
  ·clear HF; have HF := HF1; clear HF1
   refine wc_true HF rfl ?_
   refine wp_sr ?_
   refine wl_as HF rfl rfl rfl rfl rfl ?_; clear HF a; intro a HF
   refine wl_as HF rfl rfl rfl rfl rfl ?_; clear HF a; intro a HF
   refine wl_ne ?_
   refine wp_ret ?_
   refine ex_then_ret ?_
   refine bp_ret2 HF Tryz.results55 (HF.res rfl) (HF.res rfl) ?_
   exact .inr ⟨by unfold okN; rw [← allB_all]; rw [show allB (fun k => !!nameB (xs.getD k ByteArray.empty)) xs.length = false by simpa using cc2, Bool.and_false], rfl, HS.out.bel⟩
  ·clear HF; have HF := HF1; clear HF1
   refine wc_false HF rfl ?_
   refine wp_skip ?_
   refine ex_then ?_
   refine wp_sr ?_
   refine wl_mv HF rfl rfl rfl rfl rfl ?_; clear HF a; intro a HF
   refine wl_callB rfl HF rfl (enter_of Tryz.func73 (by kernel_rfl) rfl) (args := #[.slice a0 xs.length c0]) rfl (v := .string (slB ++ joinT xs slB)) (pathText_any _ _ _ xs _ (by omega) hx hc (hR0.out.below HS.out.bel)) rfl rfl HS.out ?_; clear HF HS a; intro w2 a HS HF; replace HS := Bx.mk HS
   refine wl_as HF rfl rfl rfl rfl rfl ?_; clear HF a; intro a HF
   refine wl_as HF rfl rfl rfl rfl rfl ?_; clear HF a; intro a HF
   refine wl_ne ?_
   refine wp_ret ?_
   refine bp_ret2 HF Tryz.results55 (HF.res rfl) (HF.res rfl) ?_
   exact .inl ⟨by unfold okN; rw [decide_eq_true (by omega), Bool.true_and, ← allB_all]; simpa using cc2, rfl, HS.out.bel⟩

theorem cutP_ways (s : ByteArray) (w : World) : Calls Tryz.prog 54 #[.string s, .string (⟨#[47]⟩ : ByteArray)] w fun e w' => ((s.data.toList.head? == some 47) = true ∧ e = .returned (.tuple #[.string (s.extract 1 s.size), .bool true]) ∧ Below w.heap.size w w') ∨ ((s.data.toList.head? == some 47) = false ∧ e = .returned (.tuple #[.string s, .bool false]) ∧ Below w.heap.size w w') := by
  refine (cutP_any s w).mono ?_
  rintro e w' ⟨rfl, hb⟩
  cases h : (s.data.toList.head? == some 47) with
  | true => exact .inl ⟨rfl, rfl, hb⟩
  | false => exact .inr ⟨rfl, rfl, hb⟩
theorem szs_pieces (s : ByteArray) (c : UInt8) (h : s.size ≤ 1099511627776) : szs (piecesB s c) := fun k => by
  have key : ∀ (l : List UInt8) (x : List UInt8), x ∈ splitL c l → x.length ≤ l.length := by
    intro l
    induction l with
    | nil => intro x hx; obtain rfl : x = [] := by simpa [splitL] using hx
             exact Nat.le_refl _
    | cons b t ih =>
      intro x hx
      by_cases hb : b = c
      · subst hb
        rw [splitL_eq] at hx
        rcases List.mem_cons.1 hx with rfl | hx
        · exact Nat.zero_le _
        · exact Nat.le_succ_of_le (ih x hx)
      · obtain ⟨y, r, hs⟩ := splitL_ne c t
        rw [splitL_cons t hb hs] at hx
        rcases List.mem_cons.1 hx with rfl | hx
        · have := ih y (by rw [hs]; exact List.mem_cons_self ..)
          simp only [List.length_cons]; omega
        · exact Nat.le_succ_of_le (ih x (by rw [hs]; exact List.mem_cons_of_mem _ hx))
  by_cases hk : k < (piecesB s c).length
  · have hm : (piecesB s c).getD k ByteArray.empty ∈ piecesB s c := by rw [List.getD_eq_getElem?_getD, List.getElem?_eq_getElem hk]; exact List.getElem_mem hk
    obtain ⟨l, hl, e⟩ := List.mem_map.1 hm
    have := key _ _ hl
    rw [← size_list] at this
    rw [← e, size_list]; exact Nat.le_trans this h
  · rw [List.getD_eq_getElem?_getD, List.getElem?_eq_none (by omega)]; exact Nat.zero_le _

theorem pathNames_any (s : ByteArray) (w0 : World) (hM : MaxP w0) (hs : s.size ≤ 4000000000) : Calls Tryz.prog 41 #[.string s] w0 fun e w' => ∃ v, e = .returned (.tuple #[v, .bool (pathB s)]) ∧ Below w0.heap.size w0 w' := by
 have HM := Bx.mk hM; clear hM
 have HS := Bx.mk (St.start w0)
 refine wc_enter Tryz.func41 rfl Tryz.ntmps41 [(0, .string s)] ⟨rfl, trivial⟩ rfl ?_; intro a HF
 refine wp_sr ?_
 refine wl_as HF rfl rfl rfl rfl rfl ?_; clear HF a; intro a HF
 refine wl_as HF rfl rfl rfl rfl rfl ?_; clear HF a; intro a HF
 refine wl_ne ?_
 refine wp_seq ?_
 refine wp_sr ?_
 refine wl_mv HF rfl rfl rfl rfl rfl ?_; clear HF a; intro a HF
 refine wl_y rfl HF rfl rfl (yl_eqlS rfl (HF.ev rfl) (HF.ev rfl)) ?_; clear HF a; intro a HF
 refine wl_ne ?_
 refine HF.cases 10 rfl (fun cc1 HF1 => ?_) (fun cc1 HF1 => ?_)
 ·clear HF; have HF := HF1; clear HF1
  refine wc_true HF rfl ?_
  refine wp_sr ?_
  refine wl_as HF rfl rfl rfl rfl rfl ?_; clear HF a; intro a HF
  refine wl_as HF rfl rfl rfl rfl rfl ?_; clear HF a; intro a HF
  refine wl_ne ?_
  refine wp_ret ?_
  refine ex_then_ret ?_
  refine bp_ret2 HF Tryz.results41 (HF.res rfl) (HF.res rfl) ?_
  exact ⟨_, by rw [pathB_sl cc1] <;> rfl, HS.out.bel⟩
 ·clear HF; have HF := HF1; clear HF1
  refine wc_false HF rfl ?_
  refine wp_skip ?_
  refine ex_then ?_
  refine wp_sr ?_
  refine wl_mv HF rfl rfl rfl rfl rfl ?_; clear HF a; intro a HF
  refine wl_call rfl HF rfl (enter_of Tryz.func54 (by kernel_rfl) rfl) (args := #[.string s, .string (⟨#[47]⟩ : ByteArray)]) rfl (cutP_ways s _) rfl rfl ?_
  rintro _ w1 (⟨hpr, rfl, hb⟩ | ⟨hpr, rfl, hb⟩)
  ·skip
   refine ⟨_, rfl, ?_⟩; replace HS := Bx.mk (HS.out.later hb); clear hb HF; clear a; intro a HF
   refine wl_mv HF rfl rfl rfl rfl rfl ?_; clear HF a; intro a HF
   refine wl_y rfl HF rfl rfl (yl_extract rfl (HF.ev rfl) rfl) ?_; clear HF a; intro a HF
   refine wl_y rfl HF rfl rfl (yl_extract rfl (HF.ev rfl) rfl) ?_; clear HF a; intro a HF
   refine wl_as HF rfl rfl rfl rfl rfl ?_; clear HF a; intro a HF
   refine wl_as HF rfl rfl rfl rfl rfl ?_; clear HF a; intro a HF
   refine wl_ne ?_
   refine wp_seq ?_
   refine wp_sr ?_
   refine wl_mv HF rfl rfl rfl rfl rfl ?_; clear HF a; intro a HF
   refine wl_y rfl HF rfl rfl (yl_not rfl (HF.ev rfl)) ?_; clear HF a; intro a HF
   refine wl_mv HF rfl rfl rfl rfl rfl ?_; clear HF a; intro a HF
   refine wl_yg HF rfl rfl rfl rfl rfl (yl_move rfl (HF.ev rfl)) ?_; clear HF a; intro a HF
   refine wl_yg HF rfl rfl rfl rfl rfl (yl_lenS rfl (HF.ev rfl) (by kernel_rfl)) ?_; clear HF a; intro a HF
   refine wl_yg HF rfl rfl rfl rfl rfl (yl_gtrI rfl (HF.ev rfl) (HF.ev rfl)) ?_; clear HF a; intro a HF
   refine wl_y rfl HF rfl rfl (yl_pick_f rfl (HF.ev rfl) (HF.ev rfl)) ?_; clear HF a; intro a HF
   refine wl_ne ?_
   refine HF.cases 22 rfl (fun cc2 HF1 => ?_) (fun cc2 HF1 => ?_)
   ·clear HF; have HF := HF1; clear HF1
    have dcc2 := of_decide_eq_true cc2
    refine wc_true HF rfl ?_
    refine wp_sr ?_
    refine wl_as HF rfl rfl rfl rfl rfl ?_; clear HF a; intro a HF
    refine wl_as HF rfl rfl rfl rfl rfl ?_; clear HF a; intro a HF
    refine wl_ne ?_
    refine wp_ret ?_
    refine ex_then_ret ?_
    refine bp_ret2 HF Tryz.results41 (HF.res rfl) (HF.res rfl) ?_
    exact ⟨_, by rw [(pathB_rest cc1 hpr).trans (restB_long (by omega))] <;> rfl, HS.out.bel⟩
   ·clear HF; have HF := HF1; clear HF1
    have dcc2 := of_decide_eq_false cc2
    refine wc_false HF rfl ?_
    refine wp_skip ?_
    refine ex_then ?_
    refine wp_seq ?_
    have hez : (s.extract 1 s.size).size = s.size - 1 := ext1_size; have hpl := pieces_len (s.extract 1 s.size) 47; have hcl := List.count_le_length (a := (47 : UInt8)) (l := (s.extract 1 s.size).data.toList); have hsl := size_list (s.extract 1 s.size)
    refine wp_region_lit ?_
    refine wl_mv HF rfl rfl rfl rfl rfl ?_; clear HF a; intro a HF
    refine wl_call rfl HF rfl (enter_of Tryz.func34 (by kernel_rfl) rfl) (args := #[.string (s.extract 1 s.size), .string (⟨#[47]⟩ : ByteArray)]) rfl (split_any (s.extract 1 s.size) 47 _ (by omega) (HM.out.below HS.out.bel)) rfl rfl ?_
    rintro _ w2 ⟨ao1, cp1, rfl, hs⟩
    refine ⟨_, rfl, ?_⟩
    replace HS := Bx.mk (HS.out.add hs); clear hs HF; clear a; intro a HF
    replace HS : Bx (St w0 ([rowA encS 1 9 (.slice ao1 ((piecesB (s.extract 1 s.size) 47).length) cp1) (piecesB (s.extract 1 s.size) 47)]) _) := ⟨HS.out⟩
    refine wl_as HF rfl rfl rfl rfl rfl ?_; clear HF a; intro a HF
    refine wl_ne ?_
    refine wp_seq ?_
    refine wp_sr ?_
    refine wl_mv HF rfl rfl rfl rfl rfl ?_; clear HF a; intro a HF
    refine wl_call rfl HF rfl (enter_of Tryz.func55 (by kernel_rfl) rfl) (args := #[.slice ao1 ((piecesB (s.extract 1 s.size) 47).length) cp1]) rfl (pathOf_any _ _ _ (piecesB (s.extract 1 s.size) 47) _ (by omega) (szs_pieces _ _ (by omega)) (St.capLe HS.out 0 rfl) (St.rdOf HS.out encS_len 0 rfl)) rfl rfl ?_
    rintro _ w3 (⟨hok, rfl, hb⟩ | ⟨hok, rfl, hb⟩)
    ·skip
     refine ⟨_, rfl, ?_⟩; replace HS := Bx.mk (HS.out.later hb); clear hb HF; clear a; intro a HF
     refine wl_mv HF rfl rfl rfl rfl rfl ?_; clear HF a; intro a HF
     refine wl_y rfl HF rfl rfl (yl_extract rfl (HF.ev rfl) rfl) ?_; clear HF a; intro a HF
     refine wl_y rfl HF rfl rfl (yl_extract rfl (HF.ev rfl) rfl) ?_; clear HF a; intro a HF
     refine wl_as HF rfl rfl rfl rfl rfl ?_; clear HF a; intro a HF
     refine wl_as HF rfl rfl rfl rfl rfl ?_; clear HF a; intro a HF
     refine wl_ne ?_
     refine wp_sr ?_
     refine wl_mv HF rfl rfl rfl rfl rfl ?_; clear HF a; intro a HF
     refine wl_y rfl HF rfl rfl (yl_not rfl (HF.ev rfl)) ?_; clear HF a; intro a HF
     refine wl_mv HF rfl rfl rfl rfl rfl ?_; clear HF a; intro a HF
     refine wl_yg HF rfl rfl rfl rfl rfl (yl_move rfl (HF.ev rfl)) ?_; clear HF a; intro a HF
     refine wl_yg HF rfl rfl rfl rfl rfl (yl_move rfl (HF.ev rfl)) ?_; clear HF a; intro a HF
     refine wl_yg HF rfl rfl rfl rfl rfl (yl_neqS rfl (HF.ev rfl) (HF.ev rfl)) ?_; clear HF a; intro a HF
     refine wl_y rfl HF rfl rfl (yl_pick_f rfl (HF.ev rfl) (HF.ev rfl)) ?_; clear HF a; intro a HF
     refine wl_ne ?_
     refine HF.cases 36 rfl (fun cc3 HF1 => ?_) (fun cc3 HF1 => ?_)
     ·clear HF; have HF := HF1; clear HF1
      rw [joinT_sl, head_back hpr] at cc3
      simp at cc3
     ·clear HF; have HF := HF1; clear HF1
      rw [joinT_sl, head_back hpr] at cc3
      refine wc_false HF rfl ?_
      refine wp_skip ?_
      refine ex_then ?_
      refine wp_sr ?_
      refine wl_mv HF rfl rfl rfl rfl rfl ?_; clear HF a; intro a HF
      refine wl_as HF rfl rfl rfl rfl rfl ?_; clear HF a; intro a HF
      refine wl_as HF rfl rfl rfl rfl rfl ?_; clear HF a; intro a HF
      refine wl_ne ?_
      refine wp_ret ?_
      refine bp_ret2 HF Tryz.results41 (HF.res rfl) (HF.res rfl) ?_
      exact ⟨_, by rw [(pathB_rest cc1 hpr).trans ((restB_okN _).trans hok)] <;> rfl, HS.out.bel⟩
    ·skip
     refine ⟨_, rfl, ?_⟩; replace HS := Bx.mk (HS.out.later hb); clear hb HF; clear a; intro a HF
     refine wl_mv HF rfl rfl rfl rfl rfl ?_; clear HF a; intro a HF
     refine wl_y rfl HF rfl rfl (yl_extract rfl (HF.ev rfl) rfl) ?_; clear HF a; intro a HF
     refine wl_y rfl HF rfl rfl (yl_extract rfl (HF.ev rfl) rfl) ?_; clear HF a; intro a HF
     refine wl_as HF rfl rfl rfl rfl rfl ?_; clear HF a; intro a HF
     refine wl_as HF rfl rfl rfl rfl rfl ?_; clear HF a; intro a HF
     refine wl_ne ?_
     refine wp_sr ?_
     refine wl_mv HF rfl rfl rfl rfl rfl ?_; clear HF a; intro a HF
     refine wl_y rfl HF rfl rfl (yl_not rfl (HF.ev rfl)) ?_; clear HF a; intro a HF
     refine wl_mv HF rfl rfl rfl rfl rfl ?_; clear HF a; intro a HF
     refine wl_skip HF rfl rfl rfl rfl rfl rfl ?_; clear HF a; intro a HF
     refine wl_skip HF rfl rfl rfl rfl rfl rfl ?_; clear HF a; intro a HF
     refine wl_skip HF rfl rfl rfl rfl rfl rfl ?_; clear HF a; intro a HF
     refine wl_y rfl HF rfl rfl (yl_pick_t rfl (HF.ev rfl) (HF.ev rfl)) ?_; clear HF a; intro a HF
     refine wl_ne ?_
     refine wc_true HF rfl ?_
     refine wp_sr ?_
     refine wl_as HF rfl rfl rfl rfl rfl ?_; clear HF a; intro a HF
     refine wl_as HF rfl rfl rfl rfl rfl ?_; clear HF a; intro a HF
     refine wl_ne ?_
     refine wp_ret ?_
     refine ex_then_ret ?_
     refine bp_ret2 HF Tryz.results41 (HF.res rfl) (HF.res rfl) ?_
     exact ⟨_, by rw [(pathB_rest cc1 hpr).trans ((restB_okN _).trans hok)] <;> rfl, HS.out.bel⟩
  ·skip
   refine ⟨_, rfl, ?_⟩; replace HS := Bx.mk (HS.out.later hb); clear hb HF; clear a; intro a HF
   refine wl_mv HF rfl rfl rfl rfl rfl ?_; clear HF a; intro a HF
   refine wl_y rfl HF rfl rfl (yl_extract rfl (HF.ev rfl) rfl) ?_; clear HF a; intro a HF
   refine wl_y rfl HF rfl rfl (yl_extract rfl (HF.ev rfl) rfl) ?_; clear HF a; intro a HF
   refine wl_as HF rfl rfl rfl rfl rfl ?_; clear HF a; intro a HF
   refine wl_as HF rfl rfl rfl rfl rfl ?_; clear HF a; intro a HF
   refine wl_ne ?_
   refine wp_seq ?_
   refine wp_sr ?_
   refine wl_mv HF rfl rfl rfl rfl rfl ?_; clear HF a; intro a HF
   refine wl_y rfl HF rfl rfl (yl_not rfl (HF.ev rfl)) ?_; clear HF a; intro a HF
   refine wl_mv HF rfl rfl rfl rfl rfl ?_; clear HF a; intro a HF
   refine wl_skip HF rfl rfl rfl rfl rfl rfl ?_; clear HF a; intro a HF
   refine wl_skip HF rfl rfl rfl rfl rfl rfl ?_; clear HF a; intro a HF
   refine wl_skip HF rfl rfl rfl rfl rfl rfl ?_; clear HF a; intro a HF
   refine wl_y rfl HF rfl rfl (yl_pick_t rfl (HF.ev rfl) (HF.ev rfl)) ?_; clear HF a; intro a HF
   refine wl_ne ?_
   refine wc_true HF rfl ?_
   refine wp_sr ?_
   refine wl_as HF rfl rfl rfl rfl rfl ?_; clear HF a; intro a HF
   refine wl_as HF rfl rfl rfl rfl rfl ?_; clear HF a; intro a HF
   refine wl_ne ?_
   refine wp_ret ?_
   refine ex_then_ret ?_
   refine bp_ret2 HF Tryz.results41 (HF.res rfl) (HF.res rfl) ?_
   exact ⟨_, by rw [pathB_no cc1 hpr] <;> rfl, HS.out.bel⟩

theorem implPathOk_any (s : ByteArray) (w0 : World) (hM : MaxP w0) (hs : s.size ≤ 4000000000) : Calls Tryz.prog 25 #[.string s] w0 fun e w' => e = .returned (.bool (pathB s)) ∧ Below w0.heap.size w0 w' := by
 have HM := Bx.mk hM; clear hM
 have HS := Bx.mk (St.start w0)
 refine wc_enter Tryz.func25 rfl Tryz.ntmps25 [(0, .string s)] ⟨rfl, trivial⟩ rfl ?_; intro a HF
 refine wp_sr ?_
 refine wl_as HF rfl rfl rfl rfl rfl ?_; clear HF a; intro a HF
 refine wl_ne ?_
 refine wp_sr ?_
 refine wl_mv HF rfl rfl rfl rfl rfl ?_; clear HF a; intro a HF
 refine wl_call rfl HF rfl (enter_of Tryz.func41 (by kernel_rfl) rfl) (args := #[.string s]) rfl (pathNames_any s _ (HM.out.below HS.out.bel) (by omega)) rfl rfl ?_
 rintro _ w1 ⟨v, rfl, hb⟩
 refine ⟨_, rfl, ?_⟩; replace HS := Bx.mk (HS.out.later hb); clear hb HF; clear a; intro a HF
 refine wl_mv HF rfl rfl rfl rfl rfl ?_; clear HF a; intro a HF
 refine wl_y rfl HF rfl rfl (yl_extract rfl (HF.ev rfl) rfl) ?_; clear HF a; intro a HF
 refine wl_y rfl HF rfl rfl (yl_extract rfl (HF.ev rfl) rfl) ?_; clear HF a; intro a HF
 refine wl_as HF rfl rfl rfl rfl rfl ?_; clear HF a; intro a HF
 refine wl_as HF rfl rfl rfl rfl rfl ?_; clear HF a; intro a HF
 refine wl_ne ?_
 refine wp_sr ?_
 refine wl_mv HF rfl rfl rfl rfl rfl ?_; clear HF a; intro a HF
 refine wl_as HF rfl rfl rfl rfl rfl ?_; clear HF a; intro a HF
 refine wl_ne ?_
 refine wp_ret ?_
 refine bp_ret1 HF Tryz.results25 (HF.res rfl) ?_
 exact ⟨rfl, HS.out.bel⟩

theorem l14Names_any (s : ByteArray) (w0 : World) (hne : (s.toList == (⟨#[47]⟩ : ByteArray).toList) = false) (hh : (s.data.toList.head? == some 47) = true) (hs : s.size ≤ 1099511627776) : Calls Tryz.prog 47 #[.string s] w0 fun e w' => ∃ ao cp, e = .returned (.slice ao ((piecesB s 47).length - 1) cp) ∧ Rd encS 1 w' ao ((piecesB s 47).length - 1) (piecesB (s.extract 1 s.size) 47) ∧ Below w0.heap.size w0 w' := by
 have HS := Bx.mk (St.start w0)
 refine wc_enter Tryz.func47 rfl Tryz.ntmps47 [(0, .string s)] ⟨rfl, trivial⟩ rfl ?_; intro a HF
 refine wp_sr ?_
 refine wl_as HF rfl rfl rfl rfl rfl ?_; clear HF a; intro a HF
 refine wl_ne ?_
 refine wp_seq ?_
 refine wp_sr ?_
 refine wl_mv HF rfl rfl rfl rfl rfl ?_; clear HF a; intro a HF
 refine wl_y rfl HF rfl rfl (yl_eqlS rfl (HF.ev rfl) (HF.ev rfl)) ?_; clear HF a; intro a HF
 refine wl_ne ?_
 refine HF.cases 4 rfl (fun cc1 HF1 => ?_) (fun cc1 HF1 => ?_)
 ·clear HF; have HF := HF1; clear HF1
  rw [hne] at cc1; cases cc1
 ·clear HF; have HF := HF1; clear HF1
  refine wc_false HF rfl ?_
  refine wp_skip ?_
  refine ex_then ?_
  refine wp_sr ?_
  refine wl_mv HF rfl rfl rfl rfl rfl ?_; clear HF a; intro a HF
  refine wl_call rfl HF rfl (enter_of Tryz.func19 (by kernel_rfl) rfl) (args := #[.string s, .int .u8 47]) rfl (l2Cut_any s 47 _ (by omega)) rfl rfl ?_
  rintro _ w1 ⟨ao1, cp1, rfl, hs⟩
  refine ⟨_, rfl, ?_⟩
  replace HS := Bx.mk (HS.out.add hs); clear hs HF; clear a; intro a HF
  replace HS : Bx (St w0 ([rowA encS 1 9 (.slice ao1 ((piecesB s 47).length) cp1) (piecesB s 47)]) _) := ⟨HS.out⟩
  have hph := pieces_head (eq_of_beq hh); have hpl := pieces_len (s.extract 1 s.size) 47; have hp2 : (piecesB s 47).length = (piecesB (s.extract 1 s.size) 47).length + 1 := by rw [hph]; rfl
  obtain ⟨g2, rfl, _, _, _, _⟩ := HS.out.rowOpen 0 rfl (by omega)
  refine wl_y rfl HF rfl rfl (yl_sliceLo (e := 9) (size := 1) (k := 1) rfl (HF.ev rfl) (HF.ev rfl) (by kernel_rfl) (by omega) (by omega) (Nat.lt_of_lt_of_le (by omega) (St.capLe HS.out 0 rfl))) ?_; clear HF a; intro a HF
  refine wl_as HF rfl rfl rfl rfl rfl ?_; clear HF a; intro a HF
  refine wl_ne ?_
  refine wp_ret ?_
  refine bp_ret1 HF Tryz.results47 (HF.res rfl) ?_
  have hrd := Rd.drop (St.rdN HS.out encS_len 0 rfl) (k := 1) (by omega)
  rw [hph] at hrd
  refine ⟨_, _, rfl, ?_, HS.out.bel⟩
  have hn : (piecesB s 47).length - 1 = (piecesB (s.extract 1 s.size) 47).length := (by omega)
  have h1 : (ByteArray.empty :: piecesB (s.extract 1 s.size) 47).length - 1 = (piecesB (s.extract 1 s.size) 47).length := rfl
  rw [hn]; exact hrd

theorem allB_no {p : Nat → Bool} {n k : Nat} (hk : k < n) (h : p k = false) : allB p n = false := by
  cases h2 : allB p n with
  | false => rfl
  | true => rw [allB_at h2 hk] at h; cases h

theorem specPathOk_any (s : ByteArray) (w0 : World) (hs : s.size ≤ 4000000000) : Calls Tryz.prog 33 #[.string s] w0 fun e w' => e = .returned (.bool (pathB s)) ∧ Below w0.heap.size w0 w' := by
 have HS := Bx.mk (St.start w0)
 refine wc_enter Tryz.func33 rfl Tryz.ntmps33 [(0, .string s)] ⟨rfl, trivial⟩ rfl ?_; intro a HF
 refine wp_sr ?_
 refine wl_as HF rfl rfl rfl rfl rfl ?_; clear HF a; intro a HF
 refine wl_ne ?_
 refine wp_seq ?_
 refine wp_sr ?_
 refine wl_mv HF rfl rfl rfl rfl rfl ?_; clear HF a; intro a HF
 refine wl_y rfl HF rfl rfl (yl_eqlS rfl (HF.ev rfl) (HF.ev rfl)) ?_; clear HF a; intro a HF
 refine wl_ne ?_
 refine HF.cases 6 rfl (fun cc1 HF1 => ?_) (fun cc1 HF1 => ?_)
 ·clear HF; have HF := HF1; clear HF1
  refine wc_true HF rfl ?_
  refine wp_sr ?_
  refine wl_as HF rfl rfl rfl rfl rfl ?_; clear HF a; intro a HF
  refine wl_ne ?_
  refine wp_ret ?_
  refine ex_then_ret ?_
  refine bp_ret1 HF Tryz.results33 (HF.res rfl) ?_
  exact ⟨by rw [pathB_sl cc1], HS.out.bel⟩
 ·clear HF; have HF := HF1; clear HF1
  refine wc_false HF rfl ?_
  refine wp_skip ?_
  refine ex_then ?_
  refine wp_seq ?_
  refine wp_sr ?_
  refine wl_mv HF rfl rfl rfl rfl rfl ?_; clear HF a; intro a HF
  refine wl_y rfl HF rfl rfl (yl_eqlS rfl (HF.ev rfl) (HF.ev rfl)) ?_; clear HF a; intro a HF
  refine wl_mv HF rfl rfl rfl rfl rfl ?_; clear HF a; intro a HF
  refine HF.cases 9 rfl (fun cc2 HF1 => ?_) (fun cc2 HF1 => ?_)
  ·clear HF; have HF := HF1; clear HF1
   refine wl_skip HF rfl rfl rfl rfl rfl rfl ?_; clear HF a; intro a HF
   refine wl_skip HF rfl rfl rfl rfl rfl rfl ?_; clear HF a; intro a HF
   refine wl_skip HF rfl rfl rfl rfl rfl rfl ?_; clear HF a; intro a HF
   refine wl_y rfl HF rfl rfl (yl_pick_t rfl (HF.ev rfl) (HF.ev rfl)) ?_; clear HF a; intro a HF
   refine wl_ne ?_
   refine wc_true HF rfl ?_
   refine wp_sr ?_
   refine wl_as HF rfl rfl rfl rfl rfl ?_; clear HF a; intro a HF
   refine wl_ne ?_
   refine wp_ret ?_
   refine ex_then_ret ?_
   refine bp_ret1 HF Tryz.results33 (HF.res rfl) ?_
   exact ⟨by rw [pathB_no cc1 (head_nil cc2 bytes_toList)], HS.out.bel⟩
  ·clear HF; have HF := HF1; clear HF1
   have hpos := size_pos cc2
   refine wl_yg HF rfl rfl rfl rfl rfl (yl_move rfl (HF.ev rfl)) ?_; clear HF a; intro a HF
   refine wl_yg HF rfl rfl rfl rfl rfl (yl_indexS (i := 0) rfl (HF.ev rfl) (HF.ev rfl) (by kernel_rfl) (by omega) (by omega)) ?_; clear HF a; intro a HF
   refine wl_yg HF rfl rfl rfl rfl rfl (yl_neqI rfl (HF.ev rfl) (HF.ev rfl)) ?_; clear HF a; intro a HF
   refine wl_y rfl HF rfl rfl (yl_pick_f rfl (HF.ev rfl) (HF.ev rfl)) ?_; clear HF a; intro a HF
   refine wl_ne ?_
   refine HF.cases 13 rfl (fun cc3 HF1 => ?_) (fun cc3 HF1 => ?_)
   ·clear HF; have HF := HF1; clear HF1
    have dcc3 := bne_iff_ne.1 cc3
    refine wc_true HF rfl ?_
    refine wp_sr ?_
    refine wl_as HF rfl rfl rfl rfl rfl ?_; clear HF a; intro a HF
    refine wl_ne ?_
    refine wp_ret ?_
    refine ex_then_ret ?_
    refine bp_ret1 HF Tryz.results33 (HF.res rfl) ?_
    exact ⟨by rw [pathB_no cc1 (by rw [head_get hpos]; exact beq_eq_false_iff_ne.2 (bne_iff_ne.1 cc3))], HS.out.bel⟩
   ·clear HF; have HF := HF1; clear HF1
    have dcc3 := bne_eq_false_iff_eq.1 cc3
    have hh : (s.data.toList.head? == some 47) = true := by rw [head_get hpos]; exact beq_iff_eq.2 (bne_eq_false_iff_eq.1 cc3)
    refine wc_false HF rfl ?_
    refine wp_skip ?_
    refine ex_then ?_
    refine wp_sr ?_
    refine wl_mv HF rfl rfl rfl rfl rfl ?_; clear HF a; intro a HF
    refine wl_call rfl HF rfl (enter_of Tryz.func47 (by kernel_rfl) rfl) (args := #[.string s]) rfl (l14Names_any s _ cc1 hh (by omega)) rfl rfl ?_
    rintro _ w1 ⟨ao, cp, rfl, hrd, hb⟩
    refine ⟨_, rfl, ?_⟩; have HB := Bx.mk (HS.out.later hb).bel; clear HS hb HF; clear a; intro a HF
    obtain ⟨w0, rfl⟩ : ∃ x, x = w1 := ⟨_, rfl⟩; have HS := Bx.mk (St.start w0)
    have hrl := hrd.len; rw [← hrl] at hrd HF; generalize hxs : piecesB (s.extract 1 s.size) 47 = xs at hrd HF hrl; obtain ⟨g0, o0, r0⟩ := hrd.opn; have R0 := Bx.mk r0; clear r0 hrd; have hx : szs xs := (by rw [← hxs]; exact szs_pieces _ _ (by rw [ext1_size]; omega)); have hpl := pieces_len (s.extract 1 s.size) 47; rw [hxs] at hpl; have hcl := List.count_le_length (a := (47 : UInt8)) (l := (s.extract 1 s.size).data.toList); have hsl := size_list (s.extract 1 s.size); have hez : (s.extract 1 s.size).size = s.size - 1 := ext1_size
    refine wl_as HF rfl rfl rfl rfl rfl ?_; clear HF a; intro a HF
    refine wl_ne ?_
    refine wp_seq ?_
    refine wp_sr ?_
    refine wl_as HF rfl rfl rfl rfl rfl ?_; clear HF a; intro a HF
    refine wl_ne ?_
    refine wp_block ?_
    refine wc_loop (ι := Nat) (fun k a w => (k ≤ xs.length ∧ ∀ j, j < k → nameB (xs.getD j ByteArray.empty) = true) ∧ Fr 31 a [(3, .slice ao xs.length cp), (4, .int .i64 (k : Int))] ∧ St w0 ([]) w) (fun k => xs.length - k) 0 ⟨⟨Nat.zero_le _, fun j hj => absurd hj (Nat.not_lt_zero _)⟩, HF.less _ ⟨rfl, rfl, trivial⟩, HS.out⟩ ?_
    clear HF HS; clear a
    rintro k a w2 ⟨⟨hk, hg⟩, HF, HS⟩
    replace HS := Bx.mk HS
    have hxk := hx k
    refine wp_seq ?_
    refine wp_sr ?_
    refine wl_mv HF rfl rfl rfl rfl rfl ?_; clear HF a; intro a HF
    refine wl_mv HF rfl rfl rfl rfl rfl ?_; clear HF a; intro a HF
    refine wl_y rfl HF rfl rfl (yl_lenL (e := 9) (size := 1) rfl (HF.ev rfl) (by kernel_rfl)) ?_; clear HF a; intro a HF
    refine wl_y rfl HF rfl rfl (yl_lssI rfl (HF.ev rfl) (HF.ev rfl)) ?_; clear HF a; intro a HF
    refine wl_ne ?_
    refine HF.cases 19 rfl (fun cc4 HF1 => ?_) (fun cc4 HF1 => ?_)
    ·clear HF; have HF := HF1; clear HF1
     have dcc4 := of_decide_eq_true cc4
     refine wc_true HF rfl ?_
     refine wp_skip ?_
     refine ex_then ?_
     refine wp_seq ?_
     refine wp_block ?_
     refine wp_sr ?_
     refine wl_mv HF rfl rfl rfl rfl rfl ?_; clear HF a; intro a HF
     refine wl_mv HF rfl rfl rfl rfl rfl ?_; clear HF a; intro a HF
     refine wl_y rfl HF rfl rfl (yl_indexAddrR (e := 9) (i := k) (size := 1) rfl (HF.ev rfl) (HF.ev rfl) (by kernel_rfl) rfl (by omega) (R0.out.ao k (by omega))) ?_; clear HF a; intro a HF
     refine wl_y rfl HF rfl rfl (yl_load (v := .string (xs.getD k ByteArray.empty)) rfl (HF.ev rfl) (R0.out.elem1 HS.out (get_getD (xs := xs) (j := k) (d := ByteArray.empty) (by omega)) rfl) (by kernel_rfl)) ?_; clear HF a; intro a HF
     refine wl_callB rfl HF rfl (enter_of Tryz.func48 (by kernel_rfl) rfl) (args := #[.string (xs.getD k ByteArray.empty)]) rfl (v := .bool (nameB (xs.getD k ByteArray.empty))) (specNameOk_any (xs.getD k ByteArray.empty) _ (by omega)) rfl rfl HS.out ?_; clear HF HS a; intro w3 a HS HF; replace HS := Bx.mk HS
     refine wl_y rfl HF rfl rfl (yl_not rfl (HF.ev rfl)) ?_; clear HF a; intro a HF
     refine wl_ne ?_
     refine HF.cases 27 rfl (fun cc5 HF1 => ?_) (fun cc5 HF1 => ?_)
     ·clear HF; have HF := HF1; clear HF1
      refine wc_true HF rfl ?_
      refine wp_sr ?_
      refine wl_as HF rfl rfl rfl rfl rfl ?_; clear HF a; intro a HF
      refine wl_ne ?_
      refine wp_ret ?_
      refine ex_block_ret ?_
      refine ex_then_ret ?_
      refine ex_then_ret ?_
      refine ex_block_ret ?_
      refine ex_then_ret ?_
      refine bp_ret1 HF Tryz.results33 (HF.res rfl) ?_
      have hok : okN xs = false := by unfold okN; rw [← allB_all, allB_no (k := k) (by omega) (by rw [Bool.not_not]; simpa using cc5), Bool.and_false]
      exact ⟨by rw [pathB_rest cc1 hh, restB_okN, hxs, hok], HB.out.trans (HS.out.bel.mono HB.out.size)⟩
     ·clear HF; have HF := HF1; clear HF1
      refine wc_false HF rfl ?_
      refine wp_skip ?_
      refine ex_block ?_
      refine ex_then ?_
      refine wp_region_lit ?_
      refine wl_mv HF rfl rfl rfl rfl rfl ?_; clear HF a; intro a HF
      refine wl_y rfl HF rfl rfl (yl_addI rfl (HF.ev rfl) (HF.ev rfl) (i64w (by omega))) ?_; clear HF a; intro a HF
      refine wl_as HF rfl rfl rfl rfl rfl ?_; clear HF a; intro a HF
      refine wl_ne ?_
      have hnx : ∀ j, j < k + 1 → nameB (xs.getD j ByteArray.empty) = true := fun j hj => by rcases Nat.lt_or_ge j k with h | h; exact hg j h; obtain rfl : j = k := (by omega); simpa using cc5
      exact ⟨k + 1, ⟨⟨by omega, hnx⟩, HF.less _ ⟨rfl, rfl, trivial⟩, HS.out⟩, (by omega)⟩
    ·clear HF; have HF := HF1; clear HF1
     have dcc4 := of_decide_eq_false cc4
     refine wc_false HF rfl ?_
     refine wp_exit ?_
     refine ex_then_exit ?_
     refine ex_then_exit ?_
     refine ex_block_hit ?_
     refine ex_then ?_
     refine wp_sr ?_
     refine wl_mv HF rfl rfl rfl rfl rfl ?_; clear HF a; intro a HF
     refine wl_y rfl HF rfl rfl (yl_lenL (e := 9) (size := 1) rfl (HF.ev rfl) (by kernel_rfl)) ?_; clear HF a; intro a HF
     refine wl_y rfl HF rfl rfl (yl_leqI rfl (HF.ev rfl) (HF.ev rfl)) ?_; clear HF a; intro a HF
     refine wl_as HF rfl rfl rfl rfl rfl ?_; clear HF a; intro a HF
     refine wl_ne ?_
     refine wp_ret ?_
     refine bp_ret1 HF Tryz.results33 (HF.res rfl) ?_
     have hall : xs.all nameB = true := by rw [← allB_all]; exact allB_mk fun j hj => by rw [Bool.not_not]; exact hg j (by omega)
     have hok : okN xs = (decide ((xs.length : Int) ≤ 4)) := by unfold okN; rw [hall, Bool.and_true]; exact decide_eq_decide.2 (by omega)
     exact ⟨by rw [pathB_rest cc1 hh, restB_okN, hxs, hok], HB.out.trans (HS.out.bel.mono HB.out.size)⟩

end Go.Proofs.YtnikdicehddehaaGreatDoor

/- Trees and roots as texts: walked. -/
namespace Go.Proofs.YtnikdicehddehaaGreatDoor
set_option linter.unusedVariables false
set_option linter.unusedSimpArgs false
set_option maxHeartbeats 1000000
set_option maxRecDepth 100000
open Go.RowKit

structure TreeD where
  fRoot : PtrD
  fDepth : Int
  fMany : Int
def TreeD.cells (t : TreeD) : List Value := t.fRoot.cells ++ [.int .i64 t.fDepth, .int .i64 t.fMany]
structure RootD where
  fTxg : Int
  fMeta : TreeD
def RootD.cells (x : RootD) : List Value := .int .i64 x.fTxg :: x.fMeta.cells
def RootD.ok (x : RootD) : Bool := (bif inB x.fTxg 1 900 then (bif x.fMeta.fRoot.ok then (bif inB x.fMeta.fDepth 0 2 then inB x.fMeta.fMany 1 16 else false) else false) else false)

end Go.Proofs.YtnikdicehddehaaGreatDoor

/- Operations as texts: walked. -/
namespace Go.Proofs.YtnikdicehddehaaGreatDoor
set_option linter.unusedVariables false
set_option linter.unusedSimpArgs false
set_option maxHeartbeats 1000000
set_option maxRecDepth 100000
open Go.RowKit

structure OpD where
  fKind : Int
  fPath : ByteArray
  fTo : ByteArray
  fAt : Int
  fText : ByteArray
def OpD.cells (o : OpD) : List Value := [.int .i64 o.fKind, .string o.fPath, .string o.fTo, .int .i64 o.fAt, .string o.fText]
def OpD.two (o : OpD) : Bool := (o.fKind == (6 : Int)) || (o.fKind == (7 : Int))
def OpD.sized (o : OpD) : Bool := (o.fKind == (3 : Int)) || (o.fKind == (4 : Int))
def OpD.toOk (o : OpD) : Bool := bif o.two then pathB o.fTo else (o.fTo.toList == (⟨#[]⟩ : ByteArray).toList)
def OpD.atOk (o : OpD) : Bool := (o.fAt == (0 : Int)) || (o.sized && inB o.fAt 0 192)
def OpD.textOk (o : OpD) : Bool := (o.fText.toList == (⟨#[]⟩ : ByteArray).toList) || ((o.fKind == (3 : Int)) && decide ((o.fText.size : Int) ≤ (24 : Int)))
def OpD.ok (o : OpD) : Bool := inB o.fKind 1 7 && pathB o.fPath && o.toOk && o.atOk && o.textOk
theorem OpD.ok_mk {o : OpD} (h1 : inB o.fKind 1 7 = true) (h2 : pathB o.fPath = true) (h3 : o.toOk = true) (h4 : o.atOk = true) : o.ok = o.textOk := by unfold OpD.ok; rw [h1, h2, h3, h4]; rfl
theorem OpD.ok_mk2 {o : OpD} (h1 : (inB o.fKind 1 7 && pathB o.fPath && o.toOk) = true) (h4 : o.textOk = true) : o.ok = o.atOk := by unfold OpD.ok; rw [h1, h4, Bool.true_and, Bool.and_true]
theorem pathB_nil {t : ByteArray} (h : (t.toList == (⟨#[]⟩ : ByteArray).toList) = true) : pathB t = false := by
  obtain rfl := bytes_toList h
  refine pathB_no ?_ rfl
  cases hc : ((⟨#[]⟩ : ByteArray).toList == (⟨#[47]⟩ : ByteArray).toList) with
  | false => rfl
  | true => exact absurd (congrArg ByteArray.size (bytes_toList hc)) (by decide)
theorem size_nil {t : ByteArray} (h : (t.toList == (⟨#[]⟩ : ByteArray).toList) = true) : decide ((24 : Int) < (t.size : Int)) = false := by
  obtain rfl := bytes_toList h
  rfl
theorem size_le24 (t : ByteArray) : decide ((t.size : Int) ≤ (24 : Int)) = !decide ((24 : Int) < (t.size : Int)) := by
  by_cases h : (t.size : Int) ≤ 24
  · rw [decide_eq_true h, decide_eq_false (by omega)]; rfl
  · rw [decide_eq_false h, decide_eq_true (by omega)]; rfl
theorem at_zero {n : Int} (h : (n == (0 : Int)) = true) : inB n 0 192 = true := by obtain rfl := eq_of_beq h; rfl
theorem bne_int (a b : Int) : (a != b) = !(a == b) := rfl

theorem opTo_tree (o : OpD) : (bif !((bif (o.fKind == 6) then true else (o.fKind == 7)) == (!(o.fTo.toList == (⟨#[]⟩ : ByteArray).toList))) then true else (bif (bif (o.fKind == 6) then true else (o.fKind == 7)) then (!(pathB o.fTo)) else false)) = !o.toOk := by
  have hr := fun h => pathB_nil (t := o.fTo) h
  unfold OpD.toOk OpD.two
  revert hr
  cases h1 : (o.fKind == (6 : Int)) <;> cases h2 : (o.fKind == (7 : Int)) <;> cases h3 : (o.fTo.toList == (⟨#[]⟩ : ByteArray).toList) <;> cases h4 : pathB o.fTo <;> intro hr <;> first | rfl | exact absurd (hr rfl) (by simp)
theorem opAt_tree (o : OpD) : (bif !(bif (o.fKind == 3) then true else (o.fKind == 4)) then (bif (o.fAt != 0) then true else (!(inB o.fAt 0 192))) else (!(inB o.fAt 0 192))) = !o.atOk := by
  have hr := fun h => at_zero (n := o.fAt) h
  unfold OpD.atOk OpD.sized
  rw [bne_int]
  revert hr
  cases h1 : (o.fKind == (3 : Int)) <;> cases h2 : (o.fKind == (4 : Int)) <;> cases h3 : (o.fAt == (0 : Int)) <;> cases h4 : inB o.fAt 0 192 <;> intro hr <;> first | rfl | exact absurd (hr rfl) (by simp)
theorem opText_tree (o : OpD) : (bif (o.fText.toList == (⟨#[]⟩ : ByteArray).toList) then true else (bif (o.fKind == 3) then (decide ((o.fText.size : Int) ≤ 24)) else false)) = o.textOk := by
  unfold OpD.textOk
  cases h1 : (o.fText.toList == (⟨#[]⟩ : ByteArray).toList) <;> cases h2 : (o.fKind == (3 : Int)) <;> rfl

theorem implOpOk_any (o : OpD) (w0 : World) (hM : MaxP w0) (hp : o.fPath.size ≤ 4000000000) (ht : o.fTo.size ≤ 4000000000) (hx : o.fText.size ≤ 4000000000) : Calls Tryz.prog 11 #[.agg #[.int .i64 o.fKind, .string o.fPath, .string o.fTo, .int .i64 o.fAt, .string o.fText]] w0 fun e w' => e = .returned (.bool o.ok) ∧ Below w0.heap.size w0 w' := by
 have HM := Bx.mk hM; clear hM
 have HS := Bx.mk (St.start w0)
 refine wc_enter Tryz.func11 rfl Tryz.ntmps11 [(0, .agg #[.int .i64 o.fKind, .string o.fPath, .string o.fTo, .int .i64 o.fAt, .string o.fText])] ⟨rfl, trivial⟩ rfl ?_; intro a HF
 refine wp_sr ?_
 refine wl_box rfl HF rfl (HF.ev rfl) (Z := [.int .i64 o.fKind, .string o.fPath, .string o.fTo, .int .i64 o.fAt, .string o.fText]) rfl rfl rfl rfl HS.out ?_; clear HF HS a; intro a w1 b1 HF HS; replace HS := Bx.mk HS
 refine wl_as HF rfl rfl rfl rfl rfl ?_; clear HF a; intro a HF
 refine wl_ne ?_
 refine wp_seq ?_
 refine wp_join (R := fun a w => Fr 73 a [(0, .agg #[.int .i64 o.fKind, .string o.fPath, .string o.fTo, .int .i64 o.fAt, .string o.fText]), (1, .pointer (some ⟨b1, 0, none⟩)), (2, .bool false), (3, .bool (bif (o.fKind == 6) then true else (o.fKind == 7)))] ∧ St w0 ([boxA b1 5 24 (.agg #[.int .i64 o.fKind, .string o.fPath, .string o.fTo, .int .i64 o.fAt, .string o.fText])]) w) ?_ ?_
 ·skip
  refine wp_region_lit ?_
  refine wl_y rfl HF rfl rfl (yl_fieldAddr (j := 0) rfl (HF.ev rfl) (by kernel_rfl)) ?_; clear HF a; intro a HF
  refine wl_y rfl HF rfl rfl (yl_load (v := .int .i64 o.fKind) rfl (HF.ev rfl) (((HS.out.box 0 rfl).cell 0).trans rfl) (by kernel_rfl)) ?_; clear HF a; intro a HF
  refine wl_y rfl HF rfl rfl (yl_eqlI rfl (HF.ev rfl) (HF.ev rfl)) ?_; clear HF a; intro a HF
  refine wl_mv HF rfl rfl rfl rfl rfl ?_; clear HF a; intro a HF
  refine HF.cases 8 rfl (fun cc1 HF1 => ?_) (fun cc1 HF1 => ?_)
  ·clear HF; have HF := HF1; clear HF1
   have dcc1 := eq_of_beq cc1
   refine wl_skip HF rfl rfl rfl rfl rfl rfl ?_; clear HF a; intro a HF
   refine wl_skip HF rfl rfl rfl rfl rfl rfl ?_; clear HF a; intro a HF
   refine wl_skip HF rfl rfl rfl rfl rfl rfl ?_; clear HF a; intro a HF
   refine wl_y rfl HF rfl rfl (yl_pick_t rfl (HF.ev rfl) (HF.ev rfl)) ?_; clear HF a; intro a HF
   refine wl_as HF rfl rfl rfl rfl rfl ?_; clear HF a; intro a HF
   refine wpList_nil ?_
   exact on_mk ⟨HF.less _ ⟨rfl, rfl, rfl, (congrArg (fun z => some (Value.bool z)) (show (true : Bool) = (bif (o.fKind == 6) then true else (o.fKind == 7)) from (by (try rw [cc1]); first | done | rfl))), trivial⟩, HS.out⟩
  ·clear HF; have HF := HF1; clear HF1
   have dcc1 := ne_of_beq_false cc1
   refine wl_yg HF rfl rfl rfl rfl rfl (yl_fieldAddr (j := 0) rfl (HF.ev rfl) (by kernel_rfl)) ?_; clear HF a; intro a HF
   refine wl_yg HF rfl rfl rfl rfl rfl (yl_load (v := .int .i64 o.fKind) rfl (HF.ev rfl) (((HS.out.box 0 rfl).cell 0).trans rfl) (by kernel_rfl)) ?_; clear HF a; intro a HF
   refine wl_yg HF rfl rfl rfl rfl rfl (yl_eqlI rfl (HF.ev rfl) (HF.ev rfl)) ?_; clear HF a; intro a HF
   refine wl_y rfl HF rfl rfl (yl_pick_f rfl (HF.ev rfl) (HF.ev rfl)) ?_; clear HF a; intro a HF
   refine wl_as HF rfl rfl rfl rfl rfl ?_; clear HF a; intro a HF
   refine wpList_nil ?_
   exact on_mk ⟨HF.less _ ⟨rfl, rfl, rfl, (congrArg (fun z => some (Value.bool z)) (show ((o.fKind == 7) : Bool) = (bif (o.fKind == 6) then true else (o.fKind == 7)) from (by (try rw [cc1]); first | done | rfl))), trivial⟩, HS.out⟩
 clear HF HS a; rintro a w2 ⟨HF, HS⟩; replace HS := Bx.mk HS
 refine ex_then ?_
 refine wp_seq ?_
 refine wp_join (R := fun a w => Fr 73 a [(0, .agg #[.int .i64 o.fKind, .string o.fPath, .string o.fTo, .int .i64 o.fAt, .string o.fText]), (1, .pointer (some ⟨b1, 0, none⟩)), (2, .bool false), (3, .bool (bif (o.fKind == 6) then true else (o.fKind == 7))), (4, .bool (bif (o.fKind == 3) then true else (o.fKind == 4)))] ∧ St w0 ([boxA b1 5 24 (.agg #[.int .i64 o.fKind, .string o.fPath, .string o.fTo, .int .i64 o.fAt, .string o.fText])]) w) ?_ ?_
 ·skip
  refine wp_region_lit ?_
  refine wl_y rfl HF rfl rfl (yl_fieldAddr (j := 0) rfl (HF.ev rfl) (by kernel_rfl)) ?_; clear HF a; intro a HF
  refine wl_y rfl HF rfl rfl (yl_load (v := .int .i64 o.fKind) rfl (HF.ev rfl) (((HS.out.box 0 rfl).cell 0).trans rfl) (by kernel_rfl)) ?_; clear HF a; intro a HF
  refine wl_y rfl HF rfl rfl (yl_eqlI rfl (HF.ev rfl) (HF.ev rfl)) ?_; clear HF a; intro a HF
  refine wl_mv HF rfl rfl rfl rfl rfl ?_; clear HF a; intro a HF
  refine HF.cases 16 rfl (fun cc2 HF1 => ?_) (fun cc2 HF1 => ?_)
  ·clear HF; have HF := HF1; clear HF1
   have dcc2 := eq_of_beq cc2
   refine wl_skip HF rfl rfl rfl rfl rfl rfl ?_; clear HF a; intro a HF
   refine wl_skip HF rfl rfl rfl rfl rfl rfl ?_; clear HF a; intro a HF
   refine wl_skip HF rfl rfl rfl rfl rfl rfl ?_; clear HF a; intro a HF
   refine wl_y rfl HF rfl rfl (yl_pick_t rfl (HF.ev rfl) (HF.ev rfl)) ?_; clear HF a; intro a HF
   refine wl_as HF rfl rfl rfl rfl rfl ?_; clear HF a; intro a HF
   refine wpList_nil ?_
   exact on_mk ⟨HF.less _ ⟨rfl, rfl, rfl, rfl, (congrArg (fun z => some (Value.bool z)) (show (true : Bool) = (bif (o.fKind == 3) then true else (o.fKind == 4)) from (by (try rw [cc2]); first | done | rfl))), trivial⟩, HS.out⟩
  ·clear HF; have HF := HF1; clear HF1
   have dcc2 := ne_of_beq_false cc2
   refine wl_yg HF rfl rfl rfl rfl rfl (yl_fieldAddr (j := 0) rfl (HF.ev rfl) (by kernel_rfl)) ?_; clear HF a; intro a HF
   refine wl_yg HF rfl rfl rfl rfl rfl (yl_load (v := .int .i64 o.fKind) rfl (HF.ev rfl) (((HS.out.box 0 rfl).cell 0).trans rfl) (by kernel_rfl)) ?_; clear HF a; intro a HF
   refine wl_yg HF rfl rfl rfl rfl rfl (yl_eqlI rfl (HF.ev rfl) (HF.ev rfl)) ?_; clear HF a; intro a HF
   refine wl_y rfl HF rfl rfl (yl_pick_f rfl (HF.ev rfl) (HF.ev rfl)) ?_; clear HF a; intro a HF
   refine wl_as HF rfl rfl rfl rfl rfl ?_; clear HF a; intro a HF
   refine wpList_nil ?_
   exact on_mk ⟨HF.less _ ⟨rfl, rfl, rfl, rfl, (congrArg (fun z => some (Value.bool z)) (show ((o.fKind == 4) : Bool) = (bif (o.fKind == 3) then true else (o.fKind == 4)) from (by (try rw [cc2]); first | done | rfl))), trivial⟩, HS.out⟩
 clear HF HS a; rintro a w3 ⟨HF, HS⟩; replace HS := Bx.mk HS
 refine ex_then ?_
 refine wp_seq ?_
 refine wp_block ?_
 refine wp_seq ?_
 refine wp_sr ?_
 refine wl_y rfl HF rfl rfl (yl_fieldAddr (j := 0) rfl (HF.ev rfl) (by kernel_rfl)) ?_; clear HF a; intro a HF
 refine wl_y rfl HF rfl rfl (yl_load (v := .int .i64 o.fKind) rfl (HF.ev rfl) (((HS.out.box 0 rfl).cell 0).trans rfl) (by kernel_rfl)) ?_; clear HF a; intro a HF
 refine wl_callB rfl HF rfl (enter_of Tryz.func24 (by kernel_rfl) rfl) (args := #[.int .i64 o.fKind, .int .i64 1, .int .i64 7]) rfl (v := .bool (inB o.fKind 1 7)) (((within_any o.fKind 1 7 _).mono fun _ _ h => ⟨h.1, h.2 ▸ Below.refl _ _⟩)) rfl rfl HS.out ?_; clear HF HS a; intro w4 a HS HF; replace HS := Bx.mk HS
 refine wl_y rfl HF rfl rfl (yl_not rfl (HF.ev rfl)) ?_; clear HF a; intro a HF
 refine wl_as HF rfl rfl rfl rfl rfl ?_; clear HF a; intro a HF
 refine wl_ne ?_
 refine HF.cases 21 rfl (fun cc3 HF1 => ?_) (fun cc3 HF1 => ?_)
 ·clear HF; have HF := HF1; clear HF1
  refine wc_true HF rfl ?_
  refine wp_skip ?_
  refine ex_then ?_
  refine wc_true HF rfl ?_
  refine wp_sr ?_
  refine wl_as HF rfl rfl rfl rfl rfl ?_; clear HF a; intro a HF
  refine wl_ne ?_
  refine wp_ret ?_
  refine ex_block_ret ?_
  refine ex_then_ret ?_
  refine bp_ret1 HF Tryz.results11 (HF.res rfl) ?_
  have k1 : inB o.fKind 1 7 = false := by simpa using cc3
  exact ⟨by unfold OpD.ok; rw [k1] <;> simp, HS.out.bel⟩
 ·clear HF; have HF := HF1; clear HF1
  refine wc_false HF rfl ?_
  refine wp_region_lit ?_
  refine wl_y rfl HF rfl rfl (yl_fieldAddr (j := 1) rfl (HF.ev rfl) (by kernel_rfl)) ?_; clear HF a; intro a HF
  refine wl_y rfl HF rfl rfl (yl_load (v := .string o.fPath) rfl (HF.ev rfl) (((HS.out.box 0 rfl).cell 1).trans rfl) (by kernel_rfl)) ?_; clear HF a; intro a HF
  refine wl_callB rfl HF rfl (enter_of Tryz.func25 (by kernel_rfl) rfl) (args := #[.string o.fPath]) rfl (v := .bool (pathB o.fPath)) (implPathOk_any o.fPath _ (HM.out.below HS.out.bel) (by omega)) rfl rfl HS.out ?_; clear HF HS a; intro w5 a HS HF; replace HS := Bx.mk HS
  refine wl_y rfl HF rfl rfl (yl_not rfl (HF.ev rfl)) ?_; clear HF a; intro a HF
  refine wl_as HF rfl rfl rfl rfl rfl ?_; clear HF a; intro a HF
  refine wl_ne ?_
  refine HF.cases 21 rfl (fun cc4 HF1 => ?_) (fun cc4 HF1 => ?_)
  ·clear HF; have HF := HF1; clear HF1
   refine wc_true HF rfl ?_
   refine wp_sr ?_
   refine wl_as HF rfl rfl rfl rfl rfl ?_; clear HF a; intro a HF
   refine wl_ne ?_
   refine wp_ret ?_
   refine ex_block_ret ?_
   refine ex_then_ret ?_
   refine bp_ret1 HF Tryz.results11 (HF.res rfl) ?_
   have k1 : inB o.fKind 1 7 = true := by simpa using cc3
   have k2 : pathB o.fPath = false := by simpa using cc4
   exact ⟨by unfold OpD.ok; rw [k1, k2] <;> simp, HS.out.bel⟩
  ·clear HF; have HF := HF1; clear HF1
   refine wc_false HF rfl ?_
   refine wp_seq ?_
   refine wp_join (R := fun a w => Fr 73 a [(0, .agg #[.int .i64 o.fKind, .string o.fPath, .string o.fTo, .int .i64 o.fAt, .string o.fText]), (1, .pointer (some ⟨b1, 0, none⟩)), (2, .bool false), (4, .bool (bif (o.fKind == 3) then true else (o.fKind == 4))), (22, .pointer (some ⟨b1, 0 + 0, none⟩)), (23, .int .i64 o.fKind), (24, .bool (inB o.fKind 1 7)), (25, .bool (!(inB o.fKind 1 7))), (21, .bool false), (26, .pointer (some ⟨b1, 0 + 1, none⟩)), (27, .string o.fPath), (28, .bool (pathB o.fPath)), (29, .bool (!(pathB o.fPath))), (30, .bool (bif !((bif (o.fKind == 6) then true else (o.fKind == 7)) == (!(o.fTo.toList == (⟨#[]⟩ : ByteArray).toList))) then true else (bif (bif (o.fKind == 6) then true else (o.fKind == 7)) then (!(pathB o.fTo)) else false)))] ∧ St w0 ([boxA b1 5 24 (.agg #[.int .i64 o.fKind, .string o.fPath, .string o.fTo, .int .i64 o.fAt, .string o.fText])]) w) ?_ ?_
   ·skip
    refine wp_region_lit ?_
    refine wl_mv HF rfl rfl rfl rfl rfl ?_; clear HF a; intro a HF
    refine wl_y rfl HF rfl rfl (yl_fieldAddr (j := 2) rfl (HF.ev rfl) (by kernel_rfl)) ?_; clear HF a; intro a HF
    refine wl_y rfl HF rfl rfl (yl_load (v := .string o.fTo) rfl (HF.ev rfl) (((HS.out.box 0 rfl).cell 2).trans rfl) (by kernel_rfl)) ?_; clear HF a; intro a HF
    refine wl_y rfl HF rfl rfl (yl_neqS rfl (HF.ev rfl) (HF.ev rfl)) ?_; clear HF a; intro a HF
    refine wl_y rfl HF rfl rfl (yl_neqB rfl (HF.ev rfl) (HF.ev rfl) (by kernel_rfl)) ?_; clear HF a; intro a HF
    refine wl_mv HF rfl rfl rfl rfl rfl ?_; clear HF a; intro a HF
    refine HF.cases 36 rfl (fun cc5 HF1 => ?_) (fun cc5 HF1 => ?_)
    ·clear HF; have HF := HF1; clear HF1
     refine wl_skip HF rfl rfl rfl rfl rfl rfl ?_; clear HF a; intro a HF
     refine wl_skip HF rfl rfl rfl rfl rfl rfl ?_; clear HF a; intro a HF
     refine wl_skipU HF rfl rfl rfl rfl rfl ?_; clear HF a; intro a HF
     refine wl_skipU HF rfl rfl rfl rfl rfl ?_; clear HF a; intro a HF
     refine wl_skipU HF rfl rfl rfl rfl rfl ?_; clear HF a; intro a HF
     refine wl_skipU HF rfl rfl rfl rfl rfl ?_; clear HF a; intro a HF
     refine wl_skip HF rfl rfl rfl rfl rfl rfl ?_; clear HF a; intro a HF
     refine wl_y rfl HF rfl rfl (yl_pick_t rfl (HF.ev rfl) (HF.ev rfl)) ?_; clear HF a; intro a HF
     refine wl_as HF rfl rfl rfl rfl rfl ?_; clear HF a; intro a HF
     refine wpList_nil ?_
     exact on_mk ⟨HF.less _ ⟨rfl, rfl, rfl, rfl, rfl, rfl, rfl, rfl, rfl, rfl, rfl, rfl, rfl, (congrArg (fun z => some (Value.bool z)) (show (true : Bool) = (bif !((bif (o.fKind == 6) then true else (o.fKind == 7)) == (!(o.fTo.toList == (⟨#[]⟩ : ByteArray).toList))) then true else (bif (bif (o.fKind == 6) then true else (o.fKind == 7)) then (!(pathB o.fTo)) else false)) from (by (try rw [cc5]); first | done | rfl))), trivial⟩, HS.out⟩
    ·clear HF; have HF := HF1; clear HF1
     refine wl_yg HF rfl rfl rfl rfl rfl (yl_move rfl (HF.ev rfl)) ?_; clear HF a; intro a HF
     refine wl_yg HF rfl rfl rfl rfl rfl (yl_move rfl (HF.ev rfl)) ?_; clear HF a; intro a HF
     refine HF.cases 38 rfl (fun cc6 HF1 => ?_) (fun cc6 HF1 => ?_)
     ·clear HF; have HF := HF1; clear HF1
      refine wl_yg HF rfl rfl rfl rfl rfl (yl_fieldAddr (j := 2) rfl (HF.ev rfl) (by kernel_rfl)) ?_; clear HF a; intro a HF
      refine wl_yg HF rfl rfl rfl rfl rfl (yl_load (v := .string o.fTo) rfl (HF.ev rfl) (((HS.out.box 0 rfl).cell 2).trans rfl) (by kernel_rfl)) ?_; clear HF a; intro a HF
      refine wl_callBg HF rfl rfl rfl rfl (enter_of Tryz.func25 (by kernel_rfl) rfl) (args := #[.string o.fTo]) rfl (v := .bool (pathB o.fTo)) (implPathOk_any o.fTo _ (HM.out.below HS.out.bel) (by omega)) rfl rfl HS.out ?_; clear HF HS a; intro w6 a HS HF; replace HS := Bx.mk HS
      refine wl_yg HF rfl rfl rfl rfl rfl (yl_not rfl (HF.ev rfl)) ?_; clear HF a; intro a HF
      refine wl_yg HF rfl rfl rfl rfl rfl (yl_pick_t rfl (HF.ev rfl) (HF.ev rfl)) ?_; clear HF a; intro a HF
      refine wl_y rfl HF rfl rfl (yl_pick_f rfl (HF.ev rfl) (HF.ev rfl)) ?_; clear HF a; intro a HF
      refine wl_as HF rfl rfl rfl rfl rfl ?_; clear HF a; intro a HF
      refine wpList_nil ?_
      exact on_mk ⟨HF.less _ ⟨rfl, rfl, rfl, rfl, rfl, rfl, rfl, rfl, rfl, rfl, rfl, rfl, rfl, (congrArg (fun z => some (Value.bool z)) (show (!(pathB o.fTo) : Bool) = (bif !((bif (o.fKind == 6) then true else (o.fKind == 7)) == (!(o.fTo.toList == (⟨#[]⟩ : ByteArray).toList))) then true else (bif (bif (o.fKind == 6) then true else (o.fKind == 7)) then (!(pathB o.fTo)) else false)) from (by (try rw [cc5]); (try rw [cc6]); first | done | rfl))), trivial⟩, HS.out⟩
     ·clear HF; have HF := HF1; clear HF1
      refine wl_skip HF rfl rfl rfl rfl rfl rfl ?_; clear HF a; intro a HF
      refine wl_skip HF rfl rfl rfl rfl rfl rfl ?_; clear HF a; intro a HF
      refine wl_skip HF rfl rfl rfl rfl rfl rfl ?_; clear HF a; intro a HF
      refine wl_skip HF rfl rfl rfl rfl rfl rfl ?_; clear HF a; intro a HF
      refine wl_yg HF rfl rfl rfl rfl rfl (yl_pick_f rfl (HF.ev rfl) (HF.ev rfl)) ?_; clear HF a; intro a HF
      refine wl_y rfl HF rfl rfl (yl_pick_f rfl (HF.ev rfl) (HF.ev rfl)) ?_; clear HF a; intro a HF
      refine wl_as HF rfl rfl rfl rfl rfl ?_; clear HF a; intro a HF
      refine wpList_nil ?_
      exact on_mk ⟨HF.less _ ⟨rfl, rfl, rfl, rfl, rfl, rfl, rfl, rfl, rfl, rfl, rfl, rfl, rfl, (congrArg (fun z => some (Value.bool z)) (show (false : Bool) = (bif !((bif (o.fKind == 6) then true else (o.fKind == 7)) == (!(o.fTo.toList == (⟨#[]⟩ : ByteArray).toList))) then true else (bif (bif (o.fKind == 6) then true else (o.fKind == 7)) then (!(pathB o.fTo)) else false)) from (by (try rw [cc5]); (try rw [cc6]); first | done | rfl))), trivial⟩, HS.out⟩
   clear HF HS a; rintro a w7 ⟨HF, HS⟩; replace HS := Bx.mk HS
   refine ex_then ?_
   refine HF.cases 30 rfl (fun cc7 HF1 => ?_) (fun cc7 HF1 => ?_)
   ·clear HF; have HF := HF1; clear HF1
    refine wc_true HF rfl ?_
    refine wp_sr ?_
    refine wl_as HF rfl rfl rfl rfl rfl ?_; clear HF a; intro a HF
    refine wl_ne ?_
    refine wp_ret ?_
    refine ex_block_ret ?_
    refine ex_then_ret ?_
    refine bp_ret1 HF Tryz.results11 (HF.res rfl) ?_
    have k1 : inB o.fKind 1 7 = true := by simpa using cc3
    have k2 : pathB o.fPath = true := by simpa using cc4
    have k3 : o.toOk = false := by have := cc7; rw [opTo_tree] at this; simpa using this
    exact ⟨by unfold OpD.ok; rw [k1, k2, k3] <;> simp, HS.out.bel⟩
   ·clear HF; have HF := HF1; clear HF1
    refine wc_false HF rfl ?_
    refine wp_seq ?_
    refine wp_join (R := fun a w => Fr 73 a [(0, .agg #[.int .i64 o.fKind, .string o.fPath, .string o.fTo, .int .i64 o.fAt, .string o.fText]), (1, .pointer (some ⟨b1, 0, none⟩)), (2, .bool false), (22, .pointer (some ⟨b1, 0 + 0, none⟩)), (23, .int .i64 o.fKind), (24, .bool (inB o.fKind 1 7)), (25, .bool (!(inB o.fKind 1 7))), (21, .bool false), (26, .pointer (some ⟨b1, 0 + 1, none⟩)), (27, .string o.fPath), (28, .bool (pathB o.fPath)), (29, .bool (!(pathB o.fPath))), (30, .bool false), (45, .bool (bif !(bif (o.fKind == 3) then true else (o.fKind == 4)) then (bif (o.fAt != 0) then true else (!(inB o.fAt 0 192))) else (!(inB o.fAt 0 192))))] ∧ St w0 ([boxA b1 5 24 (.agg #[.int .i64 o.fKind, .string o.fPath, .string o.fTo, .int .i64 o.fAt, .string o.fText])]) w) ?_ ?_
    ·skip
     refine wp_region_lit ?_
     refine wl_mv HF rfl rfl rfl rfl rfl ?_; clear HF a; intro a HF
     refine wl_y rfl HF rfl rfl (yl_not rfl (HF.ev rfl)) ?_; clear HF a; intro a HF
     refine wl_mv HF rfl rfl rfl rfl rfl ?_; clear HF a; intro a HF
     refine HF.cases 48 rfl (fun cc8 HF1 => ?_) (fun cc8 HF1 => ?_)
     ·clear HF; have HF := HF1; clear HF1
      refine wl_yg HF rfl rfl rfl rfl rfl (yl_fieldAddr (j := 3) rfl (HF.ev rfl) (by kernel_rfl)) ?_; clear HF a; intro a HF
      refine wl_yg HF rfl rfl rfl rfl rfl (yl_load (v := .int .i64 o.fAt) rfl (HF.ev rfl) (((HS.out.box 0 rfl).cell 3).trans rfl) (by kernel_rfl)) ?_; clear HF a; intro a HF
      refine wl_yg HF rfl rfl rfl rfl rfl (yl_neqI rfl (HF.ev rfl) (HF.ev rfl)) ?_; clear HF a; intro a HF
      refine wl_y rfl HF rfl rfl (yl_pick_t rfl (HF.ev rfl) (HF.ev rfl)) ?_; clear HF a; intro a HF
      refine wl_mv HF rfl rfl rfl rfl rfl ?_; clear HF a; intro a HF
      refine HF.cases 53 rfl (fun cc9 HF1 => ?_) (fun cc9 HF1 => ?_)
      ·clear HF; have HF := HF1; clear HF1
       have dcc9 := bne_iff_ne.1 cc9
       refine wl_skip HF rfl rfl rfl rfl rfl rfl ?_; clear HF a; intro a HF
       refine wl_skip HF rfl rfl rfl rfl rfl rfl ?_; clear HF a; intro a HF
       refine wl_skip HF rfl rfl rfl rfl rfl rfl ?_; clear HF a; intro a HF
       refine wl_skip HF rfl rfl rfl rfl rfl rfl ?_; clear HF a; intro a HF
       refine wl_y rfl HF rfl rfl (yl_pick_t rfl (HF.ev rfl) (HF.ev rfl)) ?_; clear HF a; intro a HF
       refine wl_as HF rfl rfl rfl rfl rfl ?_; clear HF a; intro a HF
       refine wpList_nil ?_
       exact on_mk ⟨HF.less _ ⟨rfl, rfl, rfl, rfl, rfl, rfl, rfl, rfl, rfl, rfl, rfl, rfl, rfl, (congrArg (fun z => some (Value.bool z)) (show (true : Bool) = (bif !(bif (o.fKind == 3) then true else (o.fKind == 4)) then (bif (o.fAt != 0) then true else (!(inB o.fAt 0 192))) else (!(inB o.fAt 0 192))) from (by (try rw [cc8]); (try rw [cc9]); first | done | rfl))), trivial⟩, HS.out⟩
      ·clear HF; have HF := HF1; clear HF1
       have dcc9 := bne_eq_false_iff_eq.1 cc9
       refine wl_yg HF rfl rfl rfl rfl rfl (yl_fieldAddr (j := 3) rfl (HF.ev rfl) (by kernel_rfl)) ?_; clear HF a; intro a HF
       refine wl_yg HF rfl rfl rfl rfl rfl (yl_load (v := .int .i64 o.fAt) rfl (HF.ev rfl) (((HS.out.box 0 rfl).cell 3).trans rfl) (by kernel_rfl)) ?_; clear HF a; intro a HF
       refine wl_callBg HF rfl rfl rfl rfl (enter_of Tryz.func24 (by kernel_rfl) rfl) (args := #[.int .i64 o.fAt, .int .i64 0, .int .i64 192]) rfl (v := .bool (inB o.fAt 0 192)) (((within_any o.fAt 0 192 _).mono fun _ _ h => ⟨h.1, h.2 ▸ Below.refl _ _⟩)) rfl rfl HS.out ?_; clear HF HS a; intro w8 a HS HF; replace HS := Bx.mk HS
       refine wl_yg HF rfl rfl rfl rfl rfl (yl_not rfl (HF.ev rfl)) ?_; clear HF a; intro a HF
       refine wl_y rfl HF rfl rfl (yl_pick_f rfl (HF.ev rfl) (HF.ev rfl)) ?_; clear HF a; intro a HF
       refine wl_as HF rfl rfl rfl rfl rfl ?_; clear HF a; intro a HF
       refine wpList_nil ?_
       exact on_mk ⟨HF.less _ ⟨rfl, rfl, rfl, rfl, rfl, rfl, rfl, rfl, rfl, rfl, rfl, rfl, rfl, (congrArg (fun z => some (Value.bool z)) (show (!(inB o.fAt 0 192) : Bool) = (bif !(bif (o.fKind == 3) then true else (o.fKind == 4)) then (bif (o.fAt != 0) then true else (!(inB o.fAt 0 192))) else (!(inB o.fAt 0 192))) from (by (try rw [cc8]); (try rw [cc9]); first | done | rfl))), trivial⟩, HS.out⟩
     ·clear HF; have HF := HF1; clear HF1
      refine wl_skip HF rfl rfl rfl rfl rfl rfl ?_; clear HF a; intro a HF
      refine wl_skip HF rfl rfl rfl rfl rfl rfl ?_; clear HF a; intro a HF
      refine wl_skip HF rfl rfl rfl rfl rfl rfl ?_; clear HF a; intro a HF
      refine wl_y rfl HF rfl rfl (yl_pick_f rfl (HF.ev rfl) (HF.ev rfl)) ?_; clear HF a; intro a HF
      refine wl_mv HF rfl rfl rfl rfl rfl ?_; clear HF a; intro a HF
      refine wl_yg HF rfl rfl rfl rfl rfl (yl_fieldAddr (j := 3) rfl (HF.ev rfl) (by kernel_rfl)) ?_; clear HF a; intro a HF
      refine wl_yg HF rfl rfl rfl rfl rfl (yl_load (v := .int .i64 o.fAt) rfl (HF.ev rfl) (((HS.out.box 0 rfl).cell 3).trans rfl) (by kernel_rfl)) ?_; clear HF a; intro a HF
      refine wl_callBg HF rfl rfl rfl rfl (enter_of Tryz.func24 (by kernel_rfl) rfl) (args := #[.int .i64 o.fAt, .int .i64 0, .int .i64 192]) rfl (v := .bool (inB o.fAt 0 192)) (((within_any o.fAt 0 192 _).mono fun _ _ h => ⟨h.1, h.2 ▸ Below.refl _ _⟩)) rfl rfl HS.out ?_; clear HF HS a; intro w9 a HS HF; replace HS := Bx.mk HS
      refine wl_yg HF rfl rfl rfl rfl rfl (yl_not rfl (HF.ev rfl)) ?_; clear HF a; intro a HF
      refine wl_y rfl HF rfl rfl (yl_pick_f rfl (HF.ev rfl) (HF.ev rfl)) ?_; clear HF a; intro a HF
      refine wl_as HF rfl rfl rfl rfl rfl ?_; clear HF a; intro a HF
      refine wpList_nil ?_
      exact on_mk ⟨HF.less _ ⟨rfl, rfl, rfl, rfl, rfl, rfl, rfl, rfl, rfl, rfl, rfl, rfl, rfl, (congrArg (fun z => some (Value.bool z)) (show (!(inB o.fAt 0 192) : Bool) = (bif !(bif (o.fKind == 3) then true else (o.fKind == 4)) then (bif (o.fAt != 0) then true else (!(inB o.fAt 0 192))) else (!(inB o.fAt 0 192))) from (by (try rw [cc8]); first | done | rfl))), trivial⟩, HS.out⟩
    clear HF HS a; rintro a w10 ⟨HF, HS⟩; replace HS := Bx.mk HS
    refine ex_then ?_
    refine HF.cases 45 rfl (fun cc10 HF1 => ?_) (fun cc10 HF1 => ?_)
    ·clear HF; have HF := HF1; clear HF1
     refine wc_true HF rfl ?_
     refine wp_sr ?_
     refine wl_as HF rfl rfl rfl rfl rfl ?_; clear HF a; intro a HF
     refine wl_ne ?_
     refine wp_ret ?_
     refine ex_block_ret ?_
     refine ex_then_ret ?_
     refine bp_ret1 HF Tryz.results11 (HF.res rfl) ?_
     have k1 : inB o.fKind 1 7 = true := by simpa using cc3
     have k2 : pathB o.fPath = true := by simpa using cc4
     have k3 : o.toOk = true := by have := cc7; rw [opTo_tree] at this; simpa using this
     have k4 : o.atOk = false := by have := cc10; rw [opAt_tree] at this; simpa using this
     exact ⟨by unfold OpD.ok; rw [k1, k2, k3, k4] <;> simp, HS.out.bel⟩
    ·clear HF; have HF := HF1; clear HF1
     refine wc_false HF rfl ?_
     refine wp_skip ?_
     refine ex_block ?_
     refine ex_then ?_
     refine wp_seq ?_
     refine wp_join (R := fun a w => Fr 73 a [(0, .agg #[.int .i64 o.fKind, .string o.fPath, .string o.fTo, .int .i64 o.fAt, .string o.fText]), (1, .pointer (some ⟨b1, 0, none⟩)), (2, .bool (bif (o.fText.toList == (⟨#[]⟩ : ByteArray).toList) then true else (bif (o.fKind == 3) then (decide ((o.fText.size : Int) ≤ 24)) else false))), (22, .pointer (some ⟨b1, 0 + 0, none⟩)), (23, .int .i64 o.fKind), (24, .bool (inB o.fKind 1 7)), (25, .bool (!(inB o.fKind 1 7))), (21, .bool false), (26, .pointer (some ⟨b1, 0 + 1, none⟩)), (27, .string o.fPath), (28, .bool (pathB o.fPath)), (29, .bool (!(pathB o.fPath))), (30, .bool false), (45, .bool false)] ∧ St w0 ([boxA b1 5 24 (.agg #[.int .i64 o.fKind, .string o.fPath, .string o.fTo, .int .i64 o.fAt, .string o.fText])]) w) ?_ ?_
     ·skip
      refine wp_region_lit ?_
      refine wl_y rfl HF rfl rfl (yl_fieldAddr (j := 4) rfl (HF.ev rfl) (by kernel_rfl)) ?_; clear HF a; intro a HF
      refine wl_y rfl HF rfl rfl (yl_load (v := .string o.fText) rfl (HF.ev rfl) (((HS.out.box 0 rfl).cell 4).trans rfl) (by kernel_rfl)) ?_; clear HF a; intro a HF
      refine wl_y rfl HF rfl rfl (yl_eqlS rfl (HF.ev rfl) (HF.ev rfl)) ?_; clear HF a; intro a HF
      refine wl_mv HF rfl rfl rfl rfl rfl ?_; clear HF a; intro a HF
      refine HF.cases 62 rfl (fun cc11 HF1 => ?_) (fun cc11 HF1 => ?_)
      ·clear HF; have HF := HF1; clear HF1
       refine wl_skip HF rfl rfl rfl rfl rfl rfl ?_; clear HF a; intro a HF
       refine wl_skip HF rfl rfl rfl rfl rfl rfl ?_; clear HF a; intro a HF
       refine wl_skip HF rfl rfl rfl rfl rfl rfl ?_; clear HF a; intro a HF
       refine wl_skip HF rfl rfl rfl rfl rfl rfl ?_; clear HF a; intro a HF
       refine wl_skipU HF rfl rfl rfl rfl rfl ?_; clear HF a; intro a HF
       refine wl_skipU HF rfl rfl rfl rfl rfl ?_; clear HF a; intro a HF
       refine wl_skipU HF rfl rfl rfl rfl rfl ?_; clear HF a; intro a HF
       refine wl_skipU HF rfl rfl rfl rfl rfl ?_; clear HF a; intro a HF
       refine wl_skip HF rfl rfl rfl rfl rfl rfl ?_; clear HF a; intro a HF
       refine wl_y rfl HF rfl rfl (yl_pick_t rfl (HF.ev rfl) (HF.ev rfl)) ?_; clear HF a; intro a HF
       refine wl_as HF rfl rfl rfl rfl rfl ?_; clear HF a; intro a HF
       refine wpList_nil ?_
       exact on_mk ⟨HF.less _ ⟨rfl, rfl, (congrArg (fun z => some (Value.bool z)) (show (true : Bool) = (bif (o.fText.toList == (⟨#[]⟩ : ByteArray).toList) then true else (bif (o.fKind == 3) then (decide ((o.fText.size : Int) ≤ 24)) else false)) from (by (try rw [cc11]); first | done | rfl))), rfl, rfl, rfl, rfl, rfl, rfl, rfl, rfl, rfl, rfl, rfl, trivial⟩, HS.out⟩
      ·clear HF; have HF := HF1; clear HF1
       refine wl_yg HF rfl rfl rfl rfl rfl (yl_fieldAddr (j := 0) rfl (HF.ev rfl) (by kernel_rfl)) ?_; clear HF a; intro a HF
       refine wl_yg HF rfl rfl rfl rfl rfl (yl_load (v := .int .i64 o.fKind) rfl (HF.ev rfl) (((HS.out.box 0 rfl).cell 0).trans rfl) (by kernel_rfl)) ?_; clear HF a; intro a HF
       refine wl_yg HF rfl rfl rfl rfl rfl (yl_eqlI rfl (HF.ev rfl) (HF.ev rfl)) ?_; clear HF a; intro a HF
       refine wl_yg HF rfl rfl rfl rfl rfl (yl_move rfl (HF.ev rfl)) ?_; clear HF a; intro a HF
       refine HF.cases 66 rfl (fun cc12 HF1 => ?_) (fun cc12 HF1 => ?_)
       ·clear HF; have HF := HF1; clear HF1
        have dcc12 := eq_of_beq cc12
        refine wl_yg HF rfl rfl rfl rfl rfl (yl_fieldAddr (j := 4) rfl (HF.ev rfl) (by kernel_rfl)) ?_; clear HF a; intro a HF
        refine wl_yg HF rfl rfl rfl rfl rfl (yl_load (v := .string o.fText) rfl (HF.ev rfl) (((HS.out.box 0 rfl).cell 4).trans rfl) (by kernel_rfl)) ?_; clear HF a; intro a HF
        refine wl_yg HF rfl rfl rfl rfl rfl (yl_lenS rfl (HF.ev rfl) (by kernel_rfl)) ?_; clear HF a; intro a HF
        refine wl_yg HF rfl rfl rfl rfl rfl (yl_leqI rfl (HF.ev rfl) (HF.ev rfl)) ?_; clear HF a; intro a HF
        refine wl_yg HF rfl rfl rfl rfl rfl (yl_pick_t rfl (HF.ev rfl) (HF.ev rfl)) ?_; clear HF a; intro a HF
        refine wl_y rfl HF rfl rfl (yl_pick_f rfl (HF.ev rfl) (HF.ev rfl)) ?_; clear HF a; intro a HF
        refine wl_as HF rfl rfl rfl rfl rfl ?_; clear HF a; intro a HF
        refine wpList_nil ?_
        exact on_mk ⟨HF.less _ ⟨rfl, rfl, (congrArg (fun z => some (Value.bool z)) (show ((decide ((o.fText.size : Int) ≤ 24)) : Bool) = (bif (o.fText.toList == (⟨#[]⟩ : ByteArray).toList) then true else (bif (o.fKind == 3) then (decide ((o.fText.size : Int) ≤ 24)) else false)) from (by (try rw [cc11]); (try rw [cc12]); first | done | rfl))), rfl, rfl, rfl, rfl, rfl, rfl, rfl, rfl, rfl, rfl, rfl, trivial⟩, HS.out⟩
       ·clear HF; have HF := HF1; clear HF1
        have dcc12 := ne_of_beq_false cc12
        refine wl_skip HF rfl rfl rfl rfl rfl rfl ?_; clear HF a; intro a HF
        refine wl_skip HF rfl rfl rfl rfl rfl rfl ?_; clear HF a; intro a HF
        refine wl_skip HF rfl rfl rfl rfl rfl rfl ?_; clear HF a; intro a HF
        refine wl_skip HF rfl rfl rfl rfl rfl rfl ?_; clear HF a; intro a HF
        refine wl_yg HF rfl rfl rfl rfl rfl (yl_pick_f rfl (HF.ev rfl) (HF.ev rfl)) ?_; clear HF a; intro a HF
        refine wl_y rfl HF rfl rfl (yl_pick_f rfl (HF.ev rfl) (HF.ev rfl)) ?_; clear HF a; intro a HF
        refine wl_as HF rfl rfl rfl rfl rfl ?_; clear HF a; intro a HF
        refine wpList_nil ?_
        exact on_mk ⟨HF.less _ ⟨rfl, rfl, (congrArg (fun z => some (Value.bool z)) (show (false : Bool) = (bif (o.fText.toList == (⟨#[]⟩ : ByteArray).toList) then true else (bif (o.fKind == 3) then (decide ((o.fText.size : Int) ≤ 24)) else false)) from (by (try rw [cc11]); (try rw [cc12]); first | done | rfl))), rfl, rfl, rfl, rfl, rfl, rfl, rfl, rfl, rfl, rfl, rfl, trivial⟩, HS.out⟩
     clear HF HS a; rintro a w11 ⟨HF, HS⟩; replace HS := Bx.mk HS
     refine ex_then ?_
     refine wp_ret ?_
     refine bp_ret1 HF Tryz.results11 (HF.res rfl) ?_
     have k1 : inB o.fKind 1 7 = true := by simpa using cc3
     have k2 : pathB o.fPath = true := by simpa using cc4
     have k3 : o.toOk = true := by have := cc7; rw [opTo_tree] at this; simpa using this
     have k4 : o.atOk = true := by have := cc10; rw [opAt_tree] at this; simpa using this
     exact ⟨by rw [OpD.ok_mk k1 k2 k3 k4, ← opText_tree], HS.out.bel⟩

theorem spTo_tree (o : OpD) : (bif !(inB o.fKind 1 7) then true else (bif !(pathB o.fPath) then true else (bif (bif (o.fKind == 6) then true else (o.fKind == 7)) then (bif !(pathB o.fTo) then true else false) else (!(o.fTo.toList == (⟨#[]⟩ : ByteArray).toList))))) = !(inB o.fKind 1 7 && pathB o.fPath && o.toOk) := by
  have hr := fun h => pathB_nil (t := o.fTo) h
  unfold OpD.toOk OpD.two
  revert hr
  cases inB o.fKind 1 7 <;> cases pathB o.fPath <;> cases h1 : (o.fKind == (6 : Int)) <;> cases h2 : (o.fKind == (7 : Int)) <;> cases h3 : (o.fTo.toList == (⟨#[]⟩ : ByteArray).toList) <;> cases h4 : pathB o.fTo <;> intro hr <;> first | rfl | exact absurd (hr rfl) (by simp)
theorem spText_tree (o : OpD) : (bif (o.fKind != 3) then (bif (!(o.fText.toList == (⟨#[]⟩ : ByteArray).toList)) then true else (decide ((24 : Int) < (o.fText.size : Int)))) else (decide ((24 : Int) < (o.fText.size : Int)))) = !o.textOk := by
  have hr := fun h => size_nil (t := o.fText) h
  unfold OpD.textOk
  rw [size_le24]
  try rw [bne_int]
  revert hr
  cases h1 : (o.fText.toList == (⟨#[]⟩ : ByteArray).toList) <;> cases h2 : (o.fKind == (3 : Int)) <;> cases h3 : decide ((24 : Int) < (o.fText.size : Int)) <;> intro hr <;> first | rfl | exact absurd (hr rfl) (by simp)
theorem spAt_tree (o : OpD) : (bif (o.fAt == 0) then true else (bif (bif (o.fKind == 3) then true else (o.fKind == 4)) then (inB o.fAt 0 192) else false)) = o.atOk := by
  unfold OpD.atOk OpD.sized
  cases h1 : (o.fKind == (3 : Int)) <;> cases h2 : (o.fKind == (4 : Int)) <;> cases h3 : (o.fAt == (0 : Int)) <;> rfl

theorem specOpOk_any (o : OpD) (w0 : World) (hp : o.fPath.size ≤ 4000000000) (ht : o.fTo.size ≤ 4000000000) (hx : o.fText.size ≤ 4000000000) : Calls Tryz.prog 16 #[.agg #[.int .i64 o.fKind, .string o.fPath, .string o.fTo, .int .i64 o.fAt, .string o.fText]] w0 fun e w' => e = .returned (.bool o.ok) ∧ Below w0.heap.size w0 w' := by
 have HS := Bx.mk (St.start w0)
 refine wc_enter Tryz.func16 rfl Tryz.ntmps16 [(0, .agg #[.int .i64 o.fKind, .string o.fPath, .string o.fTo, .int .i64 o.fAt, .string o.fText])] ⟨rfl, trivial⟩ rfl ?_; intro a HF
 refine wp_sr ?_
 refine wl_box rfl HF rfl (HF.ev rfl) (Z := [.int .i64 o.fKind, .string o.fPath, .string o.fTo, .int .i64 o.fAt, .string o.fText]) rfl rfl rfl rfl HS.out ?_; clear HF HS a; intro a w1 b1 HF HS; replace HS := Bx.mk HS
 refine wl_as HF rfl rfl rfl rfl rfl ?_; clear HF a; intro a HF
 refine wl_ne ?_
 refine wp_seq ?_
 refine wp_join (R := fun a w => Fr 74 a [(0, .agg #[.int .i64 o.fKind, .string o.fPath, .string o.fTo, .int .i64 o.fAt, .string o.fText]), (1, .pointer (some ⟨b1, 0, none⟩)), (2, .bool false), (3, .bool (bif (o.fKind == 6) then true else (o.fKind == 7)))] ∧ St w0 ([boxA b1 5 24 (.agg #[.int .i64 o.fKind, .string o.fPath, .string o.fTo, .int .i64 o.fAt, .string o.fText])]) w) ?_ ?_
 ·skip
  refine wp_region_lit ?_
  refine wl_y rfl HF rfl rfl (yl_fieldAddr (j := 0) rfl (HF.ev rfl) (by kernel_rfl)) ?_; clear HF a; intro a HF
  refine wl_y rfl HF rfl rfl (yl_load (v := .int .i64 o.fKind) rfl (HF.ev rfl) (((HS.out.box 0 rfl).cell 0).trans rfl) (by kernel_rfl)) ?_; clear HF a; intro a HF
  refine wl_y rfl HF rfl rfl (yl_eqlI rfl (HF.ev rfl) (HF.ev rfl)) ?_; clear HF a; intro a HF
  refine wl_mv HF rfl rfl rfl rfl rfl ?_; clear HF a; intro a HF
  refine HF.cases 8 rfl (fun cc1 HF1 => ?_) (fun cc1 HF1 => ?_)
  ·clear HF; have HF := HF1; clear HF1
   have dcc1 := eq_of_beq cc1
   refine wl_skip HF rfl rfl rfl rfl rfl rfl ?_; clear HF a; intro a HF
   refine wl_skip HF rfl rfl rfl rfl rfl rfl ?_; clear HF a; intro a HF
   refine wl_skip HF rfl rfl rfl rfl rfl rfl ?_; clear HF a; intro a HF
   refine wl_y rfl HF rfl rfl (yl_pick_t rfl (HF.ev rfl) (HF.ev rfl)) ?_; clear HF a; intro a HF
   refine wl_as HF rfl rfl rfl rfl rfl ?_; clear HF a; intro a HF
   refine wpList_nil ?_
   exact on_mk ⟨HF.less _ ⟨rfl, rfl, rfl, (congrArg (fun z => some (Value.bool z)) (show (true : Bool) = (bif (o.fKind == 6) then true else (o.fKind == 7)) from (by (try rw [cc1]); first | done | rfl))), trivial⟩, HS.out⟩
  ·clear HF; have HF := HF1; clear HF1
   have dcc1 := ne_of_beq_false cc1
   refine wl_yg HF rfl rfl rfl rfl rfl (yl_fieldAddr (j := 0) rfl (HF.ev rfl) (by kernel_rfl)) ?_; clear HF a; intro a HF
   refine wl_yg HF rfl rfl rfl rfl rfl (yl_load (v := .int .i64 o.fKind) rfl (HF.ev rfl) (((HS.out.box 0 rfl).cell 0).trans rfl) (by kernel_rfl)) ?_; clear HF a; intro a HF
   refine wl_yg HF rfl rfl rfl rfl rfl (yl_eqlI rfl (HF.ev rfl) (HF.ev rfl)) ?_; clear HF a; intro a HF
   refine wl_y rfl HF rfl rfl (yl_pick_f rfl (HF.ev rfl) (HF.ev rfl)) ?_; clear HF a; intro a HF
   refine wl_as HF rfl rfl rfl rfl rfl ?_; clear HF a; intro a HF
   refine wpList_nil ?_
   exact on_mk ⟨HF.less _ ⟨rfl, rfl, rfl, (congrArg (fun z => some (Value.bool z)) (show ((o.fKind == 7) : Bool) = (bif (o.fKind == 6) then true else (o.fKind == 7)) from (by (try rw [cc1]); first | done | rfl))), trivial⟩, HS.out⟩
 clear HF HS a; rintro a w2 ⟨HF, HS⟩; replace HS := Bx.mk HS
 refine ex_then ?_
 refine wp_seq ?_
 refine wp_join (R := fun a w => Fr 74 a [(0, .agg #[.int .i64 o.fKind, .string o.fPath, .string o.fTo, .int .i64 o.fAt, .string o.fText]), (1, .pointer (some ⟨b1, 0, none⟩)), (2, .bool false), (3, .bool (bif (o.fKind == 6) then true else (o.fKind == 7))), (4, .bool (bif (o.fKind == 3) then true else (o.fKind == 4)))] ∧ St w0 ([boxA b1 5 24 (.agg #[.int .i64 o.fKind, .string o.fPath, .string o.fTo, .int .i64 o.fAt, .string o.fText])]) w) ?_ ?_
 ·skip
  refine wp_region_lit ?_
  refine wl_y rfl HF rfl rfl (yl_fieldAddr (j := 0) rfl (HF.ev rfl) (by kernel_rfl)) ?_; clear HF a; intro a HF
  refine wl_y rfl HF rfl rfl (yl_load (v := .int .i64 o.fKind) rfl (HF.ev rfl) (((HS.out.box 0 rfl).cell 0).trans rfl) (by kernel_rfl)) ?_; clear HF a; intro a HF
  refine wl_y rfl HF rfl rfl (yl_eqlI rfl (HF.ev rfl) (HF.ev rfl)) ?_; clear HF a; intro a HF
  refine wl_mv HF rfl rfl rfl rfl rfl ?_; clear HF a; intro a HF
  refine HF.cases 16 rfl (fun cc2 HF1 => ?_) (fun cc2 HF1 => ?_)
  ·clear HF; have HF := HF1; clear HF1
   have dcc2 := eq_of_beq cc2
   refine wl_skip HF rfl rfl rfl rfl rfl rfl ?_; clear HF a; intro a HF
   refine wl_skip HF rfl rfl rfl rfl rfl rfl ?_; clear HF a; intro a HF
   refine wl_skip HF rfl rfl rfl rfl rfl rfl ?_; clear HF a; intro a HF
   refine wl_y rfl HF rfl rfl (yl_pick_t rfl (HF.ev rfl) (HF.ev rfl)) ?_; clear HF a; intro a HF
   refine wl_as HF rfl rfl rfl rfl rfl ?_; clear HF a; intro a HF
   refine wpList_nil ?_
   exact on_mk ⟨HF.less _ ⟨rfl, rfl, rfl, rfl, (congrArg (fun z => some (Value.bool z)) (show (true : Bool) = (bif (o.fKind == 3) then true else (o.fKind == 4)) from (by (try rw [cc2]); first | done | rfl))), trivial⟩, HS.out⟩
  ·clear HF; have HF := HF1; clear HF1
   have dcc2 := ne_of_beq_false cc2
   refine wl_yg HF rfl rfl rfl rfl rfl (yl_fieldAddr (j := 0) rfl (HF.ev rfl) (by kernel_rfl)) ?_; clear HF a; intro a HF
   refine wl_yg HF rfl rfl rfl rfl rfl (yl_load (v := .int .i64 o.fKind) rfl (HF.ev rfl) (((HS.out.box 0 rfl).cell 0).trans rfl) (by kernel_rfl)) ?_; clear HF a; intro a HF
   refine wl_yg HF rfl rfl rfl rfl rfl (yl_eqlI rfl (HF.ev rfl) (HF.ev rfl)) ?_; clear HF a; intro a HF
   refine wl_y rfl HF rfl rfl (yl_pick_f rfl (HF.ev rfl) (HF.ev rfl)) ?_; clear HF a; intro a HF
   refine wl_as HF rfl rfl rfl rfl rfl ?_; clear HF a; intro a HF
   refine wpList_nil ?_
   exact on_mk ⟨HF.less _ ⟨rfl, rfl, rfl, rfl, (congrArg (fun z => some (Value.bool z)) (show ((o.fKind == 4) : Bool) = (bif (o.fKind == 3) then true else (o.fKind == 4)) from (by (try rw [cc2]); first | done | rfl))), trivial⟩, HS.out⟩
 clear HF HS a; rintro a w3 ⟨HF, HS⟩; replace HS := Bx.mk HS
 refine ex_then ?_
 refine wp_seq ?_
 refine wp_seq ?_
 refine wp_join (R := fun a w => Fr 74 a [(0, .agg #[.int .i64 o.fKind, .string o.fPath, .string o.fTo, .int .i64 o.fAt, .string o.fText]), (1, .pointer (some ⟨b1, 0, none⟩)), (2, .bool false), (4, .bool (bif (o.fKind == 3) then true else (o.fKind == 4))), (48, .bool (bif !(inB o.fKind 1 7) then true else (bif !(pathB o.fPath) then true else (bif (bif (o.fKind == 6) then true else (o.fKind == 7)) then (bif !(pathB o.fTo) then true else false) else (!(o.fTo.toList == (⟨#[]⟩ : ByteArray).toList))))))] ∧ St w0 ([boxA b1 5 24 (.agg #[.int .i64 o.fKind, .string o.fPath, .string o.fTo, .int .i64 o.fAt, .string o.fText])]) w) ?_ ?_
 ·skip
  refine wp_region_lit ?_
  refine wl_y rfl HF rfl rfl (yl_fieldAddr (j := 0) rfl (HF.ev rfl) (by kernel_rfl)) ?_; clear HF a; intro a HF
  refine wl_y rfl HF rfl rfl (yl_load (v := .int .i64 o.fKind) rfl (HF.ev rfl) (((HS.out.box 0 rfl).cell 0).trans rfl) (by kernel_rfl)) ?_; clear HF a; intro a HF
  refine wl_callB rfl HF rfl (enter_of Tryz.func32 (by kernel_rfl) rfl) (args := #[.int .i64 o.fKind, .int .i64 1, .int .i64 7]) rfl (v := .bool (inB o.fKind 1 7)) (((l6In_any o.fKind 1 7 _).mono fun _ _ h => ⟨h.1, h.2 ▸ Below.refl _ _⟩)) rfl rfl HS.out ?_; clear HF HS a; intro w4 a HS HF; replace HS := Bx.mk HS
  refine wl_y rfl HF rfl rfl (yl_not rfl (HF.ev rfl)) ?_; clear HF a; intro a HF
  refine wl_mv HF rfl rfl rfl rfl rfl ?_; clear HF a; intro a HF
  refine HF.cases 25 rfl (fun cc3 HF1 => ?_) (fun cc3 HF1 => ?_)
  ·clear HF; have HF := HF1; clear HF1
   refine wl_skip HF rfl rfl rfl rfl rfl rfl ?_; clear HF a; intro a HF
   refine wl_skip HF rfl rfl rfl rfl rfl rfl ?_; clear HF a; intro a HF
   refine wl_skip HF rfl rfl rfl rfl rfl rfl ?_; clear HF a; intro a HF
   refine wl_skip HF rfl rfl rfl rfl rfl rfl ?_; clear HF a; intro a HF
   refine wl_y rfl HF rfl rfl (yl_pick_t rfl (HF.ev rfl) (HF.ev rfl)) ?_; clear HF a; intro a HF
   refine wl_mv HF rfl rfl rfl rfl rfl ?_; clear HF a; intro a HF
   refine wl_skip HF rfl rfl rfl rfl rfl rfl ?_; clear HF a; intro a HF
   refine wl_skip HF rfl rfl rfl rfl rfl rfl ?_; clear HF a; intro a HF
   refine wl_skipU HF rfl rfl rfl rfl rfl ?_; clear HF a; intro a HF
   refine wl_skipU HF rfl rfl rfl rfl rfl ?_; clear HF a; intro a HF
   refine wl_skipU HF rfl rfl rfl rfl rfl ?_; clear HF a; intro a HF
   refine wl_skipU HF rfl rfl rfl rfl rfl ?_; clear HF a; intro a HF
   refine wl_skip HF rfl rfl rfl rfl rfl rfl ?_; clear HF a; intro a HF
   refine wl_y rfl HF rfl rfl (yl_pick_t rfl (HF.ev rfl) (HF.ev rfl)) ?_; clear HF a; intro a HF
   refine wl_mv HF rfl rfl rfl rfl rfl ?_; clear HF a; intro a HF
   refine wl_skip HF rfl rfl rfl rfl rfl rfl ?_; clear HF a; intro a HF
   refine wl_skip HF rfl rfl rfl rfl rfl rfl ?_; clear HF a; intro a HF
   refine wl_skip HF rfl rfl rfl rfl rfl rfl ?_; clear HF a; intro a HF
   refine wl_skipU HF rfl rfl rfl rfl rfl ?_; clear HF a; intro a HF
   refine wl_skipU HF rfl rfl rfl rfl rfl ?_; clear HF a; intro a HF
   refine wl_skipU HF rfl rfl rfl rfl rfl ?_; clear HF a; intro a HF
   refine wl_skip HF rfl rfl rfl rfl rfl rfl ?_; clear HF a; intro a HF
   refine wl_y rfl HF rfl rfl (yl_pick_t rfl (HF.ev rfl) (HF.ev rfl)) ?_; clear HF a; intro a HF
   refine wpList_nil ?_
   exact on_mk ⟨HF.less _ ⟨rfl, rfl, rfl, rfl, (congrArg (fun z => some (Value.bool z)) (show (true : Bool) = (bif !(inB o.fKind 1 7) then true else (bif !(pathB o.fPath) then true else (bif (bif (o.fKind == 6) then true else (o.fKind == 7)) then (bif !(pathB o.fTo) then true else false) else (!(o.fTo.toList == (⟨#[]⟩ : ByteArray).toList))))) from (by (try rw [cc3]); first | done | rfl))), trivial⟩, HS.out⟩
  ·clear HF; have HF := HF1; clear HF1
   refine wl_yg HF rfl rfl rfl rfl rfl (yl_fieldAddr (j := 1) rfl (HF.ev rfl) (by kernel_rfl)) ?_; clear HF a; intro a HF
   refine wl_yg HF rfl rfl rfl rfl rfl (yl_load (v := .string o.fPath) rfl (HF.ev rfl) (((HS.out.box 0 rfl).cell 1).trans rfl) (by kernel_rfl)) ?_; clear HF a; intro a HF
   refine wl_callBg HF rfl rfl rfl rfl (enter_of Tryz.func33 (by kernel_rfl) rfl) (args := #[.string o.fPath]) rfl (v := .bool (pathB o.fPath)) (specPathOk_any o.fPath _ (by omega)) rfl rfl HS.out ?_; clear HF HS a; intro w5 a HS HF; replace HS := Bx.mk HS
   refine wl_yg HF rfl rfl rfl rfl rfl (yl_not rfl (HF.ev rfl)) ?_; clear HF a; intro a HF
   refine wl_y rfl HF rfl rfl (yl_pick_f rfl (HF.ev rfl) (HF.ev rfl)) ?_; clear HF a; intro a HF
   refine wl_mv HF rfl rfl rfl rfl rfl ?_; clear HF a; intro a HF
   refine HF.cases 31 rfl (fun cc4 HF1 => ?_) (fun cc4 HF1 => ?_)
   ·clear HF; have HF := HF1; clear HF1
    refine wl_skip HF rfl rfl rfl rfl rfl rfl ?_; clear HF a; intro a HF
    refine wl_skip HF rfl rfl rfl rfl rfl rfl ?_; clear HF a; intro a HF
    refine wl_skipU HF rfl rfl rfl rfl rfl ?_; clear HF a; intro a HF
    refine wl_skipU HF rfl rfl rfl rfl rfl ?_; clear HF a; intro a HF
    refine wl_skipU HF rfl rfl rfl rfl rfl ?_; clear HF a; intro a HF
    refine wl_skipU HF rfl rfl rfl rfl rfl ?_; clear HF a; intro a HF
    refine wl_skip HF rfl rfl rfl rfl rfl rfl ?_; clear HF a; intro a HF
    refine wl_y rfl HF rfl rfl (yl_pick_t rfl (HF.ev rfl) (HF.ev rfl)) ?_; clear HF a; intro a HF
    refine wl_mv HF rfl rfl rfl rfl rfl ?_; clear HF a; intro a HF
    refine wl_skip HF rfl rfl rfl rfl rfl rfl ?_; clear HF a; intro a HF
    refine wl_skip HF rfl rfl rfl rfl rfl rfl ?_; clear HF a; intro a HF
    refine wl_skip HF rfl rfl rfl rfl rfl rfl ?_; clear HF a; intro a HF
    refine wl_skipU HF rfl rfl rfl rfl rfl ?_; clear HF a; intro a HF
    refine wl_skipU HF rfl rfl rfl rfl rfl ?_; clear HF a; intro a HF
    refine wl_skipU HF rfl rfl rfl rfl rfl ?_; clear HF a; intro a HF
    refine wl_skip HF rfl rfl rfl rfl rfl rfl ?_; clear HF a; intro a HF
    refine wl_y rfl HF rfl rfl (yl_pick_t rfl (HF.ev rfl) (HF.ev rfl)) ?_; clear HF a; intro a HF
    refine wpList_nil ?_
    exact on_mk ⟨HF.less _ ⟨rfl, rfl, rfl, rfl, (congrArg (fun z => some (Value.bool z)) (show (true : Bool) = (bif !(inB o.fKind 1 7) then true else (bif !(pathB o.fPath) then true else (bif (bif (o.fKind == 6) then true else (o.fKind == 7)) then (bif !(pathB o.fTo) then true else false) else (!(o.fTo.toList == (⟨#[]⟩ : ByteArray).toList))))) from (by (try rw [cc3]); (try rw [cc4]); first | done | rfl))), trivial⟩, HS.out⟩
   ·clear HF; have HF := HF1; clear HF1
    refine wl_yg HF rfl rfl rfl rfl rfl (yl_move rfl (HF.ev rfl)) ?_; clear HF a; intro a HF
    refine wl_yg HF rfl rfl rfl rfl rfl (yl_move rfl (HF.ev rfl)) ?_; clear HF a; intro a HF
    refine HF.cases 33 rfl (fun cc5 HF1 => ?_) (fun cc5 HF1 => ?_)
    ·clear HF; have HF := HF1; clear HF1
     refine wl_yg HF rfl rfl rfl rfl rfl (yl_fieldAddr (j := 2) rfl (HF.ev rfl) (by kernel_rfl)) ?_; clear HF a; intro a HF
     refine wl_yg HF rfl rfl rfl rfl rfl (yl_load (v := .string o.fTo) rfl (HF.ev rfl) (((HS.out.box 0 rfl).cell 2).trans rfl) (by kernel_rfl)) ?_; clear HF a; intro a HF
     refine wl_callBg HF rfl rfl rfl rfl (enter_of Tryz.func33 (by kernel_rfl) rfl) (args := #[.string o.fTo]) rfl (v := .bool (pathB o.fTo)) (specPathOk_any o.fTo _ (by omega)) rfl rfl HS.out ?_; clear HF HS a; intro w6 a HS HF; replace HS := Bx.mk HS
     refine wl_yg HF rfl rfl rfl rfl rfl (yl_not rfl (HF.ev rfl)) ?_; clear HF a; intro a HF
     refine wl_yg HF rfl rfl rfl rfl rfl (yl_pick_t rfl (HF.ev rfl) (HF.ev rfl)) ?_; clear HF a; intro a HF
     refine wl_y rfl HF rfl rfl (yl_pick_f rfl (HF.ev rfl) (HF.ev rfl)) ?_; clear HF a; intro a HF
     refine wl_mv HF rfl rfl rfl rfl rfl ?_; clear HF a; intro a HF
     refine HF.cases 40 rfl (fun cc6 HF1 => ?_) (fun cc6 HF1 => ?_)
     ·clear HF; have HF := HF1; clear HF1
      refine wl_skip HF rfl rfl rfl rfl rfl rfl ?_; clear HF a; intro a HF
      refine wl_skip HF rfl rfl rfl rfl rfl rfl ?_; clear HF a; intro a HF
      refine wl_skip HF rfl rfl rfl rfl rfl rfl ?_; clear HF a; intro a HF
      refine wl_skipU HF rfl rfl rfl rfl rfl ?_; clear HF a; intro a HF
      refine wl_skipU HF rfl rfl rfl rfl rfl ?_; clear HF a; intro a HF
      refine wl_skipU HF rfl rfl rfl rfl rfl ?_; clear HF a; intro a HF
      refine wl_skip HF rfl rfl rfl rfl rfl rfl ?_; clear HF a; intro a HF
      refine wl_y rfl HF rfl rfl (yl_pick_t rfl (HF.ev rfl) (HF.ev rfl)) ?_; clear HF a; intro a HF
      refine wpList_nil ?_
      exact on_mk ⟨HF.less _ ⟨rfl, rfl, rfl, rfl, (congrArg (fun z => some (Value.bool z)) (show (true : Bool) = (bif !(inB o.fKind 1 7) then true else (bif !(pathB o.fPath) then true else (bif (bif (o.fKind == 6) then true else (o.fKind == 7)) then (bif !(pathB o.fTo) then true else false) else (!(o.fTo.toList == (⟨#[]⟩ : ByteArray).toList))))) from (by (try rw [cc3]); (try rw [cc4]); (try rw [cc5]); (try rw [cc6]); first | done | rfl))), trivial⟩, HS.out⟩
     ·clear HF; have HF := HF1; clear HF1
      refine wl_yg HF rfl rfl rfl rfl rfl (yl_move rfl (HF.ev rfl)) ?_; clear HF a; intro a HF
      refine wl_yg HF rfl rfl rfl rfl rfl (yl_not rfl (HF.ev rfl)) ?_; clear HF a; intro a HF
      refine wl_yg HF rfl rfl rfl rfl rfl (yl_move rfl (HF.ev rfl)) ?_; clear HF a; intro a HF
      refine HF.cases 43 rfl (fun cc7 HF1 => ?_) (fun cc7 HF1 => ?_)
      ·clear HF; have HF := HF1; clear HF1
       rw [cc5] at cc7; cases cc7
      ·clear HF; have HF := HF1; clear HF1
       refine wl_skip HF rfl rfl rfl rfl rfl rfl ?_; clear HF a; intro a HF
       refine wl_skip HF rfl rfl rfl rfl rfl rfl ?_; clear HF a; intro a HF
       refine wl_skip HF rfl rfl rfl rfl rfl rfl ?_; clear HF a; intro a HF
       refine wl_yg HF rfl rfl rfl rfl rfl (yl_pick_f rfl (HF.ev rfl) (HF.ev rfl)) ?_; clear HF a; intro a HF
       refine wl_y rfl HF rfl rfl (yl_pick_f rfl (HF.ev rfl) (HF.ev rfl)) ?_; clear HF a; intro a HF
       refine wpList_nil ?_
       exact on_mk ⟨HF.less _ ⟨rfl, rfl, rfl, rfl, (congrArg (fun z => some (Value.bool z)) (show (false : Bool) = (bif !(inB o.fKind 1 7) then true else (bif !(pathB o.fPath) then true else (bif (bif (o.fKind == 6) then true else (o.fKind == 7)) then (bif !(pathB o.fTo) then true else false) else (!(o.fTo.toList == (⟨#[]⟩ : ByteArray).toList))))) from (by (try rw [cc3]); (try rw [cc4]); (try rw [cc5]); (try rw [cc6]); (try rw [cc7]); first | done | rfl))), trivial⟩, HS.out⟩
    ·clear HF; have HF := HF1; clear HF1
     refine wl_skip HF rfl rfl rfl rfl rfl rfl ?_; clear HF a; intro a HF
     refine wl_skip HF rfl rfl rfl rfl rfl rfl ?_; clear HF a; intro a HF
     refine wl_skip HF rfl rfl rfl rfl rfl rfl ?_; clear HF a; intro a HF
     refine wl_skip HF rfl rfl rfl rfl rfl rfl ?_; clear HF a; intro a HF
     refine wl_yg HF rfl rfl rfl rfl rfl (yl_pick_f rfl (HF.ev rfl) (HF.ev rfl)) ?_; clear HF a; intro a HF
     refine wl_y rfl HF rfl rfl (yl_pick_f rfl (HF.ev rfl) (HF.ev rfl)) ?_; clear HF a; intro a HF
     refine wl_mv HF rfl rfl rfl rfl rfl ?_; clear HF a; intro a HF
     refine wl_yg HF rfl rfl rfl rfl rfl (yl_move rfl (HF.ev rfl)) ?_; clear HF a; intro a HF
     refine wl_yg HF rfl rfl rfl rfl rfl (yl_not rfl (HF.ev rfl)) ?_; clear HF a; intro a HF
     refine wl_yg HF rfl rfl rfl rfl rfl (yl_move rfl (HF.ev rfl)) ?_; clear HF a; intro a HF
     refine HF.cases 43 rfl (fun cc8 HF1 => ?_) (fun cc8 HF1 => ?_)
     ·clear HF; have HF := HF1; clear HF1
      refine wl_yg HF rfl rfl rfl rfl rfl (yl_fieldAddr (j := 2) rfl (HF.ev rfl) (by kernel_rfl)) ?_; clear HF a; intro a HF
      refine wl_yg HF rfl rfl rfl rfl rfl (yl_load (v := .string o.fTo) rfl (HF.ev rfl) (((HS.out.box 0 rfl).cell 2).trans rfl) (by kernel_rfl)) ?_; clear HF a; intro a HF
      refine wl_yg HF rfl rfl rfl rfl rfl (yl_neqS rfl (HF.ev rfl) (HF.ev rfl)) ?_; clear HF a; intro a HF
      refine wl_yg HF rfl rfl rfl rfl rfl (yl_pick_t rfl (HF.ev rfl) (HF.ev rfl)) ?_; clear HF a; intro a HF
      refine wl_y rfl HF rfl rfl (yl_pick_f rfl (HF.ev rfl) (HF.ev rfl)) ?_; clear HF a; intro a HF
      refine wpList_nil ?_
      exact on_mk ⟨HF.less _ ⟨rfl, rfl, rfl, rfl, (congrArg (fun z => some (Value.bool z)) (show ((!(o.fTo.toList == (⟨#[]⟩ : ByteArray).toList)) : Bool) = (bif !(inB o.fKind 1 7) then true else (bif !(pathB o.fPath) then true else (bif (bif (o.fKind == 6) then true else (o.fKind == 7)) then (bif !(pathB o.fTo) then true else false) else (!(o.fTo.toList == (⟨#[]⟩ : ByteArray).toList))))) from (by (try rw [cc3]); (try rw [cc4]); (try rw [cc5]); (try rw [cc8]); first | done | rfl))), trivial⟩, HS.out⟩
     ·clear HF; have HF := HF1; clear HF1
      rw [cc5] at cc8; cases cc8
 clear HF HS a; rintro a w7 ⟨HF, HS⟩; replace HS := Bx.mk HS
 refine ex_then ?_
 refine HF.cases 48 rfl (fun cc9 HF1 => ?_) (fun cc9 HF1 => ?_)
 ·clear HF; have HF := HF1; clear HF1
  refine wc_true HF rfl ?_
  refine wp_sr ?_
  refine wl_as HF rfl rfl rfl rfl rfl ?_; clear HF a; intro a HF
  refine wl_ne ?_
  refine wp_ret ?_
  refine ex_then_ret ?_
  refine bp_ret1 HF Tryz.results16 (HF.res rfl) ?_
  have k1 : (inB o.fKind 1 7 && pathB o.fPath && o.toOk) = false := by have := cc9; rw [spTo_tree] at this; cases hX : (inB o.fKind 1 7 && pathB o.fPath && o.toOk) with | false => rfl | true => rw [hX] at this; cases this
  exact ⟨by unfold OpD.ok; rw [k1]; rfl, HS.out.bel⟩
 ·clear HF; have HF := HF1; clear HF1
  refine wc_false HF rfl ?_
  refine wp_skip ?_
  refine ex_then ?_
  refine wp_seq ?_
  refine wp_seq ?_
  refine wp_join (R := fun a w => Fr 74 a [(0, .agg #[.int .i64 o.fKind, .string o.fPath, .string o.fTo, .int .i64 o.fAt, .string o.fText]), (1, .pointer (some ⟨b1, 0, none⟩)), (2, .bool false), (4, .bool (bif (o.fKind == 3) then true else (o.fKind == 4))), (48, .bool false), (62, .bool (bif (o.fKind != 3) then (bif (!(o.fText.toList == (⟨#[]⟩ : ByteArray).toList)) then true else (decide ((24 : Int) < (o.fText.size : Int)))) else (decide ((24 : Int) < (o.fText.size : Int)))))] ∧ St w0 ([boxA b1 5 24 (.agg #[.int .i64 o.fKind, .string o.fPath, .string o.fTo, .int .i64 o.fAt, .string o.fText])]) w) ?_ ?_
  ·skip
   refine wp_region_lit ?_
   refine wl_y rfl HF rfl rfl (yl_fieldAddr (j := 0) rfl (HF.ev rfl) (by kernel_rfl)) ?_; clear HF a; intro a HF
   refine wl_y rfl HF rfl rfl (yl_load (v := .int .i64 o.fKind) rfl (HF.ev rfl) (((HS.out.box 0 rfl).cell 0).trans rfl) (by kernel_rfl)) ?_; clear HF a; intro a HF
   refine wl_y rfl HF rfl rfl (yl_neqI rfl (HF.ev rfl) (HF.ev rfl)) ?_; clear HF a; intro a HF
   refine wl_mv HF rfl rfl rfl rfl rfl ?_; clear HF a; intro a HF
   refine HF.cases 52 rfl (fun cc10 HF1 => ?_) (fun cc10 HF1 => ?_)
   ·clear HF; have HF := HF1; clear HF1
    have dcc10 := bne_iff_ne.1 cc10
    refine wl_yg HF rfl rfl rfl rfl rfl (yl_fieldAddr (j := 4) rfl (HF.ev rfl) (by kernel_rfl)) ?_; clear HF a; intro a HF
    refine wl_yg HF rfl rfl rfl rfl rfl (yl_load (v := .string o.fText) rfl (HF.ev rfl) (((HS.out.box 0 rfl).cell 4).trans rfl) (by kernel_rfl)) ?_; clear HF a; intro a HF
    refine wl_yg HF rfl rfl rfl rfl rfl (yl_neqS rfl (HF.ev rfl) (HF.ev rfl)) ?_; clear HF a; intro a HF
    refine wl_y rfl HF rfl rfl (yl_pick_t rfl (HF.ev rfl) (HF.ev rfl)) ?_; clear HF a; intro a HF
    refine wl_mv HF rfl rfl rfl rfl rfl ?_; clear HF a; intro a HF
    refine HF.cases 57 rfl (fun cc11 HF1 => ?_) (fun cc11 HF1 => ?_)
    ·clear HF; have HF := HF1; clear HF1
     refine wl_skip HF rfl rfl rfl rfl rfl rfl ?_; clear HF a; intro a HF
     refine wl_skip HF rfl rfl rfl rfl rfl rfl ?_; clear HF a; intro a HF
     refine wl_skip HF rfl rfl rfl rfl rfl rfl ?_; clear HF a; intro a HF
     refine wl_skip HF rfl rfl rfl rfl rfl rfl ?_; clear HF a; intro a HF
     refine wl_y rfl HF rfl rfl (yl_pick_t rfl (HF.ev rfl) (HF.ev rfl)) ?_; clear HF a; intro a HF
     refine wpList_nil ?_
     exact on_mk ⟨HF.less _ ⟨rfl, rfl, rfl, rfl, rfl, (congrArg (fun z => some (Value.bool z)) (show (true : Bool) = (bif (o.fKind != 3) then (bif (!(o.fText.toList == (⟨#[]⟩ : ByteArray).toList)) then true else (decide ((24 : Int) < (o.fText.size : Int)))) else (decide ((24 : Int) < (o.fText.size : Int)))) from (by (try rw [cc10]); (try rw [cc11]); first | done | rfl))), trivial⟩, HS.out⟩
    ·clear HF; have HF := HF1; clear HF1
     refine wl_yg HF rfl rfl rfl rfl rfl (yl_fieldAddr (j := 4) rfl (HF.ev rfl) (by kernel_rfl)) ?_; clear HF a; intro a HF
     refine wl_yg HF rfl rfl rfl rfl rfl (yl_load (v := .string o.fText) rfl (HF.ev rfl) (((HS.out.box 0 rfl).cell 4).trans rfl) (by kernel_rfl)) ?_; clear HF a; intro a HF
     refine wl_yg HF rfl rfl rfl rfl rfl (yl_lenS rfl (HF.ev rfl) (by kernel_rfl)) ?_; clear HF a; intro a HF
     refine wl_yg HF rfl rfl rfl rfl rfl (yl_gtrI rfl (HF.ev rfl) (HF.ev rfl)) ?_; clear HF a; intro a HF
     refine wl_y rfl HF rfl rfl (yl_pick_f rfl (HF.ev rfl) (HF.ev rfl)) ?_; clear HF a; intro a HF
     refine wpList_nil ?_
     exact on_mk ⟨HF.less _ ⟨rfl, rfl, rfl, rfl, rfl, (congrArg (fun z => some (Value.bool z)) (show ((decide ((24 : Int) < (o.fText.size : Int))) : Bool) = (bif (o.fKind != 3) then (bif (!(o.fText.toList == (⟨#[]⟩ : ByteArray).toList)) then true else (decide ((24 : Int) < (o.fText.size : Int)))) else (decide ((24 : Int) < (o.fText.size : Int)))) from (by (try rw [cc10]); (try rw [cc11]); first | done | rfl))), trivial⟩, HS.out⟩
   ·clear HF; have HF := HF1; clear HF1
    have dcc10 := bne_eq_false_iff_eq.1 cc10
    refine wl_skip HF rfl rfl rfl rfl rfl rfl ?_; clear HF a; intro a HF
    refine wl_skip HF rfl rfl rfl rfl rfl rfl ?_; clear HF a; intro a HF
    refine wl_skip HF rfl rfl rfl rfl rfl rfl ?_; clear HF a; intro a HF
    refine wl_y rfl HF rfl rfl (yl_pick_f rfl (HF.ev rfl) (HF.ev rfl)) ?_; clear HF a; intro a HF
    refine wl_mv HF rfl rfl rfl rfl rfl ?_; clear HF a; intro a HF
    refine wl_yg HF rfl rfl rfl rfl rfl (yl_fieldAddr (j := 4) rfl (HF.ev rfl) (by kernel_rfl)) ?_; clear HF a; intro a HF
    refine wl_yg HF rfl rfl rfl rfl rfl (yl_load (v := .string o.fText) rfl (HF.ev rfl) (((HS.out.box 0 rfl).cell 4).trans rfl) (by kernel_rfl)) ?_; clear HF a; intro a HF
    refine wl_yg HF rfl rfl rfl rfl rfl (yl_lenS rfl (HF.ev rfl) (by kernel_rfl)) ?_; clear HF a; intro a HF
    refine wl_yg HF rfl rfl rfl rfl rfl (yl_gtrI rfl (HF.ev rfl) (HF.ev rfl)) ?_; clear HF a; intro a HF
    refine wl_y rfl HF rfl rfl (yl_pick_f rfl (HF.ev rfl) (HF.ev rfl)) ?_; clear HF a; intro a HF
    refine wpList_nil ?_
    exact on_mk ⟨HF.less _ ⟨rfl, rfl, rfl, rfl, rfl, (congrArg (fun z => some (Value.bool z)) (show ((decide ((24 : Int) < (o.fText.size : Int))) : Bool) = (bif (o.fKind != 3) then (bif (!(o.fText.toList == (⟨#[]⟩ : ByteArray).toList)) then true else (decide ((24 : Int) < (o.fText.size : Int)))) else (decide ((24 : Int) < (o.fText.size : Int)))) from (by (try rw [cc10]); first | done | rfl))), trivial⟩, HS.out⟩
  clear HF HS a; rintro a w8 ⟨HF, HS⟩; replace HS := Bx.mk HS
  refine ex_then ?_
  refine HF.cases 62 rfl (fun cc12 HF1 => ?_) (fun cc12 HF1 => ?_)
  ·clear HF; have HF := HF1; clear HF1
   refine wc_true HF rfl ?_
   refine wp_sr ?_
   refine wl_as HF rfl rfl rfl rfl rfl ?_; clear HF a; intro a HF
   refine wl_ne ?_
   refine wp_ret ?_
   refine ex_then_ret ?_
   refine bp_ret1 HF Tryz.results16 (HF.res rfl) ?_
   have k1 : (inB o.fKind 1 7 && pathB o.fPath && o.toOk) = true := by have := cc9; rw [spTo_tree] at this; simpa using this
   have k4 : o.textOk = false := by have := cc12; rw [spText_tree] at this; simpa using this
   exact ⟨by unfold OpD.ok; rw [k4, Bool.and_false], HS.out.bel⟩
  ·clear HF; have HF := HF1; clear HF1
   refine wc_false HF rfl ?_
   refine wp_skip ?_
   refine ex_then ?_
   refine wp_seq ?_
   refine wp_join (R := fun a w => Fr 74 a [(0, .agg #[.int .i64 o.fKind, .string o.fPath, .string o.fTo, .int .i64 o.fAt, .string o.fText]), (1, .pointer (some ⟨b1, 0, none⟩)), (2, .bool (bif (o.fAt == 0) then true else (bif (bif (o.fKind == 3) then true else (o.fKind == 4)) then (inB o.fAt 0 192) else false))), (48, .bool false), (62, .bool false)] ∧ St w0 ([boxA b1 5 24 (.agg #[.int .i64 o.fKind, .string o.fPath, .string o.fTo, .int .i64 o.fAt, .string o.fText])]) w) ?_ ?_
   ·skip
    refine wp_region_lit ?_
    refine wl_y rfl HF rfl rfl (yl_fieldAddr (j := 3) rfl (HF.ev rfl) (by kernel_rfl)) ?_; clear HF a; intro a HF
    refine wl_y rfl HF rfl rfl (yl_load (v := .int .i64 o.fAt) rfl (HF.ev rfl) (((HS.out.box 0 rfl).cell 3).trans rfl) (by kernel_rfl)) ?_; clear HF a; intro a HF
    refine wl_y rfl HF rfl rfl (yl_eqlI rfl (HF.ev rfl) (HF.ev rfl)) ?_; clear HF a; intro a HF
    refine wl_mv HF rfl rfl rfl rfl rfl ?_; clear HF a; intro a HF
    refine HF.cases 66 rfl (fun cc13 HF1 => ?_) (fun cc13 HF1 => ?_)
    ·clear HF; have HF := HF1; clear HF1
     have dcc13 := eq_of_beq cc13
     refine wl_skip HF rfl rfl rfl rfl rfl rfl ?_; clear HF a; intro a HF
     refine wl_skip HF rfl rfl rfl rfl rfl rfl ?_; clear HF a; intro a HF
     refine wl_skipU HF rfl rfl rfl rfl rfl ?_; clear HF a; intro a HF
     refine wl_skipU HF rfl rfl rfl rfl rfl ?_; clear HF a; intro a HF
     refine wl_skipU HF rfl rfl rfl rfl rfl ?_; clear HF a; intro a HF
     refine wl_skip HF rfl rfl rfl rfl rfl rfl ?_; clear HF a; intro a HF
     refine wl_y rfl HF rfl rfl (yl_pick_t rfl (HF.ev rfl) (HF.ev rfl)) ?_; clear HF a; intro a HF
     refine wl_as HF rfl rfl rfl rfl rfl ?_; clear HF a; intro a HF
     refine wpList_nil ?_
     exact on_mk ⟨HF.less _ ⟨rfl, rfl, (congrArg (fun z => some (Value.bool z)) (show (true : Bool) = (bif (o.fAt == 0) then true else (bif (bif (o.fKind == 3) then true else (o.fKind == 4)) then (inB o.fAt 0 192) else false)) from (by (try rw [cc13]); first | done | rfl))), rfl, rfl, trivial⟩, HS.out⟩
    ·clear HF; have HF := HF1; clear HF1
     have dcc13 := ne_of_beq_false cc13
     refine wl_yg HF rfl rfl rfl rfl rfl (yl_move rfl (HF.ev rfl)) ?_; clear HF a; intro a HF
     refine wl_yg HF rfl rfl rfl rfl rfl (yl_move rfl (HF.ev rfl)) ?_; clear HF a; intro a HF
     refine HF.cases 68 rfl (fun cc14 HF1 => ?_) (fun cc14 HF1 => ?_)
     ·clear HF; have HF := HF1; clear HF1
      refine wl_yg HF rfl rfl rfl rfl rfl (yl_fieldAddr (j := 3) rfl (HF.ev rfl) (by kernel_rfl)) ?_; clear HF a; intro a HF
      refine wl_yg HF rfl rfl rfl rfl rfl (yl_load (v := .int .i64 o.fAt) rfl (HF.ev rfl) (((HS.out.box 0 rfl).cell 3).trans rfl) (by kernel_rfl)) ?_; clear HF a; intro a HF
      refine wl_callBg HF rfl rfl rfl rfl (enter_of Tryz.func32 (by kernel_rfl) rfl) (args := #[.int .i64 o.fAt, .int .i64 0, .int .i64 192]) rfl (v := .bool (inB o.fAt 0 192)) (((l6In_any o.fAt 0 192 _).mono fun _ _ h => ⟨h.1, h.2 ▸ Below.refl _ _⟩)) rfl rfl HS.out ?_; clear HF HS a; intro w9 a HS HF; replace HS := Bx.mk HS
      refine wl_yg HF rfl rfl rfl rfl rfl (yl_pick_t rfl (HF.ev rfl) (HF.ev rfl)) ?_; clear HF a; intro a HF
      refine wl_y rfl HF rfl rfl (yl_pick_f rfl (HF.ev rfl) (HF.ev rfl)) ?_; clear HF a; intro a HF
      refine wl_as HF rfl rfl rfl rfl rfl ?_; clear HF a; intro a HF
      refine wpList_nil ?_
      exact on_mk ⟨HF.less _ ⟨rfl, rfl, (congrArg (fun z => some (Value.bool z)) (show (inB o.fAt 0 192 : Bool) = (bif (o.fAt == 0) then true else (bif (bif (o.fKind == 3) then true else (o.fKind == 4)) then (inB o.fAt 0 192) else false)) from (by (try rw [cc13]); (try rw [cc14]); first | done | rfl))), rfl, rfl, trivial⟩, HS.out⟩
     ·clear HF; have HF := HF1; clear HF1
      refine wl_skip HF rfl rfl rfl rfl rfl rfl ?_; clear HF a; intro a HF
      refine wl_skip HF rfl rfl rfl rfl rfl rfl ?_; clear HF a; intro a HF
      refine wl_skip HF rfl rfl rfl rfl rfl rfl ?_; clear HF a; intro a HF
      refine wl_yg HF rfl rfl rfl rfl rfl (yl_pick_f rfl (HF.ev rfl) (HF.ev rfl)) ?_; clear HF a; intro a HF
      refine wl_y rfl HF rfl rfl (yl_pick_f rfl (HF.ev rfl) (HF.ev rfl)) ?_; clear HF a; intro a HF
      refine wl_as HF rfl rfl rfl rfl rfl ?_; clear HF a; intro a HF
      refine wpList_nil ?_
      exact on_mk ⟨HF.less _ ⟨rfl, rfl, (congrArg (fun z => some (Value.bool z)) (show (false : Bool) = (bif (o.fAt == 0) then true else (bif (bif (o.fKind == 3) then true else (o.fKind == 4)) then (inB o.fAt 0 192) else false)) from (by (try rw [cc13]); (try rw [cc14]); first | done | rfl))), rfl, rfl, trivial⟩, HS.out⟩
   clear HF HS a; rintro a w10 ⟨HF, HS⟩; replace HS := Bx.mk HS
   refine ex_then ?_
   refine wp_ret ?_
   refine bp_ret1 HF Tryz.results16 (HF.res rfl) ?_
   have k1 : (inB o.fKind 1 7 && pathB o.fPath && o.toOk) = true := by have := cc9; rw [spTo_tree] at this; simpa using this
   have k4 : o.textOk = true := by have := cc12; rw [spText_tree] at this; simpa using this
   exact ⟨by rw [OpD.ok_mk2 (by simpa using k1) k4, ← spAt_tree], HS.out.bel⟩

end Go.Proofs.YtnikdicehddehaaGreatDoor

/- Lines of a shell: plain. -/
namespace Go.Proofs.YtnikdicehddehaaGreatDoor
set_option linter.unusedVariables false
set_option linter.unusedSimpArgs false
set_option maxHeartbeats 1000000
set_option maxRecDepth 100000
open Go.RowKit

theorem opK_cases (s : ByteArray) : opK s = 0 ∨ opK s = 1 ∨ opK s = 2 ∨ opK s = 3 ∨ opK s = 4 ∨ opK s = 5 ∨ opK s = 6 ∨ opK s = 7 := by
  rw [opK_eq]
  repeat (split; · simp)
  simp
/-- The words of the reference. -/
def wordsL : List ByteArray := [⟨#[]⟩, ⟨#[109, 97, 107, 101]⟩, ⟨#[102, 111, 108, 100, 101, 114]⟩, ⟨#[119, 114, 105, 116, 101]⟩, ⟨#[99, 117, 116]⟩, ⟨#[100, 114, 111, 112]⟩, ⟨#[108, 105, 110, 107]⟩, ⟨#[109, 111, 118, 101]⟩]
/-- The kind as the reference finds it: so far. -/
def kindTo (s : ByteArray) : Nat → Nat
  | 0 => 0
  | 1 => 0
  | k + 2 => if (wordsL.getD (k + 1) ByteArray.empty) = s then k + 1 else kindTo s (k + 1)
theorem kindTo_opK (s : ByteArray) : ((kindTo s 8 : Nat) : Int) = opK s := by
  have hx : ∀ l : List UInt8, ((⟨l.toArray⟩ : ByteArray) = s) ↔ s.data.toList = l := fun l => ⟨fun e => by rw [← e], fun e => ba_ext (by rw [e])⟩
  rw [opK_eq]
  have h1 := hx [109, 97, 107, 101]
  have h2 := hx [102, 111, 108, 100, 101, 114]
  have h3 := hx [119, 114, 105, 116, 101]
  have h4 := hx [99, 117, 116]
  have h5 := hx [100, 114, 111, 112]
  have h6 := hx [108, 105, 110, 107]
  have h7 := hx [109, 111, 118, 101]
  simp only [kindTo, wordsL, List.getD_cons_succ, List.getD_cons_zero, h1, h2, h3, h4, h5, h6, h7]
  by_cases a1 : s.data.toList = [109, 97, 107, 101]
  · simp [a1]
  by_cases a2 : s.data.toList = [102, 111, 108, 100, 101, 114]
  · simp [a2]
  by_cases a3 : s.data.toList = [119, 114, 105, 116, 101]
  · simp [a3]
  by_cases a4 : s.data.toList = [99, 117, 116]
  · simp [a4]
  by_cases a5 : s.data.toList = [100, 114, 111, 112]
  · simp [a5]
  by_cases a6 : s.data.toList = [108, 105, 110, 107]
  · simp [a6]
  by_cases a7 : s.data.toList = [109, 111, 118, 101]
  · simp [a7]
  simp [a1, a2, a3, a4, a5, a6, a7]
def chk (o : OpD) : Option OpD := bif o.ok then some o else none
theorem chk_yes {o : OpD} (h : o.ok = true) : chk o = some o := by unfold chk; rw [h]; rfl
theorem chk_no {o : OpD} (h : o.ok = false) : chk o = none := by unfold chk; rw [h]; rfl
abbrev E0 : ByteArray := ByteArray.empty
/-- The operation of a line's words. -/
def shellF (ws : List ByteArray) : Option OpD :=
  if opK (ws.getD 0 E0) = 3 then (if ws.length = 4 ∧ ((ws.getD 3 E0).toList == (⟨#[]⟩ : ByteArray).toList) = false then (match numG (ws.getD 2 E0) with | some n => chk ⟨3, ws.getD 1 E0, E0, (n : Int), ws.getD 3 E0⟩ | none => none) else none)
  else if opK (ws.getD 0 E0) = 4 then (if ws.length = 3 then (match numG (ws.getD 2 E0) with | some n => chk ⟨4, ws.getD 1 E0, E0, (n : Int), E0⟩ | none => none) else none)
  else if opK (ws.getD 0 E0) = 6 ∨ opK (ws.getD 0 E0) = 7 then (if ws.length = 3 then chk ⟨opK (ws.getD 0 E0), ws.getD 1 E0, ws.getD 2 E0, 0, E0⟩ else none)
  else if opK (ws.getD 0 E0) = 0 then none else (if ws.length = 2 then chk ⟨opK (ws.getD 0 E0), ws.getD 1 E0, E0, 0, E0⟩ else none)
section
variable {ws : List ByteArray}
theorem sh3 {n : Nat} (hk : opK (ws.getD 0 E0) = 3) (hl : ws.length = 4) (ht : ((ws.getD 3 E0).toList == (⟨#[]⟩ : ByteArray).toList) = false) (hn : numG (ws.getD 2 E0) = some n) : shellF ws = chk ⟨3, ws.getD 1 E0, E0, (n : Int), ws.getD 3 E0⟩ := by unfold shellF; rw [if_pos hk, if_pos ⟨hl, ht⟩, hn]
theorem sh3l (hk : opK (ws.getD 0 E0) = 3) (hl : ws.length ≠ 4) : shellF ws = none := by unfold shellF; rw [if_pos hk, if_neg fun h => hl h.1]
theorem sh3t (hk : opK (ws.getD 0 E0) = 3) (ht : ((ws.getD 3 E0).toList == (⟨#[]⟩ : ByteArray).toList) = true) : shellF ws = none := by unfold shellF; rw [if_pos hk, if_neg fun h => by rw [ht] at h; exact absurd h.2 (by simp)]
theorem sh3n (hk : opK (ws.getD 0 E0) = 3) (hn : numG (ws.getD 2 E0) = none) : shellF ws = none := by unfold shellF; rw [if_pos hk, hn]; split <;> rfl
theorem sh4 {n : Nat} (hk : opK (ws.getD 0 E0) = 4) (hl : ws.length = 3) (hn : numG (ws.getD 2 E0) = some n) : shellF ws = chk ⟨4, ws.getD 1 E0, E0, (n : Int), E0⟩ := by unfold shellF; rw [if_neg (by omega), if_pos hk, if_pos hl, hn]
theorem sh4l (hk : opK (ws.getD 0 E0) = 4) (hl : ws.length ≠ 3) : shellF ws = none := by unfold shellF; rw [if_neg (by omega), if_pos hk, if_neg hl]
theorem sh4n (hk : opK (ws.getD 0 E0) = 4) (hn : numG (ws.getD 2 E0) = none) : shellF ws = none := by unfold shellF; rw [if_neg (by omega), if_pos hk, hn]; split <;> rfl
theorem sh6 {k : Int} (hk : opK (ws.getD 0 E0) = k) (h67 : k = 6 ∨ k = 7) (hl : ws.length = 3) : shellF ws = chk ⟨k, ws.getD 1 E0, ws.getD 2 E0, 0, E0⟩ := by unfold shellF; rw [hk, if_neg (by omega), if_neg (by omega), if_pos h67, if_pos hl]
theorem sh6l {k : Int} (hk : opK (ws.getD 0 E0) = k) (h67 : k = 6 ∨ k = 7) (hl : ws.length ≠ 3) : shellF ws = none := by unfold shellF; rw [hk, if_neg (by omega), if_neg (by omega), if_pos h67, if_neg hl]
theorem sh0 (hk : opK (ws.getD 0 E0) = 0) : shellF ws = none := by unfold shellF; rw [hk, if_neg (by omega), if_neg (by omega), if_neg (by omega), if_pos rfl]
theorem sh1 {k : Int} (hk : opK (ws.getD 0 E0) = k) (h125 : k = 1 ∨ k = 2 ∨ k = 5) (hl : ws.length = 2) : shellF ws = chk ⟨k, ws.getD 1 E0, E0, 0, E0⟩ := by unfold shellF; rw [hk, if_neg (by omega), if_neg (by omega), if_neg (by omega), if_neg (by omega), if_pos hl]
theorem sh1l {k : Int} (hk : opK (ws.getD 0 E0) = k) (h125 : k = 1 ∨ k = 2 ∨ k = 5) (hl : ws.length ≠ 2) : shellF ws = none := by unfold shellF; rw [hk, if_neg (by omega), if_neg (by omega), if_neg (by omega), if_neg (by omega), if_neg hl]
theorem numG_nil {s : ByteArray} (h : (s.toList == (⟨#[]⟩ : ByteArray).toList) = true) : numG s = none := by obtain rfl := bytes_toList h; rfl
theorem opK_nil {s : ByteArray} (h : (s.toList == (⟨#[]⟩ : ByteArray).toList) = true) : opK s = 0 := by obtain rfl := bytes_toList h; rw [opK_eq]; rfl
theorem ok_path {o : OpD} (h : pathB o.fPath = false) : o.ok = false := by unfold OpD.ok; rw [h, Bool.and_false, Bool.false_and, Bool.false_and, Bool.false_and]
theorem ok_to {o : OpD} (h : o.toOk = false) : o.ok = false := by unfold OpD.ok; rw [h, Bool.and_false, Bool.false_and, Bool.false_and]
/-- A line with an empty word tells nothing. -/
theorem sh_empty {j : Nat} (hj : j < ws.length) (h : ((ws.getD j E0).toList == (⟨#[]⟩ : ByteArray).toList) = true) : shellF ws = none := by
  rcases (by omega : j = 0 ∨ j = 1 ∨ j = 2 ∨ j = 3 ∨ 4 ≤ j) with rfl | rfl | rfl | rfl | h4
  · exact sh0 (opK_nil h)
  · have hp := pathB_nil h
    rcases opK_cases (ws.getD 0 E0) with hk | hk | hk | hk | hk | hk | hk | hk
    · exact sh0 hk
    · by_cases hl : ws.length = 2
      · rw [sh1 hk (by omega) hl]; exact chk_no (ok_path hp)
      · exact sh1l hk (by omega) hl
    · by_cases hl : ws.length = 2
      · rw [sh1 hk (by omega) hl]; exact chk_no (ok_path hp)
      · exact sh1l hk (by omega) hl
    · by_cases hl : ws.length = 4
      · cases ht : ((ws.getD 3 E0).toList == (⟨#[]⟩ : ByteArray).toList) with
        | true => exact sh3t hk ht
        | false =>
          cases hn : numG (ws.getD 2 E0) with
          | none => exact sh3n hk hn
          | some n => rw [sh3 hk hl ht hn]; exact chk_no (ok_path hp)
      · exact sh3l hk hl
    · by_cases hl : ws.length = 3
      · cases hn : numG (ws.getD 2 E0) with
        | none => exact sh4n hk hn
        | some n => rw [sh4 hk hl hn]; exact chk_no (ok_path hp)
      · exact sh4l hk hl
    · by_cases hl : ws.length = 2
      · rw [sh1 hk (by omega) hl]; exact chk_no (ok_path hp)
      · exact sh1l hk (by omega) hl
    · by_cases hl : ws.length = 3
      · rw [sh6 hk (by omega) hl]; exact chk_no (ok_path hp)
      · exact sh6l hk (by omega) hl
    · by_cases hl : ws.length = 3
      · rw [sh6 hk (by omega) hl]; exact chk_no (ok_path hp)
      · exact sh6l hk (by omega) hl
  · have hp := pathB_nil h
    rcases opK_cases (ws.getD 0 E0) with hk | hk | hk | hk | hk | hk | hk | hk
    · exact sh0 hk
    · exact sh1l hk (by omega) (by omega)
    · exact sh1l hk (by omega) (by omega)
    · exact sh3n hk (numG_nil h)
    · exact sh4n hk (numG_nil h)
    · exact sh1l hk (by omega) (by omega)
    · by_cases hl : ws.length = 3
      · rw [sh6 hk (by omega) hl]; exact chk_no (ok_to (by unfold OpD.toOk OpD.two; exact hp))
      · exact sh6l hk (by omega) hl
    · by_cases hl : ws.length = 3
      · rw [sh6 hk (by omega) hl]; exact chk_no (ok_to (by unfold OpD.toOk OpD.two; exact hp))
      · exact sh6l hk (by omega) hl
  · rcases opK_cases (ws.getD 0 E0) with hk | hk | hk | hk | hk | hk | hk | hk
    · exact sh0 hk
    · exact sh1l hk (by omega) (by omega)
    · exact sh1l hk (by omega) (by omega)
    · exact sh3t hk h
    · exact sh4l hk (by omega)
    · exact sh1l hk (by omega) (by omega)
    · exact sh6l hk (by omega) (by omega)
    · exact sh6l hk (by omega) (by omega)
  · rcases opK_cases (ws.getD 0 E0) with hk | hk | hk | hk | hk | hk | hk | hk
    · exact sh0 hk
    · exact sh1l hk (by omega) (by omega)
    · exact sh1l hk (by omega) (by omega)
    · exact sh3l hk (by omega)
    · exact sh4l hk (by omega)
    · exact sh1l hk (by omega) (by omega)
    · exact sh6l hk (by omega) (by omega)
    · exact sh6l hk (by omega) (by omega)
end
end Go.Proofs.YtnikdicehddehaaGreatDoor
