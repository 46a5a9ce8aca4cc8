/- A part of the proof in YtnikdicehddehaaGreatDoorSoLZ30. -/
import Derived.ArgAppend
import Derived.BigQuiet
import Derived.BigRegion
import Derived.Deep.AppendLies
import Derived.Deep.MidRow
import Derived.Deep.Quiet
import Derived.Deep.QuietTactic
import Derived.Deep.RegionHeld3
import Derived.Deep.RegionWith
import Derived.IntWalk
import Derived.Laws.BytesArg
import Derived.Laws.IdiomRangeMap
import Derived.Laws.RangeAny
import Derived.Lib.AppendIntMem
import Derived.Lib.Atoi
import Derived.Lib.Hide
import Derived.Lib.IndexAny
import Derived.Lib.IndexBytes
import Derived.Lib.IndexLaws
import Derived.Lib.ItoaNum
import Derived.Lib.Join
import Derived.Lib.LazyBuf
import Derived.Lib.SlBytesConst
import Derived.Lib.Split
import Derived.Lib.SplitLaws
import Derived.LoopIn
import Derived.LoopN
import Derived.LoopNIn
import Derived.Orders
import Derived.OrdersHeld
import Derived.OwnWalkIn
import Derived.RangeFuncLeaves
import Derived.RangeFuncNested
import Derived.Scope
import Derived.Shelf.Abstract
import Derived.Shelf.GgClosure.StringsIndexFunc
import Derived.Shelf.Small.Strs
import Derived.Shelf.Small.Utf8
import Derived.Shelf.Small.Wraps
import Derived.Shelf.Strconv.Atoi
import Derived.Shelf.Strconv.AtoiErr
import Derived.Shelf.Strconv.Itoa3
import Derived.Shelf.Strings.BuilderF
import Derived.Shelf.Strings.BuilderK
import Derived.Shelf.Strings.FuncGrows
import Derived.Shelf.Strings.IndexAnyAll
import Derived.Shelf.Strings.OnBuilder
import Derived.Shelf.Strings.Split
import Derived.Shelf.Strings.SplitShaped
import Derived.Shelf.Vars
import Derived.Still
import Derived.StillTail
import Derived.StillTailTactics
import Derived.StringKeys
import Derived.TacticsInMore
import Derived.Test.YtnikdicehddehaaGreatDoorRows
import Derived.WalkKit
import Derived.WalkLawsBesides
import Derived.WalkSpells
import Derived.WideKeyMaps2
import Derived.Test.YtnikdicehddehaaGreatDoorSoLZ25
/- FnShellSay: the law, walked. -/
namespace Go.Proofs.YtnikdicehddehaaGreatDoor
set_option linter.unusedVariables false
set_option linter.unusedSimpArgs false
set_option maxHeartbeats 1000000
set_option maxRecDepth 100000
open Go.RowKit

theorem yl_eqlOp {w : World} {o : Oper} {a : Act} {x y : Operand} {t' : TypeId} (z : OpD) (ho : o.op = .binOp .eql 24 x y t') (hx : a.eval x = .agg #[.int .i64 z.fKind, .string z.fPath, .string z.fTo, .int .i64 z.fAt, .string z.fText]) (hy : a.eval y = .agg #[.int .i64 z.fKind, .string z.fPath, .string z.fTo, .int .i64 z.fAt, .string z.fText]) : Yl Tryz.prog w o a (.bool true) := by
  have he := eqOpW z w
  unfold Yl execOp
  simp only [ho, hx, hy]
  simp [eqGuard, binOp, go_sem, Op.equal]
  rw [show Op.maxDepth = 10000 from rfl, he]; rfl
theorem nil_self : ¬ (ByteArray.empty.toList == (⟨#[]⟩ : ByteArray).toList) = false := fun h => by
  rw [show (ByteArray.empty.toList == (⟨#[]⟩ : ByteArray).toList) = true from beq_self_eq_true (a := ByteArray.empty.toList)] at h
  cases h
theorem sayF_ne {o : OpD} (h : ((sayF o).toList == (⟨#[]⟩ : ByteArray).toList) = false) : o.ok = true ∧ badB o = false ∧ sayF o = lineB o := by
  cases ho : o.ok with
  | false => rw [sayF_no ho] at h; exact absurd h nil_self
  | true =>
    cases hb : badB o with
    | true => rw [sayF_bad hb] at h; exact absurd h nil_self
    | false => exact ⟨rfl, rfl, sayF_line ho hb⟩
end Go.Proofs.YtnikdicehddehaaGreatDoor

/- Drawing lines. -/
namespace Go.Proofs.YtnikdicehddehaaGreatDoor
set_option linter.unusedVariables false
set_option linter.unusedSimpArgs false
set_option maxHeartbeats 1000000
set_option maxRecDepth 100000
open Go.RowKit

theorem lit_size (d : Array UInt8) : (⟨d⟩ : ByteArray).size = d.size := rfl
theorem l6Dec_ex (n : Int) (h0 : 0 ≤ n) (h1 : n ≤ 1000000) (w0 : World) : Calls Tryz.prog 18 #[.int .i64 n] w0 fun e w' => ∃ t : ByteArray, e = .returned (.string t) ∧ t.size ≤ 19 ∧ Below w0.heap.size w0 w' := by
  refine (l6DecI_any n h0 (by omega) w0).mono ?_
  rintro e w' ⟨rfl, hb⟩
  exact ⟨_, rfl, decB_20 (by omega), hb⟩
theorem sayF_size (o : OpD) : (sayF o).size ≤ 200 := by
  cases ho : o.ok with
  | false => rw [sayF_no ho]; decide
  | true =>
    cases hb : badB o with
    | true => rw [sayF_bad hb]; decide
    | false => rw [sayF_line ho hb]; exact line_size ho

set_option maxHeartbeats 4000000 in
theorem l93Head_any (w0 w : World) (rb : Nat) (ab : Option Addr) (n cb : Nat) (bs : List UInt8) (hn : n ≤ 2000) (hR : Rd encB 1 w0 ab n bs) (B : Nat) (hB : B ≤ 850000) (F : List Asr) (hS : St w0 (rdA rb ab n cb B :: F) w) : Calls Tryz.prog 38 #[.pointer (some ⟨rb, 0, none⟩)] w fun e w' => ∃ t : ByteArray, e = .returned (.string t) ∧ t.size ≤ 20 ∧ St w0 (rdA rb ab n cb (B + 4) :: F) w' := by
 have HS := Bx.mk hS; clear hS
 refine wc_enter Tryz.func38 rfl Tryz.ntmps38 [(0, .pointer (some ⟨rb, 0, none⟩))] ⟨rfl, trivial⟩ rfl ?_; intro a HF
 refine wp_sr ?_
 refine wl_as HF rfl rfl rfl rfl rfl ?_; clear HF a; intro a HF
 refine wl_ne ?_
 refine wp_seq ?_
 refine wp_sr ?_
 refine wl_mv HF rfl rfl rfl rfl rfl ?_; clear HF a; intro a HF
 replace HS : Bx (St w0 (rdA rb ab n cb B :: F) _) := ⟨(HS.out).pick 0 rfl⟩
 refine wl_call rfl HF rfl (enter_of Tryz.func26 (by kernel_rfl) rfl) (args := #[.pointer (some ⟨rb, 0, none⟩), .int .i64 14]) rfl (pickN w0 _ rb ab n cb bs hn hR B (by omega) 14 (by omega) _ HS.out) rfl rfl ?_
 rintro _ w1 ⟨dn1, rfl, hu1, hs1⟩
 refine ⟨_, rfl, ?_⟩; replace HS := Bx.mk hs1; clear hs1 HF; clear a; intro a HF
 replace HS : Bx (St w0 (rdA rb ab n cb (B + 1) :: F) _) := ⟨HS.out⟩
 refine wl_y rfl HF rfl rfl (yl_eqlI rfl (HF.ev rfl) (HF.ev rfl)) ?_; clear HF a; intro a HF
 refine wl_ne ?_
 refine HF.cases 5 rfl (fun cc1 HF1 => ?_) (fun cc1 HF1 => ?_)
 ·clear HF; have HF := HF1; clear HF1
  have dcc1 := eq_of_beq cc1
  refine wc_true HF rfl ?_
  refine wp_sr ?_
  refine wl_mv HF rfl rfl rfl rfl rfl ?_; clear HF a; intro a HF
  replace HS : Bx (St w0 (rdA rb ab n cb (B + 1) :: F) _) := ⟨(HS.out).pick 0 rfl⟩
  refine wl_call rfl HF rfl (enter_of Tryz.func37 (by kernel_rfl) rfl) (args := #[.pointer (some ⟨rb, 0, none⟩)]) rfl (l92Name_any w0 _ rb ab n cb bs hn hR (B + 1) (by omega) _ HS.out) rfl rfl ?_
  rintro _ w2 ⟨dt2, rfl, ht2, hs1⟩
  refine ⟨_, rfl, ?_⟩; replace HS := Bx.mk hs1; clear hs1 HF; clear a; intro a HF
  replace HS : Bx (St w0 (rdA rb ab n cb (B + 1 + 2) :: F) _) := ⟨HS.out⟩
  refine wl_as HF rfl rfl rfl rfl rfl ?_; clear HF a; intro a HF
  refine wl_ne ?_
  refine wp_ret ?_
  refine ex_then_ret ?_
  refine bp_ret1 HF Tryz.results38 (HF.res rfl) ?_
  replace HS : Bx (St w0 (rdA rb ab n cb (B + 1 + 2) :: F) _) := ⟨(HS.out).pick 0 rfl⟩
  replace HS : Bx (St w0 (rdA rb ab n cb (B + 4) :: F) _) := ⟨HS.out.rdLe (by omega)⟩
  exact ⟨_, rfl, (by first | omega | decide | exact Nat.le_trans (getD_le (m := 8) (by decide) _) (by decide) | exact Nat.le_trans (getD_le (m := 20) (by decide) _) (by decide) | ((try simp only [app_size, lit_size, List.size_toArray, List.length_cons, List.length_nil]); omega)), HS.out⟩
 ·clear HF; have HF := HF1; clear HF1
  have dcc1 := ne_of_beq_false cc1
  refine wc_false HF rfl ?_
  refine wp_skip ?_
  refine ex_then ?_
  refine wp_sr ?_
  refine wl_buildS (enc := encS) (e := 9) (size := 1) rfl HF rfl rfl rfl (ps := [(0, .string (⟨#[109, 97, 105, 110]⟩ : ByteArray)), (1, .string (⟨#[109, 97, 105, 110]⟩ : ByteArray)), (2, .string (⟨#[109, 97, 105, 110]⟩ : ByteArray)), (3, .string (⟨#[99]⟩ : ByteArray)), (4, .string (⟨#[98]⟩ : ByteArray))]) rfl (cells := [.string (⟨#[109, 97, 105, 110]⟩ : ByteArray), .string (⟨#[109, 97, 105, 110]⟩ : ByteArray), .string (⟨#[109, 97, 105, 110]⟩ : ByteArray), .string (⟨#[99]⟩ : ByteArray), .string (⟨#[98]⟩ : ByteArray)]) (by kernel_rfl) [(⟨#[109, 97, 105, 110]⟩ : ByteArray), (⟨#[109, 97, 105, 110]⟩ : ByteArray), (⟨#[109, 97, 105, 110]⟩ : ByteArray), (⟨#[99]⟩ : ByteArray), (⟨#[98]⟩ : ByteArray)] rfl rfl (by unfold maxLen; omega) rfl HS.out ?_; clear HF HS a; intro b3 a w3 HF HS; replace HS := Bx.mk HS
  refine wl_mv HF rfl rfl rfl rfl rfl ?_; clear HF a; intro a HF
  replace HS : Bx (St w0 (rdA rb ab n cb (B + 1) :: rowA encS 1 9 (.slice (some ⟨b3, 0, none⟩) 5 5) ([(⟨#[109, 97, 105, 110]⟩ : ByteArray), (⟨#[109, 97, 105, 110]⟩ : ByteArray), (⟨#[109, 97, 105, 110]⟩ : ByteArray), (⟨#[99]⟩ : ByteArray), (⟨#[98]⟩ : ByteArray)]) :: F) _) := ⟨(HS.out).pick 1 rfl⟩
  refine wl_call rfl HF rfl (enter_of Tryz.func26 (by kernel_rfl) rfl) (args := #[.pointer (some ⟨rb, 0, none⟩), .int .i64 5]) rfl (pickN w0 _ rb ab n cb bs hn hR (B + 1) (by omega) 5 (by omega) _ HS.out) rfl rfl ?_
  rintro _ w4 ⟨dn4, rfl, hu4, hs1⟩
  refine ⟨_, rfl, ?_⟩; replace HS := Bx.mk hs1; clear hs1 HF; clear a; intro a HF
  replace HS : Bx (St w0 (rdA rb ab n cb (B + 1 + 1) :: rowA encS 1 9 (.slice (some ⟨b3, 0, none⟩) 5 5) ([(⟨#[109, 97, 105, 110]⟩ : ByteArray), (⟨#[109, 97, 105, 110]⟩ : ByteArray), (⟨#[109, 97, 105, 110]⟩ : ByteArray), (⟨#[99]⟩ : ByteArray), (⟨#[98]⟩ : ByteArray)]) :: F) _) := ⟨HS.out⟩
  refine wl_y rfl HF rfl rfl (yl_indexAddr (e := 9) (i := dn4) (size := 1) rfl (HF.ev rfl) (HF.ev rfl) (by kernel_rfl) rfl (by omega)) ?_; clear HF a; intro a HF
  refine wl_y rfl HF rfl rfl (yl_load (v := .string (([(⟨#[109, 97, 105, 110]⟩ : ByteArray), (⟨#[109, 97, 105, 110]⟩ : ByteArray), (⟨#[109, 97, 105, 110]⟩ : ByteArray), (⟨#[99]⟩ : ByteArray), (⟨#[98]⟩ : ByteArray)]).getD dn4 ByteArray.empty)) rfl (HF.ev rfl) (HS.out.elem1 encS_len 1 rfl (get_getD (xs := [(⟨#[109, 97, 105, 110]⟩ : ByteArray), (⟨#[109, 97, 105, 110]⟩ : ByteArray), (⟨#[109, 97, 105, 110]⟩ : ByteArray), (⟨#[99]⟩ : ByteArray), (⟨#[98]⟩ : ByteArray)]) (j := dn4) (d := ByteArray.empty) (by (try simp only [List.length_cons, List.length_nil]); omega)) rfl) (by kernel_rfl)) ?_; clear HF a; intro a HF
  refine wl_as HF rfl rfl rfl rfl rfl ?_; clear HF a; intro a HF
  refine wl_ne ?_
  refine wp_ret ?_
  refine bp_ret1 HF Tryz.results38 (HF.res rfl) ?_
  replace HS : Bx (St w0 (rdA rb ab n cb (B + 1 + 1) :: rowA encS 1 9 (.slice (some ⟨b3, 0, none⟩) 5 5) ([(⟨#[109, 97, 105, 110]⟩ : ByteArray), (⟨#[109, 97, 105, 110]⟩ : ByteArray), (⟨#[109, 97, 105, 110]⟩ : ByteArray), (⟨#[99]⟩ : ByteArray), (⟨#[98]⟩ : ByteArray)]) :: F) _) := ⟨(HS.out).pick 0 rfl⟩
  replace HS : Bx (St w0 (rdA rb ab n cb (B + 4) :: rowA encS 1 9 (.slice (some ⟨b3, 0, none⟩) 5 5) ([(⟨#[109, 97, 105, 110]⟩ : ByteArray), (⟨#[109, 97, 105, 110]⟩ : ByteArray), (⟨#[109, 97, 105, 110]⟩ : ByteArray), (⟨#[99]⟩ : ByteArray), (⟨#[98]⟩ : ByteArray)]) :: F) _) := ⟨HS.out.rdLe (by omega)⟩
  exact ⟨_, rfl, (by first | omega | decide | exact Nat.le_trans (getD_le (m := 8) (by decide) _) (by decide) | exact Nat.le_trans (getD_le (m := 20) (by decide) _) (by decide) | (have := getD_le (xs := [(⟨#[109, 97, 105, 110]⟩ : ByteArray), (⟨#[109, 97, 105, 110]⟩ : ByteArray), (⟨#[109, 97, 105, 110]⟩ : ByteArray), (⟨#[99]⟩ : ByteArray), (⟨#[98]⟩ : ByteArray)]) (m := 20) (by decide) dn4; (try simp only [app_size, lit_size, List.size_toArray, List.length_cons, List.length_nil]); omega)), (HS.out.erase 1)⟩

theorem of_any (w0 w : World) (rb : Nat) (ab : Option Addr) (n cb : Nat) (bs : List UInt8) (hn : n ≤ 2000) (hR : Rd encB 1 w0 ab n bs) (B : Nat) (hB : B ≤ 900000) (al : Option Addr) (cl : Nat) (xs : List ByteArray) (hx : 1 ≤ xs.length ∧ xs.length ≤ 1000) (hb : ∀ k, (xs.getD k ByteArray.empty).size ≤ 20) (F : List Asr) (hS : St w0 (rdA rb ab n cb B :: rowA encS 1 9 (.slice al xs.length cl) xs :: F) w) : Calls Tryz.prog 39 #[.pointer (some ⟨rb, 0, none⟩), .slice al xs.length cl] w fun e w' => ∃ t : ByteArray, e = .returned (.string t) ∧ t.size ≤ 20 ∧ St w0 (rdA rb ab n cb (B + 1) :: F) w' := by
 have HS := Bx.mk hS; clear hS
 refine wc_enter Tryz.func39 rfl Tryz.ntmps39 [(0, .pointer (some ⟨rb, 0, none⟩)), (1, .slice al xs.length cl)] ⟨rfl, rfl, trivial⟩ rfl ?_; intro a HF
 refine wp_sr ?_
 refine wl_as HF rfl rfl rfl rfl rfl ?_; clear HF a; intro a HF
 refine wl_ne ?_
 refine wp_seq ?_
 obtain ⟨g1, rfl, _, _, _, _⟩ := HS.out.rowOpen 1 rfl (by omega)
 refine wp_region_lit ?_
 refine wl_mv HF rfl rfl rfl rfl rfl ?_; clear HF a; intro a HF
 refine wl_mv HF rfl rfl rfl rfl rfl ?_; clear HF a; intro a HF
 refine wl_mv HF rfl rfl rfl rfl rfl ?_; clear HF a; intro a HF
 refine wl_y rfl HF rfl rfl (yl_lenL (e := 9) (size := 1) rfl (HF.ev rfl) (by kernel_rfl)) ?_; clear HF a; intro a HF
 replace HS : Bx (St w0 (rdA rb ab n cb B :: rowA encS 1 9 (.slice (some ⟨g1, 0, none⟩) xs.length cl) xs :: F) _) := ⟨(HS.out).pick 0 rfl⟩
 refine wl_call rfl HF rfl (enter_of Tryz.func26 (by kernel_rfl) rfl) (args := #[.pointer (some ⟨rb, 0, none⟩), .int .i64 (xs.length : Int)]) rfl (pickN w0 _ rb ab n cb bs hn hR B (by omega) (xs.length : Int) (by omega) _ HS.out) rfl rfl ?_
 rintro _ w1 ⟨dn2, rfl, hu2, hs1⟩
 refine ⟨_, rfl, ?_⟩; replace HS := Bx.mk hs1; clear hs1 HF; clear a; intro a HF
 replace HS : Bx (St w0 (rdA rb ab n cb (B + 1) :: rowA encS 1 9 (.slice (some ⟨g1, 0, none⟩) xs.length cl) xs :: F) _) := ⟨HS.out⟩
 refine wl_y rfl HF rfl rfl (yl_indexAddr (e := 9) (i := dn2) (size := 1) rfl (HF.ev rfl) (HF.ev rfl) (by kernel_rfl) rfl (by omega)) ?_; clear HF a; intro a HF
 refine wl_y rfl HF rfl rfl (yl_load (v := .string (xs.getD dn2 ByteArray.empty)) rfl (HF.ev rfl) (HS.out.elem1 encS_len 1 rfl (get_getD (xs := xs) (j := dn2) (d := ByteArray.empty) (by omega)) rfl) (by kernel_rfl)) ?_; clear HF a; intro a HF
 refine wl_as HF rfl rfl rfl rfl rfl ?_; clear HF a; intro a HF
 refine wl_ne ?_
 refine wp_ret ?_
 refine bp_ret1 HF Tryz.results39 (HF.res rfl) ?_
 replace HS : Bx (St w0 (rdA rb ab n cb (B + 1) :: rowA encS 1 9 (.slice (some ⟨g1, 0, none⟩) xs.length cl) xs :: F) _) := ⟨(HS.out).pick 0 rfl⟩
 replace HS : Bx (St w0 (rdA rb ab n cb (B + 1) :: rowA encS 1 9 (.slice (some ⟨g1, 0, none⟩) xs.length cl) xs :: F) _) := ⟨HS.out.rdLe (by omega)⟩
 replace HS : Bx (St w0 (rdA rb ab n cb (B + 1) :: rowA encS 1 9 (.slice (some ⟨g1, 0, none⟩) xs.length cl) xs :: F) _) := ⟨(HS.out).pick 0 rfl⟩
 exact ⟨_, rfl, hb _, (HS.out.erase 1)⟩

set_option maxHeartbeats 4000000 in
theorem l93Line_any (w0 w : World) (rb : Nat) (ab : Option Addr) (n cb : Nat) (bs : List UInt8) (hn : n ≤ 2000) (hR : Rd encB 1 w0 ab n bs) (B : Nat) (hB : B ≤ 700000) (F : List Asr) (hS : St w0 (rdA rb ab n cb B :: F) w) : Calls Tryz.prog 22 #[.pointer (some ⟨rb, 0, none⟩)] w fun e w' => ∃ t : ByteArray, e = .returned (.string t) ∧ t.size ≤ 1000 ∧ St w0 (rdA rb ab n cb (B + 200) :: F) w' := by
 have HS := Bx.mk hS; clear hS
 refine wc_enter Tryz.func22 rfl Tryz.ntmps22 [(0, .pointer (some ⟨rb, 0, none⟩))] ⟨rfl, trivial⟩ rfl ?_; intro a HF
 refine wp_sr ?_
 refine wl_as HF rfl rfl rfl rfl rfl ?_; clear HF a; intro a HF
 refine wl_ne ?_
 refine wp_seq ?_
 refine wp_sr ?_
 refine wl_mv HF rfl rfl rfl rfl rfl ?_; clear HF a; intro a HF
 replace HS : Bx (St w0 (rdA rb ab n cb B :: F) _) := ⟨(HS.out).pick 0 rfl⟩
 refine wl_call rfl HF rfl (enter_of Tryz.func26 (by kernel_rfl) rfl) (args := #[.pointer (some ⟨rb, 0, none⟩), .int .i64 24]) rfl (pickN w0 _ rb ab n cb bs hn hR B (by omega) 24 (by omega) _ HS.out) rfl rfl ?_
 rintro _ w1 ⟨dn1, rfl, hu1, hs1⟩
 refine ⟨_, rfl, ?_⟩; replace HS := Bx.mk hs1; clear hs1 HF; clear a; intro a HF
 replace HS : Bx (St w0 (rdA rb ab n cb (B + 1) :: F) _) := ⟨HS.out⟩
 refine wl_ne ?_
 refine wp_block ?_
 refine wp_seq ?_
 refine wp_sr ?_
 refine wl_y rfl HF rfl rfl (yl_eqlI rfl (HF.ev rfl) (HF.ev rfl)) ?_; clear HF a; intro a HF
 refine wl_as HF rfl rfl rfl rfl rfl ?_; clear HF a; intro a HF
 refine wl_ne ?_
 refine HF.cases 7 rfl (fun cc1 HF1 => ?_) (fun cc1 HF1 => ?_)
 ·clear HF; have HF := HF1; clear HF1
  have dcc1 := eq_of_beq cc1
  refine wc_true HF rfl ?_
  refine wp_skip ?_
  refine ex_then ?_
  refine wc_true HF rfl ?_
  refine wp_sr ?_
  refine wl_mv HF rfl rfl rfl rfl rfl ?_; clear HF a; intro a HF
  replace HS : Bx (St w0 (rdA rb ab n cb (B + 1) :: F) _) := ⟨(HS.out).pick 0 rfl⟩
  refine wl_call rfl HF rfl (enter_of Tryz.func13 (by kernel_rfl) rfl) (args := #[.pointer (some ⟨rb, 0, none⟩)]) rfl (l92Op_any w0 _ rb ab n cb bs hn hR (B + 1) (by omega) _ HS.out) rfl rfl ?_
  rintro _ w2 ⟨do2, rfl, hoa2, hob2, hoc2, hs1⟩
  refine ⟨_, rfl, ?_⟩; replace HS := Bx.mk hs1; clear hs1 HF; clear a; intro a HF
  replace HS : Bx (St w0 (rdA rb ab n cb (B + 1 + 120) :: F) _) := ⟨HS.out⟩
  refine wl_alloc rfl HF rfl rfl rfl (Z := [.int .i64 0, .string ByteArray.empty, .string ByteArray.empty, .int .i64 0, .string ByteArray.empty]) (by kernel_rfl) rfl HS.out ?_; clear HF HS a; intro a w3 b3 HF HS; replace HS := Bx.mk HS
  refine wl_storeBox rfl HF rfl rfl (HF.ev rfl) (HF.ev rfl) HS.out 0 rfl (cells_lit [.int .i64 do2.fKind, .string do2.fPath, .string do2.fTo, .int .i64 do2.fAt, .string do2.fText] rfl rfl) (by kernel_rfl) ?_; clear HS; intro w4 HS; replace HS := Bx.mk HS
  have HS : Bx (St w0 (boxA b3 5 24 (.agg #[.int .i64 do2.fKind, .string do2.fPath, .string do2.fTo, .int .i64 do2.fAt, .string do2.fText]) :: rdA rb ab n cb (B + 1 + 120) :: F) _) := HS
  refine wl_ne ?_
  refine wp_seq ?_
  refine wp_sr ?_
  refine wl_y rfl HF rfl rfl (yl_fieldAddr (j := 0) rfl (HF.ev rfl) (by kernel_rfl)) ?_; clear HF a; intro a HF
  refine wl_y rfl HF rfl rfl (yl_load (v := .int .i64 do2.fKind) rfl (HF.ev rfl) (((HS.out.box 0 rfl).cell 0).trans rfl) (by kernel_rfl)) ?_; clear HF a; intro a HF
  refine wl_y rfl HF rfl rfl (yl_eqlI rfl (HF.ev rfl) (HF.ev rfl)) ?_; clear HF a; intro a HF
  refine wl_ne ?_
  refine HF.cases 19 rfl (fun cc2 HF1 => ?_) (fun cc2 HF1 => ?_)
  ·clear HF; have HF := HF1; clear HF1
   have dcc2 := eq_of_beq cc2
   refine wc_true HF rfl ?_
   refine wp_region_lit ?_
   refine wl_buildS (enc := encS) (e := 9) (size := 1) rfl HF rfl rfl rfl (ps := [(0, .string (⟨#[104, 101, 108, 108, 111]⟩ : ByteArray)), (1, .string (⟨#[120]⟩ : ByteArray)), (2, .string (⟨#[97, 97, 97, 97]⟩ : ByteArray)), (3, .string (⟨#[101, 110, 100]⟩ : ByteArray))]) rfl (cells := [.string (⟨#[104, 101, 108, 108, 111]⟩ : ByteArray), .string (⟨#[120]⟩ : ByteArray), .string (⟨#[97, 97, 97, 97]⟩ : ByteArray), .string (⟨#[101, 110, 100]⟩ : ByteArray)]) (by kernel_rfl) [(⟨#[104, 101, 108, 108, 111]⟩ : ByteArray), (⟨#[120]⟩ : ByteArray), (⟨#[97, 97, 97, 97]⟩ : ByteArray), (⟨#[101, 110, 100]⟩ : ByteArray)] rfl rfl (by unfold maxLen; omega) rfl HS.out ?_; clear HF HS a; intro b4 a w5 HF HS; replace HS := Bx.mk HS
   refine wl_mv HF rfl rfl rfl rfl rfl ?_; clear HF a; intro a HF
   replace HS : Bx (St w0 (rdA rb ab n cb (B + 1 + 120) :: rowA encS 1 9 (.slice (some ⟨b4, 0, none⟩) 4 4) ([(⟨#[104, 101, 108, 108, 111]⟩ : ByteArray), (⟨#[120]⟩ : ByteArray), (⟨#[97, 97, 97, 97]⟩ : ByteArray), (⟨#[101, 110, 100]⟩ : ByteArray)]) :: boxA b3 5 24 (.agg #[.int .i64 do2.fKind, .string do2.fPath, .string do2.fTo, .int .i64 do2.fAt, .string do2.fText]) :: F) _) := ⟨(HS.out).pick 2 rfl⟩
   refine wl_call rfl HF rfl (enter_of Tryz.func26 (by kernel_rfl) rfl) (args := #[.pointer (some ⟨rb, 0, none⟩), .int .i64 4]) rfl (pickN w0 _ rb ab n cb bs hn hR (B + 1 + 120) (by omega) 4 (by omega) _ HS.out) rfl rfl ?_
   rintro _ w6 ⟨dn5, rfl, hu5, hs1⟩
   refine ⟨_, rfl, ?_⟩; replace HS := Bx.mk hs1; clear hs1 HF; clear a; intro a HF
   replace HS : Bx (St w0 (rdA rb ab n cb (B + 1 + 120 + 1) :: rowA encS 1 9 (.slice (some ⟨b4, 0, none⟩) 4 4) ([(⟨#[104, 101, 108, 108, 111]⟩ : ByteArray), (⟨#[120]⟩ : ByteArray), (⟨#[97, 97, 97, 97]⟩ : ByteArray), (⟨#[101, 110, 100]⟩ : ByteArray)]) :: boxA b3 5 24 (.agg #[.int .i64 do2.fKind, .string do2.fPath, .string do2.fTo, .int .i64 do2.fAt, .string do2.fText]) :: F) _) := ⟨HS.out⟩
   refine wl_y rfl HF rfl rfl (yl_indexAddr (e := 9) (i := dn5) (size := 1) rfl (HF.ev rfl) (HF.ev rfl) (by kernel_rfl) rfl (by omega)) ?_; clear HF a; intro a HF
   refine wl_y rfl HF rfl rfl (yl_load (v := .string (([(⟨#[104, 101, 108, 108, 111]⟩ : ByteArray), (⟨#[120]⟩ : ByteArray), (⟨#[97, 97, 97, 97]⟩ : ByteArray), (⟨#[101, 110, 100]⟩ : ByteArray)]).getD dn5 ByteArray.empty)) rfl (HF.ev rfl) (HS.out.elem1 encS_len 1 rfl (get_getD (xs := [(⟨#[104, 101, 108, 108, 111]⟩ : ByteArray), (⟨#[120]⟩ : ByteArray), (⟨#[97, 97, 97, 97]⟩ : ByteArray), (⟨#[101, 110, 100]⟩ : ByteArray)]) (j := dn5) (d := ByteArray.empty) (by (try simp only [List.length_cons, List.length_nil]); omega)) rfl) (by kernel_rfl)) ?_; clear HF a; intro a HF
   refine wl_y rfl HF rfl rfl (yl_fieldAddr (j := 4) rfl (HF.ev rfl) (by kernel_rfl)) ?_; clear HF a; intro a HF
   refine wl_storeF rfl rfl rfl (HF.ev rfl) (HF.ev rfl) (by kernel_rfl) HS.out 2 rfl rfl rfl ?_; clear HS; intro w7 HS; replace HS := Bx.mk HS
   have HS : Bx (St w0 (rdA rb ab n cb (B + 1 + 120 + 1) :: rowA encS 1 9 (.slice (some ⟨b4, 0, none⟩) 4 4) ([(⟨#[104, 101, 108, 108, 111]⟩ : ByteArray), (⟨#[120]⟩ : ByteArray), (⟨#[97, 97, 97, 97]⟩ : ByteArray), (⟨#[101, 110, 100]⟩ : ByteArray)]) :: boxA b3 5 24 (.agg #[.int .i64 do2.fKind, .string do2.fPath, .string do2.fTo, .int .i64 do2.fAt, .string (([(⟨#[104, 101, 108, 108, 111]⟩ : ByteArray), (⟨#[120]⟩ : ByteArray), (⟨#[97, 97, 97, 97]⟩ : ByteArray), (⟨#[101, 110, 100]⟩ : ByteArray)]).getD dn5 ByteArray.empty)]) :: F) _) := HS
   refine wl_ne ?_
   refine wp_sr ?_
   refine wl_y rfl HF rfl rfl (yl_loadR (cs := [.int .i64 do2.fKind, .string do2.fPath, .string do2.fTo, .int .i64 do2.fAt, .string (([(⟨#[104, 101, 108, 108, 111]⟩ : ByteArray), (⟨#[120]⟩ : ByteArray), (⟨#[97, 97, 97, 97]⟩ : ByteArray), (⟨#[101, 110, 100]⟩ : ByteArray)]).getD dn5 ByteArray.empty)]) rfl (HF.ev rfl) ((HS.out.box 2 rfl).sub 0 5) (by kernel_rfl)) ?_; clear HF a; intro a HF
   refine wl_call rfl HF rfl (enter_of Tryz.func7 (by kernel_rfl) rfl) (args := #[.agg #[.int .i64 do2.fKind, .string do2.fPath, .string do2.fTo, .int .i64 do2.fAt, .string (([(⟨#[104, 101, 108, 108, 111]⟩ : ByteArray), (⟨#[120]⟩ : ByteArray), (⟨#[97, 97, 97, 97]⟩ : ByteArray), (⟨#[101, 110, 100]⟩ : ByteArray)]).getD dn5 ByteArray.empty)]]) rfl (specShellSay_any (⟨do2.fKind, do2.fPath, do2.fTo, do2.fAt, (([(⟨#[104, 101, 108, 108, 111]⟩ : ByteArray), (⟨#[120]⟩ : ByteArray), (⟨#[97, 97, 97, 97]⟩ : ByteArray), (⟨#[101, 110, 100]⟩ : ByteArray)]).getD dn5 ByteArray.empty)⟩ : OpD) _ (show (do2.fPath).size ≤ 1048576 by first | omega | exact Nat.le_trans (getD_le (m := 100) (by decide) _) (by decide)) (show (do2.fTo).size ≤ 1048576 by first | omega | exact Nat.le_trans (getD_le (m := 100) (by decide) _) (by decide)) (show ((([(⟨#[104, 101, 108, 108, 111]⟩ : ByteArray), (⟨#[120]⟩ : ByteArray), (⟨#[97, 97, 97, 97]⟩ : ByteArray), (⟨#[101, 110, 100]⟩ : ByteArray)]).getD dn5 ByteArray.empty)).size ≤ 1048576 by first | omega | exact Nat.le_trans (getD_le (m := 100) (by decide) _) (by decide))) rfl rfl ?_
   rintro _ w8 ⟨rfl, hb⟩
   have ht6 := sayF_size (⟨do2.fKind, do2.fPath, do2.fTo, do2.fAt, (([(⟨#[104, 101, 108, 108, 111]⟩ : ByteArray), (⟨#[120]⟩ : ByteArray), (⟨#[97, 97, 97, 97]⟩ : ByteArray), (⟨#[101, 110, 100]⟩ : ByteArray)]).getD dn5 ByteArray.empty)⟩ : OpD); generalize sayF (⟨do2.fKind, do2.fPath, do2.fTo, do2.fAt, (([(⟨#[104, 101, 108, 108, 111]⟩ : ByteArray), (⟨#[120]⟩ : ByteArray), (⟨#[97, 97, 97, 97]⟩ : ByteArray), (⟨#[101, 110, 100]⟩ : ByteArray)]).getD dn5 ByteArray.empty)⟩ : OpD) = dt6 at ht6; refine ⟨_, rfl, ?_⟩; replace HS := Bx.mk (HS.out.later hb); clear hb HF; clear a; intro a HF
   refine wl_as HF rfl rfl rfl rfl rfl ?_; clear HF a; intro a HF
   refine wl_ne ?_
   refine wp_seq ?_
   refine wp_sr ?_
   refine wl_mv HF rfl rfl rfl rfl rfl ?_; clear HF a; intro a HF
   refine wl_y rfl HF rfl rfl (yl_neqS rfl (HF.ev rfl) (HF.ev rfl)) ?_; clear HF a; intro a HF
   refine wl_ne ?_
   refine HF.cases 29 rfl (fun cc3 HF1 => ?_) (fun cc3 HF1 => ?_)
   ·clear HF; have HF := HF1; clear HF1
    refine wc_true HF rfl ?_
    refine wp_sr ?_
    refine wl_mv HF rfl rfl rfl rfl rfl ?_; clear HF a; intro a HF
    refine wl_as HF rfl rfl rfl rfl rfl ?_; clear HF a; intro a HF
    refine wl_ne ?_
    refine wp_ret ?_
    refine ex_then_ret ?_
    refine ex_block_ret ?_
    refine ex_then_ret ?_
    refine bp_ret1 HF Tryz.results22 (HF.res rfl) ?_
    replace HS : Bx (St w0 (rdA rb ab n cb (B + 1 + 120 + 1) :: rowA encS 1 9 (.slice (some ⟨b4, 0, none⟩) 4 4) ([(⟨#[104, 101, 108, 108, 111]⟩ : ByteArray), (⟨#[120]⟩ : ByteArray), (⟨#[97, 97, 97, 97]⟩ : ByteArray), (⟨#[101, 110, 100]⟩ : ByteArray)]) :: boxA b3 5 24 (.agg #[.int .i64 do2.fKind, .string do2.fPath, .string do2.fTo, .int .i64 do2.fAt, .string (([(⟨#[104, 101, 108, 108, 111]⟩ : ByteArray), (⟨#[120]⟩ : ByteArray), (⟨#[97, 97, 97, 97]⟩ : ByteArray), (⟨#[101, 110, 100]⟩ : ByteArray)]).getD dn5 ByteArray.empty)]) :: F) _) := ⟨(HS.out).pick 0 rfl⟩
    replace HS : Bx (St w0 (rdA rb ab n cb (B + 200) :: rowA encS 1 9 (.slice (some ⟨b4, 0, none⟩) 4 4) ([(⟨#[104, 101, 108, 108, 111]⟩ : ByteArray), (⟨#[120]⟩ : ByteArray), (⟨#[97, 97, 97, 97]⟩ : ByteArray), (⟨#[101, 110, 100]⟩ : ByteArray)]) :: boxA b3 5 24 (.agg #[.int .i64 do2.fKind, .string do2.fPath, .string do2.fTo, .int .i64 do2.fAt, .string (([(⟨#[104, 101, 108, 108, 111]⟩ : ByteArray), (⟨#[120]⟩ : ByteArray), (⟨#[97, 97, 97, 97]⟩ : ByteArray), (⟨#[101, 110, 100]⟩ : ByteArray)]).getD dn5 ByteArray.empty)]) :: F) _) := ⟨HS.out.rdLe (by omega)⟩
    exact ⟨_, rfl, (by first | omega | decide | exact Nat.le_trans (getD_le (m := 8) (by decide) _) (by decide) | exact Nat.le_trans (getD_le (m := 20) (by decide) _) (by decide) | (have := getD_le (xs := [(⟨#[104, 101, 108, 108, 111]⟩ : ByteArray), (⟨#[120]⟩ : ByteArray), (⟨#[97, 97, 97, 97]⟩ : ByteArray), (⟨#[101, 110, 100]⟩ : ByteArray)]) (m := 20) (by decide) dn5; (try simp only [app_size, lit_size, List.size_toArray, List.length_cons, List.length_nil]); omega)), ((HS.out.erase 2).erase 1)⟩
   ·clear HF; have HF := HF1; clear HF1
    refine wc_false HF rfl ?_
    refine wp_skip ?_
    refine ex_then ?_
    refine wp_sr ?_
    refine wl_as HF rfl rfl rfl rfl rfl ?_; clear HF a; intro a HF
    refine wl_ne ?_
    refine wp_ret ?_
    refine ex_block_ret ?_
    refine ex_then_ret ?_
    refine bp_ret1 HF Tryz.results22 (HF.res rfl) ?_
    replace HS : Bx (St w0 (rdA rb ab n cb (B + 1 + 120 + 1) :: rowA encS 1 9 (.slice (some ⟨b4, 0, none⟩) 4 4) ([(⟨#[104, 101, 108, 108, 111]⟩ : ByteArray), (⟨#[120]⟩ : ByteArray), (⟨#[97, 97, 97, 97]⟩ : ByteArray), (⟨#[101, 110, 100]⟩ : ByteArray)]) :: boxA b3 5 24 (.agg #[.int .i64 do2.fKind, .string do2.fPath, .string do2.fTo, .int .i64 do2.fAt, .string (([(⟨#[104, 101, 108, 108, 111]⟩ : ByteArray), (⟨#[120]⟩ : ByteArray), (⟨#[97, 97, 97, 97]⟩ : ByteArray), (⟨#[101, 110, 100]⟩ : ByteArray)]).getD dn5 ByteArray.empty)]) :: F) _) := ⟨(HS.out).pick 0 rfl⟩
    replace HS : Bx (St w0 (rdA rb ab n cb (B + 200) :: rowA encS 1 9 (.slice (some ⟨b4, 0, none⟩) 4 4) ([(⟨#[104, 101, 108, 108, 111]⟩ : ByteArray), (⟨#[120]⟩ : ByteArray), (⟨#[97, 97, 97, 97]⟩ : ByteArray), (⟨#[101, 110, 100]⟩ : ByteArray)]) :: boxA b3 5 24 (.agg #[.int .i64 do2.fKind, .string do2.fPath, .string do2.fTo, .int .i64 do2.fAt, .string (([(⟨#[104, 101, 108, 108, 111]⟩ : ByteArray), (⟨#[120]⟩ : ByteArray), (⟨#[97, 97, 97, 97]⟩ : ByteArray), (⟨#[101, 110, 100]⟩ : ByteArray)]).getD dn5 ByteArray.empty)]) :: F) _) := ⟨HS.out.rdLe (by omega)⟩
    exact ⟨_, rfl, (by first | omega | decide | exact Nat.le_trans (getD_le (m := 8) (by decide) _) (by decide) | exact Nat.le_trans (getD_le (m := 20) (by decide) _) (by decide) | (have := getD_le (xs := [(⟨#[104, 101, 108, 108, 111]⟩ : ByteArray), (⟨#[120]⟩ : ByteArray), (⟨#[97, 97, 97, 97]⟩ : ByteArray), (⟨#[101, 110, 100]⟩ : ByteArray)]) (m := 20) (by decide) dn5; (try simp only [app_size, lit_size, List.size_toArray, List.length_cons, List.length_nil]); omega)), ((HS.out.erase 2).erase 1)⟩
  ·clear HF; have HF := HF1; clear HF1
   have dcc2 := ne_of_beq_false cc2
   refine wc_false HF rfl ?_
   refine wp_skip ?_
   refine ex_then ?_
   refine wp_sr ?_
   refine wl_y rfl HF rfl rfl (yl_loadR (cs := [.int .i64 do2.fKind, .string do2.fPath, .string do2.fTo, .int .i64 do2.fAt, .string do2.fText]) rfl (HF.ev rfl) ((HS.out.box 0 rfl).sub 0 5) (by kernel_rfl)) ?_; clear HF a; intro a HF
   refine wl_call rfl HF rfl (enter_of Tryz.func7 (by kernel_rfl) rfl) (args := #[.agg #[.int .i64 do2.fKind, .string do2.fPath, .string do2.fTo, .int .i64 do2.fAt, .string do2.fText]]) rfl (specShellSay_any (⟨do2.fKind, do2.fPath, do2.fTo, do2.fAt, do2.fText⟩ : OpD) _ (show (do2.fPath).size ≤ 1048576 by first | omega | exact Nat.le_trans (getD_le (m := 100) (by decide) _) (by decide)) (show (do2.fTo).size ≤ 1048576 by first | omega | exact Nat.le_trans (getD_le (m := 100) (by decide) _) (by decide)) (show (do2.fText).size ≤ 1048576 by first | omega | exact Nat.le_trans (getD_le (m := 100) (by decide) _) (by decide))) rfl rfl ?_
   rintro _ w9 ⟨rfl, hb⟩
   have ht7 := sayF_size (⟨do2.fKind, do2.fPath, do2.fTo, do2.fAt, do2.fText⟩ : OpD); generalize sayF (⟨do2.fKind, do2.fPath, do2.fTo, do2.fAt, do2.fText⟩ : OpD) = dt7 at ht7; refine ⟨_, rfl, ?_⟩; replace HS := Bx.mk (HS.out.later hb); clear hb HF; clear a; intro a HF
   refine wl_as HF rfl rfl rfl rfl rfl ?_; clear HF a; intro a HF
   refine wl_ne ?_
   refine wp_seq ?_
   refine wp_sr ?_
   refine wl_mv HF rfl rfl rfl rfl rfl ?_; clear HF a; intro a HF
   refine wl_y rfl HF rfl rfl (yl_neqS rfl (HF.ev rfl) (HF.ev rfl)) ?_; clear HF a; intro a HF
   refine wl_ne ?_
   refine HF.cases 29 rfl (fun cc4 HF1 => ?_) (fun cc4 HF1 => ?_)
   ·clear HF; have HF := HF1; clear HF1
    refine wc_true HF rfl ?_
    refine wp_sr ?_
    refine wl_mv HF rfl rfl rfl rfl rfl ?_; clear HF a; intro a HF
    refine wl_as HF rfl rfl rfl rfl rfl ?_; clear HF a; intro a HF
    refine wl_ne ?_
    refine wp_ret ?_
    refine ex_then_ret ?_
    refine ex_block_ret ?_
    refine ex_then_ret ?_
    refine bp_ret1 HF Tryz.results22 (HF.res rfl) ?_
    replace HS : Bx (St w0 (rdA rb ab n cb (B + 1 + 120) :: boxA b3 5 24 (.agg #[.int .i64 do2.fKind, .string do2.fPath, .string do2.fTo, .int .i64 do2.fAt, .string do2.fText]) :: F) _) := ⟨(HS.out).pick 1 rfl⟩
    replace HS : Bx (St w0 (rdA rb ab n cb (B + 200) :: boxA b3 5 24 (.agg #[.int .i64 do2.fKind, .string do2.fPath, .string do2.fTo, .int .i64 do2.fAt, .string do2.fText]) :: F) _) := ⟨HS.out.rdLe (by omega)⟩
    exact ⟨_, rfl, (by first | omega | decide | exact Nat.le_trans (getD_le (m := 8) (by decide) _) (by decide) | exact Nat.le_trans (getD_le (m := 20) (by decide) _) (by decide) | ((try simp only [app_size, lit_size, List.size_toArray, List.length_cons, List.length_nil]); omega)), (HS.out.erase 1)⟩
   ·clear HF; have HF := HF1; clear HF1
    refine wc_false HF rfl ?_
    refine wp_skip ?_
    refine ex_then ?_
    refine wp_sr ?_
    refine wl_as HF rfl rfl rfl rfl rfl ?_; clear HF a; intro a HF
    refine wl_ne ?_
    refine wp_ret ?_
    refine ex_block_ret ?_
    refine ex_then_ret ?_
    refine bp_ret1 HF Tryz.results22 (HF.res rfl) ?_
    replace HS : Bx (St w0 (rdA rb ab n cb (B + 1 + 120) :: boxA b3 5 24 (.agg #[.int .i64 do2.fKind, .string do2.fPath, .string do2.fTo, .int .i64 do2.fAt, .string do2.fText]) :: F) _) := ⟨(HS.out).pick 1 rfl⟩
    replace HS : Bx (St w0 (rdA rb ab n cb (B + 200) :: boxA b3 5 24 (.agg #[.int .i64 do2.fKind, .string do2.fPath, .string do2.fTo, .int .i64 do2.fAt, .string do2.fText]) :: F) _) := ⟨HS.out.rdLe (by omega)⟩
    exact ⟨_, rfl, (by first | omega | decide | exact Nat.le_trans (getD_le (m := 8) (by decide) _) (by decide) | exact Nat.le_trans (getD_le (m := 20) (by decide) _) (by decide) | ((try simp only [app_size, lit_size, List.size_toArray, List.length_cons, List.length_nil]); omega)), (HS.out.erase 1)⟩
 ·clear HF; have HF := HF1; clear HF1
  have dcc1 := ne_of_beq_false cc1
  refine wc_false HF rfl ?_
  refine wp_sr ?_
  refine wl_y rfl HF rfl rfl (yl_eqlI rfl (HF.ev rfl) (HF.ev rfl)) ?_; clear HF a; intro a HF
  refine wl_as HF rfl rfl rfl rfl rfl ?_; clear HF a; intro a HF
  refine wl_ne ?_
  refine HF.cases 7 rfl (fun cc5 HF1 => ?_) (fun cc5 HF1 => ?_)
  ·clear HF; have HF := HF1; clear HF1
   have dcc5 := eq_of_beq cc5
   refine wc_true HF rfl ?_
   refine wp_skip ?_
   refine ex_then ?_
   refine wc_true HF rfl ?_
   refine wp_sr ?_
   refine wl_mv HF rfl rfl rfl rfl rfl ?_; clear HF a; intro a HF
   replace HS : Bx (St w0 (rdA rb ab n cb (B + 1) :: F) _) := ⟨(HS.out).pick 0 rfl⟩
   refine wl_call rfl HF rfl (enter_of Tryz.func13 (by kernel_rfl) rfl) (args := #[.pointer (some ⟨rb, 0, none⟩)]) rfl (l92Op_any w0 _ rb ab n cb bs hn hR (B + 1) (by omega) _ HS.out) rfl rfl ?_
   rintro _ w10 ⟨do8, rfl, hoa8, hob8, hoc8, hs1⟩
   refine ⟨_, rfl, ?_⟩; replace HS := Bx.mk hs1; clear hs1 HF; clear a; intro a HF
   replace HS : Bx (St w0 (rdA rb ab n cb (B + 1 + 120) :: F) _) := ⟨HS.out⟩
   refine wl_alloc rfl HF rfl rfl rfl (Z := [.int .i64 0, .string ByteArray.empty, .string ByteArray.empty, .int .i64 0, .string ByteArray.empty]) (by kernel_rfl) rfl HS.out ?_; clear HF HS a; intro a w11 b9 HF HS; replace HS := Bx.mk HS
   refine wl_storeBox rfl HF rfl rfl (HF.ev rfl) (HF.ev rfl) HS.out 0 rfl (cells_lit [.int .i64 do8.fKind, .string do8.fPath, .string do8.fTo, .int .i64 do8.fAt, .string do8.fText] rfl rfl) (by kernel_rfl) ?_; clear HS; intro w12 HS; replace HS := Bx.mk HS
   have HS : Bx (St w0 (boxA b9 5 24 (.agg #[.int .i64 do8.fKind, .string do8.fPath, .string do8.fTo, .int .i64 do8.fAt, .string do8.fText]) :: rdA rb ab n cb (B + 1 + 120) :: F) _) := HS
   refine wl_ne ?_
   refine wp_seq ?_
   refine wp_sr ?_
   refine wl_y rfl HF rfl rfl (yl_fieldAddr (j := 0) rfl (HF.ev rfl) (by kernel_rfl)) ?_; clear HF a; intro a HF
   refine wl_y rfl HF rfl rfl (yl_load (v := .int .i64 do8.fKind) rfl (HF.ev rfl) (((HS.out.box 0 rfl).cell 0).trans rfl) (by kernel_rfl)) ?_; clear HF a; intro a HF
   refine wl_y rfl HF rfl rfl (yl_eqlI rfl (HF.ev rfl) (HF.ev rfl)) ?_; clear HF a; intro a HF
   refine wl_ne ?_
   refine HF.cases 19 rfl (fun cc6 HF1 => ?_) (fun cc6 HF1 => ?_)
   ·clear HF; have HF := HF1; clear HF1
    have dcc6 := eq_of_beq cc6
    refine wc_true HF rfl ?_
    refine wp_region_lit ?_
    refine wl_buildS (enc := encS) (e := 9) (size := 1) rfl HF rfl rfl rfl (ps := [(0, .string (⟨#[104, 101, 108, 108, 111]⟩ : ByteArray)), (1, .string (⟨#[120]⟩ : ByteArray)), (2, .string (⟨#[97, 97, 97, 97]⟩ : ByteArray)), (3, .string (⟨#[101, 110, 100]⟩ : ByteArray))]) rfl (cells := [.string (⟨#[104, 101, 108, 108, 111]⟩ : ByteArray), .string (⟨#[120]⟩ : ByteArray), .string (⟨#[97, 97, 97, 97]⟩ : ByteArray), .string (⟨#[101, 110, 100]⟩ : ByteArray)]) (by kernel_rfl) [(⟨#[104, 101, 108, 108, 111]⟩ : ByteArray), (⟨#[120]⟩ : ByteArray), (⟨#[97, 97, 97, 97]⟩ : ByteArray), (⟨#[101, 110, 100]⟩ : ByteArray)] rfl rfl (by unfold maxLen; omega) rfl HS.out ?_; clear HF HS a; intro b10 a w13 HF HS; replace HS := Bx.mk HS
    refine wl_mv HF rfl rfl rfl rfl rfl ?_; clear HF a; intro a HF
    replace HS : Bx (St w0 (rdA rb ab n cb (B + 1 + 120) :: rowA encS 1 9 (.slice (some ⟨b10, 0, none⟩) 4 4) ([(⟨#[104, 101, 108, 108, 111]⟩ : ByteArray), (⟨#[120]⟩ : ByteArray), (⟨#[97, 97, 97, 97]⟩ : ByteArray), (⟨#[101, 110, 100]⟩ : ByteArray)]) :: boxA b9 5 24 (.agg #[.int .i64 do8.fKind, .string do8.fPath, .string do8.fTo, .int .i64 do8.fAt, .string do8.fText]) :: F) _) := ⟨(HS.out).pick 2 rfl⟩
    refine wl_call rfl HF rfl (enter_of Tryz.func26 (by kernel_rfl) rfl) (args := #[.pointer (some ⟨rb, 0, none⟩), .int .i64 4]) rfl (pickN w0 _ rb ab n cb bs hn hR (B + 1 + 120) (by omega) 4 (by omega) _ HS.out) rfl rfl ?_
    rintro _ w14 ⟨dn11, rfl, hu11, hs1⟩
    refine ⟨_, rfl, ?_⟩; replace HS := Bx.mk hs1; clear hs1 HF; clear a; intro a HF
    replace HS : Bx (St w0 (rdA rb ab n cb (B + 1 + 120 + 1) :: rowA encS 1 9 (.slice (some ⟨b10, 0, none⟩) 4 4) ([(⟨#[104, 101, 108, 108, 111]⟩ : ByteArray), (⟨#[120]⟩ : ByteArray), (⟨#[97, 97, 97, 97]⟩ : ByteArray), (⟨#[101, 110, 100]⟩ : ByteArray)]) :: boxA b9 5 24 (.agg #[.int .i64 do8.fKind, .string do8.fPath, .string do8.fTo, .int .i64 do8.fAt, .string do8.fText]) :: F) _) := ⟨HS.out⟩
    refine wl_y rfl HF rfl rfl (yl_indexAddr (e := 9) (i := dn11) (size := 1) rfl (HF.ev rfl) (HF.ev rfl) (by kernel_rfl) rfl (by omega)) ?_; clear HF a; intro a HF
    refine wl_y rfl HF rfl rfl (yl_load (v := .string (([(⟨#[104, 101, 108, 108, 111]⟩ : ByteArray), (⟨#[120]⟩ : ByteArray), (⟨#[97, 97, 97, 97]⟩ : ByteArray), (⟨#[101, 110, 100]⟩ : ByteArray)]).getD dn11 ByteArray.empty)) rfl (HF.ev rfl) (HS.out.elem1 encS_len 1 rfl (get_getD (xs := [(⟨#[104, 101, 108, 108, 111]⟩ : ByteArray), (⟨#[120]⟩ : ByteArray), (⟨#[97, 97, 97, 97]⟩ : ByteArray), (⟨#[101, 110, 100]⟩ : ByteArray)]) (j := dn11) (d := ByteArray.empty) (by (try simp only [List.length_cons, List.length_nil]); omega)) rfl) (by kernel_rfl)) ?_; clear HF a; intro a HF
    refine wl_y rfl HF rfl rfl (yl_fieldAddr (j := 4) rfl (HF.ev rfl) (by kernel_rfl)) ?_; clear HF a; intro a HF
    refine wl_storeF rfl rfl rfl (HF.ev rfl) (HF.ev rfl) (by kernel_rfl) HS.out 2 rfl rfl rfl ?_; clear HS; intro w15 HS; replace HS := Bx.mk HS
    have HS : Bx (St w0 (rdA rb ab n cb (B + 1 + 120 + 1) :: rowA encS 1 9 (.slice (some ⟨b10, 0, none⟩) 4 4) ([(⟨#[104, 101, 108, 108, 111]⟩ : ByteArray), (⟨#[120]⟩ : ByteArray), (⟨#[97, 97, 97, 97]⟩ : ByteArray), (⟨#[101, 110, 100]⟩ : ByteArray)]) :: boxA b9 5 24 (.agg #[.int .i64 do8.fKind, .string do8.fPath, .string do8.fTo, .int .i64 do8.fAt, .string (([(⟨#[104, 101, 108, 108, 111]⟩ : ByteArray), (⟨#[120]⟩ : ByteArray), (⟨#[97, 97, 97, 97]⟩ : ByteArray), (⟨#[101, 110, 100]⟩ : ByteArray)]).getD dn11 ByteArray.empty)]) :: F) _) := HS
    refine wl_ne ?_
    refine wp_sr ?_
    refine wl_y rfl HF rfl rfl (yl_loadR (cs := [.int .i64 do8.fKind, .string do8.fPath, .string do8.fTo, .int .i64 do8.fAt, .string (([(⟨#[104, 101, 108, 108, 111]⟩ : ByteArray), (⟨#[120]⟩ : ByteArray), (⟨#[97, 97, 97, 97]⟩ : ByteArray), (⟨#[101, 110, 100]⟩ : ByteArray)]).getD dn11 ByteArray.empty)]) rfl (HF.ev rfl) ((HS.out.box 2 rfl).sub 0 5) (by kernel_rfl)) ?_; clear HF a; intro a HF
    refine wl_call rfl HF rfl (enter_of Tryz.func7 (by kernel_rfl) rfl) (args := #[.agg #[.int .i64 do8.fKind, .string do8.fPath, .string do8.fTo, .int .i64 do8.fAt, .string (([(⟨#[104, 101, 108, 108, 111]⟩ : ByteArray), (⟨#[120]⟩ : ByteArray), (⟨#[97, 97, 97, 97]⟩ : ByteArray), (⟨#[101, 110, 100]⟩ : ByteArray)]).getD dn11 ByteArray.empty)]]) rfl (specShellSay_any (⟨do8.fKind, do8.fPath, do8.fTo, do8.fAt, (([(⟨#[104, 101, 108, 108, 111]⟩ : ByteArray), (⟨#[120]⟩ : ByteArray), (⟨#[97, 97, 97, 97]⟩ : ByteArray), (⟨#[101, 110, 100]⟩ : ByteArray)]).getD dn11 ByteArray.empty)⟩ : OpD) _ (show (do8.fPath).size ≤ 1048576 by first | omega | exact Nat.le_trans (getD_le (m := 100) (by decide) _) (by decide)) (show (do8.fTo).size ≤ 1048576 by first | omega | exact Nat.le_trans (getD_le (m := 100) (by decide) _) (by decide)) (show ((([(⟨#[104, 101, 108, 108, 111]⟩ : ByteArray), (⟨#[120]⟩ : ByteArray), (⟨#[97, 97, 97, 97]⟩ : ByteArray), (⟨#[101, 110, 100]⟩ : ByteArray)]).getD dn11 ByteArray.empty)).size ≤ 1048576 by first | omega | exact Nat.le_trans (getD_le (m := 100) (by decide) _) (by decide))) rfl rfl ?_
    rintro _ w16 ⟨rfl, hb⟩
    have ht12 := sayF_size (⟨do8.fKind, do8.fPath, do8.fTo, do8.fAt, (([(⟨#[104, 101, 108, 108, 111]⟩ : ByteArray), (⟨#[120]⟩ : ByteArray), (⟨#[97, 97, 97, 97]⟩ : ByteArray), (⟨#[101, 110, 100]⟩ : ByteArray)]).getD dn11 ByteArray.empty)⟩ : OpD); generalize sayF (⟨do8.fKind, do8.fPath, do8.fTo, do8.fAt, (([(⟨#[104, 101, 108, 108, 111]⟩ : ByteArray), (⟨#[120]⟩ : ByteArray), (⟨#[97, 97, 97, 97]⟩ : ByteArray), (⟨#[101, 110, 100]⟩ : ByteArray)]).getD dn11 ByteArray.empty)⟩ : OpD) = dt12 at ht12; refine ⟨_, rfl, ?_⟩; replace HS := Bx.mk (HS.out.later hb); clear hb HF; clear a; intro a HF
    refine wl_as HF rfl rfl rfl rfl rfl ?_; clear HF a; intro a HF
    refine wl_ne ?_
    refine wp_seq ?_
    refine wp_sr ?_
    refine wl_mv HF rfl rfl rfl rfl rfl ?_; clear HF a; intro a HF
    refine wl_y rfl HF rfl rfl (yl_neqS rfl (HF.ev rfl) (HF.ev rfl)) ?_; clear HF a; intro a HF
    refine wl_ne ?_
    refine HF.cases 29 rfl (fun cc7 HF1 => ?_) (fun cc7 HF1 => ?_)
    ·clear HF; have HF := HF1; clear HF1
     refine wc_true HF rfl ?_
     refine wp_sr ?_
     refine wl_mv HF rfl rfl rfl rfl rfl ?_; clear HF a; intro a HF
     refine wl_as HF rfl rfl rfl rfl rfl ?_; clear HF a; intro a HF
     refine wl_ne ?_
     refine wp_ret ?_
     refine ex_then_ret ?_
     refine ex_block_ret ?_
     refine ex_then_ret ?_
     refine bp_ret1 HF Tryz.results22 (HF.res rfl) ?_
     replace HS : Bx (St w0 (rdA rb ab n cb (B + 1 + 120 + 1) :: rowA encS 1 9 (.slice (some ⟨b10, 0, none⟩) 4 4) ([(⟨#[104, 101, 108, 108, 111]⟩ : ByteArray), (⟨#[120]⟩ : ByteArray), (⟨#[97, 97, 97, 97]⟩ : ByteArray), (⟨#[101, 110, 100]⟩ : ByteArray)]) :: boxA b9 5 24 (.agg #[.int .i64 do8.fKind, .string do8.fPath, .string do8.fTo, .int .i64 do8.fAt, .string (([(⟨#[104, 101, 108, 108, 111]⟩ : ByteArray), (⟨#[120]⟩ : ByteArray), (⟨#[97, 97, 97, 97]⟩ : ByteArray), (⟨#[101, 110, 100]⟩ : ByteArray)]).getD dn11 ByteArray.empty)]) :: F) _) := ⟨(HS.out).pick 0 rfl⟩
     replace HS : Bx (St w0 (rdA rb ab n cb (B + 200) :: rowA encS 1 9 (.slice (some ⟨b10, 0, none⟩) 4 4) ([(⟨#[104, 101, 108, 108, 111]⟩ : ByteArray), (⟨#[120]⟩ : ByteArray), (⟨#[97, 97, 97, 97]⟩ : ByteArray), (⟨#[101, 110, 100]⟩ : ByteArray)]) :: boxA b9 5 24 (.agg #[.int .i64 do8.fKind, .string do8.fPath, .string do8.fTo, .int .i64 do8.fAt, .string (([(⟨#[104, 101, 108, 108, 111]⟩ : ByteArray), (⟨#[120]⟩ : ByteArray), (⟨#[97, 97, 97, 97]⟩ : ByteArray), (⟨#[101, 110, 100]⟩ : ByteArray)]).getD dn11 ByteArray.empty)]) :: F) _) := ⟨HS.out.rdLe (by omega)⟩
     exact ⟨_, rfl, (by first | omega | decide | exact Nat.le_trans (getD_le (m := 8) (by decide) _) (by decide) | exact Nat.le_trans (getD_le (m := 20) (by decide) _) (by decide) | (have := getD_le (xs := [(⟨#[104, 101, 108, 108, 111]⟩ : ByteArray), (⟨#[120]⟩ : ByteArray), (⟨#[97, 97, 97, 97]⟩ : ByteArray), (⟨#[101, 110, 100]⟩ : ByteArray)]) (m := 20) (by decide) dn11; (try simp only [app_size, lit_size, List.size_toArray, List.length_cons, List.length_nil]); omega)), ((HS.out.erase 2).erase 1)⟩
    ·clear HF; have HF := HF1; clear HF1
     refine wc_false HF rfl ?_
     refine wp_skip ?_
     refine ex_then ?_
     refine wp_sr ?_
     refine wl_as HF rfl rfl rfl rfl rfl ?_; clear HF a; intro a HF
     refine wl_ne ?_
     refine wp_ret ?_
     refine ex_block_ret ?_
     refine ex_then_ret ?_
     refine bp_ret1 HF Tryz.results22 (HF.res rfl) ?_
     replace HS : Bx (St w0 (rdA rb ab n cb (B + 1 + 120 + 1) :: rowA encS 1 9 (.slice (some ⟨b10, 0, none⟩) 4 4) ([(⟨#[104, 101, 108, 108, 111]⟩ : ByteArray), (⟨#[120]⟩ : ByteArray), (⟨#[97, 97, 97, 97]⟩ : ByteArray), (⟨#[101, 110, 100]⟩ : ByteArray)]) :: boxA b9 5 24 (.agg #[.int .i64 do8.fKind, .string do8.fPath, .string do8.fTo, .int .i64 do8.fAt, .string (([(⟨#[104, 101, 108, 108, 111]⟩ : ByteArray), (⟨#[120]⟩ : ByteArray), (⟨#[97, 97, 97, 97]⟩ : ByteArray), (⟨#[101, 110, 100]⟩ : ByteArray)]).getD dn11 ByteArray.empty)]) :: F) _) := ⟨(HS.out).pick 0 rfl⟩
     replace HS : Bx (St w0 (rdA rb ab n cb (B + 200) :: rowA encS 1 9 (.slice (some ⟨b10, 0, none⟩) 4 4) ([(⟨#[104, 101, 108, 108, 111]⟩ : ByteArray), (⟨#[120]⟩ : ByteArray), (⟨#[97, 97, 97, 97]⟩ : ByteArray), (⟨#[101, 110, 100]⟩ : ByteArray)]) :: boxA b9 5 24 (.agg #[.int .i64 do8.fKind, .string do8.fPath, .string do8.fTo, .int .i64 do8.fAt, .string (([(⟨#[104, 101, 108, 108, 111]⟩ : ByteArray), (⟨#[120]⟩ : ByteArray), (⟨#[97, 97, 97, 97]⟩ : ByteArray), (⟨#[101, 110, 100]⟩ : ByteArray)]).getD dn11 ByteArray.empty)]) :: F) _) := ⟨HS.out.rdLe (by omega)⟩
     exact ⟨_, rfl, (by first | omega | decide | exact Nat.le_trans (getD_le (m := 8) (by decide) _) (by decide) | exact Nat.le_trans (getD_le (m := 20) (by decide) _) (by decide) | (have := getD_le (xs := [(⟨#[104, 101, 108, 108, 111]⟩ : ByteArray), (⟨#[120]⟩ : ByteArray), (⟨#[97, 97, 97, 97]⟩ : ByteArray), (⟨#[101, 110, 100]⟩ : ByteArray)]) (m := 20) (by decide) dn11; (try simp only [app_size, lit_size, List.size_toArray, List.length_cons, List.length_nil]); omega)), ((HS.out.erase 2).erase 1)⟩
   ·clear HF; have HF := HF1; clear HF1
    have dcc6 := ne_of_beq_false cc6
    refine wc_false HF rfl ?_
    refine wp_skip ?_
    refine ex_then ?_
    refine wp_sr ?_
    refine wl_y rfl HF rfl rfl (yl_loadR (cs := [.int .i64 do8.fKind, .string do8.fPath, .string do8.fTo, .int .i64 do8.fAt, .string do8.fText]) rfl (HF.ev rfl) ((HS.out.box 0 rfl).sub 0 5) (by kernel_rfl)) ?_; clear HF a; intro a HF
    refine wl_call rfl HF rfl (enter_of Tryz.func7 (by kernel_rfl) rfl) (args := #[.agg #[.int .i64 do8.fKind, .string do8.fPath, .string do8.fTo, .int .i64 do8.fAt, .string do8.fText]]) rfl (specShellSay_any (⟨do8.fKind, do8.fPath, do8.fTo, do8.fAt, do8.fText⟩ : OpD) _ (show (do8.fPath).size ≤ 1048576 by first | omega | exact Nat.le_trans (getD_le (m := 100) (by decide) _) (by decide)) (show (do8.fTo).size ≤ 1048576 by first | omega | exact Nat.le_trans (getD_le (m := 100) (by decide) _) (by decide)) (show (do8.fText).size ≤ 1048576 by first | omega | exact Nat.le_trans (getD_le (m := 100) (by decide) _) (by decide))) rfl rfl ?_
    rintro _ w17 ⟨rfl, hb⟩
    have ht13 := sayF_size (⟨do8.fKind, do8.fPath, do8.fTo, do8.fAt, do8.fText⟩ : OpD); generalize sayF (⟨do8.fKind, do8.fPath, do8.fTo, do8.fAt, do8.fText⟩ : OpD) = dt13 at ht13; refine ⟨_, rfl, ?_⟩; replace HS := Bx.mk (HS.out.later hb); clear hb HF; clear a; intro a HF
    refine wl_as HF rfl rfl rfl rfl rfl ?_; clear HF a; intro a HF
    refine wl_ne ?_
    refine wp_seq ?_
    refine wp_sr ?_
    refine wl_mv HF rfl rfl rfl rfl rfl ?_; clear HF a; intro a HF
    refine wl_y rfl HF rfl rfl (yl_neqS rfl (HF.ev rfl) (HF.ev rfl)) ?_; clear HF a; intro a HF
    refine wl_ne ?_
    refine HF.cases 29 rfl (fun cc8 HF1 => ?_) (fun cc8 HF1 => ?_)
    ·clear HF; have HF := HF1; clear HF1
     refine wc_true HF rfl ?_
     refine wp_sr ?_
     refine wl_mv HF rfl rfl rfl rfl rfl ?_; clear HF a; intro a HF
     refine wl_as HF rfl rfl rfl rfl rfl ?_; clear HF a; intro a HF
     refine wl_ne ?_
     refine wp_ret ?_
     refine ex_then_ret ?_
     refine ex_block_ret ?_
     refine ex_then_ret ?_
     refine bp_ret1 HF Tryz.results22 (HF.res rfl) ?_
     replace HS : Bx (St w0 (rdA rb ab n cb (B + 1 + 120) :: boxA b9 5 24 (.agg #[.int .i64 do8.fKind, .string do8.fPath, .string do8.fTo, .int .i64 do8.fAt, .string do8.fText]) :: F) _) := ⟨(HS.out).pick 1 rfl⟩
     replace HS : Bx (St w0 (rdA rb ab n cb (B + 200) :: boxA b9 5 24 (.agg #[.int .i64 do8.fKind, .string do8.fPath, .string do8.fTo, .int .i64 do8.fAt, .string do8.fText]) :: F) _) := ⟨HS.out.rdLe (by omega)⟩
     exact ⟨_, rfl, (by first | omega | decide | exact Nat.le_trans (getD_le (m := 8) (by decide) _) (by decide) | exact Nat.le_trans (getD_le (m := 20) (by decide) _) (by decide) | ((try simp only [app_size, lit_size, List.size_toArray, List.length_cons, List.length_nil]); omega)), (HS.out.erase 1)⟩
    ·clear HF; have HF := HF1; clear HF1
     refine wc_false HF rfl ?_
     refine wp_skip ?_
     refine ex_then ?_
     refine wp_sr ?_
     refine wl_as HF rfl rfl rfl rfl rfl ?_; clear HF a; intro a HF
     refine wl_ne ?_
     refine wp_ret ?_
     refine ex_block_ret ?_
     refine ex_then_ret ?_
     refine bp_ret1 HF Tryz.results22 (HF.res rfl) ?_
     replace HS : Bx (St w0 (rdA rb ab n cb (B + 1 + 120) :: boxA b9 5 24 (.agg #[.int .i64 do8.fKind, .string do8.fPath, .string do8.fTo, .int .i64 do8.fAt, .string do8.fText]) :: F) _) := ⟨(HS.out).pick 1 rfl⟩
     replace HS : Bx (St w0 (rdA rb ab n cb (B + 200) :: boxA b9 5 24 (.agg #[.int .i64 do8.fKind, .string do8.fPath, .string do8.fTo, .int .i64 do8.fAt, .string do8.fText]) :: F) _) := ⟨HS.out.rdLe (by omega)⟩
     exact ⟨_, rfl, (by first | omega | decide | exact Nat.le_trans (getD_le (m := 8) (by decide) _) (by decide) | exact Nat.le_trans (getD_le (m := 20) (by decide) _) (by decide) | ((try simp only [app_size, lit_size, List.size_toArray, List.length_cons, List.length_nil]); omega)), (HS.out.erase 1)⟩
  ·clear HF; have HF := HF1; clear HF1
   have dcc5 := ne_of_beq_false cc5
   refine wc_false HF rfl ?_
   refine wp_sr ?_
   refine wl_y rfl HF rfl rfl (yl_eqlI rfl (HF.ev rfl) (HF.ev rfl)) ?_; clear HF a; intro a HF
   refine wl_as HF rfl rfl rfl rfl rfl ?_; clear HF a; intro a HF
   refine wl_ne ?_
   refine HF.cases 7 rfl (fun cc9 HF1 => ?_) (fun cc9 HF1 => ?_)
   ·clear HF; have HF := HF1; clear HF1
    have dcc9 := eq_of_beq cc9
    refine wc_true HF rfl ?_
    refine wp_skip ?_
    refine ex_then ?_
    refine wc_true HF rfl ?_
    refine wp_sr ?_
    refine wl_mv HF rfl rfl rfl rfl rfl ?_; clear HF a; intro a HF
    replace HS : Bx (St w0 (rdA rb ab n cb (B + 1) :: F) _) := ⟨(HS.out).pick 0 rfl⟩
    refine wl_call rfl HF rfl (enter_of Tryz.func13 (by kernel_rfl) rfl) (args := #[.pointer (some ⟨rb, 0, none⟩)]) rfl (l92Op_any w0 _ rb ab n cb bs hn hR (B + 1) (by omega) _ HS.out) rfl rfl ?_
    rintro _ w18 ⟨do14, rfl, hoa14, hob14, hoc14, hs1⟩
    refine ⟨_, rfl, ?_⟩; replace HS := Bx.mk hs1; clear hs1 HF; clear a; intro a HF
    replace HS : Bx (St w0 (rdA rb ab n cb (B + 1 + 120) :: F) _) := ⟨HS.out⟩
    refine wl_alloc rfl HF rfl rfl rfl (Z := [.int .i64 0, .string ByteArray.empty, .string ByteArray.empty, .int .i64 0, .string ByteArray.empty]) (by kernel_rfl) rfl HS.out ?_; clear HF HS a; intro a w19 b15 HF HS; replace HS := Bx.mk HS
    refine wl_storeBox rfl HF rfl rfl (HF.ev rfl) (HF.ev rfl) HS.out 0 rfl (cells_lit [.int .i64 do14.fKind, .string do14.fPath, .string do14.fTo, .int .i64 do14.fAt, .string do14.fText] rfl rfl) (by kernel_rfl) ?_; clear HS; intro w20 HS; replace HS := Bx.mk HS
    have HS : Bx (St w0 (boxA b15 5 24 (.agg #[.int .i64 do14.fKind, .string do14.fPath, .string do14.fTo, .int .i64 do14.fAt, .string do14.fText]) :: rdA rb ab n cb (B + 1 + 120) :: F) _) := HS
    refine wl_ne ?_
    refine wp_seq ?_
    refine wp_sr ?_
    refine wl_y rfl HF rfl rfl (yl_fieldAddr (j := 0) rfl (HF.ev rfl) (by kernel_rfl)) ?_; clear HF a; intro a HF
    refine wl_y rfl HF rfl rfl (yl_load (v := .int .i64 do14.fKind) rfl (HF.ev rfl) (((HS.out.box 0 rfl).cell 0).trans rfl) (by kernel_rfl)) ?_; clear HF a; intro a HF
    refine wl_y rfl HF rfl rfl (yl_eqlI rfl (HF.ev rfl) (HF.ev rfl)) ?_; clear HF a; intro a HF
    refine wl_ne ?_
    refine HF.cases 19 rfl (fun cc10 HF1 => ?_) (fun cc10 HF1 => ?_)
    ·clear HF; have HF := HF1; clear HF1
     have dcc10 := eq_of_beq cc10
     refine wc_true HF rfl ?_
     refine wp_region_lit ?_
     refine wl_buildS (enc := encS) (e := 9) (size := 1) rfl HF rfl rfl rfl (ps := [(0, .string (⟨#[104, 101, 108, 108, 111]⟩ : ByteArray)), (1, .string (⟨#[120]⟩ : ByteArray)), (2, .string (⟨#[97, 97, 97, 97]⟩ : ByteArray)), (3, .string (⟨#[101, 110, 100]⟩ : ByteArray))]) rfl (cells := [.string (⟨#[104, 101, 108, 108, 111]⟩ : ByteArray), .string (⟨#[120]⟩ : ByteArray), .string (⟨#[97, 97, 97, 97]⟩ : ByteArray), .string (⟨#[101, 110, 100]⟩ : ByteArray)]) (by kernel_rfl) [(⟨#[104, 101, 108, 108, 111]⟩ : ByteArray), (⟨#[120]⟩ : ByteArray), (⟨#[97, 97, 97, 97]⟩ : ByteArray), (⟨#[101, 110, 100]⟩ : ByteArray)] rfl rfl (by unfold maxLen; omega) rfl HS.out ?_; clear HF HS a; intro b16 a w21 HF HS; replace HS := Bx.mk HS
     refine wl_mv HF rfl rfl rfl rfl rfl ?_; clear HF a; intro a HF
     replace HS : Bx (St w0 (rdA rb ab n cb (B + 1 + 120) :: rowA encS 1 9 (.slice (some ⟨b16, 0, none⟩) 4 4) ([(⟨#[104, 101, 108, 108, 111]⟩ : ByteArray), (⟨#[120]⟩ : ByteArray), (⟨#[97, 97, 97, 97]⟩ : ByteArray), (⟨#[101, 110, 100]⟩ : ByteArray)]) :: boxA b15 5 24 (.agg #[.int .i64 do14.fKind, .string do14.fPath, .string do14.fTo, .int .i64 do14.fAt, .string do14.fText]) :: F) _) := ⟨(HS.out).pick 2 rfl⟩
     refine wl_call rfl HF rfl (enter_of Tryz.func26 (by kernel_rfl) rfl) (args := #[.pointer (some ⟨rb, 0, none⟩), .int .i64 4]) rfl (pickN w0 _ rb ab n cb bs hn hR (B + 1 + 120) (by omega) 4 (by omega) _ HS.out) rfl rfl ?_
     rintro _ w22 ⟨dn17, rfl, hu17, hs1⟩
     refine ⟨_, rfl, ?_⟩; replace HS := Bx.mk hs1; clear hs1 HF; clear a; intro a HF
     replace HS : Bx (St w0 (rdA rb ab n cb (B + 1 + 120 + 1) :: rowA encS 1 9 (.slice (some ⟨b16, 0, none⟩) 4 4) ([(⟨#[104, 101, 108, 108, 111]⟩ : ByteArray), (⟨#[120]⟩ : ByteArray), (⟨#[97, 97, 97, 97]⟩ : ByteArray), (⟨#[101, 110, 100]⟩ : ByteArray)]) :: boxA b15 5 24 (.agg #[.int .i64 do14.fKind, .string do14.fPath, .string do14.fTo, .int .i64 do14.fAt, .string do14.fText]) :: F) _) := ⟨HS.out⟩
     refine wl_y rfl HF rfl rfl (yl_indexAddr (e := 9) (i := dn17) (size := 1) rfl (HF.ev rfl) (HF.ev rfl) (by kernel_rfl) rfl (by omega)) ?_; clear HF a; intro a HF
     refine wl_y rfl HF rfl rfl (yl_load (v := .string (([(⟨#[104, 101, 108, 108, 111]⟩ : ByteArray), (⟨#[120]⟩ : ByteArray), (⟨#[97, 97, 97, 97]⟩ : ByteArray), (⟨#[101, 110, 100]⟩ : ByteArray)]).getD dn17 ByteArray.empty)) rfl (HF.ev rfl) (HS.out.elem1 encS_len 1 rfl (get_getD (xs := [(⟨#[104, 101, 108, 108, 111]⟩ : ByteArray), (⟨#[120]⟩ : ByteArray), (⟨#[97, 97, 97, 97]⟩ : ByteArray), (⟨#[101, 110, 100]⟩ : ByteArray)]) (j := dn17) (d := ByteArray.empty) (by (try simp only [List.length_cons, List.length_nil]); omega)) rfl) (by kernel_rfl)) ?_; clear HF a; intro a HF
     refine wl_y rfl HF rfl rfl (yl_fieldAddr (j := 4) rfl (HF.ev rfl) (by kernel_rfl)) ?_; clear HF a; intro a HF
     refine wl_storeF rfl rfl rfl (HF.ev rfl) (HF.ev rfl) (by kernel_rfl) HS.out 2 rfl rfl rfl ?_; clear HS; intro w23 HS; replace HS := Bx.mk HS
     have HS : Bx (St w0 (rdA rb ab n cb (B + 1 + 120 + 1) :: rowA encS 1 9 (.slice (some ⟨b16, 0, none⟩) 4 4) ([(⟨#[104, 101, 108, 108, 111]⟩ : ByteArray), (⟨#[120]⟩ : ByteArray), (⟨#[97, 97, 97, 97]⟩ : ByteArray), (⟨#[101, 110, 100]⟩ : ByteArray)]) :: boxA b15 5 24 (.agg #[.int .i64 do14.fKind, .string do14.fPath, .string do14.fTo, .int .i64 do14.fAt, .string (([(⟨#[104, 101, 108, 108, 111]⟩ : ByteArray), (⟨#[120]⟩ : ByteArray), (⟨#[97, 97, 97, 97]⟩ : ByteArray), (⟨#[101, 110, 100]⟩ : ByteArray)]).getD dn17 ByteArray.empty)]) :: F) _) := HS
     refine wl_ne ?_
     refine wp_sr ?_
     refine wl_y rfl HF rfl rfl (yl_loadR (cs := [.int .i64 do14.fKind, .string do14.fPath, .string do14.fTo, .int .i64 do14.fAt, .string (([(⟨#[104, 101, 108, 108, 111]⟩ : ByteArray), (⟨#[120]⟩ : ByteArray), (⟨#[97, 97, 97, 97]⟩ : ByteArray), (⟨#[101, 110, 100]⟩ : ByteArray)]).getD dn17 ByteArray.empty)]) rfl (HF.ev rfl) ((HS.out.box 2 rfl).sub 0 5) (by kernel_rfl)) ?_; clear HF a; intro a HF
     refine wl_call rfl HF rfl (enter_of Tryz.func7 (by kernel_rfl) rfl) (args := #[.agg #[.int .i64 do14.fKind, .string do14.fPath, .string do14.fTo, .int .i64 do14.fAt, .string (([(⟨#[104, 101, 108, 108, 111]⟩ : ByteArray), (⟨#[120]⟩ : ByteArray), (⟨#[97, 97, 97, 97]⟩ : ByteArray), (⟨#[101, 110, 100]⟩ : ByteArray)]).getD dn17 ByteArray.empty)]]) rfl (specShellSay_any (⟨do14.fKind, do14.fPath, do14.fTo, do14.fAt, (([(⟨#[104, 101, 108, 108, 111]⟩ : ByteArray), (⟨#[120]⟩ : ByteArray), (⟨#[97, 97, 97, 97]⟩ : ByteArray), (⟨#[101, 110, 100]⟩ : ByteArray)]).getD dn17 ByteArray.empty)⟩ : OpD) _ (show (do14.fPath).size ≤ 1048576 by first | omega | exact Nat.le_trans (getD_le (m := 100) (by decide) _) (by decide)) (show (do14.fTo).size ≤ 1048576 by first | omega | exact Nat.le_trans (getD_le (m := 100) (by decide) _) (by decide)) (show ((([(⟨#[104, 101, 108, 108, 111]⟩ : ByteArray), (⟨#[120]⟩ : ByteArray), (⟨#[97, 97, 97, 97]⟩ : ByteArray), (⟨#[101, 110, 100]⟩ : ByteArray)]).getD dn17 ByteArray.empty)).size ≤ 1048576 by first | omega | exact Nat.le_trans (getD_le (m := 100) (by decide) _) (by decide))) rfl rfl ?_
     rintro _ w24 ⟨rfl, hb⟩
     have ht18 := sayF_size (⟨do14.fKind, do14.fPath, do14.fTo, do14.fAt, (([(⟨#[104, 101, 108, 108, 111]⟩ : ByteArray), (⟨#[120]⟩ : ByteArray), (⟨#[97, 97, 97, 97]⟩ : ByteArray), (⟨#[101, 110, 100]⟩ : ByteArray)]).getD dn17 ByteArray.empty)⟩ : OpD); generalize sayF (⟨do14.fKind, do14.fPath, do14.fTo, do14.fAt, (([(⟨#[104, 101, 108, 108, 111]⟩ : ByteArray), (⟨#[120]⟩ : ByteArray), (⟨#[97, 97, 97, 97]⟩ : ByteArray), (⟨#[101, 110, 100]⟩ : ByteArray)]).getD dn17 ByteArray.empty)⟩ : OpD) = dt18 at ht18; refine ⟨_, rfl, ?_⟩; replace HS := Bx.mk (HS.out.later hb); clear hb HF; clear a; intro a HF
     refine wl_as HF rfl rfl rfl rfl rfl ?_; clear HF a; intro a HF
     refine wl_ne ?_
     refine wp_seq ?_
     refine wp_sr ?_
     refine wl_mv HF rfl rfl rfl rfl rfl ?_; clear HF a; intro a HF
     refine wl_y rfl HF rfl rfl (yl_neqS rfl (HF.ev rfl) (HF.ev rfl)) ?_; clear HF a; intro a HF
     refine wl_ne ?_
     refine HF.cases 29 rfl (fun cc11 HF1 => ?_) (fun cc11 HF1 => ?_)
     ·clear HF; have HF := HF1; clear HF1
      refine wc_true HF rfl ?_
      refine wp_sr ?_
      refine wl_mv HF rfl rfl rfl rfl rfl ?_; clear HF a; intro a HF
      refine wl_as HF rfl rfl rfl rfl rfl ?_; clear HF a; intro a HF
      refine wl_ne ?_
      refine wp_ret ?_
      refine ex_then_ret ?_
      refine ex_block_ret ?_
      refine ex_then_ret ?_
      refine bp_ret1 HF Tryz.results22 (HF.res rfl) ?_
      replace HS : Bx (St w0 (rdA rb ab n cb (B + 1 + 120 + 1) :: rowA encS 1 9 (.slice (some ⟨b16, 0, none⟩) 4 4) ([(⟨#[104, 101, 108, 108, 111]⟩ : ByteArray), (⟨#[120]⟩ : ByteArray), (⟨#[97, 97, 97, 97]⟩ : ByteArray), (⟨#[101, 110, 100]⟩ : ByteArray)]) :: boxA b15 5 24 (.agg #[.int .i64 do14.fKind, .string do14.fPath, .string do14.fTo, .int .i64 do14.fAt, .string (([(⟨#[104, 101, 108, 108, 111]⟩ : ByteArray), (⟨#[120]⟩ : ByteArray), (⟨#[97, 97, 97, 97]⟩ : ByteArray), (⟨#[101, 110, 100]⟩ : ByteArray)]).getD dn17 ByteArray.empty)]) :: F) _) := ⟨(HS.out).pick 0 rfl⟩
      replace HS : Bx (St w0 (rdA rb ab n cb (B + 200) :: rowA encS 1 9 (.slice (some ⟨b16, 0, none⟩) 4 4) ([(⟨#[104, 101, 108, 108, 111]⟩ : ByteArray), (⟨#[120]⟩ : ByteArray), (⟨#[97, 97, 97, 97]⟩ : ByteArray), (⟨#[101, 110, 100]⟩ : ByteArray)]) :: boxA b15 5 24 (.agg #[.int .i64 do14.fKind, .string do14.fPath, .string do14.fTo, .int .i64 do14.fAt, .string (([(⟨#[104, 101, 108, 108, 111]⟩ : ByteArray), (⟨#[120]⟩ : ByteArray), (⟨#[97, 97, 97, 97]⟩ : ByteArray), (⟨#[101, 110, 100]⟩ : ByteArray)]).getD dn17 ByteArray.empty)]) :: F) _) := ⟨HS.out.rdLe (by omega)⟩
      exact ⟨_, rfl, (by first | omega | decide | exact Nat.le_trans (getD_le (m := 8) (by decide) _) (by decide) | exact Nat.le_trans (getD_le (m := 20) (by decide) _) (by decide) | (have := getD_le (xs := [(⟨#[104, 101, 108, 108, 111]⟩ : ByteArray), (⟨#[120]⟩ : ByteArray), (⟨#[97, 97, 97, 97]⟩ : ByteArray), (⟨#[101, 110, 100]⟩ : ByteArray)]) (m := 20) (by decide) dn17; (try simp only [app_size, lit_size, List.size_toArray, List.length_cons, List.length_nil]); omega)), ((HS.out.erase 2).erase 1)⟩
     ·clear HF; have HF := HF1; clear HF1
      refine wc_false HF rfl ?_
      refine wp_skip ?_
      refine ex_then ?_
      refine wp_sr ?_
      refine wl_as HF rfl rfl rfl rfl rfl ?_; clear HF a; intro a HF
      refine wl_ne ?_
      refine wp_ret ?_
      refine ex_block_ret ?_
      refine ex_then_ret ?_
      refine bp_ret1 HF Tryz.results22 (HF.res rfl) ?_
      replace HS : Bx (St w0 (rdA rb ab n cb (B + 1 + 120 + 1) :: rowA encS 1 9 (.slice (some ⟨b16, 0, none⟩) 4 4) ([(⟨#[104, 101, 108, 108, 111]⟩ : ByteArray), (⟨#[120]⟩ : ByteArray), (⟨#[97, 97, 97, 97]⟩ : ByteArray), (⟨#[101, 110, 100]⟩ : ByteArray)]) :: boxA b15 5 24 (.agg #[.int .i64 do14.fKind, .string do14.fPath, .string do14.fTo, .int .i64 do14.fAt, .string (([(⟨#[104, 101, 108, 108, 111]⟩ : ByteArray), (⟨#[120]⟩ : ByteArray), (⟨#[97, 97, 97, 97]⟩ : ByteArray), (⟨#[101, 110, 100]⟩ : ByteArray)]).getD dn17 ByteArray.empty)]) :: F) _) := ⟨(HS.out).pick 0 rfl⟩
      replace HS : Bx (St w0 (rdA rb ab n cb (B + 200) :: rowA encS 1 9 (.slice (some ⟨b16, 0, none⟩) 4 4) ([(⟨#[104, 101, 108, 108, 111]⟩ : ByteArray), (⟨#[120]⟩ : ByteArray), (⟨#[97, 97, 97, 97]⟩ : ByteArray), (⟨#[101, 110, 100]⟩ : ByteArray)]) :: boxA b15 5 24 (.agg #[.int .i64 do14.fKind, .string do14.fPath, .string do14.fTo, .int .i64 do14.fAt, .string (([(⟨#[104, 101, 108, 108, 111]⟩ : ByteArray), (⟨#[120]⟩ : ByteArray), (⟨#[97, 97, 97, 97]⟩ : ByteArray), (⟨#[101, 110, 100]⟩ : ByteArray)]).getD dn17 ByteArray.empty)]) :: F) _) := ⟨HS.out.rdLe (by omega)⟩
      exact ⟨_, rfl, (by first | omega | decide | exact Nat.le_trans (getD_le (m := 8) (by decide) _) (by decide) | exact Nat.le_trans (getD_le (m := 20) (by decide) _) (by decide) | (have := getD_le (xs := [(⟨#[104, 101, 108, 108, 111]⟩ : ByteArray), (⟨#[120]⟩ : ByteArray), (⟨#[97, 97, 97, 97]⟩ : ByteArray), (⟨#[101, 110, 100]⟩ : ByteArray)]) (m := 20) (by decide) dn17; (try simp only [app_size, lit_size, List.size_toArray, List.length_cons, List.length_nil]); omega)), ((HS.out.erase 2).erase 1)⟩
    ·clear HF; have HF := HF1; clear HF1
     have dcc10 := ne_of_beq_false cc10
     refine wc_false HF rfl ?_
     refine wp_skip ?_
     refine ex_then ?_
     refine wp_sr ?_
     refine wl_y rfl HF rfl rfl (yl_loadR (cs := [.int .i64 do14.fKind, .string do14.fPath, .string do14.fTo, .int .i64 do14.fAt, .string do14.fText]) rfl (HF.ev rfl) ((HS.out.box 0 rfl).sub 0 5) (by kernel_rfl)) ?_; clear HF a; intro a HF
     refine wl_call rfl HF rfl (enter_of Tryz.func7 (by kernel_rfl) rfl) (args := #[.agg #[.int .i64 do14.fKind, .string do14.fPath, .string do14.fTo, .int .i64 do14.fAt, .string do14.fText]]) rfl (specShellSay_any (⟨do14.fKind, do14.fPath, do14.fTo, do14.fAt, do14.fText⟩ : OpD) _ (show (do14.fPath).size ≤ 1048576 by first | omega | exact Nat.le_trans (getD_le (m := 100) (by decide) _) (by decide)) (show (do14.fTo).size ≤ 1048576 by first | omega | exact Nat.le_trans (getD_le (m := 100) (by decide) _) (by decide)) (show (do14.fText).size ≤ 1048576 by first | omega | exact Nat.le_trans (getD_le (m := 100) (by decide) _) (by decide))) rfl rfl ?_
     rintro _ w25 ⟨rfl, hb⟩
     have ht19 := sayF_size (⟨do14.fKind, do14.fPath, do14.fTo, do14.fAt, do14.fText⟩ : OpD); generalize sayF (⟨do14.fKind, do14.fPath, do14.fTo, do14.fAt, do14.fText⟩ : OpD) = dt19 at ht19; refine ⟨_, rfl, ?_⟩; replace HS := Bx.mk (HS.out.later hb); clear hb HF; clear a; intro a HF
     refine wl_as HF rfl rfl rfl rfl rfl ?_; clear HF a; intro a HF
     refine wl_ne ?_
     refine wp_seq ?_
     refine wp_sr ?_
     refine wl_mv HF rfl rfl rfl rfl rfl ?_; clear HF a; intro a HF
     refine wl_y rfl HF rfl rfl (yl_neqS rfl (HF.ev rfl) (HF.ev rfl)) ?_; clear HF a; intro a HF
     refine wl_ne ?_
     refine HF.cases 29 rfl (fun cc12 HF1 => ?_) (fun cc12 HF1 => ?_)
     ·clear HF; have HF := HF1; clear HF1
      refine wc_true HF rfl ?_
      refine wp_sr ?_
      refine wl_mv HF rfl rfl rfl rfl rfl ?_; clear HF a; intro a HF
      refine wl_as HF rfl rfl rfl rfl rfl ?_; clear HF a; intro a HF
      refine wl_ne ?_
      refine wp_ret ?_
      refine ex_then_ret ?_
      refine ex_block_ret ?_
      refine ex_then_ret ?_
      refine bp_ret1 HF Tryz.results22 (HF.res rfl) ?_
      replace HS : Bx (St w0 (rdA rb ab n cb (B + 1 + 120) :: boxA b15 5 24 (.agg #[.int .i64 do14.fKind, .string do14.fPath, .string do14.fTo, .int .i64 do14.fAt, .string do14.fText]) :: F) _) := ⟨(HS.out).pick 1 rfl⟩
      replace HS : Bx (St w0 (rdA rb ab n cb (B + 200) :: boxA b15 5 24 (.agg #[.int .i64 do14.fKind, .string do14.fPath, .string do14.fTo, .int .i64 do14.fAt, .string do14.fText]) :: F) _) := ⟨HS.out.rdLe (by omega)⟩
      exact ⟨_, rfl, (by first | omega | decide | exact Nat.le_trans (getD_le (m := 8) (by decide) _) (by decide) | exact Nat.le_trans (getD_le (m := 20) (by decide) _) (by decide) | ((try simp only [app_size, lit_size, List.size_toArray, List.length_cons, List.length_nil]); omega)), (HS.out.erase 1)⟩
     ·clear HF; have HF := HF1; clear HF1
      refine wc_false HF rfl ?_
      refine wp_skip ?_
      refine ex_then ?_
      refine wp_sr ?_
      refine wl_as HF rfl rfl rfl rfl rfl ?_; clear HF a; intro a HF
      refine wl_ne ?_
      refine wp_ret ?_
      refine ex_block_ret ?_
      refine ex_then_ret ?_
      refine bp_ret1 HF Tryz.results22 (HF.res rfl) ?_
      replace HS : Bx (St w0 (rdA rb ab n cb (B + 1 + 120) :: boxA b15 5 24 (.agg #[.int .i64 do14.fKind, .string do14.fPath, .string do14.fTo, .int .i64 do14.fAt, .string do14.fText]) :: F) _) := ⟨(HS.out).pick 1 rfl⟩
      replace HS : Bx (St w0 (rdA rb ab n cb (B + 200) :: boxA b15 5 24 (.agg #[.int .i64 do14.fKind, .string do14.fPath, .string do14.fTo, .int .i64 do14.fAt, .string do14.fText]) :: F) _) := ⟨HS.out.rdLe (by omega)⟩
      exact ⟨_, rfl, (by first | omega | decide | exact Nat.le_trans (getD_le (m := 8) (by decide) _) (by decide) | exact Nat.le_trans (getD_le (m := 20) (by decide) _) (by decide) | ((try simp only [app_size, lit_size, List.size_toArray, List.length_cons, List.length_nil]); omega)), (HS.out.erase 1)⟩
   ·clear HF; have HF := HF1; clear HF1
    have dcc9 := ne_of_beq_false cc9
    refine wc_false HF rfl ?_
    refine wp_sr ?_
    refine wl_y rfl HF rfl rfl (yl_eqlI rfl (HF.ev rfl) (HF.ev rfl)) ?_; clear HF a; intro a HF
    refine wl_as HF rfl rfl rfl rfl rfl ?_; clear HF a; intro a HF
    refine wl_ne ?_
    refine HF.cases 7 rfl (fun cc13 HF1 => ?_) (fun cc13 HF1 => ?_)
    ·clear HF; have HF := HF1; clear HF1
     have dcc13 := eq_of_beq cc13
     refine wc_true HF rfl ?_
     refine wp_skip ?_
     refine ex_then ?_
     refine wc_true HF rfl ?_
     refine wp_sr ?_
     refine wl_mv HF rfl rfl rfl rfl rfl ?_; clear HF a; intro a HF
     replace HS : Bx (St w0 (rdA rb ab n cb (B + 1) :: F) _) := ⟨(HS.out).pick 0 rfl⟩
     refine wl_call rfl HF rfl (enter_of Tryz.func13 (by kernel_rfl) rfl) (args := #[.pointer (some ⟨rb, 0, none⟩)]) rfl (l92Op_any w0 _ rb ab n cb bs hn hR (B + 1) (by omega) _ HS.out) rfl rfl ?_
     rintro _ w26 ⟨do20, rfl, hoa20, hob20, hoc20, hs1⟩
     refine ⟨_, rfl, ?_⟩; replace HS := Bx.mk hs1; clear hs1 HF; clear a; intro a HF
     replace HS : Bx (St w0 (rdA rb ab n cb (B + 1 + 120) :: F) _) := ⟨HS.out⟩
     refine wl_alloc rfl HF rfl rfl rfl (Z := [.int .i64 0, .string ByteArray.empty, .string ByteArray.empty, .int .i64 0, .string ByteArray.empty]) (by kernel_rfl) rfl HS.out ?_; clear HF HS a; intro a w27 b21 HF HS; replace HS := Bx.mk HS
     refine wl_storeBox rfl HF rfl rfl (HF.ev rfl) (HF.ev rfl) HS.out 0 rfl (cells_lit [.int .i64 do20.fKind, .string do20.fPath, .string do20.fTo, .int .i64 do20.fAt, .string do20.fText] rfl rfl) (by kernel_rfl) ?_; clear HS; intro w28 HS; replace HS := Bx.mk HS
     have HS : Bx (St w0 (boxA b21 5 24 (.agg #[.int .i64 do20.fKind, .string do20.fPath, .string do20.fTo, .int .i64 do20.fAt, .string do20.fText]) :: rdA rb ab n cb (B + 1 + 120) :: F) _) := HS
     refine wl_ne ?_
     refine wp_seq ?_
     refine wp_sr ?_
     refine wl_y rfl HF rfl rfl (yl_fieldAddr (j := 0) rfl (HF.ev rfl) (by kernel_rfl)) ?_; clear HF a; intro a HF
     refine wl_y rfl HF rfl rfl (yl_load (v := .int .i64 do20.fKind) rfl (HF.ev rfl) (((HS.out.box 0 rfl).cell 0).trans rfl) (by kernel_rfl)) ?_; clear HF a; intro a HF
     refine wl_y rfl HF rfl rfl (yl_eqlI rfl (HF.ev rfl) (HF.ev rfl)) ?_; clear HF a; intro a HF
     refine wl_ne ?_
     refine HF.cases 19 rfl (fun cc14 HF1 => ?_) (fun cc14 HF1 => ?_)
     ·clear HF; have HF := HF1; clear HF1
      have dcc14 := eq_of_beq cc14
      refine wc_true HF rfl ?_
      refine wp_region_lit ?_
      refine wl_buildS (enc := encS) (e := 9) (size := 1) rfl HF rfl rfl rfl (ps := [(0, .string (⟨#[104, 101, 108, 108, 111]⟩ : ByteArray)), (1, .string (⟨#[120]⟩ : ByteArray)), (2, .string (⟨#[97, 97, 97, 97]⟩ : ByteArray)), (3, .string (⟨#[101, 110, 100]⟩ : ByteArray))]) rfl (cells := [.string (⟨#[104, 101, 108, 108, 111]⟩ : ByteArray), .string (⟨#[120]⟩ : ByteArray), .string (⟨#[97, 97, 97, 97]⟩ : ByteArray), .string (⟨#[101, 110, 100]⟩ : ByteArray)]) (by kernel_rfl) [(⟨#[104, 101, 108, 108, 111]⟩ : ByteArray), (⟨#[120]⟩ : ByteArray), (⟨#[97, 97, 97, 97]⟩ : ByteArray), (⟨#[101, 110, 100]⟩ : ByteArray)] rfl rfl (by unfold maxLen; omega) rfl HS.out ?_; clear HF HS a; intro b22 a w29 HF HS; replace HS := Bx.mk HS
      refine wl_mv HF rfl rfl rfl rfl rfl ?_; clear HF a; intro a HF
      replace HS : Bx (St w0 (rdA rb ab n cb (B + 1 + 120) :: rowA encS 1 9 (.slice (some ⟨b22, 0, none⟩) 4 4) ([(⟨#[104, 101, 108, 108, 111]⟩ : ByteArray), (⟨#[120]⟩ : ByteArray), (⟨#[97, 97, 97, 97]⟩ : ByteArray), (⟨#[101, 110, 100]⟩ : ByteArray)]) :: boxA b21 5 24 (.agg #[.int .i64 do20.fKind, .string do20.fPath, .string do20.fTo, .int .i64 do20.fAt, .string do20.fText]) :: F) _) := ⟨(HS.out).pick 2 rfl⟩
      refine wl_call rfl HF rfl (enter_of Tryz.func26 (by kernel_rfl) rfl) (args := #[.pointer (some ⟨rb, 0, none⟩), .int .i64 4]) rfl (pickN w0 _ rb ab n cb bs hn hR (B + 1 + 120) (by omega) 4 (by omega) _ HS.out) rfl rfl ?_
      rintro _ w30 ⟨dn23, rfl, hu23, hs1⟩
      refine ⟨_, rfl, ?_⟩; replace HS := Bx.mk hs1; clear hs1 HF; clear a; intro a HF
      replace HS : Bx (St w0 (rdA rb ab n cb (B + 1 + 120 + 1) :: rowA encS 1 9 (.slice (some ⟨b22, 0, none⟩) 4 4) ([(⟨#[104, 101, 108, 108, 111]⟩ : ByteArray), (⟨#[120]⟩ : ByteArray), (⟨#[97, 97, 97, 97]⟩ : ByteArray), (⟨#[101, 110, 100]⟩ : ByteArray)]) :: boxA b21 5 24 (.agg #[.int .i64 do20.fKind, .string do20.fPath, .string do20.fTo, .int .i64 do20.fAt, .string do20.fText]) :: F) _) := ⟨HS.out⟩
      refine wl_y rfl HF rfl rfl (yl_indexAddr (e := 9) (i := dn23) (size := 1) rfl (HF.ev rfl) (HF.ev rfl) (by kernel_rfl) rfl (by omega)) ?_; clear HF a; intro a HF
      refine wl_y rfl HF rfl rfl (yl_load (v := .string (([(⟨#[104, 101, 108, 108, 111]⟩ : ByteArray), (⟨#[120]⟩ : ByteArray), (⟨#[97, 97, 97, 97]⟩ : ByteArray), (⟨#[101, 110, 100]⟩ : ByteArray)]).getD dn23 ByteArray.empty)) rfl (HF.ev rfl) (HS.out.elem1 encS_len 1 rfl (get_getD (xs := [(⟨#[104, 101, 108, 108, 111]⟩ : ByteArray), (⟨#[120]⟩ : ByteArray), (⟨#[97, 97, 97, 97]⟩ : ByteArray), (⟨#[101, 110, 100]⟩ : ByteArray)]) (j := dn23) (d := ByteArray.empty) (by (try simp only [List.length_cons, List.length_nil]); omega)) rfl) (by kernel_rfl)) ?_; clear HF a; intro a HF
      refine wl_y rfl HF rfl rfl (yl_fieldAddr (j := 4) rfl (HF.ev rfl) (by kernel_rfl)) ?_; clear HF a; intro a HF
      refine wl_storeF rfl rfl rfl (HF.ev rfl) (HF.ev rfl) (by kernel_rfl) HS.out 2 rfl rfl rfl ?_; clear HS; intro w31 HS; replace HS := Bx.mk HS
      have HS : Bx (St w0 (rdA rb ab n cb (B + 1 + 120 + 1) :: rowA encS 1 9 (.slice (some ⟨b22, 0, none⟩) 4 4) ([(⟨#[104, 101, 108, 108, 111]⟩ : ByteArray), (⟨#[120]⟩ : ByteArray), (⟨#[97, 97, 97, 97]⟩ : ByteArray), (⟨#[101, 110, 100]⟩ : ByteArray)]) :: boxA b21 5 24 (.agg #[.int .i64 do20.fKind, .string do20.fPath, .string do20.fTo, .int .i64 do20.fAt, .string (([(⟨#[104, 101, 108, 108, 111]⟩ : ByteArray), (⟨#[120]⟩ : ByteArray), (⟨#[97, 97, 97, 97]⟩ : ByteArray), (⟨#[101, 110, 100]⟩ : ByteArray)]).getD dn23 ByteArray.empty)]) :: F) _) := HS
      refine wl_ne ?_
      refine wp_sr ?_
      refine wl_y rfl HF rfl rfl (yl_loadR (cs := [.int .i64 do20.fKind, .string do20.fPath, .string do20.fTo, .int .i64 do20.fAt, .string (([(⟨#[104, 101, 108, 108, 111]⟩ : ByteArray), (⟨#[120]⟩ : ByteArray), (⟨#[97, 97, 97, 97]⟩ : ByteArray), (⟨#[101, 110, 100]⟩ : ByteArray)]).getD dn23 ByteArray.empty)]) rfl (HF.ev rfl) ((HS.out.box 2 rfl).sub 0 5) (by kernel_rfl)) ?_; clear HF a; intro a HF
      refine wl_call rfl HF rfl (enter_of Tryz.func7 (by kernel_rfl) rfl) (args := #[.agg #[.int .i64 do20.fKind, .string do20.fPath, .string do20.fTo, .int .i64 do20.fAt, .string (([(⟨#[104, 101, 108, 108, 111]⟩ : ByteArray), (⟨#[120]⟩ : ByteArray), (⟨#[97, 97, 97, 97]⟩ : ByteArray), (⟨#[101, 110, 100]⟩ : ByteArray)]).getD dn23 ByteArray.empty)]]) rfl (specShellSay_any (⟨do20.fKind, do20.fPath, do20.fTo, do20.fAt, (([(⟨#[104, 101, 108, 108, 111]⟩ : ByteArray), (⟨#[120]⟩ : ByteArray), (⟨#[97, 97, 97, 97]⟩ : ByteArray), (⟨#[101, 110, 100]⟩ : ByteArray)]).getD dn23 ByteArray.empty)⟩ : OpD) _ (show (do20.fPath).size ≤ 1048576 by first | omega | exact Nat.le_trans (getD_le (m := 100) (by decide) _) (by decide)) (show (do20.fTo).size ≤ 1048576 by first | omega | exact Nat.le_trans (getD_le (m := 100) (by decide) _) (by decide)) (show ((([(⟨#[104, 101, 108, 108, 111]⟩ : ByteArray), (⟨#[120]⟩ : ByteArray), (⟨#[97, 97, 97, 97]⟩ : ByteArray), (⟨#[101, 110, 100]⟩ : ByteArray)]).getD dn23 ByteArray.empty)).size ≤ 1048576 by first | omega | exact Nat.le_trans (getD_le (m := 100) (by decide) _) (by decide))) rfl rfl ?_
      rintro _ w32 ⟨rfl, hb⟩
      have ht24 := sayF_size (⟨do20.fKind, do20.fPath, do20.fTo, do20.fAt, (([(⟨#[104, 101, 108, 108, 111]⟩ : ByteArray), (⟨#[120]⟩ : ByteArray), (⟨#[97, 97, 97, 97]⟩ : ByteArray), (⟨#[101, 110, 100]⟩ : ByteArray)]).getD dn23 ByteArray.empty)⟩ : OpD); generalize sayF (⟨do20.fKind, do20.fPath, do20.fTo, do20.fAt, (([(⟨#[104, 101, 108, 108, 111]⟩ : ByteArray), (⟨#[120]⟩ : ByteArray), (⟨#[97, 97, 97, 97]⟩ : ByteArray), (⟨#[101, 110, 100]⟩ : ByteArray)]).getD dn23 ByteArray.empty)⟩ : OpD) = dt24 at ht24; refine ⟨_, rfl, ?_⟩; replace HS := Bx.mk (HS.out.later hb); clear hb HF; clear a; intro a HF
      refine wl_as HF rfl rfl rfl rfl rfl ?_; clear HF a; intro a HF
      refine wl_ne ?_
      refine wp_seq ?_
      refine wp_sr ?_
      refine wl_mv HF rfl rfl rfl rfl rfl ?_; clear HF a; intro a HF
      refine wl_y rfl HF rfl rfl (yl_neqS rfl (HF.ev rfl) (HF.ev rfl)) ?_; clear HF a; intro a HF
      refine wl_ne ?_
      refine HF.cases 29 rfl (fun cc15 HF1 => ?_) (fun cc15 HF1 => ?_)
      ·clear HF; have HF := HF1; clear HF1
       refine wc_true HF rfl ?_
       refine wp_sr ?_
       refine wl_mv HF rfl rfl rfl rfl rfl ?_; clear HF a; intro a HF
       refine wl_as HF rfl rfl rfl rfl rfl ?_; clear HF a; intro a HF
       refine wl_ne ?_
       refine wp_ret ?_
       refine ex_then_ret ?_
       refine ex_block_ret ?_
       refine ex_then_ret ?_
       refine bp_ret1 HF Tryz.results22 (HF.res rfl) ?_
       replace HS : Bx (St w0 (rdA rb ab n cb (B + 1 + 120 + 1) :: rowA encS 1 9 (.slice (some ⟨b22, 0, none⟩) 4 4) ([(⟨#[104, 101, 108, 108, 111]⟩ : ByteArray), (⟨#[120]⟩ : ByteArray), (⟨#[97, 97, 97, 97]⟩ : ByteArray), (⟨#[101, 110, 100]⟩ : ByteArray)]) :: boxA b21 5 24 (.agg #[.int .i64 do20.fKind, .string do20.fPath, .string do20.fTo, .int .i64 do20.fAt, .string (([(⟨#[104, 101, 108, 108, 111]⟩ : ByteArray), (⟨#[120]⟩ : ByteArray), (⟨#[97, 97, 97, 97]⟩ : ByteArray), (⟨#[101, 110, 100]⟩ : ByteArray)]).getD dn23 ByteArray.empty)]) :: F) _) := ⟨(HS.out).pick 0 rfl⟩
       replace HS : Bx (St w0 (rdA rb ab n cb (B + 200) :: rowA encS 1 9 (.slice (some ⟨b22, 0, none⟩) 4 4) ([(⟨#[104, 101, 108, 108, 111]⟩ : ByteArray), (⟨#[120]⟩ : ByteArray), (⟨#[97, 97, 97, 97]⟩ : ByteArray), (⟨#[101, 110, 100]⟩ : ByteArray)]) :: boxA b21 5 24 (.agg #[.int .i64 do20.fKind, .string do20.fPath, .string do20.fTo, .int .i64 do20.fAt, .string (([(⟨#[104, 101, 108, 108, 111]⟩ : ByteArray), (⟨#[120]⟩ : ByteArray), (⟨#[97, 97, 97, 97]⟩ : ByteArray), (⟨#[101, 110, 100]⟩ : ByteArray)]).getD dn23 ByteArray.empty)]) :: F) _) := ⟨HS.out.rdLe (by omega)⟩
       exact ⟨_, rfl, (by first | omega | decide | exact Nat.le_trans (getD_le (m := 8) (by decide) _) (by decide) | exact Nat.le_trans (getD_le (m := 20) (by decide) _) (by decide) | (have := getD_le (xs := [(⟨#[104, 101, 108, 108, 111]⟩ : ByteArray), (⟨#[120]⟩ : ByteArray), (⟨#[97, 97, 97, 97]⟩ : ByteArray), (⟨#[101, 110, 100]⟩ : ByteArray)]) (m := 20) (by decide) dn23; (try simp only [app_size, lit_size, List.size_toArray, List.length_cons, List.length_nil]); omega)), ((HS.out.erase 2).erase 1)⟩
      ·clear HF; have HF := HF1; clear HF1
       refine wc_false HF rfl ?_
       refine wp_skip ?_
       refine ex_then ?_
       refine wp_sr ?_
       refine wl_as HF rfl rfl rfl rfl rfl ?_; clear HF a; intro a HF
       refine wl_ne ?_
       refine wp_ret ?_
       refine ex_block_ret ?_
       refine ex_then_ret ?_
       refine bp_ret1 HF Tryz.results22 (HF.res rfl) ?_
       replace HS : Bx (St w0 (rdA rb ab n cb (B + 1 + 120 + 1) :: rowA encS 1 9 (.slice (some ⟨b22, 0, none⟩) 4 4) ([(⟨#[104, 101, 108, 108, 111]⟩ : ByteArray), (⟨#[120]⟩ : ByteArray), (⟨#[97, 97, 97, 97]⟩ : ByteArray), (⟨#[101, 110, 100]⟩ : ByteArray)]) :: boxA b21 5 24 (.agg #[.int .i64 do20.fKind, .string do20.fPath, .string do20.fTo, .int .i64 do20.fAt, .string (([(⟨#[104, 101, 108, 108, 111]⟩ : ByteArray), (⟨#[120]⟩ : ByteArray), (⟨#[97, 97, 97, 97]⟩ : ByteArray), (⟨#[101, 110, 100]⟩ : ByteArray)]).getD dn23 ByteArray.empty)]) :: F) _) := ⟨(HS.out).pick 0 rfl⟩
       replace HS : Bx (St w0 (rdA rb ab n cb (B + 200) :: rowA encS 1 9 (.slice (some ⟨b22, 0, none⟩) 4 4) ([(⟨#[104, 101, 108, 108, 111]⟩ : ByteArray), (⟨#[120]⟩ : ByteArray), (⟨#[97, 97, 97, 97]⟩ : ByteArray), (⟨#[101, 110, 100]⟩ : ByteArray)]) :: boxA b21 5 24 (.agg #[.int .i64 do20.fKind, .string do20.fPath, .string do20.fTo, .int .i64 do20.fAt, .string (([(⟨#[104, 101, 108, 108, 111]⟩ : ByteArray), (⟨#[120]⟩ : ByteArray), (⟨#[97, 97, 97, 97]⟩ : ByteArray), (⟨#[101, 110, 100]⟩ : ByteArray)]).getD dn23 ByteArray.empty)]) :: F) _) := ⟨HS.out.rdLe (by omega)⟩
       exact ⟨_, rfl, (by first | omega | decide | exact Nat.le_trans (getD_le (m := 8) (by decide) _) (by decide) | exact Nat.le_trans (getD_le (m := 20) (by decide) _) (by decide) | (have := getD_le (xs := [(⟨#[104, 101, 108, 108, 111]⟩ : ByteArray), (⟨#[120]⟩ : ByteArray), (⟨#[97, 97, 97, 97]⟩ : ByteArray), (⟨#[101, 110, 100]⟩ : ByteArray)]) (m := 20) (by decide) dn23; (try simp only [app_size, lit_size, List.size_toArray, List.length_cons, List.length_nil]); omega)), ((HS.out.erase 2).erase 1)⟩
     ·clear HF; have HF := HF1; clear HF1
      have dcc14 := ne_of_beq_false cc14
      refine wc_false HF rfl ?_
      refine wp_skip ?_
      refine ex_then ?_
      refine wp_sr ?_
      refine wl_y rfl HF rfl rfl (yl_loadR (cs := [.int .i64 do20.fKind, .string do20.fPath, .string do20.fTo, .int .i64 do20.fAt, .string do20.fText]) rfl (HF.ev rfl) ((HS.out.box 0 rfl).sub 0 5) (by kernel_rfl)) ?_; clear HF a; intro a HF
      refine wl_call rfl HF rfl (enter_of Tryz.func7 (by kernel_rfl) rfl) (args := #[.agg #[.int .i64 do20.fKind, .string do20.fPath, .string do20.fTo, .int .i64 do20.fAt, .string do20.fText]]) rfl (specShellSay_any (⟨do20.fKind, do20.fPath, do20.fTo, do20.fAt, do20.fText⟩ : OpD) _ (show (do20.fPath).size ≤ 1048576 by first | omega | exact Nat.le_trans (getD_le (m := 100) (by decide) _) (by decide)) (show (do20.fTo).size ≤ 1048576 by first | omega | exact Nat.le_trans (getD_le (m := 100) (by decide) _) (by decide)) (show (do20.fText).size ≤ 1048576 by first | omega | exact Nat.le_trans (getD_le (m := 100) (by decide) _) (by decide))) rfl rfl ?_
      rintro _ w33 ⟨rfl, hb⟩
      have ht25 := sayF_size (⟨do20.fKind, do20.fPath, do20.fTo, do20.fAt, do20.fText⟩ : OpD); generalize sayF (⟨do20.fKind, do20.fPath, do20.fTo, do20.fAt, do20.fText⟩ : OpD) = dt25 at ht25; refine ⟨_, rfl, ?_⟩; replace HS := Bx.mk (HS.out.later hb); clear hb HF; clear a; intro a HF
      refine wl_as HF rfl rfl rfl rfl rfl ?_; clear HF a; intro a HF
      refine wl_ne ?_
      refine wp_seq ?_
      refine wp_sr ?_
      refine wl_mv HF rfl rfl rfl rfl rfl ?_; clear HF a; intro a HF
      refine wl_y rfl HF rfl rfl (yl_neqS rfl (HF.ev rfl) (HF.ev rfl)) ?_; clear HF a; intro a HF
      refine wl_ne ?_
      refine HF.cases 29 rfl (fun cc16 HF1 => ?_) (fun cc16 HF1 => ?_)
      ·clear HF; have HF := HF1; clear HF1
       refine wc_true HF rfl ?_
       refine wp_sr ?_
       refine wl_mv HF rfl rfl rfl rfl rfl ?_; clear HF a; intro a HF
       refine wl_as HF rfl rfl rfl rfl rfl ?_; clear HF a; intro a HF
       refine wl_ne ?_
       refine wp_ret ?_
       refine ex_then_ret ?_
       refine ex_block_ret ?_
       refine ex_then_ret ?_
       refine bp_ret1 HF Tryz.results22 (HF.res rfl) ?_
       replace HS : Bx (St w0 (rdA rb ab n cb (B + 1 + 120) :: boxA b21 5 24 (.agg #[.int .i64 do20.fKind, .string do20.fPath, .string do20.fTo, .int .i64 do20.fAt, .string do20.fText]) :: F) _) := ⟨(HS.out).pick 1 rfl⟩
       replace HS : Bx (St w0 (rdA rb ab n cb (B + 200) :: boxA b21 5 24 (.agg #[.int .i64 do20.fKind, .string do20.fPath, .string do20.fTo, .int .i64 do20.fAt, .string do20.fText]) :: F) _) := ⟨HS.out.rdLe (by omega)⟩
       exact ⟨_, rfl, (by first | omega | decide | exact Nat.le_trans (getD_le (m := 8) (by decide) _) (by decide) | exact Nat.le_trans (getD_le (m := 20) (by decide) _) (by decide) | ((try simp only [app_size, lit_size, List.size_toArray, List.length_cons, List.length_nil]); omega)), (HS.out.erase 1)⟩
      ·clear HF; have HF := HF1; clear HF1
       refine wc_false HF rfl ?_
       refine wp_skip ?_
       refine ex_then ?_
       refine wp_sr ?_
       refine wl_as HF rfl rfl rfl rfl rfl ?_; clear HF a; intro a HF
       refine wl_ne ?_
       refine wp_ret ?_
       refine ex_block_ret ?_
       refine ex_then_ret ?_
       refine bp_ret1 HF Tryz.results22 (HF.res rfl) ?_
       replace HS : Bx (St w0 (rdA rb ab n cb (B + 1 + 120) :: boxA b21 5 24 (.agg #[.int .i64 do20.fKind, .string do20.fPath, .string do20.fTo, .int .i64 do20.fAt, .string do20.fText]) :: F) _) := ⟨(HS.out).pick 1 rfl⟩
       replace HS : Bx (St w0 (rdA rb ab n cb (B + 200) :: boxA b21 5 24 (.agg #[.int .i64 do20.fKind, .string do20.fPath, .string do20.fTo, .int .i64 do20.fAt, .string do20.fText]) :: F) _) := ⟨HS.out.rdLe (by omega)⟩
       exact ⟨_, rfl, (by first | omega | decide | exact Nat.le_trans (getD_le (m := 8) (by decide) _) (by decide) | exact Nat.le_trans (getD_le (m := 20) (by decide) _) (by decide) | ((try simp only [app_size, lit_size, List.size_toArray, List.length_cons, List.length_nil]); omega)), (HS.out.erase 1)⟩
    ·clear HF; have HF := HF1; clear HF1
     have dcc13 := ne_of_beq_false cc13
     refine wc_false HF rfl ?_
     refine wp_sr ?_
     refine wl_y rfl HF rfl rfl (yl_eqlI rfl (HF.ev rfl) (HF.ev rfl)) ?_; clear HF a; intro a HF
     refine wl_as HF rfl rfl rfl rfl rfl ?_; clear HF a; intro a HF
     refine wl_ne ?_
     refine HF.cases 7 rfl (fun cc17 HF1 => ?_) (fun cc17 HF1 => ?_)
     ·clear HF; have HF := HF1; clear HF1
      have dcc17 := eq_of_beq cc17
      refine wc_true HF rfl ?_
      refine wp_skip ?_
      refine ex_then ?_
      refine wc_true HF rfl ?_
      refine wp_sr ?_
      refine wl_mv HF rfl rfl rfl rfl rfl ?_; clear HF a; intro a HF
      replace HS : Bx (St w0 (rdA rb ab n cb (B + 1) :: F) _) := ⟨(HS.out).pick 0 rfl⟩
      refine wl_call rfl HF rfl (enter_of Tryz.func13 (by kernel_rfl) rfl) (args := #[.pointer (some ⟨rb, 0, none⟩)]) rfl (l92Op_any w0 _ rb ab n cb bs hn hR (B + 1) (by omega) _ HS.out) rfl rfl ?_
      rintro _ w34 ⟨do26, rfl, hoa26, hob26, hoc26, hs1⟩
      refine ⟨_, rfl, ?_⟩; replace HS := Bx.mk hs1; clear hs1 HF; clear a; intro a HF
      replace HS : Bx (St w0 (rdA rb ab n cb (B + 1 + 120) :: F) _) := ⟨HS.out⟩
      refine wl_alloc rfl HF rfl rfl rfl (Z := [.int .i64 0, .string ByteArray.empty, .string ByteArray.empty, .int .i64 0, .string ByteArray.empty]) (by kernel_rfl) rfl HS.out ?_; clear HF HS a; intro a w35 b27 HF HS; replace HS := Bx.mk HS
      refine wl_storeBox rfl HF rfl rfl (HF.ev rfl) (HF.ev rfl) HS.out 0 rfl (cells_lit [.int .i64 do26.fKind, .string do26.fPath, .string do26.fTo, .int .i64 do26.fAt, .string do26.fText] rfl rfl) (by kernel_rfl) ?_; clear HS; intro w36 HS; replace HS := Bx.mk HS
      have HS : Bx (St w0 (boxA b27 5 24 (.agg #[.int .i64 do26.fKind, .string do26.fPath, .string do26.fTo, .int .i64 do26.fAt, .string do26.fText]) :: rdA rb ab n cb (B + 1 + 120) :: F) _) := HS
      refine wl_ne ?_
      refine wp_seq ?_
      refine wp_sr ?_
      refine wl_y rfl HF rfl rfl (yl_fieldAddr (j := 0) rfl (HF.ev rfl) (by kernel_rfl)) ?_; clear HF a; intro a HF
      refine wl_y rfl HF rfl rfl (yl_load (v := .int .i64 do26.fKind) rfl (HF.ev rfl) (((HS.out.box 0 rfl).cell 0).trans rfl) (by kernel_rfl)) ?_; clear HF a; intro a HF
      refine wl_y rfl HF rfl rfl (yl_eqlI rfl (HF.ev rfl) (HF.ev rfl)) ?_; clear HF a; intro a HF
      refine wl_ne ?_
      refine HF.cases 19 rfl (fun cc18 HF1 => ?_) (fun cc18 HF1 => ?_)
      ·clear HF; have HF := HF1; clear HF1
       have dcc18 := eq_of_beq cc18
       refine wc_true HF rfl ?_
       refine wp_region_lit ?_
       refine wl_buildS (enc := encS) (e := 9) (size := 1) rfl HF rfl rfl rfl (ps := [(0, .string (⟨#[104, 101, 108, 108, 111]⟩ : ByteArray)), (1, .string (⟨#[120]⟩ : ByteArray)), (2, .string (⟨#[97, 97, 97, 97]⟩ : ByteArray)), (3, .string (⟨#[101, 110, 100]⟩ : ByteArray))]) rfl (cells := [.string (⟨#[104, 101, 108, 108, 111]⟩ : ByteArray), .string (⟨#[120]⟩ : ByteArray), .string (⟨#[97, 97, 97, 97]⟩ : ByteArray), .string (⟨#[101, 110, 100]⟩ : ByteArray)]) (by kernel_rfl) [(⟨#[104, 101, 108, 108, 111]⟩ : ByteArray), (⟨#[120]⟩ : ByteArray), (⟨#[97, 97, 97, 97]⟩ : ByteArray), (⟨#[101, 110, 100]⟩ : ByteArray)] rfl rfl (by unfold maxLen; omega) rfl HS.out ?_; clear HF HS a; intro b28 a w37 HF HS; replace HS := Bx.mk HS
       refine wl_mv HF rfl rfl rfl rfl rfl ?_; clear HF a; intro a HF
       replace HS : Bx (St w0 (rdA rb ab n cb (B + 1 + 120) :: rowA encS 1 9 (.slice (some ⟨b28, 0, none⟩) 4 4) ([(⟨#[104, 101, 108, 108, 111]⟩ : ByteArray), (⟨#[120]⟩ : ByteArray), (⟨#[97, 97, 97, 97]⟩ : ByteArray), (⟨#[101, 110, 100]⟩ : ByteArray)]) :: boxA b27 5 24 (.agg #[.int .i64 do26.fKind, .string do26.fPath, .string do26.fTo, .int .i64 do26.fAt, .string do26.fText]) :: F) _) := ⟨(HS.out).pick 2 rfl⟩
       refine wl_call rfl HF rfl (enter_of Tryz.func26 (by kernel_rfl) rfl) (args := #[.pointer (some ⟨rb, 0, none⟩), .int .i64 4]) rfl (pickN w0 _ rb ab n cb bs hn hR (B + 1 + 120) (by omega) 4 (by omega) _ HS.out) rfl rfl ?_
       rintro _ w38 ⟨dn29, rfl, hu29, hs1⟩
       refine ⟨_, rfl, ?_⟩; replace HS := Bx.mk hs1; clear hs1 HF; clear a; intro a HF
       replace HS : Bx (St w0 (rdA rb ab n cb (B + 1 + 120 + 1) :: rowA encS 1 9 (.slice (some ⟨b28, 0, none⟩) 4 4) ([(⟨#[104, 101, 108, 108, 111]⟩ : ByteArray), (⟨#[120]⟩ : ByteArray), (⟨#[97, 97, 97, 97]⟩ : ByteArray), (⟨#[101, 110, 100]⟩ : ByteArray)]) :: boxA b27 5 24 (.agg #[.int .i64 do26.fKind, .string do26.fPath, .string do26.fTo, .int .i64 do26.fAt, .string do26.fText]) :: F) _) := ⟨HS.out⟩
       refine wl_y rfl HF rfl rfl (yl_indexAddr (e := 9) (i := dn29) (size := 1) rfl (HF.ev rfl) (HF.ev rfl) (by kernel_rfl) rfl (by omega)) ?_; clear HF a; intro a HF
       refine wl_y rfl HF rfl rfl (yl_load (v := .string (([(⟨#[104, 101, 108, 108, 111]⟩ : ByteArray), (⟨#[120]⟩ : ByteArray), (⟨#[97, 97, 97, 97]⟩ : ByteArray), (⟨#[101, 110, 100]⟩ : ByteArray)]).getD dn29 ByteArray.empty)) rfl (HF.ev rfl) (HS.out.elem1 encS_len 1 rfl (get_getD (xs := [(⟨#[104, 101, 108, 108, 111]⟩ : ByteArray), (⟨#[120]⟩ : ByteArray), (⟨#[97, 97, 97, 97]⟩ : ByteArray), (⟨#[101, 110, 100]⟩ : ByteArray)]) (j := dn29) (d := ByteArray.empty) (by (try simp only [List.length_cons, List.length_nil]); omega)) rfl) (by kernel_rfl)) ?_; clear HF a; intro a HF
       refine wl_y rfl HF rfl rfl (yl_fieldAddr (j := 4) rfl (HF.ev rfl) (by kernel_rfl)) ?_; clear HF a; intro a HF
       refine wl_storeF rfl rfl rfl (HF.ev rfl) (HF.ev rfl) (by kernel_rfl) HS.out 2 rfl rfl rfl ?_; clear HS; intro w39 HS; replace HS := Bx.mk HS
       have HS : Bx (St w0 (rdA rb ab n cb (B + 1 + 120 + 1) :: rowA encS 1 9 (.slice (some ⟨b28, 0, none⟩) 4 4) ([(⟨#[104, 101, 108, 108, 111]⟩ : ByteArray), (⟨#[120]⟩ : ByteArray), (⟨#[97, 97, 97, 97]⟩ : ByteArray), (⟨#[101, 110, 100]⟩ : ByteArray)]) :: boxA b27 5 24 (.agg #[.int .i64 do26.fKind, .string do26.fPath, .string do26.fTo, .int .i64 do26.fAt, .string (([(⟨#[104, 101, 108, 108, 111]⟩ : ByteArray), (⟨#[120]⟩ : ByteArray), (⟨#[97, 97, 97, 97]⟩ : ByteArray), (⟨#[101, 110, 100]⟩ : ByteArray)]).getD dn29 ByteArray.empty)]) :: F) _) := HS
       refine wl_ne ?_
       refine wp_sr ?_
       refine wl_y rfl HF rfl rfl (yl_loadR (cs := [.int .i64 do26.fKind, .string do26.fPath, .string do26.fTo, .int .i64 do26.fAt, .string (([(⟨#[104, 101, 108, 108, 111]⟩ : ByteArray), (⟨#[120]⟩ : ByteArray), (⟨#[97, 97, 97, 97]⟩ : ByteArray), (⟨#[101, 110, 100]⟩ : ByteArray)]).getD dn29 ByteArray.empty)]) rfl (HF.ev rfl) ((HS.out.box 2 rfl).sub 0 5) (by kernel_rfl)) ?_; clear HF a; intro a HF
       refine wl_call rfl HF rfl (enter_of Tryz.func7 (by kernel_rfl) rfl) (args := #[.agg #[.int .i64 do26.fKind, .string do26.fPath, .string do26.fTo, .int .i64 do26.fAt, .string (([(⟨#[104, 101, 108, 108, 111]⟩ : ByteArray), (⟨#[120]⟩ : ByteArray), (⟨#[97, 97, 97, 97]⟩ : ByteArray), (⟨#[101, 110, 100]⟩ : ByteArray)]).getD dn29 ByteArray.empty)]]) rfl (specShellSay_any (⟨do26.fKind, do26.fPath, do26.fTo, do26.fAt, (([(⟨#[104, 101, 108, 108, 111]⟩ : ByteArray), (⟨#[120]⟩ : ByteArray), (⟨#[97, 97, 97, 97]⟩ : ByteArray), (⟨#[101, 110, 100]⟩ : ByteArray)]).getD dn29 ByteArray.empty)⟩ : OpD) _ (show (do26.fPath).size ≤ 1048576 by first | omega | exact Nat.le_trans (getD_le (m := 100) (by decide) _) (by decide)) (show (do26.fTo).size ≤ 1048576 by first | omega | exact Nat.le_trans (getD_le (m := 100) (by decide) _) (by decide)) (show ((([(⟨#[104, 101, 108, 108, 111]⟩ : ByteArray), (⟨#[120]⟩ : ByteArray), (⟨#[97, 97, 97, 97]⟩ : ByteArray), (⟨#[101, 110, 100]⟩ : ByteArray)]).getD dn29 ByteArray.empty)).size ≤ 1048576 by first | omega | exact Nat.le_trans (getD_le (m := 100) (by decide) _) (by decide))) rfl rfl ?_
       rintro _ w40 ⟨rfl, hb⟩
       have ht30 := sayF_size (⟨do26.fKind, do26.fPath, do26.fTo, do26.fAt, (([(⟨#[104, 101, 108, 108, 111]⟩ : ByteArray), (⟨#[120]⟩ : ByteArray), (⟨#[97, 97, 97, 97]⟩ : ByteArray), (⟨#[101, 110, 100]⟩ : ByteArray)]).getD dn29 ByteArray.empty)⟩ : OpD); generalize sayF (⟨do26.fKind, do26.fPath, do26.fTo, do26.fAt, (([(⟨#[104, 101, 108, 108, 111]⟩ : ByteArray), (⟨#[120]⟩ : ByteArray), (⟨#[97, 97, 97, 97]⟩ : ByteArray), (⟨#[101, 110, 100]⟩ : ByteArray)]).getD dn29 ByteArray.empty)⟩ : OpD) = dt30 at ht30; refine ⟨_, rfl, ?_⟩; replace HS := Bx.mk (HS.out.later hb); clear hb HF; clear a; intro a HF
       refine wl_as HF rfl rfl rfl rfl rfl ?_; clear HF a; intro a HF
       refine wl_ne ?_
       refine wp_seq ?_
       refine wp_sr ?_
       refine wl_mv HF rfl rfl rfl rfl rfl ?_; clear HF a; intro a HF
       refine wl_y rfl HF rfl rfl (yl_neqS rfl (HF.ev rfl) (HF.ev rfl)) ?_; clear HF a; intro a HF
       refine wl_ne ?_
       refine HF.cases 29 rfl (fun cc19 HF1 => ?_) (fun cc19 HF1 => ?_)
       ·clear HF; have HF := HF1; clear HF1
        refine wc_true HF rfl ?_
        refine wp_sr ?_
        refine wl_mv HF rfl rfl rfl rfl rfl ?_; clear HF a; intro a HF
        refine wl_as HF rfl rfl rfl rfl rfl ?_; clear HF a; intro a HF
        refine wl_ne ?_
        refine wp_ret ?_
        refine ex_then_ret ?_
        refine ex_block_ret ?_
        refine ex_then_ret ?_
        refine bp_ret1 HF Tryz.results22 (HF.res rfl) ?_
        replace HS : Bx (St w0 (rdA rb ab n cb (B + 1 + 120 + 1) :: rowA encS 1 9 (.slice (some ⟨b28, 0, none⟩) 4 4) ([(⟨#[104, 101, 108, 108, 111]⟩ : ByteArray), (⟨#[120]⟩ : ByteArray), (⟨#[97, 97, 97, 97]⟩ : ByteArray), (⟨#[101, 110, 100]⟩ : ByteArray)]) :: boxA b27 5 24 (.agg #[.int .i64 do26.fKind, .string do26.fPath, .string do26.fTo, .int .i64 do26.fAt, .string (([(⟨#[104, 101, 108, 108, 111]⟩ : ByteArray), (⟨#[120]⟩ : ByteArray), (⟨#[97, 97, 97, 97]⟩ : ByteArray), (⟨#[101, 110, 100]⟩ : ByteArray)]).getD dn29 ByteArray.empty)]) :: F) _) := ⟨(HS.out).pick 0 rfl⟩
        replace HS : Bx (St w0 (rdA rb ab n cb (B + 200) :: rowA encS 1 9 (.slice (some ⟨b28, 0, none⟩) 4 4) ([(⟨#[104, 101, 108, 108, 111]⟩ : ByteArray), (⟨#[120]⟩ : ByteArray), (⟨#[97, 97, 97, 97]⟩ : ByteArray), (⟨#[101, 110, 100]⟩ : ByteArray)]) :: boxA b27 5 24 (.agg #[.int .i64 do26.fKind, .string do26.fPath, .string do26.fTo, .int .i64 do26.fAt, .string (([(⟨#[104, 101, 108, 108, 111]⟩ : ByteArray), (⟨#[120]⟩ : ByteArray), (⟨#[97, 97, 97, 97]⟩ : ByteArray), (⟨#[101, 110, 100]⟩ : ByteArray)]).getD dn29 ByteArray.empty)]) :: F) _) := ⟨HS.out.rdLe (by omega)⟩
        exact ⟨_, rfl, (by first | omega | decide | exact Nat.le_trans (getD_le (m := 8) (by decide) _) (by decide) | exact Nat.le_trans (getD_le (m := 20) (by decide) _) (by decide) | (have := getD_le (xs := [(⟨#[104, 101, 108, 108, 111]⟩ : ByteArray), (⟨#[120]⟩ : ByteArray), (⟨#[97, 97, 97, 97]⟩ : ByteArray), (⟨#[101, 110, 100]⟩ : ByteArray)]) (m := 20) (by decide) dn29; (try simp only [app_size, lit_size, List.size_toArray, List.length_cons, List.length_nil]); omega)), ((HS.out.erase 2).erase 1)⟩
       ·clear HF; have HF := HF1; clear HF1
        refine wc_false HF rfl ?_
        refine wp_skip ?_
        refine ex_then ?_
        refine wp_sr ?_
        refine wl_as HF rfl rfl rfl rfl rfl ?_; clear HF a; intro a HF
        refine wl_ne ?_
        refine wp_ret ?_
        refine ex_block_ret ?_
        refine ex_then_ret ?_
        refine bp_ret1 HF Tryz.results22 (HF.res rfl) ?_
        replace HS : Bx (St w0 (rdA rb ab n cb (B + 1 + 120 + 1) :: rowA encS 1 9 (.slice (some ⟨b28, 0, none⟩) 4 4) ([(⟨#[104, 101, 108, 108, 111]⟩ : ByteArray), (⟨#[120]⟩ : ByteArray), (⟨#[97, 97, 97, 97]⟩ : ByteArray), (⟨#[101, 110, 100]⟩ : ByteArray)]) :: boxA b27 5 24 (.agg #[.int .i64 do26.fKind, .string do26.fPath, .string do26.fTo, .int .i64 do26.fAt, .string (([(⟨#[104, 101, 108, 108, 111]⟩ : ByteArray), (⟨#[120]⟩ : ByteArray), (⟨#[97, 97, 97, 97]⟩ : ByteArray), (⟨#[101, 110, 100]⟩ : ByteArray)]).getD dn29 ByteArray.empty)]) :: F) _) := ⟨(HS.out).pick 0 rfl⟩
        replace HS : Bx (St w0 (rdA rb ab n cb (B + 200) :: rowA encS 1 9 (.slice (some ⟨b28, 0, none⟩) 4 4) ([(⟨#[104, 101, 108, 108, 111]⟩ : ByteArray), (⟨#[120]⟩ : ByteArray), (⟨#[97, 97, 97, 97]⟩ : ByteArray), (⟨#[101, 110, 100]⟩ : ByteArray)]) :: boxA b27 5 24 (.agg #[.int .i64 do26.fKind, .string do26.fPath, .string do26.fTo, .int .i64 do26.fAt, .string (([(⟨#[104, 101, 108, 108, 111]⟩ : ByteArray), (⟨#[120]⟩ : ByteArray), (⟨#[97, 97, 97, 97]⟩ : ByteArray), (⟨#[101, 110, 100]⟩ : ByteArray)]).getD dn29 ByteArray.empty)]) :: F) _) := ⟨HS.out.rdLe (by omega)⟩
        exact ⟨_, rfl, (by first | omega | decide | exact Nat.le_trans (getD_le (m := 8) (by decide) _) (by decide) | exact Nat.le_trans (getD_le (m := 20) (by decide) _) (by decide) | (have := getD_le (xs := [(⟨#[104, 101, 108, 108, 111]⟩ : ByteArray), (⟨#[120]⟩ : ByteArray), (⟨#[97, 97, 97, 97]⟩ : ByteArray), (⟨#[101, 110, 100]⟩ : ByteArray)]) (m := 20) (by decide) dn29; (try simp only [app_size, lit_size, List.size_toArray, List.length_cons, List.length_nil]); omega)), ((HS.out.erase 2).erase 1)⟩
      ·clear HF; have HF := HF1; clear HF1
       have dcc18 := ne_of_beq_false cc18
       refine wc_false HF rfl ?_
       refine wp_skip ?_
       refine ex_then ?_
       refine wp_sr ?_
       refine wl_y rfl HF rfl rfl (yl_loadR (cs := [.int .i64 do26.fKind, .string do26.fPath, .string do26.fTo, .int .i64 do26.fAt, .string do26.fText]) rfl (HF.ev rfl) ((HS.out.box 0 rfl).sub 0 5) (by kernel_rfl)) ?_; clear HF a; intro a HF
       refine wl_call rfl HF rfl (enter_of Tryz.func7 (by kernel_rfl) rfl) (args := #[.agg #[.int .i64 do26.fKind, .string do26.fPath, .string do26.fTo, .int .i64 do26.fAt, .string do26.fText]]) rfl (specShellSay_any (⟨do26.fKind, do26.fPath, do26.fTo, do26.fAt, do26.fText⟩ : OpD) _ (show (do26.fPath).size ≤ 1048576 by first | omega | exact Nat.le_trans (getD_le (m := 100) (by decide) _) (by decide)) (show (do26.fTo).size ≤ 1048576 by first | omega | exact Nat.le_trans (getD_le (m := 100) (by decide) _) (by decide)) (show (do26.fText).size ≤ 1048576 by first | omega | exact Nat.le_trans (getD_le (m := 100) (by decide) _) (by decide))) rfl rfl ?_
       rintro _ w41 ⟨rfl, hb⟩
       have ht31 := sayF_size (⟨do26.fKind, do26.fPath, do26.fTo, do26.fAt, do26.fText⟩ : OpD); generalize sayF (⟨do26.fKind, do26.fPath, do26.fTo, do26.fAt, do26.fText⟩ : OpD) = dt31 at ht31; refine ⟨_, rfl, ?_⟩; replace HS := Bx.mk (HS.out.later hb); clear hb HF; clear a; intro a HF
       refine wl_as HF rfl rfl rfl rfl rfl ?_; clear HF a; intro a HF
       refine wl_ne ?_
       refine wp_seq ?_
       refine wp_sr ?_
       refine wl_mv HF rfl rfl rfl rfl rfl ?_; clear HF a; intro a HF
       refine wl_y rfl HF rfl rfl (yl_neqS rfl (HF.ev rfl) (HF.ev rfl)) ?_; clear HF a; intro a HF
       refine wl_ne ?_
       refine HF.cases 29 rfl (fun cc20 HF1 => ?_) (fun cc20 HF1 => ?_)
       ·clear HF; have HF := HF1; clear HF1
        refine wc_true HF rfl ?_
        refine wp_sr ?_
        refine wl_mv HF rfl rfl rfl rfl rfl ?_; clear HF a; intro a HF
        refine wl_as HF rfl rfl rfl rfl rfl ?_; clear HF a; intro a HF
        refine wl_ne ?_
        refine wp_ret ?_
        refine ex_then_ret ?_
        refine ex_block_ret ?_
        refine ex_then_ret ?_
        refine bp_ret1 HF Tryz.results22 (HF.res rfl) ?_
        replace HS : Bx (St w0 (rdA rb ab n cb (B + 1 + 120) :: boxA b27 5 24 (.agg #[.int .i64 do26.fKind, .string do26.fPath, .string do26.fTo, .int .i64 do26.fAt, .string do26.fText]) :: F) _) := ⟨(HS.out).pick 1 rfl⟩
        replace HS : Bx (St w0 (rdA rb ab n cb (B + 200) :: boxA b27 5 24 (.agg #[.int .i64 do26.fKind, .string do26.fPath, .string do26.fTo, .int .i64 do26.fAt, .string do26.fText]) :: F) _) := ⟨HS.out.rdLe (by omega)⟩
        exact ⟨_, rfl, (by first | omega | decide | exact Nat.le_trans (getD_le (m := 8) (by decide) _) (by decide) | exact Nat.le_trans (getD_le (m := 20) (by decide) _) (by decide) | ((try simp only [app_size, lit_size, List.size_toArray, List.length_cons, List.length_nil]); omega)), (HS.out.erase 1)⟩
       ·clear HF; have HF := HF1; clear HF1
        refine wc_false HF rfl ?_
        refine wp_skip ?_
        refine ex_then ?_
        refine wp_sr ?_
        refine wl_as HF rfl rfl rfl rfl rfl ?_; clear HF a; intro a HF
        refine wl_ne ?_
        refine wp_ret ?_
        refine ex_block_ret ?_
        refine ex_then_ret ?_
        refine bp_ret1 HF Tryz.results22 (HF.res rfl) ?_
        replace HS : Bx (St w0 (rdA rb ab n cb (B + 1 + 120) :: boxA b27 5 24 (.agg #[.int .i64 do26.fKind, .string do26.fPath, .string do26.fTo, .int .i64 do26.fAt, .string do26.fText]) :: F) _) := ⟨(HS.out).pick 1 rfl⟩
        replace HS : Bx (St w0 (rdA rb ab n cb (B + 200) :: boxA b27 5 24 (.agg #[.int .i64 do26.fKind, .string do26.fPath, .string do26.fTo, .int .i64 do26.fAt, .string do26.fText]) :: F) _) := ⟨HS.out.rdLe (by omega)⟩
        exact ⟨_, rfl, (by first | omega | decide | exact Nat.le_trans (getD_le (m := 8) (by decide) _) (by decide) | exact Nat.le_trans (getD_le (m := 20) (by decide) _) (by decide) | ((try simp only [app_size, lit_size, List.size_toArray, List.length_cons, List.length_nil]); omega)), (HS.out.erase 1)⟩
     ·clear HF; have HF := HF1; clear HF1
      have dcc17 := ne_of_beq_false cc17
      refine wc_false HF rfl ?_
      refine wp_sr ?_
      refine wl_y rfl HF rfl rfl (yl_eqlI rfl (HF.ev rfl) (HF.ev rfl)) ?_; clear HF a; intro a HF
      refine wl_as HF rfl rfl rfl rfl rfl ?_; clear HF a; intro a HF
      refine wl_ne ?_
      refine HF.cases 7 rfl (fun cc21 HF1 => ?_) (fun cc21 HF1 => ?_)
      ·clear HF; have HF := HF1; clear HF1
       have dcc21 := eq_of_beq cc21
       refine wc_true HF rfl ?_
       refine wp_skip ?_
       refine ex_then ?_
       refine wc_true HF rfl ?_
       refine wp_sr ?_
       refine wl_mv HF rfl rfl rfl rfl rfl ?_; clear HF a; intro a HF
       replace HS : Bx (St w0 (rdA rb ab n cb (B + 1) :: F) _) := ⟨(HS.out).pick 0 rfl⟩
       refine wl_call rfl HF rfl (enter_of Tryz.func13 (by kernel_rfl) rfl) (args := #[.pointer (some ⟨rb, 0, none⟩)]) rfl (l92Op_any w0 _ rb ab n cb bs hn hR (B + 1) (by omega) _ HS.out) rfl rfl ?_
       rintro _ w42 ⟨do32, rfl, hoa32, hob32, hoc32, hs1⟩
       refine ⟨_, rfl, ?_⟩; replace HS := Bx.mk hs1; clear hs1 HF; clear a; intro a HF
       replace HS : Bx (St w0 (rdA rb ab n cb (B + 1 + 120) :: F) _) := ⟨HS.out⟩
       refine wl_alloc rfl HF rfl rfl rfl (Z := [.int .i64 0, .string ByteArray.empty, .string ByteArray.empty, .int .i64 0, .string ByteArray.empty]) (by kernel_rfl) rfl HS.out ?_; clear HF HS a; intro a w43 b33 HF HS; replace HS := Bx.mk HS
       refine wl_storeBox rfl HF rfl rfl (HF.ev rfl) (HF.ev rfl) HS.out 0 rfl (cells_lit [.int .i64 do32.fKind, .string do32.fPath, .string do32.fTo, .int .i64 do32.fAt, .string do32.fText] rfl rfl) (by kernel_rfl) ?_; clear HS; intro w44 HS; replace HS := Bx.mk HS
       have HS : Bx (St w0 (boxA b33 5 24 (.agg #[.int .i64 do32.fKind, .string do32.fPath, .string do32.fTo, .int .i64 do32.fAt, .string do32.fText]) :: rdA rb ab n cb (B + 1 + 120) :: F) _) := HS
       refine wl_ne ?_
       refine wp_seq ?_
       refine wp_sr ?_
       refine wl_y rfl HF rfl rfl (yl_fieldAddr (j := 0) rfl (HF.ev rfl) (by kernel_rfl)) ?_; clear HF a; intro a HF
       refine wl_y rfl HF rfl rfl (yl_load (v := .int .i64 do32.fKind) rfl (HF.ev rfl) (((HS.out.box 0 rfl).cell 0).trans rfl) (by kernel_rfl)) ?_; clear HF a; intro a HF
       refine wl_y rfl HF rfl rfl (yl_eqlI rfl (HF.ev rfl) (HF.ev rfl)) ?_; clear HF a; intro a HF
       refine wl_ne ?_
       refine HF.cases 19 rfl (fun cc22 HF1 => ?_) (fun cc22 HF1 => ?_)
       ·clear HF; have HF := HF1; clear HF1
        have dcc22 := eq_of_beq cc22
        refine wc_true HF rfl ?_
        refine wp_region_lit ?_
        refine wl_buildS (enc := encS) (e := 9) (size := 1) rfl HF rfl rfl rfl (ps := [(0, .string (⟨#[104, 101, 108, 108, 111]⟩ : ByteArray)), (1, .string (⟨#[120]⟩ : ByteArray)), (2, .string (⟨#[97, 97, 97, 97]⟩ : ByteArray)), (3, .string (⟨#[101, 110, 100]⟩ : ByteArray))]) rfl (cells := [.string (⟨#[104, 101, 108, 108, 111]⟩ : ByteArray), .string (⟨#[120]⟩ : ByteArray), .string (⟨#[97, 97, 97, 97]⟩ : ByteArray), .string (⟨#[101, 110, 100]⟩ : ByteArray)]) (by kernel_rfl) [(⟨#[104, 101, 108, 108, 111]⟩ : ByteArray), (⟨#[120]⟩ : ByteArray), (⟨#[97, 97, 97, 97]⟩ : ByteArray), (⟨#[101, 110, 100]⟩ : ByteArray)] rfl rfl (by unfold maxLen; omega) rfl HS.out ?_; clear HF HS a; intro b34 a w45 HF HS; replace HS := Bx.mk HS
        refine wl_mv HF rfl rfl rfl rfl rfl ?_; clear HF a; intro a HF
        replace HS : Bx (St w0 (rdA rb ab n cb (B + 1 + 120) :: rowA encS 1 9 (.slice (some ⟨b34, 0, none⟩) 4 4) ([(⟨#[104, 101, 108, 108, 111]⟩ : ByteArray), (⟨#[120]⟩ : ByteArray), (⟨#[97, 97, 97, 97]⟩ : ByteArray), (⟨#[101, 110, 100]⟩ : ByteArray)]) :: boxA b33 5 24 (.agg #[.int .i64 do32.fKind, .string do32.fPath, .string do32.fTo, .int .i64 do32.fAt, .string do32.fText]) :: F) _) := ⟨(HS.out).pick 2 rfl⟩
        refine wl_call rfl HF rfl (enter_of Tryz.func26 (by kernel_rfl) rfl) (args := #[.pointer (some ⟨rb, 0, none⟩), .int .i64 4]) rfl (pickN w0 _ rb ab n cb bs hn hR (B + 1 + 120) (by omega) 4 (by omega) _ HS.out) rfl rfl ?_
        rintro _ w46 ⟨dn35, rfl, hu35, hs1⟩
        refine ⟨_, rfl, ?_⟩; replace HS := Bx.mk hs1; clear hs1 HF; clear a; intro a HF
        replace HS : Bx (St w0 (rdA rb ab n cb (B + 1 + 120 + 1) :: rowA encS 1 9 (.slice (some ⟨b34, 0, none⟩) 4 4) ([(⟨#[104, 101, 108, 108, 111]⟩ : ByteArray), (⟨#[120]⟩ : ByteArray), (⟨#[97, 97, 97, 97]⟩ : ByteArray), (⟨#[101, 110, 100]⟩ : ByteArray)]) :: boxA b33 5 24 (.agg #[.int .i64 do32.fKind, .string do32.fPath, .string do32.fTo, .int .i64 do32.fAt, .string do32.fText]) :: F) _) := ⟨HS.out⟩
        refine wl_y rfl HF rfl rfl (yl_indexAddr (e := 9) (i := dn35) (size := 1) rfl (HF.ev rfl) (HF.ev rfl) (by kernel_rfl) rfl (by omega)) ?_; clear HF a; intro a HF
        refine wl_y rfl HF rfl rfl (yl_load (v := .string (([(⟨#[104, 101, 108, 108, 111]⟩ : ByteArray), (⟨#[120]⟩ : ByteArray), (⟨#[97, 97, 97, 97]⟩ : ByteArray), (⟨#[101, 110, 100]⟩ : ByteArray)]).getD dn35 ByteArray.empty)) rfl (HF.ev rfl) (HS.out.elem1 encS_len 1 rfl (get_getD (xs := [(⟨#[104, 101, 108, 108, 111]⟩ : ByteArray), (⟨#[120]⟩ : ByteArray), (⟨#[97, 97, 97, 97]⟩ : ByteArray), (⟨#[101, 110, 100]⟩ : ByteArray)]) (j := dn35) (d := ByteArray.empty) (by (try simp only [List.length_cons, List.length_nil]); omega)) rfl) (by kernel_rfl)) ?_; clear HF a; intro a HF
        refine wl_y rfl HF rfl rfl (yl_fieldAddr (j := 4) rfl (HF.ev rfl) (by kernel_rfl)) ?_; clear HF a; intro a HF
        refine wl_storeF rfl rfl rfl (HF.ev rfl) (HF.ev rfl) (by kernel_rfl) HS.out 2 rfl rfl rfl ?_; clear HS; intro w47 HS; replace HS := Bx.mk HS
        have HS : Bx (St w0 (rdA rb ab n cb (B + 1 + 120 + 1) :: rowA encS 1 9 (.slice (some ⟨b34, 0, none⟩) 4 4) ([(⟨#[104, 101, 108, 108, 111]⟩ : ByteArray), (⟨#[120]⟩ : ByteArray), (⟨#[97, 97, 97, 97]⟩ : ByteArray), (⟨#[101, 110, 100]⟩ : ByteArray)]) :: boxA b33 5 24 (.agg #[.int .i64 do32.fKind, .string do32.fPath, .string do32.fTo, .int .i64 do32.fAt, .string (([(⟨#[104, 101, 108, 108, 111]⟩ : ByteArray), (⟨#[120]⟩ : ByteArray), (⟨#[97, 97, 97, 97]⟩ : ByteArray), (⟨#[101, 110, 100]⟩ : ByteArray)]).getD dn35 ByteArray.empty)]) :: F) _) := HS
        refine wl_ne ?_
        refine wp_sr ?_
        refine wl_y rfl HF rfl rfl (yl_loadR (cs := [.int .i64 do32.fKind, .string do32.fPath, .string do32.fTo, .int .i64 do32.fAt, .string (([(⟨#[104, 101, 108, 108, 111]⟩ : ByteArray), (⟨#[120]⟩ : ByteArray), (⟨#[97, 97, 97, 97]⟩ : ByteArray), (⟨#[101, 110, 100]⟩ : ByteArray)]).getD dn35 ByteArray.empty)]) rfl (HF.ev rfl) ((HS.out.box 2 rfl).sub 0 5) (by kernel_rfl)) ?_; clear HF a; intro a HF
        refine wl_call rfl HF rfl (enter_of Tryz.func7 (by kernel_rfl) rfl) (args := #[.agg #[.int .i64 do32.fKind, .string do32.fPath, .string do32.fTo, .int .i64 do32.fAt, .string (([(⟨#[104, 101, 108, 108, 111]⟩ : ByteArray), (⟨#[120]⟩ : ByteArray), (⟨#[97, 97, 97, 97]⟩ : ByteArray), (⟨#[101, 110, 100]⟩ : ByteArray)]).getD dn35 ByteArray.empty)]]) rfl (specShellSay_any (⟨do32.fKind, do32.fPath, do32.fTo, do32.fAt, (([(⟨#[104, 101, 108, 108, 111]⟩ : ByteArray), (⟨#[120]⟩ : ByteArray), (⟨#[97, 97, 97, 97]⟩ : ByteArray), (⟨#[101, 110, 100]⟩ : ByteArray)]).getD dn35 ByteArray.empty)⟩ : OpD) _ (show (do32.fPath).size ≤ 1048576 by first | omega | exact Nat.le_trans (getD_le (m := 100) (by decide) _) (by decide)) (show (do32.fTo).size ≤ 1048576 by first | omega | exact Nat.le_trans (getD_le (m := 100) (by decide) _) (by decide)) (show ((([(⟨#[104, 101, 108, 108, 111]⟩ : ByteArray), (⟨#[120]⟩ : ByteArray), (⟨#[97, 97, 97, 97]⟩ : ByteArray), (⟨#[101, 110, 100]⟩ : ByteArray)]).getD dn35 ByteArray.empty)).size ≤ 1048576 by first | omega | exact Nat.le_trans (getD_le (m := 100) (by decide) _) (by decide))) rfl rfl ?_
        rintro _ w48 ⟨rfl, hb⟩
        have ht36 := sayF_size (⟨do32.fKind, do32.fPath, do32.fTo, do32.fAt, (([(⟨#[104, 101, 108, 108, 111]⟩ : ByteArray), (⟨#[120]⟩ : ByteArray), (⟨#[97, 97, 97, 97]⟩ : ByteArray), (⟨#[101, 110, 100]⟩ : ByteArray)]).getD dn35 ByteArray.empty)⟩ : OpD); generalize sayF (⟨do32.fKind, do32.fPath, do32.fTo, do32.fAt, (([(⟨#[104, 101, 108, 108, 111]⟩ : ByteArray), (⟨#[120]⟩ : ByteArray), (⟨#[97, 97, 97, 97]⟩ : ByteArray), (⟨#[101, 110, 100]⟩ : ByteArray)]).getD dn35 ByteArray.empty)⟩ : OpD) = dt36 at ht36; refine ⟨_, rfl, ?_⟩; replace HS := Bx.mk (HS.out.later hb); clear hb HF; clear a; intro a HF
        refine wl_as HF rfl rfl rfl rfl rfl ?_; clear HF a; intro a HF
        refine wl_ne ?_
        refine wp_seq ?_
        refine wp_sr ?_
        refine wl_mv HF rfl rfl rfl rfl rfl ?_; clear HF a; intro a HF
        refine wl_y rfl HF rfl rfl (yl_neqS rfl (HF.ev rfl) (HF.ev rfl)) ?_; clear HF a; intro a HF
        refine wl_ne ?_
        refine HF.cases 29 rfl (fun cc23 HF1 => ?_) (fun cc23 HF1 => ?_)
        ·clear HF; have HF := HF1; clear HF1
         refine wc_true HF rfl ?_
         refine wp_sr ?_
         refine wl_mv HF rfl rfl rfl rfl rfl ?_; clear HF a; intro a HF
         refine wl_as HF rfl rfl rfl rfl rfl ?_; clear HF a; intro a HF
         refine wl_ne ?_
         refine wp_ret ?_
         refine ex_then_ret ?_
         refine ex_block_ret ?_
         refine ex_then_ret ?_
         refine bp_ret1 HF Tryz.results22 (HF.res rfl) ?_
         replace HS : Bx (St w0 (rdA rb ab n cb (B + 1 + 120 + 1) :: rowA encS 1 9 (.slice (some ⟨b34, 0, none⟩) 4 4) ([(⟨#[104, 101, 108, 108, 111]⟩ : ByteArray), (⟨#[120]⟩ : ByteArray), (⟨#[97, 97, 97, 97]⟩ : ByteArray), (⟨#[101, 110, 100]⟩ : ByteArray)]) :: boxA b33 5 24 (.agg #[.int .i64 do32.fKind, .string do32.fPath, .string do32.fTo, .int .i64 do32.fAt, .string (([(⟨#[104, 101, 108, 108, 111]⟩ : ByteArray), (⟨#[120]⟩ : ByteArray), (⟨#[97, 97, 97, 97]⟩ : ByteArray), (⟨#[101, 110, 100]⟩ : ByteArray)]).getD dn35 ByteArray.empty)]) :: F) _) := ⟨(HS.out).pick 0 rfl⟩
         replace HS : Bx (St w0 (rdA rb ab n cb (B + 200) :: rowA encS 1 9 (.slice (some ⟨b34, 0, none⟩) 4 4) ([(⟨#[104, 101, 108, 108, 111]⟩ : ByteArray), (⟨#[120]⟩ : ByteArray), (⟨#[97, 97, 97, 97]⟩ : ByteArray), (⟨#[101, 110, 100]⟩ : ByteArray)]) :: boxA b33 5 24 (.agg #[.int .i64 do32.fKind, .string do32.fPath, .string do32.fTo, .int .i64 do32.fAt, .string (([(⟨#[104, 101, 108, 108, 111]⟩ : ByteArray), (⟨#[120]⟩ : ByteArray), (⟨#[97, 97, 97, 97]⟩ : ByteArray), (⟨#[101, 110, 100]⟩ : ByteArray)]).getD dn35 ByteArray.empty)]) :: F) _) := ⟨HS.out.rdLe (by omega)⟩
         exact ⟨_, rfl, (by first | omega | decide | exact Nat.le_trans (getD_le (m := 8) (by decide) _) (by decide) | exact Nat.le_trans (getD_le (m := 20) (by decide) _) (by decide) | (have := getD_le (xs := [(⟨#[104, 101, 108, 108, 111]⟩ : ByteArray), (⟨#[120]⟩ : ByteArray), (⟨#[97, 97, 97, 97]⟩ : ByteArray), (⟨#[101, 110, 100]⟩ : ByteArray)]) (m := 20) (by decide) dn35; (try simp only [app_size, lit_size, List.size_toArray, List.length_cons, List.length_nil]); omega)), ((HS.out.erase 2).erase 1)⟩
        ·clear HF; have HF := HF1; clear HF1
         refine wc_false HF rfl ?_
         refine wp_skip ?_
         refine ex_then ?_
         refine wp_sr ?_
         refine wl_as HF rfl rfl rfl rfl rfl ?_; clear HF a; intro a HF
         refine wl_ne ?_
         refine wp_ret ?_
         refine ex_block_ret ?_
         refine ex_then_ret ?_
         refine bp_ret1 HF Tryz.results22 (HF.res rfl) ?_
         replace HS : Bx (St w0 (rdA rb ab n cb (B + 1 + 120 + 1) :: rowA encS 1 9 (.slice (some ⟨b34, 0, none⟩) 4 4) ([(⟨#[104, 101, 108, 108, 111]⟩ : ByteArray), (⟨#[120]⟩ : ByteArray), (⟨#[97, 97, 97, 97]⟩ : ByteArray), (⟨#[101, 110, 100]⟩ : ByteArray)]) :: boxA b33 5 24 (.agg #[.int .i64 do32.fKind, .string do32.fPath, .string do32.fTo, .int .i64 do32.fAt, .string (([(⟨#[104, 101, 108, 108, 111]⟩ : ByteArray), (⟨#[120]⟩ : ByteArray), (⟨#[97, 97, 97, 97]⟩ : ByteArray), (⟨#[101, 110, 100]⟩ : ByteArray)]).getD dn35 ByteArray.empty)]) :: F) _) := ⟨(HS.out).pick 0 rfl⟩
         replace HS : Bx (St w0 (rdA rb ab n cb (B + 200) :: rowA encS 1 9 (.slice (some ⟨b34, 0, none⟩) 4 4) ([(⟨#[104, 101, 108, 108, 111]⟩ : ByteArray), (⟨#[120]⟩ : ByteArray), (⟨#[97, 97, 97, 97]⟩ : ByteArray), (⟨#[101, 110, 100]⟩ : ByteArray)]) :: boxA b33 5 24 (.agg #[.int .i64 do32.fKind, .string do32.fPath, .string do32.fTo, .int .i64 do32.fAt, .string (([(⟨#[104, 101, 108, 108, 111]⟩ : ByteArray), (⟨#[120]⟩ : ByteArray), (⟨#[97, 97, 97, 97]⟩ : ByteArray), (⟨#[101, 110, 100]⟩ : ByteArray)]).getD dn35 ByteArray.empty)]) :: F) _) := ⟨HS.out.rdLe (by omega)⟩
         exact ⟨_, rfl, (by first | omega | decide | exact Nat.le_trans (getD_le (m := 8) (by decide) _) (by decide) | exact Nat.le_trans (getD_le (m := 20) (by decide) _) (by decide) | (have := getD_le (xs := [(⟨#[104, 101, 108, 108, 111]⟩ : ByteArray), (⟨#[120]⟩ : ByteArray), (⟨#[97, 97, 97, 97]⟩ : ByteArray), (⟨#[101, 110, 100]⟩ : ByteArray)]) (m := 20) (by decide) dn35; (try simp only [app_size, lit_size, List.size_toArray, List.length_cons, List.length_nil]); omega)), ((HS.out.erase 2).erase 1)⟩
       ·clear HF; have HF := HF1; clear HF1
        have dcc22 := ne_of_beq_false cc22
        refine wc_false HF rfl ?_
        refine wp_skip ?_
        refine ex_then ?_
        refine wp_sr ?_
        refine wl_y rfl HF rfl rfl (yl_loadR (cs := [.int .i64 do32.fKind, .string do32.fPath, .string do32.fTo, .int .i64 do32.fAt, .string do32.fText]) rfl (HF.ev rfl) ((HS.out.box 0 rfl).sub 0 5) (by kernel_rfl)) ?_; clear HF a; intro a HF
        refine wl_call rfl HF rfl (enter_of Tryz.func7 (by kernel_rfl) rfl) (args := #[.agg #[.int .i64 do32.fKind, .string do32.fPath, .string do32.fTo, .int .i64 do32.fAt, .string do32.fText]]) rfl (specShellSay_any (⟨do32.fKind, do32.fPath, do32.fTo, do32.fAt, do32.fText⟩ : OpD) _ (show (do32.fPath).size ≤ 1048576 by first | omega | exact Nat.le_trans (getD_le (m := 100) (by decide) _) (by decide)) (show (do32.fTo).size ≤ 1048576 by first | omega | exact Nat.le_trans (getD_le (m := 100) (by decide) _) (by decide)) (show (do32.fText).size ≤ 1048576 by first | omega | exact Nat.le_trans (getD_le (m := 100) (by decide) _) (by decide))) rfl rfl ?_
        rintro _ w49 ⟨rfl, hb⟩
        have ht37 := sayF_size (⟨do32.fKind, do32.fPath, do32.fTo, do32.fAt, do32.fText⟩ : OpD); generalize sayF (⟨do32.fKind, do32.fPath, do32.fTo, do32.fAt, do32.fText⟩ : OpD) = dt37 at ht37; refine ⟨_, rfl, ?_⟩; replace HS := Bx.mk (HS.out.later hb); clear hb HF; clear a; intro a HF
        refine wl_as HF rfl rfl rfl rfl rfl ?_; clear HF a; intro a HF
        refine wl_ne ?_
        refine wp_seq ?_
        refine wp_sr ?_
        refine wl_mv HF rfl rfl rfl rfl rfl ?_; clear HF a; intro a HF
        refine wl_y rfl HF rfl rfl (yl_neqS rfl (HF.ev rfl) (HF.ev rfl)) ?_; clear HF a; intro a HF
        refine wl_ne ?_
        refine HF.cases 29 rfl (fun cc24 HF1 => ?_) (fun cc24 HF1 => ?_)
        ·clear HF; have HF := HF1; clear HF1
         refine wc_true HF rfl ?_
         refine wp_sr ?_
         refine wl_mv HF rfl rfl rfl rfl rfl ?_; clear HF a; intro a HF
         refine wl_as HF rfl rfl rfl rfl rfl ?_; clear HF a; intro a HF
         refine wl_ne ?_
         refine wp_ret ?_
         refine ex_then_ret ?_
         refine ex_block_ret ?_
         refine ex_then_ret ?_
         refine bp_ret1 HF Tryz.results22 (HF.res rfl) ?_
         replace HS : Bx (St w0 (rdA rb ab n cb (B + 1 + 120) :: boxA b33 5 24 (.agg #[.int .i64 do32.fKind, .string do32.fPath, .string do32.fTo, .int .i64 do32.fAt, .string do32.fText]) :: F) _) := ⟨(HS.out).pick 1 rfl⟩
         replace HS : Bx (St w0 (rdA rb ab n cb (B + 200) :: boxA b33 5 24 (.agg #[.int .i64 do32.fKind, .string do32.fPath, .string do32.fTo, .int .i64 do32.fAt, .string do32.fText]) :: F) _) := ⟨HS.out.rdLe (by omega)⟩
         exact ⟨_, rfl, (by first | omega | decide | exact Nat.le_trans (getD_le (m := 8) (by decide) _) (by decide) | exact Nat.le_trans (getD_le (m := 20) (by decide) _) (by decide) | ((try simp only [app_size, lit_size, List.size_toArray, List.length_cons, List.length_nil]); omega)), (HS.out.erase 1)⟩
        ·clear HF; have HF := HF1; clear HF1
         refine wc_false HF rfl ?_
         refine wp_skip ?_
         refine ex_then ?_
         refine wp_sr ?_
         refine wl_as HF rfl rfl rfl rfl rfl ?_; clear HF a; intro a HF
         refine wl_ne ?_
         refine wp_ret ?_
         refine ex_block_ret ?_
         refine ex_then_ret ?_
         refine bp_ret1 HF Tryz.results22 (HF.res rfl) ?_
         replace HS : Bx (St w0 (rdA rb ab n cb (B + 1 + 120) :: boxA b33 5 24 (.agg #[.int .i64 do32.fKind, .string do32.fPath, .string do32.fTo, .int .i64 do32.fAt, .string do32.fText]) :: F) _) := ⟨(HS.out).pick 1 rfl⟩
         replace HS : Bx (St w0 (rdA rb ab n cb (B + 200) :: boxA b33 5 24 (.agg #[.int .i64 do32.fKind, .string do32.fPath, .string do32.fTo, .int .i64 do32.fAt, .string do32.fText]) :: F) _) := ⟨HS.out.rdLe (by omega)⟩
         exact ⟨_, rfl, (by first | omega | decide | exact Nat.le_trans (getD_le (m := 8) (by decide) _) (by decide) | exact Nat.le_trans (getD_le (m := 20) (by decide) _) (by decide) | ((try simp only [app_size, lit_size, List.size_toArray, List.length_cons, List.length_nil]); omega)), (HS.out.erase 1)⟩
      ·clear HF; have HF := HF1; clear HF1
       have dcc21 := ne_of_beq_false cc21
       refine wc_false HF rfl ?_
       refine wp_region_lit ?_
       refine wl_y rfl HF rfl rfl (yl_eqlI rfl (HF.ev rfl) (HF.ev rfl)) ?_; clear HF a; intro a HF
       refine wl_as HF rfl rfl rfl rfl rfl ?_; clear HF a; intro a HF
       refine wl_ne ?_
       refine HF.cases 7 rfl (fun cc25 HF1 => ?_) (fun cc25 HF1 => ?_)
       ·clear HF; have HF := HF1; clear HF1
        have dcc25 := eq_of_beq cc25
        refine wc_true HF rfl ?_
        refine wp_sr ?_
        refine wl_mv HF rfl rfl rfl rfl rfl ?_; clear HF a; intro a HF
        replace HS : Bx (St w0 (rdA rb ab n cb (B + 1) :: F) _) := ⟨(HS.out).pick 0 rfl⟩
        refine wl_call rfl HF rfl (enter_of Tryz.func13 (by kernel_rfl) rfl) (args := #[.pointer (some ⟨rb, 0, none⟩)]) rfl (l92Op_any w0 _ rb ab n cb bs hn hR (B + 1) (by omega) _ HS.out) rfl rfl ?_
        rintro _ w50 ⟨do38, rfl, hoa38, hob38, hoc38, hs1⟩
        refine ⟨_, rfl, ?_⟩; replace HS := Bx.mk hs1; clear hs1 HF; clear a; intro a HF
        replace HS : Bx (St w0 (rdA rb ab n cb (B + 1 + 120) :: F) _) := ⟨HS.out⟩
        refine wl_alloc rfl HF rfl rfl rfl (Z := [.int .i64 0, .string ByteArray.empty, .string ByteArray.empty, .int .i64 0, .string ByteArray.empty]) (by kernel_rfl) rfl HS.out ?_; clear HF HS a; intro a w51 b39 HF HS; replace HS := Bx.mk HS
        refine wl_storeBox rfl HF rfl rfl (HF.ev rfl) (HF.ev rfl) HS.out 0 rfl (cells_lit [.int .i64 do38.fKind, .string do38.fPath, .string do38.fTo, .int .i64 do38.fAt, .string do38.fText] rfl rfl) (by kernel_rfl) ?_; clear HS; intro w52 HS; replace HS := Bx.mk HS
        have HS : Bx (St w0 (boxA b39 5 24 (.agg #[.int .i64 do38.fKind, .string do38.fPath, .string do38.fTo, .int .i64 do38.fAt, .string do38.fText]) :: rdA rb ab n cb (B + 1 + 120) :: F) _) := HS
        refine wl_ne ?_
        refine wp_seq ?_
        refine wp_sr ?_
        refine wl_y rfl HF rfl rfl (yl_fieldAddr (j := 0) rfl (HF.ev rfl) (by kernel_rfl)) ?_; clear HF a; intro a HF
        refine wl_y rfl HF rfl rfl (yl_load (v := .int .i64 do38.fKind) rfl (HF.ev rfl) (((HS.out.box 0 rfl).cell 0).trans rfl) (by kernel_rfl)) ?_; clear HF a; intro a HF
        refine wl_y rfl HF rfl rfl (yl_eqlI rfl (HF.ev rfl) (HF.ev rfl)) ?_; clear HF a; intro a HF
        refine wl_ne ?_
        refine HF.cases 19 rfl (fun cc26 HF1 => ?_) (fun cc26 HF1 => ?_)
        ·clear HF; have HF := HF1; clear HF1
         have dcc26 := eq_of_beq cc26
         refine wc_true HF rfl ?_
         refine wp_region_lit ?_
         refine wl_buildS (enc := encS) (e := 9) (size := 1) rfl HF rfl rfl rfl (ps := [(0, .string (⟨#[104, 101, 108, 108, 111]⟩ : ByteArray)), (1, .string (⟨#[120]⟩ : ByteArray)), (2, .string (⟨#[97, 97, 97, 97]⟩ : ByteArray)), (3, .string (⟨#[101, 110, 100]⟩ : ByteArray))]) rfl (cells := [.string (⟨#[104, 101, 108, 108, 111]⟩ : ByteArray), .string (⟨#[120]⟩ : ByteArray), .string (⟨#[97, 97, 97, 97]⟩ : ByteArray), .string (⟨#[101, 110, 100]⟩ : ByteArray)]) (by kernel_rfl) [(⟨#[104, 101, 108, 108, 111]⟩ : ByteArray), (⟨#[120]⟩ : ByteArray), (⟨#[97, 97, 97, 97]⟩ : ByteArray), (⟨#[101, 110, 100]⟩ : ByteArray)] rfl rfl (by unfold maxLen; omega) rfl HS.out ?_; clear HF HS a; intro b40 a w53 HF HS; replace HS := Bx.mk HS
         refine wl_mv HF rfl rfl rfl rfl rfl ?_; clear HF a; intro a HF
         replace HS : Bx (St w0 (rdA rb ab n cb (B + 1 + 120) :: rowA encS 1 9 (.slice (some ⟨b40, 0, none⟩) 4 4) ([(⟨#[104, 101, 108, 108, 111]⟩ : ByteArray), (⟨#[120]⟩ : ByteArray), (⟨#[97, 97, 97, 97]⟩ : ByteArray), (⟨#[101, 110, 100]⟩ : ByteArray)]) :: boxA b39 5 24 (.agg #[.int .i64 do38.fKind, .string do38.fPath, .string do38.fTo, .int .i64 do38.fAt, .string do38.fText]) :: F) _) := ⟨(HS.out).pick 2 rfl⟩
         refine wl_call rfl HF rfl (enter_of Tryz.func26 (by kernel_rfl) rfl) (args := #[.pointer (some ⟨rb, 0, none⟩), .int .i64 4]) rfl (pickN w0 _ rb ab n cb bs hn hR (B + 1 + 120) (by omega) 4 (by omega) _ HS.out) rfl rfl ?_
         rintro _ w54 ⟨dn41, rfl, hu41, hs1⟩
         refine ⟨_, rfl, ?_⟩; replace HS := Bx.mk hs1; clear hs1 HF; clear a; intro a HF
         replace HS : Bx (St w0 (rdA rb ab n cb (B + 1 + 120 + 1) :: rowA encS 1 9 (.slice (some ⟨b40, 0, none⟩) 4 4) ([(⟨#[104, 101, 108, 108, 111]⟩ : ByteArray), (⟨#[120]⟩ : ByteArray), (⟨#[97, 97, 97, 97]⟩ : ByteArray), (⟨#[101, 110, 100]⟩ : ByteArray)]) :: boxA b39 5 24 (.agg #[.int .i64 do38.fKind, .string do38.fPath, .string do38.fTo, .int .i64 do38.fAt, .string do38.fText]) :: F) _) := ⟨HS.out⟩
         refine wl_y rfl HF rfl rfl (yl_indexAddr (e := 9) (i := dn41) (size := 1) rfl (HF.ev rfl) (HF.ev rfl) (by kernel_rfl) rfl (by omega)) ?_; clear HF a; intro a HF
         refine wl_y rfl HF rfl rfl (yl_load (v := .string (([(⟨#[104, 101, 108, 108, 111]⟩ : ByteArray), (⟨#[120]⟩ : ByteArray), (⟨#[97, 97, 97, 97]⟩ : ByteArray), (⟨#[101, 110, 100]⟩ : ByteArray)]).getD dn41 ByteArray.empty)) rfl (HF.ev rfl) (HS.out.elem1 encS_len 1 rfl (get_getD (xs := [(⟨#[104, 101, 108, 108, 111]⟩ : ByteArray), (⟨#[120]⟩ : ByteArray), (⟨#[97, 97, 97, 97]⟩ : ByteArray), (⟨#[101, 110, 100]⟩ : ByteArray)]) (j := dn41) (d := ByteArray.empty) (by (try simp only [List.length_cons, List.length_nil]); omega)) rfl) (by kernel_rfl)) ?_; clear HF a; intro a HF
         refine wl_y rfl HF rfl rfl (yl_fieldAddr (j := 4) rfl (HF.ev rfl) (by kernel_rfl)) ?_; clear HF a; intro a HF
         refine wl_storeF rfl rfl rfl (HF.ev rfl) (HF.ev rfl) (by kernel_rfl) HS.out 2 rfl rfl rfl ?_; clear HS; intro w55 HS; replace HS := Bx.mk HS
         have HS : Bx (St w0 (rdA rb ab n cb (B + 1 + 120 + 1) :: rowA encS 1 9 (.slice (some ⟨b40, 0, none⟩) 4 4) ([(⟨#[104, 101, 108, 108, 111]⟩ : ByteArray), (⟨#[120]⟩ : ByteArray), (⟨#[97, 97, 97, 97]⟩ : ByteArray), (⟨#[101, 110, 100]⟩ : ByteArray)]) :: boxA b39 5 24 (.agg #[.int .i64 do38.fKind, .string do38.fPath, .string do38.fTo, .int .i64 do38.fAt, .string (([(⟨#[104, 101, 108, 108, 111]⟩ : ByteArray), (⟨#[120]⟩ : ByteArray), (⟨#[97, 97, 97, 97]⟩ : ByteArray), (⟨#[101, 110, 100]⟩ : ByteArray)]).getD dn41 ByteArray.empty)]) :: F) _) := HS
         refine wl_ne ?_
         refine wp_sr ?_
         refine wl_y rfl HF rfl rfl (yl_loadR (cs := [.int .i64 do38.fKind, .string do38.fPath, .string do38.fTo, .int .i64 do38.fAt, .string (([(⟨#[104, 101, 108, 108, 111]⟩ : ByteArray), (⟨#[120]⟩ : ByteArray), (⟨#[97, 97, 97, 97]⟩ : ByteArray), (⟨#[101, 110, 100]⟩ : ByteArray)]).getD dn41 ByteArray.empty)]) rfl (HF.ev rfl) ((HS.out.box 2 rfl).sub 0 5) (by kernel_rfl)) ?_; clear HF a; intro a HF
         refine wl_call rfl HF rfl (enter_of Tryz.func7 (by kernel_rfl) rfl) (args := #[.agg #[.int .i64 do38.fKind, .string do38.fPath, .string do38.fTo, .int .i64 do38.fAt, .string (([(⟨#[104, 101, 108, 108, 111]⟩ : ByteArray), (⟨#[120]⟩ : ByteArray), (⟨#[97, 97, 97, 97]⟩ : ByteArray), (⟨#[101, 110, 100]⟩ : ByteArray)]).getD dn41 ByteArray.empty)]]) rfl (specShellSay_any (⟨do38.fKind, do38.fPath, do38.fTo, do38.fAt, (([(⟨#[104, 101, 108, 108, 111]⟩ : ByteArray), (⟨#[120]⟩ : ByteArray), (⟨#[97, 97, 97, 97]⟩ : ByteArray), (⟨#[101, 110, 100]⟩ : ByteArray)]).getD dn41 ByteArray.empty)⟩ : OpD) _ (show (do38.fPath).size ≤ 1048576 by first | omega | exact Nat.le_trans (getD_le (m := 100) (by decide) _) (by decide)) (show (do38.fTo).size ≤ 1048576 by first | omega | exact Nat.le_trans (getD_le (m := 100) (by decide) _) (by decide)) (show ((([(⟨#[104, 101, 108, 108, 111]⟩ : ByteArray), (⟨#[120]⟩ : ByteArray), (⟨#[97, 97, 97, 97]⟩ : ByteArray), (⟨#[101, 110, 100]⟩ : ByteArray)]).getD dn41 ByteArray.empty)).size ≤ 1048576 by first | omega | exact Nat.le_trans (getD_le (m := 100) (by decide) _) (by decide))) rfl rfl ?_
         rintro _ w56 ⟨rfl, hb⟩
         have ht42 := sayF_size (⟨do38.fKind, do38.fPath, do38.fTo, do38.fAt, (([(⟨#[104, 101, 108, 108, 111]⟩ : ByteArray), (⟨#[120]⟩ : ByteArray), (⟨#[97, 97, 97, 97]⟩ : ByteArray), (⟨#[101, 110, 100]⟩ : ByteArray)]).getD dn41 ByteArray.empty)⟩ : OpD); generalize sayF (⟨do38.fKind, do38.fPath, do38.fTo, do38.fAt, (([(⟨#[104, 101, 108, 108, 111]⟩ : ByteArray), (⟨#[120]⟩ : ByteArray), (⟨#[97, 97, 97, 97]⟩ : ByteArray), (⟨#[101, 110, 100]⟩ : ByteArray)]).getD dn41 ByteArray.empty)⟩ : OpD) = dt42 at ht42; refine ⟨_, rfl, ?_⟩; replace HS := Bx.mk (HS.out.later hb); clear hb HF; clear a; intro a HF
         refine wl_as HF rfl rfl rfl rfl rfl ?_; clear HF a; intro a HF
         refine wl_ne ?_
         refine wp_seq ?_
         refine wp_sr ?_
         refine wl_mv HF rfl rfl rfl rfl rfl ?_; clear HF a; intro a HF
         refine wl_y rfl HF rfl rfl (yl_neqS rfl (HF.ev rfl) (HF.ev rfl)) ?_; clear HF a; intro a HF
         refine wl_ne ?_
         refine HF.cases 29 rfl (fun cc27 HF1 => ?_) (fun cc27 HF1 => ?_)
         ·clear HF; have HF := HF1; clear HF1
          refine wc_true HF rfl ?_
          refine wp_sr ?_
          refine wl_mv HF rfl rfl rfl rfl rfl ?_; clear HF a; intro a HF
          refine wl_as HF rfl rfl rfl rfl rfl ?_; clear HF a; intro a HF
          refine wl_ne ?_
          refine wp_ret ?_
          refine ex_then_ret ?_
          refine ex_block_ret ?_
          refine ex_then_ret ?_
          refine bp_ret1 HF Tryz.results22 (HF.res rfl) ?_
          replace HS : Bx (St w0 (rdA rb ab n cb (B + 1 + 120 + 1) :: rowA encS 1 9 (.slice (some ⟨b40, 0, none⟩) 4 4) ([(⟨#[104, 101, 108, 108, 111]⟩ : ByteArray), (⟨#[120]⟩ : ByteArray), (⟨#[97, 97, 97, 97]⟩ : ByteArray), (⟨#[101, 110, 100]⟩ : ByteArray)]) :: boxA b39 5 24 (.agg #[.int .i64 do38.fKind, .string do38.fPath, .string do38.fTo, .int .i64 do38.fAt, .string (([(⟨#[104, 101, 108, 108, 111]⟩ : ByteArray), (⟨#[120]⟩ : ByteArray), (⟨#[97, 97, 97, 97]⟩ : ByteArray), (⟨#[101, 110, 100]⟩ : ByteArray)]).getD dn41 ByteArray.empty)]) :: F) _) := ⟨(HS.out).pick 0 rfl⟩
          replace HS : Bx (St w0 (rdA rb ab n cb (B + 200) :: rowA encS 1 9 (.slice (some ⟨b40, 0, none⟩) 4 4) ([(⟨#[104, 101, 108, 108, 111]⟩ : ByteArray), (⟨#[120]⟩ : ByteArray), (⟨#[97, 97, 97, 97]⟩ : ByteArray), (⟨#[101, 110, 100]⟩ : ByteArray)]) :: boxA b39 5 24 (.agg #[.int .i64 do38.fKind, .string do38.fPath, .string do38.fTo, .int .i64 do38.fAt, .string (([(⟨#[104, 101, 108, 108, 111]⟩ : ByteArray), (⟨#[120]⟩ : ByteArray), (⟨#[97, 97, 97, 97]⟩ : ByteArray), (⟨#[101, 110, 100]⟩ : ByteArray)]).getD dn41 ByteArray.empty)]) :: F) _) := ⟨HS.out.rdLe (by omega)⟩
          exact ⟨_, rfl, (by first | omega | decide | exact Nat.le_trans (getD_le (m := 8) (by decide) _) (by decide) | exact Nat.le_trans (getD_le (m := 20) (by decide) _) (by decide) | (have := getD_le (xs := [(⟨#[104, 101, 108, 108, 111]⟩ : ByteArray), (⟨#[120]⟩ : ByteArray), (⟨#[97, 97, 97, 97]⟩ : ByteArray), (⟨#[101, 110, 100]⟩ : ByteArray)]) (m := 20) (by decide) dn41; (try simp only [app_size, lit_size, List.size_toArray, List.length_cons, List.length_nil]); omega)), ((HS.out.erase 2).erase 1)⟩
         ·clear HF; have HF := HF1; clear HF1
          refine wc_false HF rfl ?_
          refine wp_skip ?_
          refine ex_then ?_
          refine wp_sr ?_
          refine wl_as HF rfl rfl rfl rfl rfl ?_; clear HF a; intro a HF
          refine wl_ne ?_
          refine wp_ret ?_
          refine ex_block_ret ?_
          refine ex_then_ret ?_
          refine bp_ret1 HF Tryz.results22 (HF.res rfl) ?_
          replace HS : Bx (St w0 (rdA rb ab n cb (B + 1 + 120 + 1) :: rowA encS 1 9 (.slice (some ⟨b40, 0, none⟩) 4 4) ([(⟨#[104, 101, 108, 108, 111]⟩ : ByteArray), (⟨#[120]⟩ : ByteArray), (⟨#[97, 97, 97, 97]⟩ : ByteArray), (⟨#[101, 110, 100]⟩ : ByteArray)]) :: boxA b39 5 24 (.agg #[.int .i64 do38.fKind, .string do38.fPath, .string do38.fTo, .int .i64 do38.fAt, .string (([(⟨#[104, 101, 108, 108, 111]⟩ : ByteArray), (⟨#[120]⟩ : ByteArray), (⟨#[97, 97, 97, 97]⟩ : ByteArray), (⟨#[101, 110, 100]⟩ : ByteArray)]).getD dn41 ByteArray.empty)]) :: F) _) := ⟨(HS.out).pick 0 rfl⟩
          replace HS : Bx (St w0 (rdA rb ab n cb (B + 200) :: rowA encS 1 9 (.slice (some ⟨b40, 0, none⟩) 4 4) ([(⟨#[104, 101, 108, 108, 111]⟩ : ByteArray), (⟨#[120]⟩ : ByteArray), (⟨#[97, 97, 97, 97]⟩ : ByteArray), (⟨#[101, 110, 100]⟩ : ByteArray)]) :: boxA b39 5 24 (.agg #[.int .i64 do38.fKind, .string do38.fPath, .string do38.fTo, .int .i64 do38.fAt, .string (([(⟨#[104, 101, 108, 108, 111]⟩ : ByteArray), (⟨#[120]⟩ : ByteArray), (⟨#[97, 97, 97, 97]⟩ : ByteArray), (⟨#[101, 110, 100]⟩ : ByteArray)]).getD dn41 ByteArray.empty)]) :: F) _) := ⟨HS.out.rdLe (by omega)⟩
          exact ⟨_, rfl, (by first | omega | decide | exact Nat.le_trans (getD_le (m := 8) (by decide) _) (by decide) | exact Nat.le_trans (getD_le (m := 20) (by decide) _) (by decide) | (have := getD_le (xs := [(⟨#[104, 101, 108, 108, 111]⟩ : ByteArray), (⟨#[120]⟩ : ByteArray), (⟨#[97, 97, 97, 97]⟩ : ByteArray), (⟨#[101, 110, 100]⟩ : ByteArray)]) (m := 20) (by decide) dn41; (try simp only [app_size, lit_size, List.size_toArray, List.length_cons, List.length_nil]); omega)), ((HS.out.erase 2).erase 1)⟩
        ·clear HF; have HF := HF1; clear HF1
         have dcc26 := ne_of_beq_false cc26
         refine wc_false HF rfl ?_
         refine wp_skip ?_
         refine ex_then ?_
         refine wp_sr ?_
         refine wl_y rfl HF rfl rfl (yl_loadR (cs := [.int .i64 do38.fKind, .string do38.fPath, .string do38.fTo, .int .i64 do38.fAt, .string do38.fText]) rfl (HF.ev rfl) ((HS.out.box 0 rfl).sub 0 5) (by kernel_rfl)) ?_; clear HF a; intro a HF
         refine wl_call rfl HF rfl (enter_of Tryz.func7 (by kernel_rfl) rfl) (args := #[.agg #[.int .i64 do38.fKind, .string do38.fPath, .string do38.fTo, .int .i64 do38.fAt, .string do38.fText]]) rfl (specShellSay_any (⟨do38.fKind, do38.fPath, do38.fTo, do38.fAt, do38.fText⟩ : OpD) _ (show (do38.fPath).size ≤ 1048576 by first | omega | exact Nat.le_trans (getD_le (m := 100) (by decide) _) (by decide)) (show (do38.fTo).size ≤ 1048576 by first | omega | exact Nat.le_trans (getD_le (m := 100) (by decide) _) (by decide)) (show (do38.fText).size ≤ 1048576 by first | omega | exact Nat.le_trans (getD_le (m := 100) (by decide) _) (by decide))) rfl rfl ?_
         rintro _ w57 ⟨rfl, hb⟩
         have ht43 := sayF_size (⟨do38.fKind, do38.fPath, do38.fTo, do38.fAt, do38.fText⟩ : OpD); generalize sayF (⟨do38.fKind, do38.fPath, do38.fTo, do38.fAt, do38.fText⟩ : OpD) = dt43 at ht43; refine ⟨_, rfl, ?_⟩; replace HS := Bx.mk (HS.out.later hb); clear hb HF; clear a; intro a HF
         refine wl_as HF rfl rfl rfl rfl rfl ?_; clear HF a; intro a HF
         refine wl_ne ?_
         refine wp_seq ?_
         refine wp_sr ?_
         refine wl_mv HF rfl rfl rfl rfl rfl ?_; clear HF a; intro a HF
         refine wl_y rfl HF rfl rfl (yl_neqS rfl (HF.ev rfl) (HF.ev rfl)) ?_; clear HF a; intro a HF
         refine wl_ne ?_
         refine HF.cases 29 rfl (fun cc28 HF1 => ?_) (fun cc28 HF1 => ?_)
         ·clear HF; have HF := HF1; clear HF1
          refine wc_true HF rfl ?_
          refine wp_sr ?_
          refine wl_mv HF rfl rfl rfl rfl rfl ?_; clear HF a; intro a HF
          refine wl_as HF rfl rfl rfl rfl rfl ?_; clear HF a; intro a HF
          refine wl_ne ?_
          refine wp_ret ?_
          refine ex_then_ret ?_
          refine ex_block_ret ?_
          refine ex_then_ret ?_
          refine bp_ret1 HF Tryz.results22 (HF.res rfl) ?_
          replace HS : Bx (St w0 (rdA rb ab n cb (B + 1 + 120) :: boxA b39 5 24 (.agg #[.int .i64 do38.fKind, .string do38.fPath, .string do38.fTo, .int .i64 do38.fAt, .string do38.fText]) :: F) _) := ⟨(HS.out).pick 1 rfl⟩
          replace HS : Bx (St w0 (rdA rb ab n cb (B + 200) :: boxA b39 5 24 (.agg #[.int .i64 do38.fKind, .string do38.fPath, .string do38.fTo, .int .i64 do38.fAt, .string do38.fText]) :: F) _) := ⟨HS.out.rdLe (by omega)⟩
          exact ⟨_, rfl, (by first | omega | decide | exact Nat.le_trans (getD_le (m := 8) (by decide) _) (by decide) | exact Nat.le_trans (getD_le (m := 20) (by decide) _) (by decide) | ((try simp only [app_size, lit_size, List.size_toArray, List.length_cons, List.length_nil]); omega)), (HS.out.erase 1)⟩
         ·clear HF; have HF := HF1; clear HF1
          refine wc_false HF rfl ?_
          refine wp_skip ?_
          refine ex_then ?_
          refine wp_sr ?_
          refine wl_as HF rfl rfl rfl rfl rfl ?_; clear HF a; intro a HF
          refine wl_ne ?_
          refine wp_ret ?_
          refine ex_block_ret ?_
          refine ex_then_ret ?_
          refine bp_ret1 HF Tryz.results22 (HF.res rfl) ?_
          replace HS : Bx (St w0 (rdA rb ab n cb (B + 1 + 120) :: boxA b39 5 24 (.agg #[.int .i64 do38.fKind, .string do38.fPath, .string do38.fTo, .int .i64 do38.fAt, .string do38.fText]) :: F) _) := ⟨(HS.out).pick 1 rfl⟩
          replace HS : Bx (St w0 (rdA rb ab n cb (B + 200) :: boxA b39 5 24 (.agg #[.int .i64 do38.fKind, .string do38.fPath, .string do38.fTo, .int .i64 do38.fAt, .string do38.fText]) :: F) _) := ⟨HS.out.rdLe (by omega)⟩
          exact ⟨_, rfl, (by first | omega | decide | exact Nat.le_trans (getD_le (m := 8) (by decide) _) (by decide) | exact Nat.le_trans (getD_le (m := 20) (by decide) _) (by decide) | ((try simp only [app_size, lit_size, List.size_toArray, List.length_cons, List.length_nil]); omega)), (HS.out.erase 1)⟩
       ·clear HF; have HF := HF1; clear HF1
        have dcc25 := ne_of_beq_false cc25
        refine wc_false HF rfl ?_
        refine wp_sr ?_
        refine wl_y rfl HF rfl rfl (yl_eqlI rfl (HF.ev rfl) (HF.ev rfl)) ?_; clear HF a; intro a HF
        refine wl_as HF rfl rfl rfl rfl rfl ?_; clear HF a; intro a HF
        refine wl_ne ?_
        refine HF.cases 31 rfl (fun cc29 HF1 => ?_) (fun cc29 HF1 => ?_)
        ·clear HF; have HF := HF1; clear HF1
         have dcc29 := eq_of_beq cc29
         refine wc_true HF rfl ?_
         refine wp_sr ?_
         refine wl_mv HF rfl rfl rfl rfl rfl ?_; clear HF a; intro a HF
         replace HS : Bx (St w0 (rdA rb ab n cb (B + 1) :: F) _) := ⟨(HS.out).pick 0 rfl⟩
         refine wl_call rfl HF rfl (enter_of Tryz.func37 (by kernel_rfl) rfl) (args := #[.pointer (some ⟨rb, 0, none⟩)]) rfl (l92Name_any w0 _ rb ab n cb bs hn hR (B + 1) (by omega) _ HS.out) rfl rfl ?_
         rintro _ w58 ⟨dt44, rfl, ht44, hs1⟩
         refine ⟨_, rfl, ?_⟩; replace HS := Bx.mk hs1; clear hs1 HF; clear a; intro a HF
         replace HS : Bx (St w0 (rdA rb ab n cb (B + 1 + 2) :: F) _) := ⟨HS.out⟩
         refine wl_y rfl HF rfl rfl (yl_addS rfl (HF.ev rfl) (HF.ev rfl) (by (try simp only [app_size, lit_size, List.size_toArray, List.length_cons, List.length_nil]); omega)) ?_; clear HF a; intro a HF
         refine wl_as HF rfl rfl rfl rfl rfl ?_; clear HF a; intro a HF
         refine wl_ne ?_
         refine wp_ret ?_
         refine ex_block_ret ?_
         refine ex_then_ret ?_
         refine bp_ret1 HF Tryz.results22 (HF.res rfl) ?_
         replace HS : Bx (St w0 (rdA rb ab n cb (B + 1 + 2) :: F) _) := ⟨(HS.out).pick 0 rfl⟩
         replace HS : Bx (St w0 (rdA rb ab n cb (B + 200) :: F) _) := ⟨HS.out.rdLe (by omega)⟩
         exact ⟨_, rfl, (by first | omega | decide | exact Nat.le_trans (getD_le (m := 8) (by decide) _) (by decide) | exact Nat.le_trans (getD_le (m := 20) (by decide) _) (by decide) | ((try simp only [app_size, lit_size, List.size_toArray, List.length_cons, List.length_nil]); omega)), HS.out⟩
        ·clear HF; have HF := HF1; clear HF1
         have dcc29 := ne_of_beq_false cc29
         refine wc_false HF rfl ?_
         refine wp_sr ?_
         refine wl_y rfl HF rfl rfl (yl_eqlI rfl (HF.ev rfl) (HF.ev rfl)) ?_; clear HF a; intro a HF
         refine wl_as HF rfl rfl rfl rfl rfl ?_; clear HF a; intro a HF
         refine wl_ne ?_
         refine HF.cases 36 rfl (fun cc30 HF1 => ?_) (fun cc30 HF1 => ?_)
         ·clear HF; have HF := HF1; clear HF1
          have dcc30 := eq_of_beq cc30
          refine wc_true HF rfl ?_
          refine wp_sr ?_
          refine wl_mv HF rfl rfl rfl rfl rfl ?_; clear HF a; intro a HF
          replace HS : Bx (St w0 (rdA rb ab n cb (B + 1) :: F) _) := ⟨(HS.out).pick 0 rfl⟩
          refine wl_call rfl HF rfl (enter_of Tryz.func37 (by kernel_rfl) rfl) (args := #[.pointer (some ⟨rb, 0, none⟩)]) rfl (l92Name_any w0 _ rb ab n cb bs hn hR (B + 1) (by omega) _ HS.out) rfl rfl ?_
          rintro _ w59 ⟨dt45, rfl, ht45, hs1⟩
          refine ⟨_, rfl, ?_⟩; replace HS := Bx.mk hs1; clear hs1 HF; clear a; intro a HF
          replace HS : Bx (St w0 (rdA rb ab n cb (B + 1 + 2) :: F) _) := ⟨HS.out⟩
          refine wl_y rfl HF rfl rfl (yl_addS rfl (HF.ev rfl) (HF.ev rfl) (by (try simp only [app_size, lit_size, List.size_toArray, List.length_cons, List.length_nil]); omega)) ?_; clear HF a; intro a HF
          refine wl_as HF rfl rfl rfl rfl rfl ?_; clear HF a; intro a HF
          refine wl_ne ?_
          refine wp_ret ?_
          refine ex_block_ret ?_
          refine ex_then_ret ?_
          refine bp_ret1 HF Tryz.results22 (HF.res rfl) ?_
          replace HS : Bx (St w0 (rdA rb ab n cb (B + 1 + 2) :: F) _) := ⟨(HS.out).pick 0 rfl⟩
          replace HS : Bx (St w0 (rdA rb ab n cb (B + 200) :: F) _) := ⟨HS.out.rdLe (by omega)⟩
          exact ⟨_, rfl, (by first | omega | decide | exact Nat.le_trans (getD_le (m := 8) (by decide) _) (by decide) | exact Nat.le_trans (getD_le (m := 20) (by decide) _) (by decide) | ((try simp only [app_size, lit_size, List.size_toArray, List.length_cons, List.length_nil]); omega)), HS.out⟩
         ·clear HF; have HF := HF1; clear HF1
          have dcc30 := ne_of_beq_false cc30
          refine wc_false HF rfl ?_
          refine wp_sr ?_
          refine wl_y rfl HF rfl rfl (yl_eqlI rfl (HF.ev rfl) (HF.ev rfl)) ?_; clear HF a; intro a HF
          refine wl_as HF rfl rfl rfl rfl rfl ?_; clear HF a; intro a HF
          refine wl_ne ?_
          refine HF.cases 41 rfl (fun cc31 HF1 => ?_) (fun cc31 HF1 => ?_)
          ·clear HF; have HF := HF1; clear HF1
           have dcc31 := eq_of_beq cc31
           refine wc_true HF rfl ?_
           refine wp_sr ?_
           refine wl_mv HF rfl rfl rfl rfl rfl ?_; clear HF a; intro a HF
           replace HS : Bx (St w0 (rdA rb ab n cb (B + 1) :: F) _) := ⟨(HS.out).pick 0 rfl⟩
           refine wl_call rfl HF rfl (enter_of Tryz.func37 (by kernel_rfl) rfl) (args := #[.pointer (some ⟨rb, 0, none⟩)]) rfl (l92Name_any w0 _ rb ab n cb bs hn hR (B + 1) (by omega) _ HS.out) rfl rfl ?_
           rintro _ w60 ⟨dt46, rfl, ht46, hs1⟩
           refine ⟨_, rfl, ?_⟩; replace HS := Bx.mk hs1; clear hs1 HF; clear a; intro a HF
           replace HS : Bx (St w0 (rdA rb ab n cb (B + 1 + 2) :: F) _) := ⟨HS.out⟩
           refine wl_y rfl HF rfl rfl (yl_addS rfl (HF.ev rfl) (HF.ev rfl) (by (try simp only [app_size, lit_size, List.size_toArray, List.length_cons, List.length_nil]); omega)) ?_; clear HF a; intro a HF
           refine wl_y rfl HF rfl rfl (yl_addS rfl (HF.ev rfl) (HF.ev rfl) (by (try simp only [app_size, lit_size, List.size_toArray, List.length_cons, List.length_nil]); omega)) ?_; clear HF a; intro a HF
           refine wl_buildS (enc := encS) (e := 9) (size := 1) rfl HF rfl rfl rfl (ps := [(0, .string (⟨#[99]⟩ : ByteArray)), (1, .string (⟨#[98]⟩ : ByteArray))]) rfl (cells := [.string (⟨#[99]⟩ : ByteArray), .string (⟨#[98]⟩ : ByteArray)]) (by kernel_rfl) [(⟨#[99]⟩ : ByteArray), (⟨#[98]⟩ : ByteArray)] rfl rfl (by unfold maxLen; omega) rfl HS.out ?_; clear HF HS a; intro b47 a w61 HF HS; replace HS := Bx.mk HS
           refine wl_mv HF rfl rfl rfl rfl rfl ?_; clear HF a; intro a HF
           replace HS : Bx (St w0 (rdA rb ab n cb (B + 1 + 2) :: rowA encS 1 9 (.slice (some ⟨b47, 0, none⟩) 2 2) ([(⟨#[99]⟩ : ByteArray), (⟨#[98]⟩ : ByteArray)]) :: F) _) := ⟨(HS.out).pick 1 rfl⟩
           refine wl_call rfl HF rfl (enter_of Tryz.func26 (by kernel_rfl) rfl) (args := #[.pointer (some ⟨rb, 0, none⟩), .int .i64 2]) rfl (pickN w0 _ rb ab n cb bs hn hR (B + 1 + 2) (by omega) 2 (by omega) _ HS.out) rfl rfl ?_
           rintro _ w62 ⟨dn48, rfl, hu48, hs1⟩
           refine ⟨_, rfl, ?_⟩; replace HS := Bx.mk hs1; clear hs1 HF; clear a; intro a HF
           replace HS : Bx (St w0 (rdA rb ab n cb (B + 1 + 2 + 1) :: rowA encS 1 9 (.slice (some ⟨b47, 0, none⟩) 2 2) ([(⟨#[99]⟩ : ByteArray), (⟨#[98]⟩ : ByteArray)]) :: F) _) := ⟨HS.out⟩
           refine wl_y rfl HF rfl rfl (yl_indexAddr (e := 9) (i := dn48) (size := 1) rfl (HF.ev rfl) (HF.ev rfl) (by kernel_rfl) rfl (by omega)) ?_; clear HF a; intro a HF
           refine wl_y rfl HF rfl rfl (yl_load (v := .string (([(⟨#[99]⟩ : ByteArray), (⟨#[98]⟩ : ByteArray)]).getD dn48 ByteArray.empty)) rfl (HF.ev rfl) (HS.out.elem1 encS_len 1 rfl (get_getD (xs := [(⟨#[99]⟩ : ByteArray), (⟨#[98]⟩ : ByteArray)]) (j := dn48) (d := ByteArray.empty) (by (try simp only [List.length_cons, List.length_nil]); omega)) rfl) (by kernel_rfl)) ?_; clear HF a; intro a HF
           refine wl_y rfl HF rfl rfl (yl_addS rfl (HF.ev rfl) (HF.ev rfl) (by have := getD_le (xs := [(⟨#[99]⟩ : ByteArray), (⟨#[98]⟩ : ByteArray)]) (m := 20) (by decide) dn48; (try simp only [app_size, lit_size, List.size_toArray, List.length_cons, List.length_nil]); omega)) ?_; clear HF a; intro a HF
           refine wl_as HF rfl rfl rfl rfl rfl ?_; clear HF a; intro a HF
           refine wl_ne ?_
           refine wp_ret ?_
           refine ex_block_ret ?_
           refine ex_then_ret ?_
           refine bp_ret1 HF Tryz.results22 (HF.res rfl) ?_
           replace HS : Bx (St w0 (rdA rb ab n cb (B + 1 + 2 + 1) :: rowA encS 1 9 (.slice (some ⟨b47, 0, none⟩) 2 2) ([(⟨#[99]⟩ : ByteArray), (⟨#[98]⟩ : ByteArray)]) :: F) _) := ⟨(HS.out).pick 0 rfl⟩
           replace HS : Bx (St w0 (rdA rb ab n cb (B + 200) :: rowA encS 1 9 (.slice (some ⟨b47, 0, none⟩) 2 2) ([(⟨#[99]⟩ : ByteArray), (⟨#[98]⟩ : ByteArray)]) :: F) _) := ⟨HS.out.rdLe (by omega)⟩
           exact ⟨_, rfl, (by first | omega | decide | exact Nat.le_trans (getD_le (m := 8) (by decide) _) (by decide) | exact Nat.le_trans (getD_le (m := 20) (by decide) _) (by decide) | (have := getD_le (xs := [(⟨#[99]⟩ : ByteArray), (⟨#[98]⟩ : ByteArray)]) (m := 20) (by decide) dn48; (try simp only [app_size, lit_size, List.size_toArray, List.length_cons, List.length_nil]); omega)), (HS.out.erase 1)⟩
          ·clear HF; have HF := HF1; clear HF1
           have dcc31 := ne_of_beq_false cc31
           refine wc_false HF rfl ?_
           refine wp_sr ?_
           refine wl_y rfl HF rfl rfl (yl_eqlI rfl (HF.ev rfl) (HF.ev rfl)) ?_; clear HF a; intro a HF
           refine wl_as HF rfl rfl rfl rfl rfl ?_; clear HF a; intro a HF
           refine wl_ne ?_
           refine HF.cases 53 rfl (fun cc32 HF1 => ?_) (fun cc32 HF1 => ?_)
           ·clear HF; have HF := HF1; clear HF1
            have dcc32 := eq_of_beq cc32
            refine wc_true HF rfl ?_
            refine wp_sr ?_
            refine wl_mv HF rfl rfl rfl rfl rfl ?_; clear HF a; intro a HF
            replace HS : Bx (St w0 (rdA rb ab n cb (B + 1) :: F) _) := ⟨(HS.out).pick 0 rfl⟩
            refine wl_call rfl HF rfl (enter_of Tryz.func38 (by kernel_rfl) rfl) (args := #[.pointer (some ⟨rb, 0, none⟩)]) rfl (l93Head_any w0 _ rb ab n cb bs hn hR (B + 1) (by omega) _ HS.out) rfl rfl ?_
            rintro _ w63 ⟨dt49, rfl, ht49, hs1⟩
            refine ⟨_, rfl, ?_⟩; replace HS := Bx.mk hs1; clear hs1 HF; clear a; intro a HF
            replace HS : Bx (St w0 (rdA rb ab n cb (B + 1 + 4) :: F) _) := ⟨HS.out⟩
            refine wl_y rfl HF rfl rfl (yl_addS rfl (HF.ev rfl) (HF.ev rfl) (by (try simp only [app_size, lit_size, List.size_toArray, List.length_cons, List.length_nil]); omega)) ?_; clear HF a; intro a HF
            refine wl_as HF rfl rfl rfl rfl rfl ?_; clear HF a; intro a HF
            refine wl_ne ?_
            refine wp_ret ?_
            refine ex_block_ret ?_
            refine ex_then_ret ?_
            refine bp_ret1 HF Tryz.results22 (HF.res rfl) ?_
            replace HS : Bx (St w0 (rdA rb ab n cb (B + 1 + 4) :: F) _) := ⟨(HS.out).pick 0 rfl⟩
            replace HS : Bx (St w0 (rdA rb ab n cb (B + 200) :: F) _) := ⟨HS.out.rdLe (by omega)⟩
            exact ⟨_, rfl, (by first | omega | decide | exact Nat.le_trans (getD_le (m := 8) (by decide) _) (by decide) | exact Nat.le_trans (getD_le (m := 20) (by decide) _) (by decide) | ((try simp only [app_size, lit_size, List.size_toArray, List.length_cons, List.length_nil]); omega)), HS.out⟩
           ·clear HF; have HF := HF1; clear HF1
            have dcc32 := ne_of_beq_false cc32
            refine wc_false HF rfl ?_
            refine wp_sr ?_
            refine wl_y rfl HF rfl rfl (yl_eqlI rfl (HF.ev rfl) (HF.ev rfl)) ?_; clear HF a; intro a HF
            refine wl_as HF rfl rfl rfl rfl rfl ?_; clear HF a; intro a HF
            refine wl_ne ?_
            refine HF.cases 58 rfl (fun cc33 HF1 => ?_) (fun cc33 HF1 => ?_)
            ·clear HF; have HF := HF1; clear HF1
             have dcc33 := eq_of_beq cc33
             refine wc_true HF rfl ?_
             refine wp_sr ?_
             refine wl_mv HF rfl rfl rfl rfl rfl ?_; clear HF a; intro a HF
             replace HS : Bx (St w0 (rdA rb ab n cb (B + 1) :: F) _) := ⟨(HS.out).pick 0 rfl⟩
             refine wl_call rfl HF rfl (enter_of Tryz.func26 (by kernel_rfl) rfl) (args := #[.pointer (some ⟨rb, 0, none⟩), .int .i64 9]) rfl (pickN w0 _ rb ab n cb bs hn hR (B + 1) (by omega) 9 (by omega) _ HS.out) rfl rfl ?_
             rintro _ w64 ⟨dn50, rfl, hu50, hs1⟩
             refine ⟨_, rfl, ?_⟩; replace HS := Bx.mk hs1; clear hs1 HF; clear a; intro a HF
             replace HS : Bx (St w0 (rdA rb ab n cb (B + 1 + 1) :: F) _) := ⟨HS.out⟩
             refine wl_call rfl HF rfl (enter_of Tryz.func18 (by kernel_rfl) rfl) (args := #[.int .i64 (dn50 : Int)]) rfl (l6Dec_ex (dn50 : Int) (by omega) (by omega) _) rfl rfl ?_
             rintro _ w65 ⟨dt51, rfl, ht51, hb⟩
             refine ⟨_, rfl, ?_⟩; replace HS := Bx.mk (HS.out.later hb); clear hb HF; clear a; intro a HF
             refine wl_y rfl HF rfl rfl (yl_addS rfl (HF.ev rfl) (HF.ev rfl) (by (try simp only [app_size, lit_size, List.size_toArray, List.length_cons, List.length_nil]); omega)) ?_; clear HF a; intro a HF
             refine wl_as HF rfl rfl rfl rfl rfl ?_; clear HF a; intro a HF
             refine wl_ne ?_
             refine wp_ret ?_
             refine ex_block_ret ?_
             refine ex_then_ret ?_
             refine bp_ret1 HF Tryz.results22 (HF.res rfl) ?_
             replace HS : Bx (St w0 (rdA rb ab n cb (B + 1 + 1) :: F) _) := ⟨(HS.out).pick 0 rfl⟩
             replace HS : Bx (St w0 (rdA rb ab n cb (B + 200) :: F) _) := ⟨HS.out.rdLe (by omega)⟩
             exact ⟨_, rfl, (by first | omega | decide | exact Nat.le_trans (getD_le (m := 8) (by decide) _) (by decide) | exact Nat.le_trans (getD_le (m := 20) (by decide) _) (by decide) | ((try simp only [app_size, lit_size, List.size_toArray, List.length_cons, List.length_nil]); omega)), HS.out⟩
            ·clear HF; have HF := HF1; clear HF1
             have dcc33 := ne_of_beq_false cc33
             refine wc_false HF rfl ?_
             refine wp_sr ?_
             refine wl_y rfl HF rfl rfl (yl_eqlI rfl (HF.ev rfl) (HF.ev rfl)) ?_; clear HF a; intro a HF
             refine wl_as HF rfl rfl rfl rfl rfl ?_; clear HF a; intro a HF
             refine wl_ne ?_
             refine HF.cases 64 rfl (fun cc34 HF1 => ?_) (fun cc34 HF1 => ?_)
             ·clear HF; have HF := HF1; clear HF1
              have dcc34 := eq_of_beq cc34
              refine wc_true HF rfl ?_
              refine wp_sr ?_
              refine wl_mv HF rfl rfl rfl rfl rfl ?_; clear HF a; intro a HF
              replace HS : Bx (St w0 (rdA rb ab n cb (B + 1) :: F) _) := ⟨(HS.out).pick 0 rfl⟩
              refine wl_call rfl HF rfl (enter_of Tryz.func26 (by kernel_rfl) rfl) (args := #[.pointer (some ⟨rb, 0, none⟩), .int .i64 4]) rfl (pickN w0 _ rb ab n cb bs hn hR (B + 1) (by omega) 4 (by omega) _ HS.out) rfl rfl ?_
              rintro _ w66 ⟨dn52, rfl, hu52, hs1⟩
              refine ⟨_, rfl, ?_⟩; replace HS := Bx.mk hs1; clear hs1 HF; clear a; intro a HF
              replace HS : Bx (St w0 (rdA rb ab n cb (B + 1 + 1) :: F) _) := ⟨HS.out⟩
              refine wl_call rfl HF rfl (enter_of Tryz.func18 (by kernel_rfl) rfl) (args := #[.int .i64 (dn52 : Int)]) rfl (l6Dec_ex (dn52 : Int) (by omega) (by omega) _) rfl rfl ?_
              rintro _ w67 ⟨dt53, rfl, ht53, hb⟩
              refine ⟨_, rfl, ?_⟩; replace HS := Bx.mk (HS.out.later hb); clear hb HF; clear a; intro a HF
              refine wl_y rfl HF rfl rfl (yl_addS rfl (HF.ev rfl) (HF.ev rfl) (by (try simp only [app_size, lit_size, List.size_toArray, List.length_cons, List.length_nil]); omega)) ?_; clear HF a; intro a HF
              refine wl_as HF rfl rfl rfl rfl rfl ?_; clear HF a; intro a HF
              refine wl_ne ?_
              refine wp_ret ?_
              refine ex_block_ret ?_
              refine ex_then_ret ?_
              refine bp_ret1 HF Tryz.results22 (HF.res rfl) ?_
              replace HS : Bx (St w0 (rdA rb ab n cb (B + 1 + 1) :: F) _) := ⟨(HS.out).pick 0 rfl⟩
              replace HS : Bx (St w0 (rdA rb ab n cb (B + 200) :: F) _) := ⟨HS.out.rdLe (by omega)⟩
              exact ⟨_, rfl, (by first | omega | decide | exact Nat.le_trans (getD_le (m := 8) (by decide) _) (by decide) | exact Nat.le_trans (getD_le (m := 20) (by decide) _) (by decide) | ((try simp only [app_size, lit_size, List.size_toArray, List.length_cons, List.length_nil]); omega)), HS.out⟩
             ·clear HF; have HF := HF1; clear HF1
              have dcc34 := ne_of_beq_false cc34
              refine wc_false HF rfl ?_
              refine wp_sr ?_
              refine wl_y rfl HF rfl rfl (yl_eqlI rfl (HF.ev rfl) (HF.ev rfl)) ?_; clear HF a; intro a HF
              refine wl_as HF rfl rfl rfl rfl rfl ?_; clear HF a; intro a HF
              refine wl_ne ?_
              refine HF.cases 70 rfl (fun cc35 HF1 => ?_) (fun cc35 HF1 => ?_)
              ·clear HF; have HF := HF1; clear HF1
               have dcc35 := eq_of_beq cc35
               refine wc_true HF rfl ?_
               refine wp_sr ?_
               refine wl_mv HF rfl rfl rfl rfl rfl ?_; clear HF a; intro a HF
               replace HS : Bx (St w0 (rdA rb ab n cb (B + 1) :: F) _) := ⟨(HS.out).pick 0 rfl⟩
               refine wl_call rfl HF rfl (enter_of Tryz.func26 (by kernel_rfl) rfl) (args := #[.pointer (some ⟨rb, 0, none⟩), .int .i64 4]) rfl (pickN w0 _ rb ab n cb bs hn hR (B + 1) (by omega) 4 (by omega) _ HS.out) rfl rfl ?_
               rintro _ w68 ⟨dn54, rfl, hu54, hs1⟩
               refine ⟨_, rfl, ?_⟩; replace HS := Bx.mk hs1; clear hs1 HF; clear a; intro a HF
               replace HS : Bx (St w0 (rdA rb ab n cb (B + 1 + 1) :: F) _) := ⟨HS.out⟩
               refine wl_call rfl HF rfl (enter_of Tryz.func18 (by kernel_rfl) rfl) (args := #[.int .i64 (dn54 : Int)]) rfl (l6Dec_ex (dn54 : Int) (by omega) (by omega) _) rfl rfl ?_
               rintro _ w69 ⟨dt55, rfl, ht55, hb⟩
               refine ⟨_, rfl, ?_⟩; replace HS := Bx.mk (HS.out.later hb); clear hb HF; clear a; intro a HF
               refine wl_y rfl HF rfl rfl (yl_addS rfl (HF.ev rfl) (HF.ev rfl) (by (try simp only [app_size, lit_size, List.size_toArray, List.length_cons, List.length_nil]); omega)) ?_; clear HF a; intro a HF
               refine wl_as HF rfl rfl rfl rfl rfl ?_; clear HF a; intro a HF
               refine wl_ne ?_
               refine wp_ret ?_
               refine ex_block_ret ?_
               refine ex_then_ret ?_
               refine bp_ret1 HF Tryz.results22 (HF.res rfl) ?_
               replace HS : Bx (St w0 (rdA rb ab n cb (B + 1 + 1) :: F) _) := ⟨(HS.out).pick 0 rfl⟩
               replace HS : Bx (St w0 (rdA rb ab n cb (B + 200) :: F) _) := ⟨HS.out.rdLe (by omega)⟩
               exact ⟨_, rfl, (by first | omega | decide | exact Nat.le_trans (getD_le (m := 8) (by decide) _) (by decide) | exact Nat.le_trans (getD_le (m := 20) (by decide) _) (by decide) | ((try simp only [app_size, lit_size, List.size_toArray, List.length_cons, List.length_nil]); omega)), HS.out⟩
              ·clear HF; have HF := HF1; clear HF1
               have dcc35 := ne_of_beq_false cc35
               refine wc_false HF rfl ?_
               refine wp_sr ?_
               refine wl_y rfl HF rfl rfl (yl_eqlI rfl (HF.ev rfl) (HF.ev rfl)) ?_; clear HF a; intro a HF
               refine wl_as HF rfl rfl rfl rfl rfl ?_; clear HF a; intro a HF
               refine wl_ne ?_
               refine HF.cases 76 rfl (fun cc36 HF1 => ?_) (fun cc36 HF1 => ?_)
               ·clear HF; have HF := HF1; clear HF1
                have dcc36 := eq_of_beq cc36
                refine wc_true HF rfl ?_
                refine wp_sr ?_
                refine wl_mv HF rfl rfl rfl rfl rfl ?_; clear HF a; intro a HF
                replace HS : Bx (St w0 (rdA rb ab n cb (B + 1) :: F) _) := ⟨(HS.out).pick 0 rfl⟩
                refine wl_call rfl HF rfl (enter_of Tryz.func26 (by kernel_rfl) rfl) (args := #[.pointer (some ⟨rb, 0, none⟩), .int .i64 3]) rfl (pickN w0 _ rb ab n cb bs hn hR (B + 1) (by omega) 3 (by omega) _ HS.out) rfl rfl ?_
                rintro _ w70 ⟨dn56, rfl, hu56, hs1⟩
                refine ⟨_, rfl, ?_⟩; replace HS := Bx.mk hs1; clear hs1 HF; clear a; intro a HF
                replace HS : Bx (St w0 (rdA rb ab n cb (B + 1 + 1) :: F) _) := ⟨HS.out⟩
                refine wl_call rfl HF rfl (enter_of Tryz.func18 (by kernel_rfl) rfl) (args := #[.int .i64 (dn56 : Int)]) rfl (l6Dec_ex (dn56 : Int) (by omega) (by omega) _) rfl rfl ?_
                rintro _ w71 ⟨dt57, rfl, ht57, hb⟩
                refine ⟨_, rfl, ?_⟩; replace HS := Bx.mk (HS.out.later hb); clear hb HF; clear a; intro a HF
                refine wl_y rfl HF rfl rfl (yl_addS rfl (HF.ev rfl) (HF.ev rfl) (by (try simp only [app_size, lit_size, List.size_toArray, List.length_cons, List.length_nil]); omega)) ?_; clear HF a; intro a HF
                refine wl_y rfl HF rfl rfl (yl_addS rfl (HF.ev rfl) (HF.ev rfl) (by (try simp only [app_size, lit_size, List.size_toArray, List.length_cons, List.length_nil]); omega)) ?_; clear HF a; intro a HF
                refine wl_mv HF rfl rfl rfl rfl rfl ?_; clear HF a; intro a HF
                replace HS : Bx (St w0 (rdA rb ab n cb (B + 1 + 1) :: F) _) := ⟨(HS.out).pick 0 rfl⟩
                refine wl_call rfl HF rfl (enter_of Tryz.func26 (by kernel_rfl) rfl) (args := #[.pointer (some ⟨rb, 0, none⟩), .int .i64 9]) rfl (pickN w0 _ rb ab n cb bs hn hR (B + 1 + 1) (by omega) 9 (by omega) _ HS.out) rfl rfl ?_
                rintro _ w72 ⟨dn58, rfl, hu58, hs1⟩
                refine ⟨_, rfl, ?_⟩; replace HS := Bx.mk hs1; clear hs1 HF; clear a; intro a HF
                replace HS : Bx (St w0 (rdA rb ab n cb (B + 1 + 1 + 1) :: F) _) := ⟨HS.out⟩
                refine wl_y rfl HF rfl rfl (yl_addI rfl (HF.ev rfl) (HF.ev rfl) (i64w (by omega))) ?_; clear HF a; intro a HF
                refine wl_call rfl HF rfl (enter_of Tryz.func18 (by kernel_rfl) rfl) (args := #[.int .i64 ((8 : Int) + (dn58 : Int))]) rfl (l6Dec_ex ((8 : Int) + (dn58 : Int)) (by omega) (by omega) _) rfl rfl ?_
                rintro _ w73 ⟨dt59, rfl, ht59, hb⟩
                refine ⟨_, rfl, ?_⟩; replace HS := Bx.mk (HS.out.later hb); clear hb HF; clear a; intro a HF
                refine wl_y rfl HF rfl rfl (yl_addS rfl (HF.ev rfl) (HF.ev rfl) (by (try simp only [app_size, lit_size, List.size_toArray, List.length_cons, List.length_nil]); omega)) ?_; clear HF a; intro a HF
                refine wl_y rfl HF rfl rfl (yl_addS rfl (HF.ev rfl) (HF.ev rfl) (by (try simp only [app_size, lit_size, List.size_toArray, List.length_cons, List.length_nil]); omega)) ?_; clear HF a; intro a HF
                refine wl_as HF rfl rfl rfl rfl rfl ?_; clear HF a; intro a HF
                refine wl_ne ?_
                refine wp_ret ?_
                refine ex_block_ret ?_
                refine ex_then_ret ?_
                refine bp_ret1 HF Tryz.results22 (HF.res rfl) ?_
                replace HS : Bx (St w0 (rdA rb ab n cb (B + 1 + 1 + 1) :: F) _) := ⟨(HS.out).pick 0 rfl⟩
                replace HS : Bx (St w0 (rdA rb ab n cb (B + 200) :: F) _) := ⟨HS.out.rdLe (by omega)⟩
                exact ⟨_, rfl, (by first | omega | decide | exact Nat.le_trans (getD_le (m := 8) (by decide) _) (by decide) | exact Nat.le_trans (getD_le (m := 20) (by decide) _) (by decide) | ((try simp only [app_size, lit_size, List.size_toArray, List.length_cons, List.length_nil]); omega)), HS.out⟩
               ·clear HF; have HF := HF1; clear HF1
                have dcc36 := ne_of_beq_false cc36
                refine wc_false HF rfl ?_
                refine wp_sr ?_
                refine wl_y rfl HF rfl rfl (yl_eqlI rfl (HF.ev rfl) (HF.ev rfl)) ?_; clear HF a; intro a HF
                refine wl_as HF rfl rfl rfl rfl rfl ?_; clear HF a; intro a HF
                refine wl_ne ?_
                refine HF.cases 89 rfl (fun cc37 HF1 => ?_) (fun cc37 HF1 => ?_)
                ·clear HF; have HF := HF1; clear HF1
                 have dcc37 := eq_of_beq cc37
                 refine wc_true HF rfl ?_
                 refine wp_sr ?_
                 refine wl_mv HF rfl rfl rfl rfl rfl ?_; clear HF a; intro a HF
                 replace HS : Bx (St w0 (rdA rb ab n cb (B + 1) :: F) _) := ⟨(HS.out).pick 0 rfl⟩
                 refine wl_call rfl HF rfl (enter_of Tryz.func37 (by kernel_rfl) rfl) (args := #[.pointer (some ⟨rb, 0, none⟩)]) rfl (l92Name_any w0 _ rb ab n cb bs hn hR (B + 1) (by omega) _ HS.out) rfl rfl ?_
                 rintro _ w74 ⟨dt60, rfl, ht60, hs1⟩
                 refine ⟨_, rfl, ?_⟩; replace HS := Bx.mk hs1; clear hs1 HF; clear a; intro a HF
                 replace HS : Bx (St w0 (rdA rb ab n cb (B + 1 + 2) :: F) _) := ⟨HS.out⟩
                 refine wl_y rfl HF rfl rfl (yl_addS rfl (HF.ev rfl) (HF.ev rfl) (by (try simp only [app_size, lit_size, List.size_toArray, List.length_cons, List.length_nil]); omega)) ?_; clear HF a; intro a HF
                 refine wl_y rfl HF rfl rfl (yl_addS rfl (HF.ev rfl) (HF.ev rfl) (by (try simp only [app_size, lit_size, List.size_toArray, List.length_cons, List.length_nil]); omega)) ?_; clear HF a; intro a HF
                 refine wl_mv HF rfl rfl rfl rfl rfl ?_; clear HF a; intro a HF
                 replace HS : Bx (St w0 (rdA rb ab n cb (B + 1 + 2) :: F) _) := ⟨(HS.out).pick 0 rfl⟩
                 refine wl_call rfl HF rfl (enter_of Tryz.func37 (by kernel_rfl) rfl) (args := #[.pointer (some ⟨rb, 0, none⟩)]) rfl (l92Name_any w0 _ rb ab n cb bs hn hR (B + 1 + 2) (by omega) _ HS.out) rfl rfl ?_
                 rintro _ w75 ⟨dt61, rfl, ht61, hs1⟩
                 refine ⟨_, rfl, ?_⟩; replace HS := Bx.mk hs1; clear hs1 HF; clear a; intro a HF
                 replace HS : Bx (St w0 (rdA rb ab n cb (B + 1 + 2 + 2) :: F) _) := ⟨HS.out⟩
                 refine wl_y rfl HF rfl rfl (yl_addS rfl (HF.ev rfl) (HF.ev rfl) (by (try simp only [app_size, lit_size, List.size_toArray, List.length_cons, List.length_nil]); omega)) ?_; clear HF a; intro a HF
                 refine wl_as HF rfl rfl rfl rfl rfl ?_; clear HF a; intro a HF
                 refine wl_ne ?_
                 refine wp_ret ?_
                 refine ex_block_ret ?_
                 refine ex_then_ret ?_
                 refine bp_ret1 HF Tryz.results22 (HF.res rfl) ?_
                 replace HS : Bx (St w0 (rdA rb ab n cb (B + 1 + 2 + 2) :: F) _) := ⟨(HS.out).pick 0 rfl⟩
                 replace HS : Bx (St w0 (rdA rb ab n cb (B + 200) :: F) _) := ⟨HS.out.rdLe (by omega)⟩
                 exact ⟨_, rfl, (by first | omega | decide | exact Nat.le_trans (getD_le (m := 8) (by decide) _) (by decide) | exact Nat.le_trans (getD_le (m := 20) (by decide) _) (by decide) | ((try simp only [app_size, lit_size, List.size_toArray, List.length_cons, List.length_nil]); omega)), HS.out⟩
                ·clear HF; have HF := HF1; clear HF1
                 have dcc37 := ne_of_beq_false cc37
                 refine wc_false HF rfl ?_
                 refine wp_sr ?_
                 refine wl_y rfl HF rfl rfl (yl_eqlI rfl (HF.ev rfl) (HF.ev rfl)) ?_; clear HF a; intro a HF
                 refine wl_as HF rfl rfl rfl rfl rfl ?_; clear HF a; intro a HF
                 refine wl_ne ?_
                 refine HF.cases 98 rfl (fun cc38 HF1 => ?_) (fun cc38 HF1 => ?_)
                 ·clear HF; have HF := HF1; clear HF1
                  have dcc38 := eq_of_beq cc38
                  refine wc_true HF rfl ?_
                  refine wp_sr ?_
                  refine wl_mv HF rfl rfl rfl rfl rfl ?_; clear HF a; intro a HF
                  replace HS : Bx (St w0 (rdA rb ab n cb (B + 1) :: F) _) := ⟨(HS.out).pick 0 rfl⟩
                  refine wl_call rfl HF rfl (enter_of Tryz.func27 (by kernel_rfl) rfl) (args := #[.pointer (some ⟨rb, 0, none⟩)]) rfl (l92Path_any w0 _ rb ab n cb bs hn hR (B + 1) (by omega) _ HS.out) rfl rfl ?_
                  rintro _ w76 ⟨dt62, rfl, ht62, hs1⟩
                  refine ⟨_, rfl, ?_⟩; replace HS := Bx.mk hs1; clear hs1 HF; clear a; intro a HF
                  replace HS : Bx (St w0 (rdA rb ab n cb (B + 1 + 2) :: F) _) := ⟨HS.out⟩
                  refine wl_y rfl HF rfl rfl (yl_addS rfl (HF.ev rfl) (HF.ev rfl) (by (try simp only [app_size, lit_size, List.size_toArray, List.length_cons, List.length_nil]); omega)) ?_; clear HF a; intro a HF
                  refine wl_as HF rfl rfl rfl rfl rfl ?_; clear HF a; intro a HF
                  refine wl_ne ?_
                  refine wp_ret ?_
                  refine ex_block_ret ?_
                  refine ex_then_ret ?_
                  refine bp_ret1 HF Tryz.results22 (HF.res rfl) ?_
                  replace HS : Bx (St w0 (rdA rb ab n cb (B + 1 + 2) :: F) _) := ⟨(HS.out).pick 0 rfl⟩
                  replace HS : Bx (St w0 (rdA rb ab n cb (B + 200) :: F) _) := ⟨HS.out.rdLe (by omega)⟩
                  exact ⟨_, rfl, (by first | omega | decide | exact Nat.le_trans (getD_le (m := 8) (by decide) _) (by decide) | exact Nat.le_trans (getD_le (m := 20) (by decide) _) (by decide) | ((try simp only [app_size, lit_size, List.size_toArray, List.length_cons, List.length_nil]); omega)), HS.out⟩
                 ·clear HF; have HF := HF1; clear HF1
                  have dcc38 := ne_of_beq_false cc38
                  refine wc_false HF rfl ?_
                  refine wp_sr ?_
                  refine wl_y rfl HF rfl rfl (yl_eqlI rfl (HF.ev rfl) (HF.ev rfl)) ?_; clear HF a; intro a HF
                  refine wl_as HF rfl rfl rfl rfl rfl ?_; clear HF a; intro a HF
                  refine wl_ne ?_
                  refine HF.cases 103 rfl (fun cc39 HF1 => ?_) (fun cc39 HF1 => ?_)
                  ·clear HF; have HF := HF1; clear HF1
                   have dcc39 := eq_of_beq cc39
                   refine wc_true HF rfl ?_
                   refine wp_sr ?_
                   refine wl_mv HF rfl rfl rfl rfl rfl ?_; clear HF a; intro a HF
                   replace HS : Bx (St w0 (rdA rb ab n cb (B + 1) :: F) _) := ⟨(HS.out).pick 0 rfl⟩
                   refine wl_call rfl HF rfl (enter_of Tryz.func27 (by kernel_rfl) rfl) (args := #[.pointer (some ⟨rb, 0, none⟩)]) rfl (l92Path_any w0 _ rb ab n cb bs hn hR (B + 1) (by omega) _ HS.out) rfl rfl ?_
                   rintro _ w77 ⟨dt63, rfl, ht63, hs1⟩
                   refine ⟨_, rfl, ?_⟩; replace HS := Bx.mk hs1; clear hs1 HF; clear a; intro a HF
                   replace HS : Bx (St w0 (rdA rb ab n cb (B + 1 + 2) :: F) _) := ⟨HS.out⟩
                   refine wl_y rfl HF rfl rfl (yl_addS rfl (HF.ev rfl) (HF.ev rfl) (by (try simp only [app_size, lit_size, List.size_toArray, List.length_cons, List.length_nil]); omega)) ?_; clear HF a; intro a HF
                   refine wl_as HF rfl rfl rfl rfl rfl ?_; clear HF a; intro a HF
                   refine wl_ne ?_
                   refine wp_ret ?_
                   refine ex_block_ret ?_
                   refine ex_then_ret ?_
                   refine bp_ret1 HF Tryz.results22 (HF.res rfl) ?_
                   replace HS : Bx (St w0 (rdA rb ab n cb (B + 1 + 2) :: F) _) := ⟨(HS.out).pick 0 rfl⟩
                   replace HS : Bx (St w0 (rdA rb ab n cb (B + 200) :: F) _) := ⟨HS.out.rdLe (by omega)⟩
                   exact ⟨_, rfl, (by first | omega | decide | exact Nat.le_trans (getD_le (m := 8) (by decide) _) (by decide) | exact Nat.le_trans (getD_le (m := 20) (by decide) _) (by decide) | ((try simp only [app_size, lit_size, List.size_toArray, List.length_cons, List.length_nil]); omega)), HS.out⟩
                  ·clear HF; have HF := HF1; clear HF1
                   have dcc39 := ne_of_beq_false cc39
                   refine wc_false HF rfl ?_
                   refine wp_sr ?_
                   refine wl_y rfl HF rfl rfl (yl_eqlI rfl (HF.ev rfl) (HF.ev rfl)) ?_; clear HF a; intro a HF
                   refine wl_as HF rfl rfl rfl rfl rfl ?_; clear HF a; intro a HF
                   refine wl_ne ?_
                   refine HF.cases 108 rfl (fun cc40 HF1 => ?_) (fun cc40 HF1 => ?_)
                   ·clear HF; have HF := HF1; clear HF1
                    have dcc40 := eq_of_beq cc40
                    refine wc_true HF rfl ?_
                    refine wp_sr ?_
                    refine wl_mv HF rfl rfl rfl rfl rfl ?_; clear HF a; intro a HF
                    replace HS : Bx (St w0 (rdA rb ab n cb (B + 1) :: F) _) := ⟨(HS.out).pick 0 rfl⟩
                    refine wl_call rfl HF rfl (enter_of Tryz.func37 (by kernel_rfl) rfl) (args := #[.pointer (some ⟨rb, 0, none⟩)]) rfl (l92Name_any w0 _ rb ab n cb bs hn hR (B + 1) (by omega) _ HS.out) rfl rfl ?_
                    rintro _ w78 ⟨dt64, rfl, ht64, hs1⟩
                    refine ⟨_, rfl, ?_⟩; replace HS := Bx.mk hs1; clear hs1 HF; clear a; intro a HF
                    replace HS : Bx (St w0 (rdA rb ab n cb (B + 1 + 2) :: F) _) := ⟨HS.out⟩
                    refine wl_y rfl HF rfl rfl (yl_addS rfl (HF.ev rfl) (HF.ev rfl) (by (try simp only [app_size, lit_size, List.size_toArray, List.length_cons, List.length_nil]); omega)) ?_; clear HF a; intro a HF
                    refine wl_as HF rfl rfl rfl rfl rfl ?_; clear HF a; intro a HF
                    refine wl_ne ?_
                    refine wp_ret ?_
                    refine ex_block_ret ?_
                    refine ex_then_ret ?_
                    refine bp_ret1 HF Tryz.results22 (HF.res rfl) ?_
                    replace HS : Bx (St w0 (rdA rb ab n cb (B + 1 + 2) :: F) _) := ⟨(HS.out).pick 0 rfl⟩
                    replace HS : Bx (St w0 (rdA rb ab n cb (B + 200) :: F) _) := ⟨HS.out.rdLe (by omega)⟩
                    exact ⟨_, rfl, (by first | omega | decide | exact Nat.le_trans (getD_le (m := 8) (by decide) _) (by decide) | exact Nat.le_trans (getD_le (m := 20) (by decide) _) (by decide) | ((try simp only [app_size, lit_size, List.size_toArray, List.length_cons, List.length_nil]); omega)), HS.out⟩
                   ·clear HF; have HF := HF1; clear HF1
                    have dcc40 := ne_of_beq_false cc40
                    refine wc_false HF rfl ?_
                    refine wp_sr ?_
                    refine wl_y rfl HF rfl rfl (yl_eqlI rfl (HF.ev rfl) (HF.ev rfl)) ?_; clear HF a; intro a HF
                    refine wl_as HF rfl rfl rfl rfl rfl ?_; clear HF a; intro a HF
                    refine wl_ne ?_
                    refine HF.cases 113 rfl (fun cc41 HF1 => ?_) (fun cc41 HF1 => ?_)
                    ·clear HF; have HF := HF1; clear HF1
                     have dcc41 := eq_of_beq cc41
                     refine wc_true HF rfl ?_
                     refine wp_sr ?_
                     refine wl_mv HF rfl rfl rfl rfl rfl ?_; clear HF a; intro a HF
                     replace HS : Bx (St w0 (rdA rb ab n cb (B + 1) :: F) _) := ⟨(HS.out).pick 0 rfl⟩
                     refine wl_call rfl HF rfl (enter_of Tryz.func26 (by kernel_rfl) rfl) (args := #[.pointer (some ⟨rb, 0, none⟩), .int .i64 50]) rfl (pickN w0 _ rb ab n cb bs hn hR (B + 1) (by omega) 50 (by omega) _ HS.out) rfl rfl ?_
                     rintro _ w79 ⟨dn65, rfl, hu65, hs1⟩
                     refine ⟨_, rfl, ?_⟩; replace HS := Bx.mk hs1; clear hs1 HF; clear a; intro a HF
                     replace HS : Bx (St w0 (rdA rb ab n cb (B + 1 + 1) :: F) _) := ⟨HS.out⟩
                     refine wl_call rfl HF rfl (enter_of Tryz.func18 (by kernel_rfl) rfl) (args := #[.int .i64 (dn65 : Int)]) rfl (l6Dec_ex (dn65 : Int) (by omega) (by omega) _) rfl rfl ?_
                     rintro _ w80 ⟨dt66, rfl, ht66, hb⟩
                     refine ⟨_, rfl, ?_⟩; replace HS := Bx.mk (HS.out.later hb); clear hb HF; clear a; intro a HF
                     refine wl_y rfl HF rfl rfl (yl_addS rfl (HF.ev rfl) (HF.ev rfl) (by (try simp only [app_size, lit_size, List.size_toArray, List.length_cons, List.length_nil]); omega)) ?_; clear HF a; intro a HF
                     refine wl_as HF rfl rfl rfl rfl rfl ?_; clear HF a; intro a HF
                     refine wl_ne ?_
                     refine wp_ret ?_
                     refine ex_block_ret ?_
                     refine ex_then_ret ?_
                     refine bp_ret1 HF Tryz.results22 (HF.res rfl) ?_
                     replace HS : Bx (St w0 (rdA rb ab n cb (B + 1 + 1) :: F) _) := ⟨(HS.out).pick 0 rfl⟩
                     replace HS : Bx (St w0 (rdA rb ab n cb (B + 200) :: F) _) := ⟨HS.out.rdLe (by omega)⟩
                     exact ⟨_, rfl, (by first | omega | decide | exact Nat.le_trans (getD_le (m := 8) (by decide) _) (by decide) | exact Nat.le_trans (getD_le (m := 20) (by decide) _) (by decide) | ((try simp only [app_size, lit_size, List.size_toArray, List.length_cons, List.length_nil]); omega)), HS.out⟩
                    ·clear HF; have HF := HF1; clear HF1
                     have dcc41 := ne_of_beq_false cc41
                     refine wc_false HF rfl ?_
                     refine wp_sr ?_
                     refine wl_y rfl HF rfl rfl (yl_eqlI rfl (HF.ev rfl) (HF.ev rfl)) ?_; clear HF a; intro a HF
                     refine wl_as HF rfl rfl rfl rfl rfl ?_; clear HF a; intro a HF
                     refine wl_ne ?_
                     refine HF.cases 119 rfl (fun cc42 HF1 => ?_) (fun cc42 HF1 => ?_)
                     ·clear HF; have HF := HF1; clear HF1
                      have dcc42 := eq_of_beq cc42
                      refine wc_true HF rfl ?_
                      refine wp_sr ?_
                      refine wl_mv HF rfl rfl rfl rfl rfl ?_; clear HF a; intro a HF
                      refine wl_buildS (enc := encS) (e := 9) (size := 1) rfl HF rfl rfl rfl (ps := [(0, .string (⟨#[119, 104, 97, 116]⟩ : ByteArray)), (1, .string (⟨#[]⟩ : ByteArray)), (2, .string (⟨#[109, 97, 107, 101]⟩ : ByteArray)), (3, .string (⟨#[116, 97, 107, 101]⟩ : ByteArray)), (4, .string (⟨#[114, 101, 97, 100, 32, 47, 97, 32, 47, 98]⟩ : ByteArray)), (5, .string (⟨#[119, 114, 105, 116, 101, 32, 47, 98, 32, 120, 32, 121]⟩ : ByteArray)), (6, .string (⟨#[99, 108, 111, 110, 101, 32, 97]⟩ : ByteArray)), (7, .string (⟨#[99, 114, 97, 115, 104]⟩ : ByteArray)), (8, .string (⟨#[99, 114, 97, 115, 104, 32, 120]⟩ : ByteArray)), (9, .string (⟨#[104, 101, 97, 100]⟩ : ByteArray)), (10, .string (⟨#[32, 115, 121, 110, 99]⟩ : ByteArray))]) rfl (cells := [.string (⟨#[119, 104, 97, 116]⟩ : ByteArray), .string (⟨#[]⟩ : ByteArray), .string (⟨#[109, 97, 107, 101]⟩ : ByteArray), .string (⟨#[116, 97, 107, 101]⟩ : ByteArray), .string (⟨#[114, 101, 97, 100, 32, 47, 97, 32, 47, 98]⟩ : ByteArray), .string (⟨#[119, 114, 105, 116, 101, 32, 47, 98, 32, 120, 32, 121]⟩ : ByteArray), .string (⟨#[99, 108, 111, 110, 101, 32, 97]⟩ : ByteArray), .string (⟨#[99, 114, 97, 115, 104]⟩ : ByteArray), .string (⟨#[99, 114, 97, 115, 104, 32, 120]⟩ : ByteArray), .string (⟨#[104, 101, 97, 100]⟩ : ByteArray), .string (⟨#[32, 115, 121, 110, 99]⟩ : ByteArray)]) (by kernel_rfl) [(⟨#[119, 104, 97, 116]⟩ : ByteArray), (⟨#[]⟩ : ByteArray), (⟨#[109, 97, 107, 101]⟩ : ByteArray), (⟨#[116, 97, 107, 101]⟩ : ByteArray), (⟨#[114, 101, 97, 100, 32, 47, 97, 32, 47, 98]⟩ : ByteArray), (⟨#[119, 114, 105, 116, 101, 32, 47, 98, 32, 120, 32, 121]⟩ : ByteArray), (⟨#[99, 108, 111, 110, 101, 32, 97]⟩ : ByteArray), (⟨#[99, 114, 97, 115, 104]⟩ : ByteArray), (⟨#[99, 114, 97, 115, 104, 32, 120]⟩ : ByteArray), (⟨#[104, 101, 97, 100]⟩ : ByteArray), (⟨#[32, 115, 121, 110, 99]⟩ : ByteArray)] rfl rfl (by unfold maxLen; omega) rfl HS.out ?_; clear HF HS a; intro b67 a w81 HF HS; replace HS := Bx.mk HS
                      replace HS : Bx (St w0 (rdA rb ab n cb (B + 1) :: rowA encS 1 9 (.slice (some ⟨b67, 0, none⟩) 11 11) ([(⟨#[119, 104, 97, 116]⟩ : ByteArray), (⟨#[]⟩ : ByteArray), (⟨#[109, 97, 107, 101]⟩ : ByteArray), (⟨#[116, 97, 107, 101]⟩ : ByteArray), (⟨#[114, 101, 97, 100, 32, 47, 97, 32, 47, 98]⟩ : ByteArray), (⟨#[119, 114, 105, 116, 101, 32, 47, 98, 32, 120, 32, 121]⟩ : ByteArray), (⟨#[99, 108, 111, 110, 101, 32, 97]⟩ : ByteArray), (⟨#[99, 114, 97, 115, 104]⟩ : ByteArray), (⟨#[99, 114, 97, 115, 104, 32, 120]⟩ : ByteArray), (⟨#[104, 101, 97, 100]⟩ : ByteArray), (⟨#[32, 115, 121, 110, 99]⟩ : ByteArray)]) :: F) _) := ⟨((HS.out).pick 0 rfl).pick 1 rfl⟩
                      refine wl_call rfl HF rfl (enter_of Tryz.func39 (by kernel_rfl) rfl) (args := #[.pointer (some ⟨rb, 0, none⟩), .slice (some ⟨b67, 0, none⟩) 11 11]) rfl (of_any w0 _ rb ab n cb bs hn hR (B + 1) (by omega) _ _ [(⟨#[119, 104, 97, 116]⟩ : ByteArray), (⟨#[]⟩ : ByteArray), (⟨#[109, 97, 107, 101]⟩ : ByteArray), (⟨#[116, 97, 107, 101]⟩ : ByteArray), (⟨#[114, 101, 97, 100, 32, 47, 97, 32, 47, 98]⟩ : ByteArray), (⟨#[119, 114, 105, 116, 101, 32, 47, 98, 32, 120, 32, 121]⟩ : ByteArray), (⟨#[99, 108, 111, 110, 101, 32, 97]⟩ : ByteArray), (⟨#[99, 114, 97, 115, 104]⟩ : ByteArray), (⟨#[99, 114, 97, 115, 104, 32, 120]⟩ : ByteArray), (⟨#[104, 101, 97, 100]⟩ : ByteArray), (⟨#[32, 115, 121, 110, 99]⟩ : ByteArray)] (by decide) (getD_le (by decide)) _ HS.out) rfl rfl ?_
                      rintro _ w82 ⟨dt68, rfl, ht68, hs1⟩
                      refine ⟨_, rfl, ?_⟩; replace HS := Bx.mk hs1; clear hs1 HF; clear a; intro a HF
                      replace HS : Bx (St w0 (rdA rb ab n cb (B + 1 + 1) :: F) _) := ⟨HS.out⟩
                      refine wl_as HF rfl rfl rfl rfl rfl ?_; clear HF a; intro a HF
                      refine wl_ne ?_
                      refine wp_ret ?_
                      refine ex_block_ret ?_
                      refine ex_then_ret ?_
                      refine bp_ret1 HF Tryz.results22 (HF.res rfl) ?_
                      replace HS : Bx (St w0 (rdA rb ab n cb (B + 1 + 1) :: F) _) := ⟨(HS.out).pick 0 rfl⟩
                      replace HS : Bx (St w0 (rdA rb ab n cb (B + 200) :: F) _) := ⟨HS.out.rdLe (by omega)⟩
                      exact ⟨_, rfl, (by first | omega | decide | exact Nat.le_trans (getD_le (m := 8) (by decide) _) (by decide) | exact Nat.le_trans (getD_le (m := 20) (by decide) _) (by decide) | ((try simp only [app_size, lit_size, List.size_toArray, List.length_cons, List.length_nil]); omega)), HS.out⟩
                     ·clear HF; have HF := HF1; clear HF1
                      have dcc42 := ne_of_beq_false cc42
                      refine wc_false HF rfl ?_
                      refine wp_sr ?_
                      refine wl_y rfl HF rfl rfl (yl_eqlI rfl (HF.ev rfl) (HF.ev rfl)) ?_; clear HF a; intro a HF
                      refine wl_as HF rfl rfl rfl rfl rfl ?_; clear HF a; intro a HF
                      refine wl_ne ?_
                      refine HF.cases 124 rfl (fun cc43 HF1 => ?_) (fun cc43 HF1 => ?_)
                      ·clear HF; have HF := HF1; clear HF1
                       have dcc43 := eq_of_beq cc43
                       refine wc_true HF rfl ?_
                       refine wp_sr ?_
                       refine wl_mv HF rfl rfl rfl rfl rfl ?_; clear HF a; intro a HF
                       refine wl_buildS (enc := encS) (e := 9) (size := 1) rfl HF rfl rfl rfl (ps := [(0, .string (⟨#[98, 97, 99, 107]⟩ : ByteArray)), (1, .string (⟨#[108, 111, 115, 101, 32, 99]⟩ : ByteArray)), (2, .string (⟨#[108, 111, 115, 101, 32, 98]⟩ : ByteArray)), (3, .string (⟨#[115, 117, 114, 101]⟩ : ByteArray)), (4, .string (⟨#[108, 111, 111, 115, 101]⟩ : ByteArray))]) rfl (cells := [.string (⟨#[98, 97, 99, 107]⟩ : ByteArray), .string (⟨#[108, 111, 115, 101, 32, 99]⟩ : ByteArray), .string (⟨#[108, 111, 115, 101, 32, 98]⟩ : ByteArray), .string (⟨#[115, 117, 114, 101]⟩ : ByteArray), .string (⟨#[108, 111, 111, 115, 101]⟩ : ByteArray)]) (by kernel_rfl) [(⟨#[98, 97, 99, 107]⟩ : ByteArray), (⟨#[108, 111, 115, 101, 32, 99]⟩ : ByteArray), (⟨#[108, 111, 115, 101, 32, 98]⟩ : ByteArray), (⟨#[115, 117, 114, 101]⟩ : ByteArray), (⟨#[108, 111, 111, 115, 101]⟩ : ByteArray)] rfl rfl (by unfold maxLen; omega) rfl HS.out ?_; clear HF HS a; intro b69 a w83 HF HS; replace HS := Bx.mk HS
                       replace HS : Bx (St w0 (rdA rb ab n cb (B + 1) :: rowA encS 1 9 (.slice (some ⟨b69, 0, none⟩) 5 5) ([(⟨#[98, 97, 99, 107]⟩ : ByteArray), (⟨#[108, 111, 115, 101, 32, 99]⟩ : ByteArray), (⟨#[108, 111, 115, 101, 32, 98]⟩ : ByteArray), (⟨#[115, 117, 114, 101]⟩ : ByteArray), (⟨#[108, 111, 111, 115, 101]⟩ : ByteArray)]) :: F) _) := ⟨((HS.out).pick 0 rfl).pick 1 rfl⟩
                       refine wl_call rfl HF rfl (enter_of Tryz.func39 (by kernel_rfl) rfl) (args := #[.pointer (some ⟨rb, 0, none⟩), .slice (some ⟨b69, 0, none⟩) 5 5]) rfl (of_any w0 _ rb ab n cb bs hn hR (B + 1) (by omega) _ _ [(⟨#[98, 97, 99, 107]⟩ : ByteArray), (⟨#[108, 111, 115, 101, 32, 99]⟩ : ByteArray), (⟨#[108, 111, 115, 101, 32, 98]⟩ : ByteArray), (⟨#[115, 117, 114, 101]⟩ : ByteArray), (⟨#[108, 111, 111, 115, 101]⟩ : ByteArray)] (by decide) (getD_le (by decide)) _ HS.out) rfl rfl ?_
                       rintro _ w84 ⟨dt70, rfl, ht70, hs1⟩
                       refine ⟨_, rfl, ?_⟩; replace HS := Bx.mk hs1; clear hs1 HF; clear a; intro a HF
                       replace HS : Bx (St w0 (rdA rb ab n cb (B + 1 + 1) :: F) _) := ⟨HS.out⟩
                       refine wl_as HF rfl rfl rfl rfl rfl ?_; clear HF a; intro a HF
                       refine wl_ne ?_
                       refine wp_ret ?_
                       refine ex_block_ret ?_
                       refine ex_then_ret ?_
                       refine bp_ret1 HF Tryz.results22 (HF.res rfl) ?_
                       replace HS : Bx (St w0 (rdA rb ab n cb (B + 1 + 1) :: F) _) := ⟨(HS.out).pick 0 rfl⟩
                       replace HS : Bx (St w0 (rdA rb ab n cb (B + 200) :: F) _) := ⟨HS.out.rdLe (by omega)⟩
                       exact ⟨_, rfl, (by first | omega | decide | exact Nat.le_trans (getD_le (m := 8) (by decide) _) (by decide) | exact Nat.le_trans (getD_le (m := 20) (by decide) _) (by decide) | ((try simp only [app_size, lit_size, List.size_toArray, List.length_cons, List.length_nil]); omega)), HS.out⟩
                      ·clear HF; have HF := HF1; clear HF1
                       have dcc43 := ne_of_beq_false cc43
                       refine wc_false HF rfl ?_
                       refine wp_skip ?_
                       refine ex_block ?_
                       refine ex_then ?_
                       refine wp_sr ?_
                       refine wl_mv HF rfl rfl rfl rfl rfl ?_; clear HF a; intro a HF
                       refine wl_buildS (enc := encS) (e := 9) (size := 1) rfl HF rfl rfl rfl (ps := [(0, .string (⟨#[115, 121, 110, 99]⟩ : ByteArray)), (1, .string (⟨#[115, 99, 114, 117, 98]⟩ : ByteArray)), (2, .string (⟨#[116, 114, 101, 101]⟩ : ByteArray)), (3, .string (⟨#[104, 101, 97, 100, 115]⟩ : ByteArray)), (4, .string (⟨#[115, 110, 97, 112, 115]⟩ : ByteArray)), (5, .string (⟨#[117, 115, 101]⟩ : ByteArray)), (6, .string (⟨#[99, 104, 101, 99, 107]⟩ : ByteArray))]) rfl (cells := [.string (⟨#[115, 121, 110, 99]⟩ : ByteArray), .string (⟨#[115, 99, 114, 117, 98]⟩ : ByteArray), .string (⟨#[116, 114, 101, 101]⟩ : ByteArray), .string (⟨#[104, 101, 97, 100, 115]⟩ : ByteArray), .string (⟨#[115, 110, 97, 112, 115]⟩ : ByteArray), .string (⟨#[117, 115, 101]⟩ : ByteArray), .string (⟨#[99, 104, 101, 99, 107]⟩ : ByteArray)]) (by kernel_rfl) [(⟨#[115, 121, 110, 99]⟩ : ByteArray), (⟨#[115, 99, 114, 117, 98]⟩ : ByteArray), (⟨#[116, 114, 101, 101]⟩ : ByteArray), (⟨#[104, 101, 97, 100, 115]⟩ : ByteArray), (⟨#[115, 110, 97, 112, 115]⟩ : ByteArray), (⟨#[117, 115, 101]⟩ : ByteArray), (⟨#[99, 104, 101, 99, 107]⟩ : ByteArray)] rfl rfl (by unfold maxLen; omega) rfl HS.out ?_; clear HF HS a; intro b71 a w85 HF HS; replace HS := Bx.mk HS
                       replace HS : Bx (St w0 (rdA rb ab n cb (B + 1) :: rowA encS 1 9 (.slice (some ⟨b71, 0, none⟩) 7 7) ([(⟨#[115, 121, 110, 99]⟩ : ByteArray), (⟨#[115, 99, 114, 117, 98]⟩ : ByteArray), (⟨#[116, 114, 101, 101]⟩ : ByteArray), (⟨#[104, 101, 97, 100, 115]⟩ : ByteArray), (⟨#[115, 110, 97, 112, 115]⟩ : ByteArray), (⟨#[117, 115, 101]⟩ : ByteArray), (⟨#[99, 104, 101, 99, 107]⟩ : ByteArray)]) :: F) _) := ⟨((HS.out).pick 0 rfl).pick 1 rfl⟩
                       refine wl_call rfl HF rfl (enter_of Tryz.func39 (by kernel_rfl) rfl) (args := #[.pointer (some ⟨rb, 0, none⟩), .slice (some ⟨b71, 0, none⟩) 7 7]) rfl (of_any w0 _ rb ab n cb bs hn hR (B + 1) (by omega) _ _ [(⟨#[115, 121, 110, 99]⟩ : ByteArray), (⟨#[115, 99, 114, 117, 98]⟩ : ByteArray), (⟨#[116, 114, 101, 101]⟩ : ByteArray), (⟨#[104, 101, 97, 100, 115]⟩ : ByteArray), (⟨#[115, 110, 97, 112, 115]⟩ : ByteArray), (⟨#[117, 115, 101]⟩ : ByteArray), (⟨#[99, 104, 101, 99, 107]⟩ : ByteArray)] (by decide) (getD_le (by decide)) _ HS.out) rfl rfl ?_
                       rintro _ w86 ⟨dt72, rfl, ht72, hs1⟩
                       refine ⟨_, rfl, ?_⟩; replace HS := Bx.mk hs1; clear hs1 HF; clear a; intro a HF
                       replace HS : Bx (St w0 (rdA rb ab n cb (B + 1 + 1) :: F) _) := ⟨HS.out⟩
                       refine wl_as HF rfl rfl rfl rfl rfl ?_; clear HF a; intro a HF
                       refine wl_ne ?_
                       refine wp_ret ?_
                       refine bp_ret1 HF Tryz.results22 (HF.res rfl) ?_
                       replace HS : Bx (St w0 (rdA rb ab n cb (B + 1 + 1) :: F) _) := ⟨(HS.out).pick 0 rfl⟩
                       replace HS : Bx (St w0 (rdA rb ab n cb (B + 200) :: F) _) := ⟨HS.out.rdLe (by omega)⟩
                       exact ⟨_, rfl, (by first | omega | decide | exact Nat.le_trans (getD_le (m := 8) (by decide) _) (by decide) | exact Nat.le_trans (getD_le (m := 20) (by decide) _) (by decide) | ((try simp only [app_size, lit_size, List.size_toArray, List.length_cons, List.length_nil]); omega)), HS.out⟩

theorem drawShellOp_any (w0 : World) (ab : Option Addr) (n0 cb : Nat) (bs0 : List UInt8) (hcap : n0 ≤ cb) (hn0 : n0 ≤ 1048576) (hR0 : Rd encB 1 w0 ab n0 bs0) : Calls Tryz.prog 9 #[.slice ab n0 cb] w0 fun e w' => ∃ t : ByteArray, e = .returned (.string t) ∧ t.size ≤ 1000 ∧ Below w0.heap.size w0 w' := by
 have HS := Bx.mk (St.start w0)
 refine wc_enter Tryz.func9 rfl Tryz.ntmps9 [(0, .slice ab n0 cb)] ⟨rfl, trivial⟩ rfl ?_; intro a HF
 refine wp_sr ?_
 refine wl_as HF rfl rfl rfl rfl rfl ?_; clear HF a; intro a HF
 refine wl_ne ?_
 refine wp_sr ?_
 refine wl_mv HF rfl rfl rfl rfl rfl ?_; clear HF a; intro a HF
 refine wl_call rfl HF rfl (enter_of Tryz.func12 (by kernel_rfl) rfl) (args := #[.slice ab n0 cb]) rfl (l6Open_any _ ab n0 cb hcap hn0) rfl rfl ?_
 rintro _ w1 ⟨rb, n, rfl, hn, hnn, hs⟩
 obtain ⟨bs, hR⟩ : ∃ bs, Rd encB 1 w0 ab n bs := ⟨_, hR0.take (k := n) (by rw [hR0.len]; exact hnn)⟩
 refine ⟨_, rfl, ?_⟩; replace HS := Bx.mk (HS.out.add hs); clear hs HF; clear a; intro a HF
 replace HS : Bx (St w0 ([rdA rb ab n cb 0]) _) := ⟨HS.out⟩
 refine wl_as HF rfl rfl rfl rfl rfl ?_; clear HF a; intro a HF
 refine wl_ne ?_
 refine wp_sr ?_
 refine wl_mv HF rfl rfl rfl rfl rfl ?_; clear HF a; intro a HF
 replace HS : Bx (St w0 ([rdA rb ab n cb 0]) _) := ⟨(HS.out).pick 0 rfl⟩
 refine wl_call rfl HF rfl (enter_of Tryz.func22 (by kernel_rfl) rfl) (args := #[.pointer (some ⟨rb, 0, none⟩)]) rfl (l93Line_any w0 _ rb ab n cb bs hn hR 0 (by omega) _ HS.out) rfl rfl ?_
 rintro _ w2 ⟨dt1, rfl, ht1, hs1⟩
 refine ⟨_, rfl, ?_⟩; replace HS := Bx.mk hs1; clear hs1 HF; clear a; intro a HF
 replace HS : Bx (St w0 ([rdA rb ab n cb (0 + 200)]) _) := ⟨HS.out⟩
 refine wl_as HF rfl rfl rfl rfl rfl ?_; clear HF a; intro a HF
 refine wl_ne ?_
 refine wp_ret ?_
 refine bp_ret1 HF Tryz.results9 (HF.res rfl) ?_
 exact ⟨dt1, rfl, ht1, HS.out.bel⟩

end Go.Proofs.YtnikdicehddehaaGreatDoor

/- FnShellOp: the law, walked. -/
namespace Go.Proofs.YtnikdicehddehaaGreatDoor
set_option linter.unusedVariables false
set_option linter.unusedSimpArgs false
set_option maxHeartbeats 1000000
set_option maxRecDepth 100000
open Go.RowKit

theorem join2 (a b c : ByteArray) : joinT [a, b] c = a ++ c ++ b := ba_ext (by simp [joinT, Go.Lib.join, Go.Lib.joinTail, list_append])
theorem join3 (a b d c : ByteArray) : joinT [a, b, d] c = a ++ c ++ b ++ c ++ d := ba_ext (by simp [joinT, Go.Lib.join, Go.Lib.joinTail, list_append])
theorem join4 (a b d f c : ByteArray) : joinT [a, b, d, f] c = a ++ c ++ b ++ c ++ d ++ c ++ f := ba_ext (by simp [joinT, Go.Lib.join, Go.Lib.joinTail, list_append])
theorem line1k {o : OpD} {k : Int} (h : o.fKind = k) (hk : ¬ (k = 3 ∨ k = 4 ∨ k = 6 ∨ k = 7)) : lineB o = wordK o.fKind ++ spB ++ o.fPath := line1 (by rw [h]; exact hk)
theorem chk_some {o o2 : OpD} (h : chk o = some o2) : o2 = o ∧ o.ok = true := by
  unfold chk at h
  cases ho : o.ok with
  | false => rw [ho] at h; cases h
  | true => rw [ho] at h; cases h; exact ⟨rfl, rfl⟩
theorem len2 {α : Type} {l : List α} (h : l.length = 2) : ∃ a b, l = [a, b] := by
  match l, h with
  | [a, b], _ => exact ⟨a, b, rfl⟩
theorem len3 {α : Type} {l : List α} (h : l.length = 3) : ∃ a b c, l = [a, b, c] := by
  match l, h with
  | [a, b, c], _ => exact ⟨a, b, c, rfl⟩
theorem len4 {α : Type} {l : List α} (h : l.length = 4) : ∃ a b c d, l = [a, b, c, d] := by
  match l, h with
  | [a, b, c, d], _ => exact ⟨a, b, c, d, rfl⟩
/-- A line that tells an operation is the line that says it. -/
theorem line_back {s : ByteArray} {o : OpD} (h : shellF (piecesB s 32) = some o) : o.ok = true ∧ lineB o = s := by
  have hj := joinT_pieces s 32
  generalize piecesB s 32 = ws at h hj
  have hs : spB = (⟨#[32]⟩ : ByteArray) := rfl
  rcases opK_cases (ws.getD 0 E0) with hk | hk | hk | hk | hk | hk | hk | hk
  · rw [sh0 hk] at h; cases h
  · by_cases hl : ws.length = 2
    · rw [sh1 hk (by omega) hl] at h
      obtain ⟨rfl, ho⟩ := chk_some h
      obtain ⟨a, b, rfl⟩ := len2 hl
      rw [join2] at hj
      exact ⟨ho, by rw [line1k (k := 1) rfl (by decide), ← word_of (by decide) hk]; exact hj⟩
    · rw [sh1l hk (by omega) hl] at h; cases h
  · by_cases hl : ws.length = 2
    · rw [sh1 hk (by omega) hl] at h
      obtain ⟨rfl, ho⟩ := chk_some h
      obtain ⟨a, b, rfl⟩ := len2 hl
      rw [join2] at hj
      exact ⟨ho, by rw [line1k (k := 2) rfl (by decide), ← word_of (by decide) hk]; exact hj⟩
    · rw [sh1l hk (by omega) hl] at h; cases h
  · by_cases hl : ws.length = 4
    · cases ht : ((ws.getD 3 E0).toList == (⟨#[]⟩ : ByteArray).toList) with
      | true => rw [sh3t hk ht] at h; cases h
      | false =>
        cases hn : numG (ws.getD 2 E0) with
        | none => rw [sh3n hk hn] at h; cases h
        | some n =>
          rw [sh3 hk hl ht hn] at h
          obtain ⟨rfl, ho⟩ := chk_some h
          obtain ⟨a, b, c, d, rfl⟩ := len4 hl
          rw [join4] at hj
          have hc : c = decB n := (numG_some hn).2
          exact ⟨ho, by rw [line3 rfl, ← word_of (by decide) hk]; show a ++ spB ++ b ++ spB ++ decB (n : Int).toNat ++ spB ++ d = s; rw [Int.toNat_natCast, ← hc]; exact hj⟩
    · rw [sh3l hk hl] at h; cases h
  · by_cases hl : ws.length = 3
    · cases hn : numG (ws.getD 2 E0) with
      | none => rw [sh4n hk hn] at h; cases h
      | some n =>
        rw [sh4 hk hl hn] at h
        obtain ⟨rfl, ho⟩ := chk_some h
        obtain ⟨a, b, c, rfl⟩ := len3 hl
        rw [join3] at hj
        have hc : c = decB n := (numG_some hn).2
        exact ⟨ho, by rw [line4 rfl, ← word_of (by decide) hk]; show a ++ spB ++ b ++ spB ++ decB (n : Int).toNat = s; rw [Int.toNat_natCast, ← hc]; exact hj⟩
    · rw [sh4l hk hl] at h; cases h
  · by_cases hl : ws.length = 2
    · rw [sh1 hk (by omega) hl] at h
      obtain ⟨rfl, ho⟩ := chk_some h
      obtain ⟨a, b, rfl⟩ := len2 hl
      rw [join2] at hj
      exact ⟨ho, by rw [line1k (k := 5) rfl (by decide), ← word_of (by decide) hk]; exact hj⟩
    · rw [sh1l hk (by omega) hl] at h; cases h
  · by_cases hl : ws.length = 3
    · rw [sh6 hk (by omega) hl] at h
      obtain ⟨rfl, ho⟩ := chk_some h
      obtain ⟨a, b, c, rfl⟩ := len3 hl
      rw [join3] at hj
      exact ⟨ho, by rw [line6 (.inl rfl), ← word_of (by decide) hk]; exact hj⟩
    · rw [sh6l hk (by omega) hl] at h; cases h
  · by_cases hl : ws.length = 3
    · rw [sh6 hk (by omega) hl] at h
      obtain ⟨rfl, ho⟩ := chk_some h
      obtain ⟨a, b, c, rfl⟩ := len3 hl
      rw [join3] at hj
      exact ⟨ho, by rw [line6 (.inr rfl), ← word_of (by decide) hk]; exact hj⟩
    · rw [sh6l hk (by omega) hl] at h; cases h
theorem shB_yes {s : ByteArray} (h : shB s = true) : (shV s).ok = true ∧ lineB (shV s) = s := by
  cases hf : shellF (piecesB s 32) with
  | none => unfold shB at h; rw [hf] at h; cases h
  | some o =>
    have e : shV s = o := by unfold shV; rw [hf]
    rw [e]
    exact line_back hf
theorem say_again {s : ByteArray} (h : shB s = true) (hne : ((sayF (shV s)).toList == (⟨#[]⟩ : ByteArray).toList) = false) : ((sayF (shV s)).toList == s.toList) = true := by
  rw [(sayF_ne hne).2.2, (shB_yes h).2]
  exact beq_self_eq_true _

theorem fnShellOp_walk (w0 : World) (bm : Nat) (es : Array MapEntry) (clock : Nat) (ab : Option Addr) (n0 cb : Nat) (bs0 : List UInt8) (hT : TabP w0) (hM : MaxP w0) (hE : ErrP w0) (hQ : MapQ bm es clock w0) (hcap : n0 ≤ cb) (hR : Rd encB 1 w0 ab n0 bs0) : Calls Tryz.prog 4 #[.slice ab n0 cb] w0 fun e w' => e = .returned (.bool true) ∧ Below w0.heap.size w0 w' := by
 have HT := Bx.mk hT; have HM := Bx.mk hM; have HE := Bx.mk hE; have HQ := Bx.mk hQ; clear hT hM hE hQ
 have HS := Bx.mk (St.start w0)
 refine wc_enter Tryz.func4 rfl Tryz.ntmps4 [(0, .slice ab n0 cb)] ⟨rfl, trivial⟩ rfl ?_; intro a HF
 refine wp_sr ?_
 refine wl_as HF rfl rfl rfl rfl rfl ?_; clear HF a; intro a HF
 refine wl_ne ?_
 refine wp_seq ?_
 refine wp_sr ?_
 refine wl_mv HF rfl rfl rfl rfl rfl ?_; clear HF a; intro a HF
 refine wl_y rfl HF rfl rfl (yl_lenL (e := 5) (size := 1) rfl (HF.ev rfl) (by kernel_rfl)) ?_; clear HF a; intro a HF
 refine wl_y rfl HF rfl rfl (yl_gtrI rfl (HF.ev rfl) (HF.ev rfl)) ?_; clear HF a; intro a HF
 refine wl_ne ?_
 refine HF.cases 12 rfl (fun cc1 HF1 => ?_) (fun cc1 HF1 => ?_)
 ·clear HF; have HF := HF1; clear HF1
  have dcc1 := of_decide_eq_true cc1
  refine wc_true HF rfl ?_
  refine wp_sr ?_
  refine wl_as HF rfl rfl rfl rfl rfl ?_; clear HF a; intro a HF
  refine wl_ne ?_
  refine wp_ret ?_
  refine ex_then_ret ?_
  refine bp_ret1 HF Tryz.results4 (HF.res rfl) ?_
  exact ⟨rfl, HS.out.bel⟩
 ·clear HF; have HF := HF1; clear HF1
  have dcc1 := of_decide_eq_false cc1
  refine wc_false HF rfl ?_
  refine wp_skip ?_
  refine ex_then ?_
  refine wp_sr ?_
  refine wl_mv HF rfl rfl rfl rfl rfl ?_; clear HF a; intro a HF
  refine wl_call rfl HF rfl (enter_of Tryz.func9 (by kernel_rfl) rfl) (args := #[.slice ab n0 cb]) rfl (drawShellOp_any _ ab n0 cb bs0 hcap (by omega) (hR.below HS.out.bel)) rfl rfl ?_
  rintro _ w1 ⟨s, rfl, hs, hb⟩
  refine ⟨_, rfl, ?_⟩; replace HS := Bx.mk (HS.out.later hb); clear hb HF; clear a; intro a HF
  refine wl_as HF rfl rfl rfl rfl rfl ?_; clear HF a; intro a HF
  refine wl_ne ?_
  refine wp_sr ?_
  refine wl_mv HF rfl rfl rfl rfl rfl ?_; clear HF a; intro a HF
  refine wl_callB rfl HF rfl (enter_of Tryz.func8 (by kernel_rfl) rfl) (args := #[.string s]) rfl (v := .tuple #[.agg #[.int .i64 ((shV s).fKind), .string ((shV s).fPath), .string ((shV s).fTo), .int .i64 ((shV s).fAt), .string ((shV s).fText)], .bool (shB s)]) (implShellOp_own s bm es clock _ (HT.out.below HS.out.bel) (HM.out.below HS.out.bel) (HE.out.below HS.out.bel) (HQ.out.below HS.out.bel) (by omega)) rfl rfl HS.out ?_; clear HF HS a; intro w2 a HS HF; replace HS := Bx.mk HS
  refine wl_mv HF rfl rfl rfl rfl rfl ?_; clear HF a; intro a HF
  refine wl_y rfl HF rfl rfl (yl_extract rfl (HF.ev rfl) rfl) ?_; clear HF a; intro a HF
  refine wl_y rfl HF rfl rfl (yl_extract rfl (HF.ev rfl) rfl) ?_; clear HF a; intro a HF
  refine wl_alloc rfl HF rfl rfl rfl (Z := [.int .i64 0, .string ByteArray.empty, .string ByteArray.empty, .int .i64 0, .string ByteArray.empty]) (by kernel_rfl) rfl HS.out ?_; clear HF HS a; intro a w3 b1 HF HS; replace HS := Bx.mk HS
  refine wl_storeBox rfl HF rfl rfl (HF.ev rfl) (HF.ev rfl) HS.out 0 rfl (cells_lit [.int .i64 ((shV s).fKind), .string ((shV s).fPath), .string ((shV s).fTo), .int .i64 ((shV s).fAt), .string ((shV s).fText)] rfl rfl) (by kernel_rfl) ?_; clear HS; intro w4 HS; replace HS := Bx.mk HS
  have HS : Bx (St w0 ([boxA b1 5 24 (.agg #[.int .i64 ((shV s).fKind), .string ((shV s).fPath), .string ((shV s).fTo), .int .i64 ((shV s).fAt), .string ((shV s).fText)])]) _) := HS
  refine wl_as HF rfl rfl rfl rfl rfl ?_; clear HF a; intro a HF
  refine wl_ne ?_
  refine wp_sr ?_
  refine wl_mv HF rfl rfl rfl rfl rfl ?_; clear HF a; intro a HF
  refine wl_callB rfl HF rfl (enter_of Tryz.func10 (by kernel_rfl) rfl) (args := #[.string s]) rfl (v := .tuple #[.agg #[.int .i64 ((shV s).fKind), .string ((shV s).fPath), .string ((shV s).fTo), .int .i64 ((shV s).fAt), .string ((shV s).fText)], .bool (shB s)]) (specShellOp_own s _ (by omega)) rfl rfl HS.out ?_; clear HF HS a; intro w5 a HS HF; replace HS := Bx.mk HS
  refine wl_mv HF rfl rfl rfl rfl rfl ?_; clear HF a; intro a HF
  refine wl_y rfl HF rfl rfl (yl_extract rfl (HF.ev rfl) rfl) ?_; clear HF a; intro a HF
  refine wl_y rfl HF rfl rfl (yl_extract rfl (HF.ev rfl) rfl) ?_; clear HF a; intro a HF
  refine wl_alloc rfl HF rfl rfl rfl (Z := [.int .i64 0, .string ByteArray.empty, .string ByteArray.empty, .int .i64 0, .string ByteArray.empty]) (by kernel_rfl) rfl HS.out ?_; clear HF HS a; intro a w6 b2 HF HS; replace HS := Bx.mk HS
  refine wl_storeBox rfl HF rfl rfl (HF.ev rfl) (HF.ev rfl) HS.out 0 rfl (cells_lit [.int .i64 ((shV s).fKind), .string ((shV s).fPath), .string ((shV s).fTo), .int .i64 ((shV s).fAt), .string ((shV s).fText)] rfl rfl) (by kernel_rfl) ?_; clear HS; intro w7 HS; replace HS := Bx.mk HS
  have HS : Bx (St w0 ([boxA b2 5 24 (.agg #[.int .i64 ((shV s).fKind), .string ((shV s).fPath), .string ((shV s).fTo), .int .i64 ((shV s).fAt), .string ((shV s).fText)]), boxA b1 5 24 (.agg #[.int .i64 ((shV s).fKind), .string ((shV s).fPath), .string ((shV s).fTo), .int .i64 ((shV s).fAt), .string ((shV s).fText)])]) _) := HS
  refine wl_as HF rfl rfl rfl rfl rfl ?_; clear HF a; intro a HF
  refine wl_ne ?_
  refine wp_sr ?_
  refine wl_y rfl HF rfl rfl (yl_loadR (cs := [.int .i64 ((shV s).fKind), .string ((shV s).fPath), .string ((shV s).fTo), .int .i64 ((shV s).fAt), .string ((shV s).fText)]) rfl (HF.ev rfl) ((HS.out.box 1 rfl).sub 0 5) (by kernel_rfl)) ?_; clear HF a; intro a HF
  refine wl_y rfl HF rfl rfl (yl_loadR (cs := [.int .i64 ((shV s).fKind), .string ((shV s).fPath), .string ((shV s).fTo), .int .i64 ((shV s).fAt), .string ((shV s).fText)]) rfl (HF.ev rfl) ((HS.out.box 0 rfl).sub 0 5) (by kernel_rfl)) ?_; clear HF a; intro a HF
  refine wl_y rfl HF rfl rfl (yl_eqlOp (shV s) rfl (HF.ev rfl) (HF.ev rfl)) ?_; clear HF a; intro a HF
  refine wl_mv HF rfl rfl rfl rfl rfl ?_; clear HF a; intro a HF
  refine wl_yg HF rfl rfl rfl rfl rfl (yl_move rfl (HF.ev rfl)) ?_; clear HF a; intro a HF
  refine wl_yg HF rfl rfl rfl rfl rfl (yl_move rfl (HF.ev rfl)) ?_; clear HF a; intro a HF
  refine wl_yg HF rfl rfl rfl rfl rfl (yl_eqlBs rfl (HF.ev rfl) (HF.ev rfl) (by kernel_rfl)) ?_; clear HF a; intro a HF
  refine wl_y rfl HF rfl rfl (yl_pick_t rfl (HF.ev rfl) (HF.ev rfl)) ?_; clear HF a; intro a HF
  refine wl_as HF rfl rfl rfl rfl rfl ?_; clear HF a; intro a HF
  refine wl_ne ?_
  refine wp_seq ?_
  refine wp_sr ?_
  refine wl_mv HF rfl rfl rfl rfl rfl ?_; clear HF a; intro a HF
  refine wl_y rfl HF rfl rfl (yl_not rfl (HF.ev rfl)) ?_; clear HF a; intro a HF
  refine wl_mv HF rfl rfl rfl rfl rfl ?_; clear HF a; intro a HF
  refine wl_yg HF rfl rfl rfl rfl rfl (yl_move rfl (HF.ev rfl)) ?_; clear HF a; intro a HF
  refine wl_yg HF rfl rfl rfl rfl rfl (yl_not rfl (HF.ev rfl)) ?_; clear HF a; intro a HF
  refine wl_y rfl HF rfl rfl (yl_pick_f rfl (HF.ev rfl) (HF.ev rfl)) ?_; clear HF a; intro a HF
  refine wl_ne ?_
  refine HF.cases 38 rfl (fun cc2 HF1 => ?_) (fun cc2 HF1 => ?_)
  ·clear HF; have HF := HF1; clear HF1
   refine wc_true HF rfl ?_
   refine wp_sr ?_
   refine wl_mv HF rfl rfl rfl rfl rfl ?_; clear HF a; intro a HF
   refine wl_as HF rfl rfl rfl rfl rfl ?_; clear HF a; intro a HF
   refine wl_ne ?_
   refine wp_ret ?_
   refine ex_then_ret ?_
   refine bp_ret1 HF Tryz.results4 (HF.res rfl) ?_
   exact ⟨rfl, HS.out.bel⟩
  ·clear HF; have HF := HF1; clear HF1
   have hsb : shB s = true := by simpa using cc2
   obtain ⟨hok, hln⟩ := shB_yes hsb; have D := ok_of hok; have hz1 := D.ps; have hz2 := D.tos; have hz3 := D.ts
   refine wc_false HF rfl ?_
   refine wp_skip ?_
   refine ex_then ?_
   refine wp_sr ?_
   refine wl_y rfl HF rfl rfl (yl_loadR (cs := [.int .i64 ((shV s).fKind), .string ((shV s).fPath), .string ((shV s).fTo), .int .i64 ((shV s).fAt), .string ((shV s).fText)]) rfl (HF.ev rfl) ((HS.out.box 1 rfl).sub 0 5) (by kernel_rfl)) ?_; clear HF a; intro a HF
   refine wl_callB rfl HF rfl (enter_of Tryz.func6 (by kernel_rfl) rfl) (args := #[.agg #[.int .i64 ((shV s).fKind), .string ((shV s).fPath), .string ((shV s).fTo), .int .i64 ((shV s).fAt), .string ((shV s).fText)]]) rfl (v := .string (sayF (shV s))) (implShellSay_any (shV s) bm es clock _ (HT.out.below HS.out.bel) (HM.out.below HS.out.bel) (HQ.out.below HS.out.bel) (by omega) (by omega) (by omega)) rfl rfl HS.out ?_; clear HF HS a; intro w8 a HS HF; replace HS := Bx.mk HS
   refine wl_as HF rfl rfl rfl rfl rfl ?_; clear HF a; intro a HF
   refine wl_ne ?_
   refine wp_sr ?_
   refine wl_y rfl HF rfl rfl (yl_loadR (cs := [.int .i64 ((shV s).fKind), .string ((shV s).fPath), .string ((shV s).fTo), .int .i64 ((shV s).fAt), .string ((shV s).fText)]) rfl (HF.ev rfl) ((HS.out.box 1 rfl).sub 0 5) (by kernel_rfl)) ?_; clear HF a; intro a HF
   refine wl_callB rfl HF rfl (enter_of Tryz.func11 (by kernel_rfl) rfl) (args := #[.agg #[.int .i64 ((shV s).fKind), .string ((shV s).fPath), .string ((shV s).fTo), .int .i64 ((shV s).fAt), .string ((shV s).fText)]]) rfl (v := .bool true) (((implOpOk_any (shV s) _ (HM.out.below HS.out.bel) (by omega) (by omega) (by omega)).mono fun _ _ h => ⟨h.1.trans (by rw [hok]), h.2⟩)) rfl rfl HS.out ?_; clear HF HS a; intro w9 a HS HF; replace HS := Bx.mk HS
   refine wl_mv HF rfl rfl rfl rfl rfl ?_; clear HF a; intro a HF
   refine wl_yg HF rfl rfl rfl rfl rfl (yl_move rfl (HF.ev rfl)) ?_; clear HF a; intro a HF
   refine wl_yg HF rfl rfl rfl rfl rfl (yl_eqlS rfl (HF.ev rfl) (HF.ev rfl)) ?_; clear HF a; intro a HF
   refine wl_yg HF rfl rfl rfl rfl rfl (yl_move rfl (HF.ev rfl)) ?_; clear HF a; intro a HF
   refine HF.cases 47 rfl (fun cc3 HF1 => ?_) (fun cc3 HF1 => ?_)
   ·clear HF; have HF := HF1; clear HF1
    refine wl_skip HF rfl rfl rfl rfl rfl rfl ?_; clear HF a; intro a HF
    refine wl_skip HF rfl rfl rfl rfl rfl rfl ?_; clear HF a; intro a HF
    refine wl_skip HF rfl rfl rfl rfl rfl rfl ?_; clear HF a; intro a HF
    refine wl_yg HF rfl rfl rfl rfl rfl (yl_pick_t rfl (HF.ev rfl) (HF.ev rfl)) ?_; clear HF a; intro a HF
    refine wl_y rfl HF rfl rfl (yl_pick_t rfl (HF.ev rfl) (HF.ev rfl)) ?_; clear HF a; intro a HF
    refine wl_as HF rfl rfl rfl rfl rfl ?_; clear HF a; intro a HF
    refine wl_ne ?_
    refine wp_ret ?_
    refine bp_ret1 HF Tryz.results4 (HF.res rfl) ?_
    exact ⟨rfl, HS.out.bel⟩
   ·clear HF; have HF := HF1; clear HF1
    refine wl_yg HF rfl rfl rfl rfl rfl (yl_move rfl (HF.ev rfl)) ?_; clear HF a; intro a HF
    refine wl_yg HF rfl rfl rfl rfl rfl (yl_move rfl (HF.ev rfl)) ?_; clear HF a; intro a HF
    refine wl_yg HF rfl rfl rfl rfl rfl (yl_eqlS rfl (HF.ev rfl) (HF.ev rfl)) ?_; clear HF a; intro a HF
    refine wl_yg HF rfl rfl rfl rfl rfl (yl_pick_f rfl (HF.ev rfl) (HF.ev rfl)) ?_; clear HF a; intro a HF
    refine wl_y rfl HF rfl rfl (yl_pick_t rfl (HF.ev rfl) (HF.ev rfl)) ?_; clear HF a; intro a HF
    refine wl_as HF rfl rfl rfl rfl rfl ?_; clear HF a; intro a HF
    refine wl_ne ?_
    refine wp_ret ?_
    refine bp_ret1 HF Tryz.results4 (HF.res rfl) ?_
    exact ⟨by rw [say_again hsb cc3], HS.out.bel⟩

end Go.Proofs.YtnikdicehddehaaGreatDoor
