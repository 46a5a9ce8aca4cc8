/- A part of the proof in YtnikdicehddehaaGreatDoorSyLZ30. -/
import Derived.ArgAppend
import Derived.BigQuiet
import Derived.BigRegion
import Derived.Deep.AppendLies
import Derived.Deep.MidRow
import Derived.Deep.Quiet
import Derived.Deep.QuietTactic
import Derived.Deep.RegionHeld3
import Derived.Deep.RegionWith
import Derived.IntWalk
import Derived.Laws.BytesArg
import Derived.Laws.IdiomRangeMap
import Derived.Laws.RangeAny
import Derived.Lib.AppendIntMem
import Derived.Lib.Atoi
import Derived.Lib.Hide
import Derived.Lib.IndexAny
import Derived.Lib.IndexBytes
import Derived.Lib.IndexLaws
import Derived.Lib.ItoaNum
import Derived.Lib.Join
import Derived.Lib.LazyBuf
import Derived.Lib.SlBytesConst
import Derived.Lib.Split
import Derived.Lib.SplitLaws
import Derived.LoopIn
import Derived.LoopN
import Derived.LoopNIn
import Derived.Orders
import Derived.OrdersHeld
import Derived.OwnWalkIn
import Derived.RangeFuncLeaves
import Derived.RangeFuncNested
import Derived.Scope
import Derived.Shelf.Abstract
import Derived.Shelf.GgClosure.StringsIndexFunc
import Derived.Shelf.Small.Strs
import Derived.Shelf.Small.Utf8
import Derived.Shelf.Small.Wraps
import Derived.Shelf.Strconv.Atoi
import Derived.Shelf.Strconv.AtoiErr
import Derived.Shelf.Strconv.Itoa3
import Derived.Shelf.Strings.BuilderF
import Derived.Shelf.Strings.BuilderK
import Derived.Shelf.Strings.FuncGrows
import Derived.Shelf.Strings.IndexAnyAll
import Derived.Shelf.Strings.OnBuilder
import Derived.Shelf.Strings.Split
import Derived.Shelf.Strings.SplitShaped
import Derived.Shelf.Vars
import Derived.Still
import Derived.StillTail
import Derived.StillTailTactics
import Derived.StringKeys
import Derived.TacticsInMore
import Derived.Test.YtnikdicehddehaaGreatDoorRows
import Derived.WalkKit
import Derived.WalkLawsBesides
import Derived.WalkSpells
import Derived.WideKeyMaps2
import Derived.Test.YtnikdicehddehaaGreatDoorSyLZ25
/- FnShellSay: the law, walked. -/
namespace Go.Proofs.YtnikdicehddehaaGreatDoor
set_option linter.unusedVariables false
set_option linter.unusedSimpArgs false
set_option maxHeartbeats 1000000
set_option maxRecDepth 100000
open Go.RowKit

section
variable {P : Program} {w : World} {o : Oper} {a : Act} {t t' : TypeId} {x y : Operand}
theorem yl_eqlSs {s : ByteArray} (ho : o.op = .binOp .eql t x y t') (hx : a.eval x = .string s) (hy : a.eval y = .string s) : Yl P w o a (.bool true) := by
  have h := yl_eqlS (P := P) (w := w) ho hx hy
  rw [beq_self_eq_true] at h
  exact h
end
theorem yl_eqlOp {w : World} {o : Oper} {a : Act} {x y : Operand} {t' : TypeId} (z : OpD) (ho : o.op = .binOp .eql 24 x y t') (hx : a.eval x = .agg #[.int .i64 z.fKind, .string z.fPath, .string z.fTo, .int .i64 z.fAt, .string z.fText]) (hy : a.eval y = .agg #[.int .i64 z.fKind, .string z.fPath, .string z.fTo, .int .i64 z.fAt, .string z.fText]) : Yl Tryz.prog w o a (.bool true) := by
  have he := eqOpW z w
  unfold Yl execOp
  simp only [ho, hx, hy]
  simp [eqGuard, binOp, go_sem, Op.equal]
  rw [show Op.maxDepth = 10000 from rfl, he]; rfl
theorem nil_self : ¬ (ByteArray.empty.toList == (⟨#[]⟩ : ByteArray).toList) = false := fun h => by
  rw [show (ByteArray.empty.toList == (⟨#[]⟩ : ByteArray).toList) = true from beq_self_eq_true (a := ByteArray.empty.toList)] at h
  cases h
theorem sayF_ne {o : OpD} (h : ((sayF o).toList == (⟨#[]⟩ : ByteArray).toList) = false) : o.ok = true ∧ badB o = false ∧ sayF o = lineB o := by
  cases ho : o.ok with
  | false => rw [sayF_no ho] at h; exact absurd h nil_self
  | true =>
    cases hb : badB o with
    | true => rw [sayF_bad hb] at h; exact absurd h nil_self
    | false => exact ⟨rfl, rfl, sayF_line ho hb⟩
theorem sayBack_any (o : OpD) (bm : Nat) (es : Array MapEntry) (clock : Nat) (w0 : World) (hT : TabP w0) (hM : MaxP w0) (hE : ErrP w0) (hQ : MapQ bm es clock w0) (hne : ((sayF o).toList == (⟨#[]⟩ : ByteArray).toList) = false) : Calls Tryz.prog 8 #[.string (sayF o)] w0 fun e w' => e = .returned (.tuple #[.agg #[.int .i64 o.fKind, .string o.fPath, .string o.fTo, .int .i64 o.fAt, .string o.fText], .bool true]) ∧ Below w0.heap.size w0 w' := by
  obtain ⟨ho, hb, hl⟩ := sayF_ne hne
  rw [hl]
  refine (implShellOp_any (lineB o) bm es clock w0 hT hM hE hQ (Nat.le_trans (line_size ho) (by decide))).mono ?_
  rintro e w' (⟨o2, h, rfl, hb2⟩ | ⟨h, rfl, hb2⟩)
  · rcases say_law ho with ⟨h1, _⟩ | ⟨h1, _⟩
    · rw [h1] at h; cases h
    · rw [h1] at h; cases h
      exact ⟨rfl, hb2⟩
  · rcases say_law ho with ⟨_, h2⟩ | ⟨h1, _⟩
    · rw [hb] at h2; cases h2
    · rw [h1] at h; cases h

theorem fnShellSay_walk (w0 : World) (bm : Nat) (es : Array MapEntry) (clock : Nat) (ab : Option Addr) (n0 cb : Nat) (bs0 : List UInt8) (hT : TabP w0) (hM : MaxP w0) (hE : ErrP w0) (hQ : MapQ bm es clock w0) (hcap : n0 ≤ cb) (hR : Rd encB 1 w0 ab n0 bs0) : Calls Tryz.prog 3 #[.slice ab n0 cb] w0 fun e w' => e = .returned (.bool true) ∧ Below w0.heap.size w0 w' := by
 have HT := Bx.mk hT; have HM := Bx.mk hM; have HE := Bx.mk hE; have HQ := Bx.mk hQ; clear hT hM hE hQ
 have HS := Bx.mk (St.start w0)
 refine wc_enter Tryz.func3 rfl Tryz.ntmps3 [(0, .slice ab n0 cb)] ⟨rfl, trivial⟩ rfl ?_; intro a HF
 refine wp_sr ?_
 refine wl_as HF rfl rfl rfl rfl rfl ?_; clear HF a; intro a HF
 refine wl_ne ?_
 refine wp_seq ?_
 refine wp_sr ?_
 refine wl_mv HF rfl rfl rfl rfl rfl ?_; clear HF a; intro a HF
 refine wl_y rfl HF rfl rfl (yl_lenL (e := 5) (size := 1) rfl (HF.ev rfl) (by kernel_rfl)) ?_; clear HF a; intro a HF
 refine wl_y rfl HF rfl rfl (yl_gtrI rfl (HF.ev rfl) (HF.ev rfl)) ?_; clear HF a; intro a HF
 refine wl_ne ?_
 refine HF.cases 11 rfl (fun cc1 HF1 => ?_) (fun cc1 HF1 => ?_)
 ·clear HF; have HF := HF1; clear HF1
  have dcc1 := of_decide_eq_true cc1
  refine wc_true HF rfl ?_
  refine wp_sr ?_
  refine wl_as HF rfl rfl rfl rfl rfl ?_; clear HF a; intro a HF
  refine wl_ne ?_
  refine wp_ret ?_
  refine ex_then_ret ?_
  refine bp_ret1 HF Tryz.results3 (HF.res rfl) ?_
  exact ⟨rfl, HS.out.bel⟩
 ·clear HF; have HF := HF1; clear HF1
  have dcc1 := of_decide_eq_false cc1
  refine wc_false HF rfl ?_
  refine wp_skip ?_
  refine ex_then ?_
  refine wp_sr ?_
  refine wl_mv HF rfl rfl rfl rfl rfl ?_; clear HF a; intro a HF
  refine wl_call rfl HF rfl (enter_of Tryz.func5 (by kernel_rfl) rfl) (args := #[.slice ab n0 cb]) rfl (drawShellSay_any _ ab n0 cb bs0 hcap (by omega) (hR.below HS.out.bel)) rfl rfl ?_
  rintro _ w1 ⟨o, rfl, ho1, ho2, ho3, hb⟩
  refine ⟨_, rfl, ?_⟩; replace HS := Bx.mk (HS.out.later hb); clear hb HF; clear a; intro a HF
  refine wl_alloc rfl HF rfl rfl rfl (Z := [.int .i64 0, .string ByteArray.empty, .string ByteArray.empty, .int .i64 0, .string ByteArray.empty]) (by kernel_rfl) rfl HS.out ?_; clear HF HS a; intro a w2 b1 HF HS; replace HS := Bx.mk HS
  refine wl_storeBox rfl HF rfl rfl (HF.ev rfl) (HF.ev rfl) HS.out 0 rfl (cells_lit [.int .i64 o.fKind, .string o.fPath, .string o.fTo, .int .i64 o.fAt, .string o.fText] rfl rfl) (by kernel_rfl) ?_; clear HS; intro w3 HS; replace HS := Bx.mk HS
  have HS : Bx (St w0 ([boxA b1 5 24 (.agg #[.int .i64 o.fKind, .string o.fPath, .string o.fTo, .int .i64 o.fAt, .string o.fText])]) _) := HS
  refine wl_ne ?_
  refine wp_sr ?_
  refine wl_y rfl HF rfl rfl (yl_loadR (cs := [.int .i64 o.fKind, .string o.fPath, .string o.fTo, .int .i64 o.fAt, .string o.fText]) rfl (HF.ev rfl) ((HS.out.box 0 rfl).sub 0 5) (by kernel_rfl)) ?_; clear HF a; intro a HF
  refine wl_callB rfl HF rfl (enter_of Tryz.func6 (by kernel_rfl) rfl) (args := #[.agg #[.int .i64 o.fKind, .string o.fPath, .string o.fTo, .int .i64 o.fAt, .string o.fText]]) rfl (v := .string (sayF o)) (implShellSay_any o bm es clock _ (HT.out.below HS.out.bel) (HM.out.below HS.out.bel) (HQ.out.below HS.out.bel) (by omega) (by omega) (by omega)) rfl rfl HS.out ?_; clear HF HS a; intro w4 a HS HF; replace HS := Bx.mk HS
  refine wl_as HF rfl rfl rfl rfl rfl ?_; clear HF a; intro a HF
  refine wl_ne ?_
  refine wp_sr ?_
  refine wl_y rfl HF rfl rfl (yl_loadR (cs := [.int .i64 o.fKind, .string o.fPath, .string o.fTo, .int .i64 o.fAt, .string o.fText]) rfl (HF.ev rfl) ((HS.out.box 0 rfl).sub 0 5) (by kernel_rfl)) ?_; clear HF a; intro a HF
  refine wl_callB rfl HF rfl (enter_of Tryz.func7 (by kernel_rfl) rfl) (args := #[.agg #[.int .i64 o.fKind, .string o.fPath, .string o.fTo, .int .i64 o.fAt, .string o.fText]]) rfl (v := .string (sayF o)) (specShellSay_any o _ (by omega) (by omega) (by omega)) rfl rfl HS.out ?_; clear HF HS a; intro w5 a HS HF; replace HS := Bx.mk HS
  refine wl_as HF rfl rfl rfl rfl rfl ?_; clear HF a; intro a HF
  refine wl_ne ?_
  refine wp_sr ?_
  refine wl_mv HF rfl rfl rfl rfl rfl ?_; clear HF a; intro a HF
  refine wl_mv HF rfl rfl rfl rfl rfl ?_; clear HF a; intro a HF
  refine wl_y rfl HF rfl rfl (yl_eqlSs rfl (HF.ev rfl) (HF.ev rfl)) ?_; clear HF a; intro a HF
  refine wl_as HF rfl rfl rfl rfl rfl ?_; clear HF a; intro a HF
  refine wl_ne ?_
  refine wp_seq ?_
  refine wp_sr ?_
  refine wl_mv HF rfl rfl rfl rfl rfl ?_; clear HF a; intro a HF
  refine wl_y rfl HF rfl rfl (yl_not rfl (HF.ev rfl)) ?_; clear HF a; intro a HF
  refine wl_mv HF rfl rfl rfl rfl rfl ?_; clear HF a; intro a HF
  refine wl_yg HF rfl rfl rfl rfl rfl (yl_move rfl (HF.ev rfl)) ?_; clear HF a; intro a HF
  refine wl_yg HF rfl rfl rfl rfl rfl (yl_neqS rfl (HF.ev rfl) (HF.ev rfl)) ?_; clear HF a; intro a HF
  refine wl_yg HF rfl rfl rfl rfl rfl (yl_not rfl (HF.ev rfl)) ?_; clear HF a; intro a HF
  refine wl_y rfl HF rfl rfl (yl_pick_f rfl (HF.ev rfl) (HF.ev rfl)) ?_; clear HF a; intro a HF
  refine wl_ne ?_
  refine HF.cases 27 rfl (fun cc2 HF1 => ?_) (fun cc2 HF1 => ?_)
  ·clear HF; have HF := HF1; clear HF1
   refine wc_true HF rfl ?_
   refine wp_sr ?_
   refine wl_mv HF rfl rfl rfl rfl rfl ?_; clear HF a; intro a HF
   refine wl_as HF rfl rfl rfl rfl rfl ?_; clear HF a; intro a HF
   refine wl_ne ?_
   refine wp_ret ?_
   refine ex_then_ret ?_
   refine bp_ret1 HF Tryz.results3 (HF.res rfl) ?_
   exact ⟨rfl, HS.out.bel⟩
  ·clear HF; have HF := HF1; clear HF1
   have hne : ((sayF o).toList == (⟨#[]⟩ : ByteArray).toList) = false := by simpa using cc2
   refine wc_false HF rfl ?_
   refine wp_skip ?_
   refine ex_then ?_
   refine wp_sr ?_
   refine wl_mv HF rfl rfl rfl rfl rfl ?_; clear HF a; intro a HF
   refine wl_callB rfl HF rfl (enter_of Tryz.func8 (by kernel_rfl) rfl) (args := #[.string (sayF o)]) rfl (v := .tuple #[.agg #[.int .i64 o.fKind, .string o.fPath, .string o.fTo, .int .i64 o.fAt, .string o.fText], .bool true]) (sayBack_any o bm es clock _ (HT.out.below HS.out.bel) (HM.out.below HS.out.bel) (HE.out.below HS.out.bel) (HQ.out.below HS.out.bel) hne) rfl rfl HS.out ?_; clear HF HS a; intro w6 a HS HF; replace HS := Bx.mk HS
   refine wl_mv HF rfl rfl rfl rfl rfl ?_; clear HF a; intro a HF
   refine wl_y rfl HF rfl rfl (yl_extract rfl (HF.ev rfl) rfl) ?_; clear HF a; intro a HF
   refine wl_y rfl HF rfl rfl (yl_extract rfl (HF.ev rfl) rfl) ?_; clear HF a; intro a HF
   refine wl_alloc rfl HF rfl rfl rfl (Z := [.int .i64 0, .string ByteArray.empty, .string ByteArray.empty, .int .i64 0, .string ByteArray.empty]) (by kernel_rfl) rfl HS.out ?_; clear HF HS a; intro a w7 b2 HF HS; replace HS := Bx.mk HS
   refine wl_storeBox rfl HF rfl rfl (HF.ev rfl) (HF.ev rfl) HS.out 0 rfl (cells_lit [.int .i64 o.fKind, .string o.fPath, .string o.fTo, .int .i64 o.fAt, .string o.fText] rfl rfl) (by kernel_rfl) ?_; clear HS; intro w8 HS; replace HS := Bx.mk HS
   have HS : Bx (St w0 ([boxA b2 5 24 (.agg #[.int .i64 o.fKind, .string o.fPath, .string o.fTo, .int .i64 o.fAt, .string o.fText]), boxA b1 5 24 (.agg #[.int .i64 o.fKind, .string o.fPath, .string o.fTo, .int .i64 o.fAt, .string o.fText])]) _) := HS
   refine wl_as HF rfl rfl rfl rfl rfl ?_; clear HF a; intro a HF
   refine wl_ne ?_
   refine wp_sr ?_
   refine wl_mv HF rfl rfl rfl rfl rfl ?_; clear HF a; intro a HF
   refine wl_mv HF rfl rfl rfl rfl rfl ?_; clear HF a; intro a HF
   refine wl_yg HF rfl rfl rfl rfl rfl (yl_loadR (cs := [.int .i64 o.fKind, .string o.fPath, .string o.fTo, .int .i64 o.fAt, .string o.fText]) rfl (HF.ev rfl) ((HS.out.box 0 rfl).sub 0 5) (by kernel_rfl)) ?_; clear HF a; intro a HF
   refine wl_yg HF rfl rfl rfl rfl rfl (yl_loadR (cs := [.int .i64 o.fKind, .string o.fPath, .string o.fTo, .int .i64 o.fAt, .string o.fText]) rfl (HF.ev rfl) ((HS.out.box 1 rfl).sub 0 5) (by kernel_rfl)) ?_; clear HF a; intro a HF
   refine wl_yg HF rfl rfl rfl rfl rfl (yl_eqlOp o rfl (HF.ev rfl) (HF.ev rfl)) ?_; clear HF a; intro a HF
   refine wl_y rfl HF rfl rfl (yl_pick_t rfl (HF.ev rfl) (HF.ev rfl)) ?_; clear HF a; intro a HF
   refine wl_as HF rfl rfl rfl rfl rfl ?_; clear HF a; intro a HF
   refine wl_ne ?_
   refine wp_ret ?_
   refine bp_ret1 HF Tryz.results3 (HF.res rfl) ?_
   exact ⟨rfl, HS.out.bel⟩

end Go.Proofs.YtnikdicehddehaaGreatDoor
