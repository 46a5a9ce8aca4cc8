/- A part of the proof in YtoaopmkbfifhaaaGreatDoorIwLZ29. -/
import Derived.Test.YtoaopmkbfifhaaaGreatDoorIwLZ17
/- Laws for the draws, 3: sets of disks that read. -/
namespace Go.Proofs.YtoaopmkbfifhaaaGreatDoor
set_option linter.unusedVariables false
set_option linter.unusedSimpArgs false
set_option maxHeartbeats 1000000
set_option maxRecDepth 100000
open Go.RowKit
/-- A set of disks reads. -/
def rdsP (ao : Option Addr) (ps : List HD) (w : World) : Prop := Rd HD.cells 3 w ao ps.length ps ∧ ∀ p, p ∈ ps → p.reads w
def allP (ps : List HD) (w : World) : Prop := ∀ p, p ∈ ps → p.reads w
theorem own_reads {w : World} {B B1 : Nat} {p : HD} (h : p.own w B B1) : p.reads w := by
  obtain ⟨h1, h2⟩ := h
  obtain ⟨u, e0, k0, d0⟩ := h1.rd encS_len
  simp only [Value.slice.injEq, true_and] at k0
  obtain ⟨rfl, rfl⟩ := k0
  obtain ⟨u, e0, k0, d1⟩ := h2.rd WaitD.cells_len
  simp only [Value.slice.injEq, true_and] at k0
  obtain ⟨rfl, rfl⟩ := k0
  exact ⟨d0, d1⟩
theorem hds_allP {ps : List HD} {w : World} {f : List Nat} (h : (sepA (ps.map HD.asr)).P w f) : allP ps w := fun p hp => by
  obtain ⟨B1, ho⟩ := (sep_hds h).2 p hp
  exact own_reads ho
theorem sep2 {a b : Asr} {P Q R : World → Prop} (ha : ∀ w f, a.P w f → P w) (hb : ∀ w f, b.P w f → Q w) (h : ∀ w, P w → Q w → R w) : ∀ w f, (sepA [a, b]).P w f → R w := by
  rintro w f ⟨f1, f2, rfl, h1, ⟨f3, f4, rfl, h2, h3⟩⟩
  exact h w (ha w _ h1) (hb w _ h2)
theorem holds_P {P : World → Prop} : ∀ w f, (holdsA P).P w f → P w := fun w f h => h w (Nat.le_refl _) fun _ _ => rfl
theorem allP_set {ps : List HD} {k : Nat} {q : HD} {w : World} (h : allP ps w) (hq : q.reads w) : allP (ps.set k q) w := fun p hp => (List.mem_or_eq_of_mem_set hp).elim (h p) fun e => by rw [e]; exact hq
/-- A row by its cells alone. -/
theorem rowA_congr {α : Type} {enc : α → List Value} {size : Nat} {T : TypeId} {v : Value} {xs ys : List α} (hl : xs.length = ys.length) (hf : xs.flatMap enc = ys.flatMap enc) {w : World} {f : List Nat} (h : (rowA enc size T v xs).P w f) : (rowA enc size T v ys).P w f := by
  obtain ⟨h1, B1, ao, cap, h2, h3, h4⟩ := h
  refine ⟨h1, B1, ao, cap, by rw [← hl]; exact h2, ?_, h4⟩
  rcases h3 with ⟨h3, rfl⟩ | h3
  · exact .inl ⟨h3, List.length_eq_zero_iff.1 (by rw [← hl]; rfl)⟩
  · exact .inr (by rw [← hl, ← hf]; exact h3)
theorem flatMap_set_same {qs : List HD} {k : Nat} {q q' : HD} (h : q'.cells = q.cells) : (qs.set k q).flatMap HD.cells = (qs.set k q').flatMap HD.cells := by
  induction qs generalizing k with
  | nil => rfl
  | cons x xs ih =>
    cases k with
    | zero => simp [h]
    | succ k => simp only [List.set_cons_succ, List.flatMap_cons]; rw [ih]
def fitsL (ps : List HD) : Prop := ∀ p, p ∈ ps → p.d.fits
theorem default_fits : (default : HD).d.fits := ⟨Nat.zero_le _, Nat.zero_le _, fun k => Nat.zero_le _, fun k => Nat.zero_le _⟩
theorem fitsL.at {ps : List HD} (h : fitsL ps) (k : Nat) : (ps.getD k default).d.fits := by
  by_cases hk : k < ps.length
  · rw [getD_get hk]; exact h _ (List.getElem_mem hk)
  · rw [show ps.getD k default = default by simp [List.getD, List.getElem?_eq_none (Nat.le_of_not_lt hk)]]
    exact default_fits
theorem fitsL.set {ps : List HD} (h : fitsL ps) {q : HD} (hq : q.d.fits) (k : Nat) : fitsL (ps.set k q) := fun p hp => (List.mem_or_eq_of_mem_set hp).elim (h p) fun e => by rw [e]; exact hq
theorem fitsL.drop {ps : List HD} (h : fitsL ps) (k : Nat) : fitsL (ps.drop k) := fun p hp => h p (List.mem_of_mem_drop hp)
theorem niceS.fitsL {n : Nat} {ps : List HD} (h : niceS n (dsOf ps)) (hn : n ≤ 1000) : fitsL ps := fun p hp => (h.2 p.d (List.mem_map_of_mem hp)).fits hn
theorem niceS.len {n : Nat} {ps : List HD} (h : niceS n (dsOf ps)) : ps.length = 3 := by rw [← dsOf_len]; exact h.1
theorem niceS.get {n : Nat} {ps : List HD} (h : niceS n (dsOf ps)) {k : Nat} (hk : k < 3) : (ps.getD k default).d.nice n := by rw [← dsOf_get]; exact h.at hk
theorem rdsP.at {ao : Option Addr} {ps : List HD} {w : World} (h : rdsP ao ps w) : ∀ k, k < ps.length → (ps.getD k default).reads w := fun k hk => by rw [getD_get hk]; exact h.2 _ (List.getElem_mem hk)
theorem raid_hold {W w : World} {F : List Asr} {g c n : Nat} {ps : List HD} (hn : n = ps.length) (h : St W (rowA HD.cells 3 94 (.slice (some ⟨g, 0, none⟩) n c) ps :: holdsA (allP ps) :: F) w) : St W (holdsA (rdsP (some ⟨g, 0, none⟩) ps) :: F) w := by
  subst hn
  exact ((St.join (r := [_, _]) (s := F)).1 h).hold (sep2 (fun w f h => row_reads HD.cells_len h) holds_P fun w h1 h2 => ⟨h1, h2⟩)
theorem nice3 : niceS 0 [newD, newD, newD] := ⟨rfl, fun d hd => by
  have : d = newD := by simpa using hd
  rw [this]; exact nice_new⟩
end Go.Proofs.YtoaopmkbfifhaaaGreatDoor

/- Pointers and trees as texts; signed records: walked. -/
namespace Go.Proofs.YtoaopmkbfifhaaaGreatDoor
set_option linter.unusedVariables false
set_option linter.unusedSimpArgs false
set_option maxHeartbeats 1000000
set_option maxRecDepth 100000
open Go.RowKit

theorem l6DecI_any (n : Int) (h0 : 0 ≤ n) (h1 : n ≤ 9223372036854775807) (w0 : World) : Calls Tryz.prog 65 #[.int .i64 n] w0 fun e w' => e = .returned (.string (decB n.toNat)) ∧ Below w0.heap.size w0 w' := by
  obtain ⟨m, rfl⟩ : ∃ m : Nat, n = (m : Int) := ⟨n.toNat, by omega⟩
  rw [Int.toNat_natCast]; exact l6Dec_any m (by omega) w0
def dotB : ByteArray := ⟨#[46]⟩
/-- The text of a pointer. -/
def ptrB (p : PtrD) : ByteArray := bif p.ok then (bif p.hole then ⟨#[45]⟩ else numB p.fAt ++ dotB ++ numB p.fBirth ++ dotB ++ numB p.fSize ++ dotB ++ numB p.fSum ++ dotB ++ numB p.fLevel) else ByteArray.empty
theorem ptrB_hole {p : PtrD} (h : p.ok = true) (h2 : p.hole = true) : ptrB p = ⟨#[45]⟩ := by unfold ptrB; rw [h, h2]; rfl
theorem ptrB_yes {p : PtrD} (h : p.ok = true) (h2 : p.hole = false) : ptrB p = numB p.fAt ++ dotB ++ numB p.fBirth ++ dotB ++ numB p.fSize ++ dotB ++ numB p.fSum ++ dotB ++ numB p.fLevel := by unfold ptrB; rw [h, h2]; rfl
theorem PtrD.ok_all {p : PtrD} (h : p.ok = true) (h2 : p.hole = false) : 8 ≤ p.fAt ∧ p.fAt ≤ 63 ∧ 1 ≤ p.fBirth ∧ p.fBirth ≤ 900 ∧ 1 ≤ p.fSize ∧ p.fSize ≤ 128 ∧ 0 ≤ p.fSum ∧ p.fSum ≤ 99460728 ∧ 0 ≤ p.fLevel ∧ p.fLevel ≤ 2 := by
  unfold PtrD.ok at h
  rw [h2, Bool.false_or] at h
  simp only [Bool.and_eq_true] at h
  have h1 := inB_true h.1.1.1.1
  have h3 := inB_true h.1.1.1.2
  have h4 := inB_true h.1.1.2
  have h5 := inB_true h.1.2
  have h6 := inB_true h.2
  omega
def encA (x : Option Addr) : List Value := [.pointer x]
theorem encA_len (x : Option Addr) : (encA x).length = 1 := rfl
end Go.Proofs.YtoaopmkbfifhaaaGreatDoor

/- What the laws over sets of disks compare and count. -/
namespace Go.Proofs.YtoaopmkbfifhaaaGreatDoor
set_option linter.unusedVariables false
set_option linter.unusedSimpArgs false
set_option maxHeartbeats 1000000
set_option maxRecDepth 100000
open Go.RowKit

theorem eqWaitW (x : WaitD) (w : World) : (Op.equalIn 10000 137 (.agg #[.int .i64 x.fAt, .string x.fText]) (.agg #[.int .i64 x.fAt, .string x.fText])).run Tryz.prog w = .ok true w := by
  have hS : Tryz.prog.underlying 137 = some (.struct (Tryz.prog.fieldsOf 137)) := by kernel_rfl
  have hp : Tryz.prog.stoodInHeld 137 = false := by kernel_rfl
  rw [show (10000 : Nat) = 9999 + 1 from rfl, run_equalIn_agg w 9999 137 _ _ hS hp]
  simp only [Program.fieldsOf, Tryz.underlying137]
  go_simp
theorem yl_neqWt {w : World} {o : Oper} {a : Act} {x y : Operand} {t' : TypeId} (z : WaitD) (ho : o.op = .binOp .neq 137 x y t') (hx : a.eval x = .agg #[.int .i64 z.fAt, .string z.fText]) (hy : a.eval y = .agg #[.int .i64 z.fAt, .string z.fText]) : Yl Tryz.prog w o a (.bool false) := by
  have he := eqWaitW z w
  unfold Yl execOp
  simp only [ho, hx, hy]
  simp [eqGuard, binOp, go_sem, Op.equal]
  rw [show Op.maxDepth = 10000 from rfl, he]; rfl

theorem pfTexts_yes (a0 a1 : Option Addr) (c0 c1 : Nat) (xs : List ByteArray) (w0 : World) (hl : xs.length ≤ 1048576) (hR : Rd encS 1 w0 a0 xs.length xs) (hR2 : Rd encS 1 w0 a1 xs.length xs) : Calls Tryz.prog 99 #[.slice a0 xs.length c0, .slice a1 xs.length c1] w0 fun e w' => e = .returned (.bool true) ∧ Below w0.heap.size w0 w' := by
 obtain ⟨g0, o0, r0⟩ := hR.opn; have RA := Bx.mk r0; obtain ⟨g1, o1, r1⟩ := hR2.opn; have RB := Bx.mk r1; clear r0 r1 hR hR2
 have HS := Bx.mk (St.start w0)
 refine wc_enter Tryz.func99 rfl Tryz.ntmps99 [(0, .slice a0 xs.length c0), (1, .slice a1 xs.length c1)] ⟨rfl, rfl, trivial⟩ rfl ?_; intro a HF
 refine wp_sr ?_
 refine za HF ?_; clear HF a; intro a HF
 refine wl_ne ?_
 refine wp_seq ?_
 refine wp_sr ?_
 refine zm HF ?_; clear HF a; intro a HF
 refine zy HF (yl_lenL (e := 9) (size := 1) rfl (HF.ev rfl) (by kernel_rfl)) ?_; clear HF a; intro a HF
 refine zm HF ?_; clear HF a; intro a HF
 refine zy HF (yl_lenL (e := 9) (size := 1) rfl (HF.ev rfl) (by kernel_rfl)) ?_; clear HF a; intro a HF
 refine zy HF (yl_neqI rfl (HF.ev rfl) (HF.ev rfl)) ?_; clear HF a; intro a HF
 refine wl_ne ?_
 refine HF.cases 10 rfl (fun cc1 _ => ?_) fun cc1 _ => ?_
 ·clear HF;rename_i HF
  exact absurd cc1 (by simp)
 ·clear HF;rename_i HF
  have dcc1 := bne_eq_false_iff_eq.1 cc1
  refine wc_false HF rfl ?_
  refine wp_skip ?_
  refine ex_then ?_
  refine wp_seq ?_
  refine wp_sr ?_
  refine za HF ?_; clear HF a; intro a HF
  refine wl_ne ?_
  refine wp_block ?_
  refine wc_loop (ι := Nat) (fun k a w => (k ≤ xs.length) ∧ Fr 26 a [(0, .slice a0 xs.length c0), (1, .slice a1 xs.length c1), (4, .bool false), (5, .int .i64 (k : Int))] ∧ St w0 ([]) w) (fun k => xs.length - k) 0 ⟨Nat.zero_le _, HF.less _ ⟨rfl, rfl, rfl, rfl, trivial⟩, HS.out⟩ ?_
  clear HF HS; clear a
  rintro k a w1 ⟨hk, HF, HS⟩
  replace HS := Bx.mk HS
  refine wp_seq ?_
  refine wp_sr ?_
  refine zm HF ?_; clear HF a; intro a HF
  refine zm HF ?_; clear HF a; intro a HF
  refine zy HF (yl_lenL (e := 9) (size := 1) rfl (HF.ev rfl) (by kernel_rfl)) ?_; clear HF a; intro a HF
  refine zy HF (yl_lssI rfl (HF.ev rfl) (HF.ev rfl)) ?_; clear HF a; intro a HF
  refine wl_ne ?_
  refine HF.cases 14 rfl (fun cc2 _ => ?_) fun cc2 _ => ?_
  ·clear HF;rename_i HF
   have dcc2 := of_decide_eq_true cc2
   refine wc_true HF rfl ?_
   refine wp_skip ?_
   refine ex_then ?_
   refine wp_seq ?_
   refine wp_block ?_
   refine wp_seq ?_
   refine wr_quiet (by kernel_rfl) (by kernel_rfl) HS.out ?_
   refine zq HF (fun _ HS => (yl_move rfl (HF.ev rfl))) ?_; clear HF a; intro a HF
   refine zq HF (fun _ HS => (yl_move rfl (HF.ev rfl))) ?_; clear HF a; intro a HF
   refine zq HF (fun _ HS => (yl_indexAddrR (e := 9) (i := k) (size := 1) rfl (HF.ev rfl) (HF.ev rfl) (by kernel_rfl) rfl (by omega) (RA.out.ao k (by omega)))) ?_; clear HF a; intro a HF
   refine zq HF (fun _ HS => (ylo (v := .string (xs.getD k ByteArray.empty)) rfl (HF.ev rfl) (RA.out.elem1 HS (get_getD (xs := xs) (j := k) (d := ByteArray.empty) (by omega)) rfl))) ?_; clear HF a; intro a HF
   refine zq HF (fun _ HS => (yl_move rfl (HF.ev rfl))) ?_; clear HF a; intro a HF
   refine zq HF (fun _ HS => (yl_move rfl (HF.ev rfl))) ?_; clear HF a; intro a HF
   refine zq HF (fun _ HS => (yl_indexAddrR (e := 9) (i := k) (size := 1) rfl (HF.ev rfl) (HF.ev rfl) (by kernel_rfl) rfl (by omega) (RB.out.ao k (by omega)))) ?_; clear HF a; intro a HF
   refine zq HF (fun _ HS => (ylo (v := .string (xs.getD k ByteArray.empty)) rfl (HF.ev rfl) (RB.out.elem1 HS (get_getD (xs := xs) (j := k) (d := ByteArray.empty) (by omega)) rfl))) ?_; clear HF a; intro a HF
   refine zq HF (fun _ HS => (yl_neqS rfl (HF.ev rfl) (HF.ev rfl))) ?_; clear HF a; intro a HF
   refine wpQuiet_nil ?_; intro w2 HS; replace HS := Bx.mk HS
   refine ex_then ?_
   refine HF.cases 25 rfl (fun cc3 _ => ?_) fun cc3 _ => ?_
   ·clear HF;rename_i HF
    exact absurd cc3 (by simp)
   ·clear HF;rename_i HF
    refine wc_false HF rfl ?_
    refine wp_skip ?_
    refine ex_block ?_
    refine ex_then ?_
    refine wp_region_lit ?_
    refine zm HF ?_; clear HF a; intro a HF
    refine zy HF (yl_addI rfl (HF.ev rfl) (HF.ev rfl) (i64w (by omega))) ?_; clear HF a; intro a HF
    refine za HF ?_; clear HF a; intro a HF
    refine wl_ne ?_
    exact ⟨k + 1, ⟨(by omega), HF.less _ ⟨rfl, rfl, rfl, rfl, trivial⟩, HS.out⟩, (by omega)⟩
  ·clear HF;rename_i HF
   have dcc2 := of_decide_eq_false cc2
   refine wc_false HF rfl ?_
   refine wp_exit ?_
   refine ex_then_exit ?_
   refine ex_then_exit ?_
   refine ex_block_hit ?_
   refine ex_then ?_
   refine wp_sr ?_
   refine za HF ?_; clear HF a; intro a HF
   refine wl_ne ?_
   refine wp_ret ?_
   refine bp_ret1 HF Tryz.results99 (HF.res rfl) ?_
   exact ⟨rfl, HS.out.bel⟩

theorem pfDisk_yes (p q : HD) (hd : q.d = p.d) (w0 : World) (hf : p.d.fits) (hp : p.reads w0) (hq : q.reads w0) : Calls Tryz.prog 51 #[.agg #[.slice p.a0 p.d.fCells.length p.c0, .slice p.a1 p.d.fWaits.length p.c1, .bool p.d.fGone], .agg #[.slice q.a0 q.d.fCells.length q.c0, .slice q.a1 q.d.fWaits.length q.c1, .bool q.d.fGone]] w0 fun e w' => e = .returned (.bool true) ∧ Below w0.heap.size w0 w' := by
 obtain ⟨a0, c0, a1, c1, d⟩ := p; obtain ⟨z0, e0, z1, e1, d2⟩ := q; obtain rfl : d2 = d := hd
 have hw : d2.fWaits.length ≤ 1048576 := hf.w
 obtain ⟨d, rfl⟩ : ∃ d, d = d2 := ⟨_, rfl⟩
 have HP := Bx.mk hp; have HQ := Bx.mk hq; clear hp hq
 obtain ⟨g0, o0, r0⟩ := HP.out.rw.opn; have RA : Bx (Rg WaitD.cells 2 w0 a1 d.fWaits.length g0 o0 d.fWaits) := ⟨r0⟩; obtain ⟨g1, o1, r1⟩ := HQ.out.rw.opn; have RB : Bx (Rg WaitD.cells 2 w0 z1 d.fWaits.length g1 o1 d.fWaits) := ⟨r1⟩; clear r0 r1
 have HS := Bx.mk (St.start w0)
 refine wc_enter Tryz.func51 rfl Tryz.ntmps51 [(0, .agg #[.slice a0 d.fCells.length c0, .slice a1 d.fWaits.length c1, .bool d.fGone]), (1, .agg #[.slice z0 d.fCells.length e0, .slice z1 d.fWaits.length e1, .bool d.fGone])] ⟨rfl, rfl, trivial⟩ rfl ?_; intro a HF
 refine wp_sr ?_
 refine wl_box rfl HF rfl (HF.ev rfl) (Z := [.slice a0 d.fCells.length c0, .slice a1 d.fWaits.length c1, .bool d.fGone]) rfl rfl rfl rfl HS.out ?_; clear HF HS a; intro a w1 b1 HF HS; replace HS := Bx.mk HS
 refine wl_box rfl HF rfl (HF.ev rfl) (Z := [.slice z0 d.fCells.length e0, .slice z1 d.fWaits.length e1, .bool d.fGone]) rfl rfl rfl rfl HS.out ?_; clear HF HS a; intro a w2 b2 HF HS; replace HS := Bx.mk HS
 refine za HF ?_; clear HF a; intro a HF
 refine wl_ne ?_
 refine wp_seq ?_
 refine wp_sr ?_
 refine zy HF (yfa 0 rfl (HF.ev rfl)) ?_; clear HF a; intro a HF
 refine zy HF (ylo (v := .slice a0 d.fCells.length c0) rfl (HF.ev rfl) (((HS.out.box 1 rfl).cell 0).trans rfl)) ?_; clear HF a; intro a HF
 refine zy HF (yfa 0 rfl (HF.ev rfl)) ?_; clear HF a; intro a HF
 refine zy HF (ylo (v := .slice z0 d.fCells.length e0) rfl (HF.ev rfl) (((HS.out.box 0 rfl).cell 0).trans rfl)) ?_; clear HF a; intro a HF
 refine wl_callB rfl HF rfl (enter_of Tryz.func99 (by kernel_rfl) rfl) (args := #[.slice a0 d.fCells.length c0, .slice z0 d.fCells.length e0]) rfl (v := .bool true) ((pfTexts_yes _ _ _ _ _ _ hf.c (HP.out.rc.below HS.out.bel) (HQ.out.rc.below HS.out.bel))) rfl rfl HS.out ?_; clear HF HS a; intro w3 a HS HF; replace HS := Bx.mk HS
 refine zy HF (yl_not rfl (HF.ev rfl)) ?_; clear HF a; intro a HF
 refine zm HF ?_; clear HF a; intro a HF
 refine zg HF (yfa 1 rfl (HF.ev rfl)) ?_; clear HF a; intro a HF
 refine zg HF (ylo (v := .slice a1 d.fWaits.length c1) rfl (HF.ev rfl) (((HS.out.box 1 rfl).cell 1).trans rfl)) ?_; clear HF a; intro a HF
 refine zg HF (yl_lenL (e := 137) (size := 2) rfl (HF.ev rfl) (by kernel_rfl)) ?_; clear HF a; intro a HF
 refine zg HF (yfa 1 rfl (HF.ev rfl)) ?_; clear HF a; intro a HF
 refine zg HF (ylo (v := .slice z1 d.fWaits.length e1) rfl (HF.ev rfl) (((HS.out.box 0 rfl).cell 1).trans rfl)) ?_; clear HF a; intro a HF
 refine zg HF (yl_lenL (e := 137) (size := 2) rfl (HF.ev rfl) (by kernel_rfl)) ?_; clear HF a; intro a HF
 refine zg HF (yl_neqI rfl (HF.ev rfl) (HF.ev rfl)) ?_; clear HF a; intro a HF
 refine zy HF (yl_pick_f rfl (HF.ev rfl) (HF.ev rfl)) ?_; clear HF a; intro a HF
 refine zm HF ?_; clear HF a; intro a HF
 refine HF.cases 21 rfl (fun cc1 _ => ?_) fun cc1 _ => ?_
 ·clear HF;rename_i HF
  exact absurd cc1 (by simp)
 ·clear HF;rename_i HF
  have dcc1 := bne_eq_false_iff_eq.1 cc1
  refine zg HF (yfa 2 rfl (HF.ev rfl)) ?_; clear HF a; intro a HF
  refine zg HF (ylo (v := .bool d.fGone) rfl (HF.ev rfl) (((HS.out.box 1 rfl).cell 2).trans rfl)) ?_; clear HF a; intro a HF
  refine zg HF (yfa 2 rfl (HF.ev rfl)) ?_; clear HF a; intro a HF
  refine zg HF (ylo (v := .bool d.fGone) rfl (HF.ev rfl) (((HS.out.box 0 rfl).cell 2).trans rfl)) ?_; clear HF a; intro a HF
  refine zg HF (yl_neqBs rfl (HF.ev rfl) (HF.ev rfl) (by kernel_rfl)) ?_; clear HF a; intro a HF
  refine zy HF (yl_pick_f rfl (HF.ev rfl) (HF.ev rfl)) ?_; clear HF a; intro a HF
  refine wl_ne ?_
  refine wc_false HF rfl ?_
  refine wp_skip ?_
  refine ex_then ?_
  refine wp_seq ?_
  refine wp_sr ?_
  refine za HF ?_; clear HF a; intro a HF
  refine wl_ne ?_
  refine wp_block ?_
  refine wc_loop (ι := Nat) (fun k a w => (k ≤ d.fWaits.length) ∧ Fr 46 a [(2, .pointer (some ⟨b1, 0, none⟩)), (3, .pointer (some ⟨b2, 0, none⟩)), (4, .bool false), (5, .int .i64 (k : Int))] ∧ St w0 ([boxA b2 3 94 (.agg #[.slice z0 d.fCells.length e0, .slice z1 d.fWaits.length e1, .bool d.fGone]), boxA b1 3 94 (.agg #[.slice a0 d.fCells.length c0, .slice a1 d.fWaits.length c1, .bool d.fGone])]) w) (fun k => d.fWaits.length - k) 0 ⟨Nat.zero_le _, HF.less _ ⟨rfl, rfl, rfl, rfl, trivial⟩, HS.out⟩ ?_
  clear HF HS; clear a
  rintro k a w4 ⟨hk, HF, HS⟩
  replace HS := Bx.mk HS
  refine wp_seq ?_
  refine wp_sr ?_
  refine zm HF ?_; clear HF a; intro a HF
  refine zy HF (yfa 1 rfl (HF.ev rfl)) ?_; clear HF a; intro a HF
  refine zy HF (ylo (v := .slice a1 d.fWaits.length c1) rfl (HF.ev rfl) (((HS.out.box 1 rfl).cell 1).trans rfl)) ?_; clear HF a; intro a HF
  refine zy HF (yl_lenL (e := 137) (size := 2) rfl (HF.ev rfl) (by kernel_rfl)) ?_; clear HF a; intro a HF
  refine zy HF (yl_lssI rfl (HF.ev rfl) (HF.ev rfl)) ?_; clear HF a; intro a HF
  refine wl_ne ?_
  refine HF.cases 32 rfl (fun cc2 _ => ?_) fun cc2 _ => ?_
  ·clear HF;rename_i HF
   have dcc2 := of_decide_eq_true cc2
   refine wc_true HF rfl ?_
   refine wp_skip ?_
   refine ex_then ?_
   refine wp_seq ?_
   refine wp_block ?_
   refine wp_seq ?_
   refine wr_quiet (by kernel_rfl) (by kernel_rfl) HS.out ?_
   refine zq HF (fun _ HS => (yfa 1 rfl (HF.ev rfl))) ?_; clear HF a; intro a HF
   refine zq HF (fun _ HS => (ylo (v := .slice a1 d.fWaits.length c1) rfl (HF.ev rfl) (((HS.box 1 rfl).cell 1).trans rfl))) ?_; clear HF a; intro a HF
   refine zq HF (fun _ HS => (yl_move rfl (HF.ev rfl))) ?_; clear HF a; intro a HF
   refine zq HF (fun _ HS => (yl_indexAddrR (e := 137) (i := k) (size := 2) rfl (HF.ev rfl) (HF.ev rfl) (by kernel_rfl) rfl (by omega) (RA.out.ao k (by omega)))) ?_; clear HF a; intro a HF
   refine zq HF (fun _ HS => (ylr (cs := [.int .i64 ((d.fWaits.getD k default).fAt), .string ((d.fWaits.getD k default).fText)]) rfl (HF.ev rfl) (RA.out.elem HS (get_getD (xs := d.fWaits) (j := k) (d := default) (by omega))))) ?_; clear HF a; intro a HF
   refine zq HF (fun _ HS => (yfa 1 rfl (HF.ev rfl))) ?_; clear HF a; intro a HF
   refine zq HF (fun _ HS => (ylo (v := .slice z1 d.fWaits.length e1) rfl (HF.ev rfl) (((HS.box 0 rfl).cell 1).trans rfl))) ?_; clear HF a; intro a HF
   refine zq HF (fun _ HS => (yl_move rfl (HF.ev rfl))) ?_; clear HF a; intro a HF
   refine zq HF (fun _ HS => (yl_indexAddrR (e := 137) (i := k) (size := 2) rfl (HF.ev rfl) (HF.ev rfl) (by kernel_rfl) rfl (by omega) (RB.out.ao k (by omega)))) ?_; clear HF a; intro a HF
   refine zq HF (fun _ HS => (ylr (cs := [.int .i64 ((d.fWaits.getD k default).fAt), .string ((d.fWaits.getD k default).fText)]) rfl (HF.ev rfl) (RB.out.elem HS (get_getD (xs := d.fWaits) (j := k) (d := default) (by omega))))) ?_; clear HF a; intro a HF
   refine zq HF (fun _ HS => (yl_neqWt (d.fWaits.getD k default) rfl (HF.ev rfl) (HF.ev rfl))) ?_; clear HF a; intro a HF
   refine wpQuiet_nil ?_; intro w5 HS; replace HS := Bx.mk HS
   refine ex_then ?_
   refine wc_false HF rfl ?_
   refine wp_skip ?_
   refine ex_block ?_
   refine ex_then ?_
   refine wp_region_lit ?_
   refine zm HF ?_; clear HF a; intro a HF
   refine zy HF (yl_addI rfl (HF.ev rfl) (HF.ev rfl) (i64w (by omega))) ?_; clear HF a; intro a HF
   refine za HF ?_; clear HF a; intro a HF
   refine wl_ne ?_
   exact ⟨k + 1, ⟨(by omega), HF.less _ ⟨rfl, rfl, rfl, rfl, trivial⟩, HS.out⟩, (by omega)⟩
  ·clear HF;rename_i HF
   have dcc2 := of_decide_eq_false cc2
   refine wc_false HF rfl ?_
   refine wp_exit ?_
   refine ex_then_exit ?_
   refine ex_then_exit ?_
   refine ex_block_hit ?_
   refine ex_then ?_
   refine wp_sr ?_
   refine za HF ?_; clear HF a; intro a HF
   refine wl_ne ?_
   refine wp_ret ?_
   refine bp_ret1 HF Tryz.results51 (HF.res rfl) ?_
   exact ⟨rfl, HS.out.bel⟩

theorem pfRaid_yes (a0 a1 : Option Addr) (c0 c1 n : Nat) (ps qs : List HD) (hn : n = qs.length) (hd : dsOf qs = dsOf ps) (w0 : World) (hl : ps.length ≤ 1048576) (hf : fitsL ps) (hp : rdsP a0 ps w0) (hq : rdsP a1 qs w0) : Calls Tryz.prog 20 #[.agg #[.slice a0 ps.length c0], .agg #[.slice a1 n c1]] w0 fun e w' => e = .returned (.bool true) ∧ Below w0.heap.size w0 w' := by
 have hql : qs.length = ps.length := by rw [← dsOf_len, hd, dsOf_len]
 rw [hql] at hn; subst hn
 have hP := hp.at; have hQ := hq.at; rw [hql] at hQ
 have hpq : ∀ k, (qs.getD k default).d = (ps.getD k default).d := fun k => by rw [← dsOf_get, hd, dsOf_get]
 obtain ⟨g0, o0, r0⟩ := hp.1.opn; have RA := Bx.mk r0; obtain ⟨g1, o1, r1⟩ := hq.1.opn; rw [hql] at r1; have RB := Bx.mk r1; clear r0 r1 hp hq
 have HS := Bx.mk (St.start w0)
 refine wc_enter Tryz.func20 rfl Tryz.ntmps20 [(0, .agg #[.slice a0 ps.length c0]), (1, .agg #[.slice a1 ps.length c1])] ⟨rfl, rfl, trivial⟩ rfl ?_; intro a HF
 refine wp_sr ?_
 refine wl_box rfl HF rfl (HF.ev rfl) (Z := [.slice a0 ps.length c0]) rfl rfl rfl rfl HS.out ?_; clear HF HS a; intro a w1 b1 HF HS; replace HS := Bx.mk HS
 refine wl_box rfl HF rfl (HF.ev rfl) (Z := [.slice a1 ps.length c1]) rfl rfl rfl rfl HS.out ?_; clear HF HS a; intro a w2 b2 HF HS; replace HS := Bx.mk HS
 refine za HF ?_; clear HF a; intro a HF
 refine wl_ne ?_
 refine wp_seq ?_
 refine wp_sr ?_
 refine zy HF (yfa 0 rfl (HF.ev rfl)) ?_; clear HF a; intro a HF
 refine zy HF (ylo (v := .slice a0 ps.length c0) rfl (HF.ev rfl) (((HS.out.box 1 rfl).cell 0).trans rfl)) ?_; clear HF a; intro a HF
 refine zy HF (yl_lenL (e := 94) (size := 3) rfl (HF.ev rfl) (by kernel_rfl)) ?_; clear HF a; intro a HF
 refine zy HF (yfa 0 rfl (HF.ev rfl)) ?_; clear HF a; intro a HF
 refine zy HF (ylo (v := .slice a1 ps.length c1) rfl (HF.ev rfl) (((HS.out.box 0 rfl).cell 0).trans rfl)) ?_; clear HF a; intro a HF
 refine zy HF (yl_lenL (e := 94) (size := 3) rfl (HF.ev rfl) (by kernel_rfl)) ?_; clear HF a; intro a HF
 refine zy HF (yl_neqI rfl (HF.ev rfl) (HF.ev rfl)) ?_; clear HF a; intro a HF
 refine wl_ne ?_
 refine HF.cases 12 rfl (fun cc1 _ => ?_) fun cc1 _ => ?_
 ·clear HF;rename_i HF
  exact absurd cc1 (by simp)
 ·clear HF;rename_i HF
  have dcc1 := bne_eq_false_iff_eq.1 cc1
  refine wc_false HF rfl ?_
  refine wp_skip ?_
  refine ex_then ?_
  refine wp_seq ?_
  refine wp_sr ?_
  refine za HF ?_; clear HF a; intro a HF
  refine wl_ne ?_
  refine wp_block ?_
  refine wc_loop (ι := Nat) (fun k a w => (k ≤ ps.length) ∧ Fr 32 a [(2, .pointer (some ⟨b1, 0, none⟩)), (3, .pointer (some ⟨b2, 0, none⟩)), (4, .bool false), (5, .int .i64 (k : Int))] ∧ St w0 ([boxA b2 1 34 (.agg #[.slice a1 ps.length c1]), boxA b1 1 34 (.agg #[.slice a0 ps.length c0])]) w) (fun k => ps.length - k) 0 ⟨Nat.zero_le _, HF.less _ ⟨rfl, rfl, rfl, rfl, trivial⟩, HS.out⟩ ?_
  clear HF HS; clear a
  rintro k a w3 ⟨hk, HF, HS⟩
  replace HS := Bx.mk HS
  refine wp_seq ?_
  refine wp_sr ?_
  refine zm HF ?_; clear HF a; intro a HF
  refine zy HF (yfa 0 rfl (HF.ev rfl)) ?_; clear HF a; intro a HF
  refine zy HF (ylo (v := .slice a0 ps.length c0) rfl (HF.ev rfl) (((HS.out.box 1 rfl).cell 0).trans rfl)) ?_; clear HF a; intro a HF
  refine zy HF (yl_lenL (e := 94) (size := 3) rfl (HF.ev rfl) (by kernel_rfl)) ?_; clear HF a; intro a HF
  refine zy HF (yl_lssI rfl (HF.ev rfl) (HF.ev rfl)) ?_; clear HF a; intro a HF
  refine wl_ne ?_
  refine HF.cases 17 rfl (fun cc2 _ => ?_) fun cc2 _ => ?_
  ·clear HF;rename_i HF
   have dcc2 := of_decide_eq_true cc2
   refine wc_true HF rfl ?_
   refine wp_skip ?_
   refine ex_then ?_
   refine wp_seq ?_
   refine wp_block ?_
   refine wp_seq ?_
   refine wr_quiet (by kernel_rfl) (by kernel_rfl) HS.out ?_
   refine zq HF (fun _ HS => (yfa 0 rfl (HF.ev rfl))) ?_; clear HF a; intro a HF
   refine zq HF (fun _ HS => (ylo (v := .slice a0 ps.length c0) rfl (HF.ev rfl) (((HS.box 1 rfl).cell 0).trans rfl))) ?_; clear HF a; intro a HF
   refine zq HF (fun _ HS => (yl_move rfl (HF.ev rfl))) ?_; clear HF a; intro a HF
   refine zq HF (fun _ HS => (yl_indexAddrR (e := 94) (i := k) (size := 3) rfl (HF.ev rfl) (HF.ev rfl) (by kernel_rfl) rfl (by omega) (RA.out.ao k (by omega)))) ?_; clear HF a; intro a HF
   refine zq HF (fun _ HS => (ylr (cs := [.slice ((ps.getD k default).a0) ((ps.getD k default).d.fCells.length) ((ps.getD k default).c0), .slice ((ps.getD k default).a1) ((ps.getD k default).d.fWaits.length) ((ps.getD k default).c1), .bool ((ps.getD k default).d.fGone)]) rfl (HF.ev rfl) (RA.out.elem HS (get_getD (xs := ps) (j := k) (d := default) (by omega))))) ?_; clear HF a; intro a HF
   refine zq HF (fun _ HS => (yfa 0 rfl (HF.ev rfl))) ?_; clear HF a; intro a HF
   refine zq HF (fun _ HS => (ylo (v := .slice a1 ps.length c1) rfl (HF.ev rfl) (((HS.box 0 rfl).cell 0).trans rfl))) ?_; clear HF a; intro a HF
   refine zq HF (fun _ HS => (yl_move rfl (HF.ev rfl))) ?_; clear HF a; intro a HF
   refine zq HF (fun _ HS => (yl_indexAddrR (e := 94) (i := k) (size := 3) rfl (HF.ev rfl) (HF.ev rfl) (by kernel_rfl) rfl (by omega) (RB.out.ao k (by omega)))) ?_; clear HF a; intro a HF
   refine zq HF (fun _ HS => (ylr (cs := [.slice ((qs.getD k default).a0) ((qs.getD k default).d.fCells.length) ((qs.getD k default).c0), .slice ((qs.getD k default).a1) ((qs.getD k default).d.fWaits.length) ((qs.getD k default).c1), .bool ((qs.getD k default).d.fGone)]) rfl (HF.ev rfl) (RB.out.elem HS (get_getD (xs := qs) (j := k) (d := default) (by omega))))) ?_; clear HF a; intro a HF
   refine wq_call rfl HF rfl (enter_of Tryz.func51 (by kernel_rfl) rfl) (args := #[.agg #[.slice ((ps.getD k default).a0) ((ps.getD k default).d.fCells.length) ((ps.getD k default).c0), .slice ((ps.getD k default).a1) ((ps.getD k default).d.fWaits.length) ((ps.getD k default).c1), .bool ((ps.getD k default).d.fGone)], .agg #[.slice ((qs.getD k default).a0) ((qs.getD k default).d.fCells.length) ((qs.getD k default).c0), .slice ((qs.getD k default).a1) ((qs.getD k default).d.fWaits.length) ((qs.getD k default).c1), .bool ((qs.getD k default).d.fGone)]]) rfl (v := .bool true) (fun _ HS => (pfDisk_yes (ps.getD k default) (qs.getD k default) (hpq k) _ (hf.at k) ((hP k (by omega)).below HS.bel) ((hQ k (by omega)).below HS.bel))) rfl rfl ?_; clear HF a; intro a HF
   refine zq HF (fun _ HS => (yl_not rfl (HF.ev rfl))) ?_; clear HF a; intro a HF
   refine wpQuiet_nil ?_; intro w4 HS; replace HS := Bx.mk HS
   refine ex_then ?_
   refine wc_false HF rfl ?_
   refine wp_skip ?_
   refine ex_block ?_
   refine ex_then ?_
   refine wp_region_lit ?_
   refine zm HF ?_; clear HF a; intro a HF
   refine zy HF (yl_addI rfl (HF.ev rfl) (HF.ev rfl) (i64w (by omega))) ?_; clear HF a; intro a HF
   refine za HF ?_; clear HF a; intro a HF
   refine wl_ne ?_
   exact ⟨k + 1, ⟨(by omega), HF.less _ ⟨rfl, rfl, rfl, rfl, trivial⟩, HS.out⟩, (by omega)⟩
  ·clear HF;rename_i HF
   have dcc2 := of_decide_eq_false cc2
   refine wc_false HF rfl ?_
   refine wp_exit ?_
   refine ex_then_exit ?_
   refine ex_then_exit ?_
   refine ex_block_hit ?_
   refine ex_then ?_
   refine wp_sr ?_
   refine za HF ?_; clear HF a; intro a HF
   refine wl_ne ?_
   refine wp_ret ?_
   refine bp_ret1 HF Tryz.results20 (HF.res rfl) ?_
   exact ⟨rfl, HS.out.bel⟩

/-- How many disks are gone. -/
def lostN (ds : List DiskD) : Nat → Nat
  | 0 => 0
  | k + 1 => lostN ds k + (ds.getD k default).fGone.toNat
theorem lostN_le (ds : List DiskD) : ∀ k, lostN ds k ≤ k
  | 0 => Nat.le_refl _
  | k + 1 => by have := lostN_le ds k; unfold lostN; cases (ds.getD k default).fGone <;> simp <;> omega
theorem lostN_yes {ds : List DiskD} {k : Nat} (h : (ds.getD k default).fGone = true) : lostN ds (k + 1) = lostN ds k + 1 := by show lostN ds k + _ = _; rw [h]; rfl
theorem lostN_no {ds : List DiskD} {k : Nat} (h : (ds.getD k default).fGone = false) : lostN ds (k + 1) = lostN ds k := by show lostN ds k + _ = _; rw [h]; rfl

theorem pfLost_any (a0 : Option Addr) (c0 : Nat) (ps : List HD) (w0 : World) (hl : ps.length ≤ 1048576) (hp : rdsP a0 ps w0) : Calls Tryz.prog 21 #[.agg #[.slice a0 ps.length c0]] w0 fun e w' => e = .returned (.int .i64 (lostN (dsOf ps) ps.length : Int)) ∧ Below w0.heap.size w0 w' := by
 obtain ⟨g0, o0, r0⟩ := hp.1.opn; have RA := Bx.mk r0; clear r0 hp
 have HS := Bx.mk (St.start w0)
 refine wc_enter Tryz.func21 rfl Tryz.ntmps21 [(0, .agg #[.slice a0 ps.length c0])] ⟨rfl, trivial⟩ rfl ?_; intro a HF
 refine wp_sr ?_
 refine wl_box rfl HF rfl (HF.ev rfl) (Z := [.slice a0 ps.length c0]) rfl rfl rfl rfl HS.out ?_; clear HF HS a; intro a w1 b1 HF HS; replace HS := Bx.mk HS
 refine za HF ?_; clear HF a; intro a HF
 refine wl_ne ?_
 refine wp_sr ?_
 refine za HF ?_; clear HF a; intro a HF
 refine wl_ne ?_
 refine wp_seq ?_
 refine wp_sr ?_
 refine za HF ?_; clear HF a; intro a HF
 refine wl_ne ?_
 refine wp_block ?_
 refine wc_loop (ι := Nat) (fun k a w => (k ≤ ps.length) ∧ Fr 21 a [(1, .pointer (some ⟨b1, 0, none⟩)), (2, .int .i64 0), (3, .int .i64 (lostN (dsOf ps) k : Int)), (4, .int .i64 (k : Int))] ∧ St w0 ([boxA b1 1 34 (.agg #[.slice a0 ps.length c0])]) w) (fun k => ps.length - k) 0 ⟨Nat.zero_le _, HF.less _ ⟨rfl, rfl, rfl, rfl, trivial⟩, HS.out⟩ ?_
 clear HF HS; clear a
 rintro k a w2 ⟨hk, HF, HS⟩
 replace HS := Bx.mk HS
 have hlk := lostN_le (dsOf ps) k
 refine wp_seq ?_
 refine wp_sr ?_
 refine zm HF ?_; clear HF a; intro a HF
 refine zy HF (yfa 0 rfl (HF.ev rfl)) ?_; clear HF a; intro a HF
 refine zy HF (ylo (v := .slice a0 ps.length c0) rfl (HF.ev rfl) (((HS.out.box 0 rfl).cell 0).trans rfl)) ?_; clear HF a; intro a HF
 refine zy HF (yl_lenL (e := 94) (size := 3) rfl (HF.ev rfl) (by kernel_rfl)) ?_; clear HF a; intro a HF
 refine zy HF (yl_lssI rfl (HF.ev rfl) (HF.ev rfl)) ?_; clear HF a; intro a HF
 refine wl_ne ?_
 refine HF.cases 9 rfl (fun cc1 _ => ?_) fun cc1 _ => ?_
 ·clear HF;rename_i HF
  have dcc1 := of_decide_eq_true cc1
  refine wc_true HF rfl ?_
  refine wp_skip ?_
  refine ex_then ?_
  refine wp_seq ?_
  refine wp_block ?_
  refine wp_sr ?_
  refine zy HF (yfa 0 rfl (HF.ev rfl)) ?_; clear HF a; intro a HF
  refine zy HF (ylo (v := .slice a0 ps.length c0) rfl (HF.ev rfl) (((HS.out.box 0 rfl).cell 0).trans rfl)) ?_; clear HF a; intro a HF
  refine zm HF ?_; clear HF a; intro a HF
  refine zy HF (yl_indexAddrR (e := 94) (i := k) (size := 3) rfl (HF.ev rfl) (HF.ev rfl) (by kernel_rfl) rfl (by omega) (RA.out.ao k (by omega))) ?_; clear HF a; intro a HF
  refine zy HF (yfa 2 rfl (HF.ev rfl)) ?_; clear HF a; intro a HF
  refine zy HF (ylo (v := .bool ((ps.getD k default).d.fGone)) rfl (HF.ev rfl) (RA.out.elem HS.out (get_getD (xs := ps) (j := k) (d := default) (by omega)) 2 _ rfl)) ?_; clear HF a; intro a HF
  refine wl_ne ?_
  refine HF.cases 17 rfl (fun cc2 _ => ?_) fun cc2 _ => ?_
  ·clear HF;rename_i HF
   refine wc_true HF rfl ?_
   refine wp_region_lit ?_
   refine zm HF ?_; clear HF a; intro a HF
   refine zy HF (yl_addI rfl (HF.ev rfl) (HF.ev rfl) (i64w (by omega))) ?_; clear HF a; intro a HF
   refine za HF ?_; clear HF a; intro a HF
   refine wpList_nil ?_
   refine ex_block ?_
   refine ex_then ?_
   refine wp_region_lit ?_
   refine zm HF ?_; clear HF a; intro a HF
   refine zy HF (yl_addI rfl (HF.ev rfl) (HF.ev rfl) (i64w (by omega))) ?_; clear HF a; intro a HF
   refine za HF ?_; clear HF a; intro a HF
   refine wl_ne ?_
   have hnx : lostN (dsOf ps) (k + 1) = lostN (dsOf ps) k + 1 := lostN_yes (by rw [dsOf_get]; exact cc2)
   exact ⟨k + 1, ⟨(by omega), HF.less _ ⟨rfl, rfl, (by show some (Value.int .i64 _) = some (Value.int .i64 _); exact congrArg (fun z => some (Value.int .i64 z)) (by omega)), rfl, trivial⟩, HS.out⟩, (by omega)⟩
  ·clear HF;rename_i HF
   refine wc_false HF rfl ?_
   refine wp_skip ?_
   refine ex_block ?_
   refine ex_then ?_
   refine wp_region_lit ?_
   refine zm HF ?_; clear HF a; intro a HF
   refine zy HF (yl_addI rfl (HF.ev rfl) (HF.ev rfl) (i64w (by omega))) ?_; clear HF a; intro a HF
   refine za HF ?_; clear HF a; intro a HF
   refine wl_ne ?_
   have hnx : lostN (dsOf ps) (k + 1) = lostN (dsOf ps) k := lostN_no (by rw [dsOf_get]; exact cc2)
   exact ⟨k + 1, ⟨(by omega), HF.less _ ⟨rfl, rfl, (by show some (Value.int .i64 _) = some (Value.int .i64 _); exact congrArg (fun z => some (Value.int .i64 z)) (by omega)), rfl, trivial⟩, HS.out⟩, (by omega)⟩
 ·clear HF;rename_i HF
  have dcc1 := of_decide_eq_false cc1
  refine wc_false HF rfl ?_
  refine wp_exit ?_
  refine ex_then_exit ?_
  refine ex_then_exit ?_
  refine ex_block_hit ?_
  refine ex_then ?_
  refine wp_sr ?_
  refine zm HF ?_; clear HF a; intro a HF
  refine za HF ?_; clear HF a; intro a HF
  refine wl_ne ?_
  refine wp_ret ?_
  refine bp_ret1 HF Tryz.results21 (HF.res rfl) ?_
  obtain rfl : k = ps.length := by omega
  exact ⟨rfl, HS.out.bel⟩

end Go.Proofs.YtoaopmkbfifhaaaGreatDoor

/- A set of disks copied, a disk of it lost, by the program. -/
namespace Go.Proofs.YtoaopmkbfifhaaaGreatDoor
set_option linter.unusedVariables false
set_option linter.unusedSimpArgs false
set_option maxHeartbeats 1000000
set_option maxRecDepth 100000
open Go.RowKit

theorem dsOf_set (qs : List HD) (k : Nat) (q : HD) : dsOf (qs.set k q) = (dsOf qs).set k q.d := by unfold dsOf; rw [List.map_set]

end Go.Proofs.YtoaopmkbfifhaaaGreatDoor

/- The plain laws of healing and writing. -/
namespace Go.Proofs.YtoaopmkbfifhaaaGreatDoor
set_option linter.unusedVariables false
set_option linter.unusedSimpArgs false
set_option maxHeartbeats 1000000
set_option maxRecDepth 100000
open Go.RowKit
section
variable {P : Program} {o : Oper} {a : Act} {w : World} {t t' : TypeId} {x y : Operand}
theorem yl_eqlB (ho : o.op = .binOp .eql t x y t') {b c : Bool} (hx : a.eval x = .bool b) (hy : a.eval y = .bool c) (hu : P.underlying t = some .bool) : Yl P w o a (.bool (b == c)) := by
  have h : (Op.equal t (.bool b) (.bool c)).run P w = .ok (b == c) w := by
    unfold Op.equal Op.maxDepth
    rw [Op.equalIn]
    simp only [Sem.run_bind, run_underlying hu w, Result.andThen_ok, Sem.run_pure]
  unfold Yl execOp
  simp only [ho, hx, hy]
  simp [eqGuard, binOp, h]
theorem yl_eqlBs (ho : o.op = .binOp .eql t x y t') {b : Bool} (hx : a.eval x = .bool b) (hy : a.eval y = .bool b) (hu : P.underlying t = some .bool) : Yl P w o a (.bool true) := by
  have := yl_eqlB (P := P) (w := w) ho hx hy hu
  simpa using this
end
theorem pfLost_three (a0 : Option Addr) (c0 : Nat) (ps : List HD) (w0 : World) (hl : ps.length = 3) (hp : rdsP a0 ps w0) : Calls Tryz.prog 21 #[.agg #[.slice a0 ps.length c0]] w0 fun e w' => e = .returned (.int .i64 (lostN (dsOf ps) 3 : Int)) ∧ Below w0.heap.size w0 w' := by
  refine (pfLost_any a0 c0 ps w0 (by omega) hp).mono ?_
  rintro e w' ⟨rfl, hb⟩
  rw [hl]; exact ⟨rfl, hb⟩
theorem rds_nil (w : World) : rdsP none [] w := ⟨⟨rfl, fun i hi => absurd hi (Nat.not_lt_zero _)⟩, fun p h => by cases h⟩
theorem fitsL_nil : fitsL [] := fun p h => by cases h
theorem bytes_toList {a b : ByteArray} (h : (a.toList == b.toList) = true) : a = b := by
  have h := eq_of_beq h
  rw [ByteArray.toList_eq, ByteArray.toList_eq] at h
  exact ByteArray.ext (Array.toList_inj.1 h)
theorem lostN_three {ds : List DiskD} : lostN ds 3 = (ds.getD 0 default).fGone.toNat + (ds.getD 1 default).fGone.toNat + (ds.getD 2 default).fGone.toNat := by simp [lostN]
theorem ok_put {d : DiskD} {m : Nat} {t : ByteArray} (h : d.ok = true) (hc : d.can (m : Int) t = true) : (d.putD (m : Int) t).ok = true := by
  unfold DiskD.can at hc
  unfold DiskD.ok at h
  simp only [Bool.and_eq_true, decide_eq_true_eq, Bool.not_eq_true'] at h hc
  obtain ⟨h1, h2, h3, h4, h5⟩ := h
  obtain ⟨g1, g2, g3, g4⟩ := hc
  have hwl : (d.putD (m : Int) t).fWaits.length = d.fWaits.length + 1 := by show (d.fWaits ++ [_]).length = _; rw [List.length_append]; rfl
  have hgl : ∀ k, k < d.fWaits.length → (d.putD (m : Int) t).fWaits.getD k default = d.fWaits.getD k default := fun k hk => by show (d.fWaits ++ [_]).getD k default = _; simp [List.getD, List.getElem?_append_left hk]
  have hgn : (d.putD (m : Int) t).fWaits.getD d.fWaits.length default = ⟨(m : Int), t⟩ := by show (d.fWaits ++ [_]).getD d.fWaits.length default = _; simp [List.getD]
  unfold DiskD.ok
  simp only [Bool.and_eq_true, decide_eq_true_eq, Bool.not_eq_true']
  refine ⟨h1, by omega, ?_, h4, ?_⟩
  · show (d.fGone && _) = false; rw [g1]; rfl
  · rw [hwl]
    refine allB_mk fun k hk => ?_
    replace h5 : ∀ k, k < d.fWaits.length → waitB d k = true := fun k hk => allB_at h5 hk
    by_cases hk2 : k < d.fWaits.length
    · have := h5 k hk2
      unfold waitB at this ⊢
      rw [hgl k hk2]; exact this
    · obtain rfl : k = d.fWaits.length := by omega
      unfold waitB
      rw [hgn, g2]
      show (true && decide (t.size ≤ 200)) = true
      rw [decide_eq_true g3]; rfl
theorem eachTo_at2 {f : Nat → DiskD → Option DiskD} {ds xs : List DiskD} {n : Nat} (h : eachTo f ds n = some xs) : ∀ {k : Nat}, k < n → f k (ds.getD k default) = some (xs.getD k default) := by
  induction n generalizing xs with
  | zero => intro k hk; omega
  | succ n ih =>
    intro k hk
    unfold eachTo at h
    cases h1 : eachTo f ds n with
    | none => rw [h1] at h; cases h
    | some ys =>
      rw [h1] at h; simp only at h
      cases h2 : f n (ds.getD n default) with
      | none => rw [h2] at h; cases h
      | some y =>
        rw [h2] at h
        obtain rfl : ys ++ [y] = xs := by simpa using h
        have hl := eachTo_len h1
        by_cases hk2 : k < n
        · rw [ih h1 hk2]; simp [List.getD, List.getElem?_append_left (show k < ys.length by omega)]
        · obtain rfl : k = n := by omega
          rw [h2]; simp [List.getD, ← hl]
theorem okR_of {ds : List DiskD} (h : ds.length = 3) (h2 : ∀ k, k < 3 → (ds.getD k default).ok = true) : okR ds = true := by
  unfold okR
  rw [decide_eq_true h, h, Bool.true_and]
  exact allB_mk h2
theorem okR_at {ds : List DiskD} (h : okR ds = true) : ds.length = 3 ∧ ∀ k, k < 3 → (ds.getD k default).ok = true := by
  unfold okR at h
  rw [Bool.and_eq_true, decide_eq_true_eq] at h
  obtain ⟨h1, h2⟩ := h
  rw [h1] at h2
  exact ⟨h1, fun k hk => allB_at h2 hk⟩
theorem raid_holdG {W w : World} {F : List Asr} {ao : Option Addr} {c n : Nat} {ps : List HD} (hn : n = ps.length) (h : St W (rowA HD.cells 3 94 (.slice ao n c) ps :: sepA (ps.map HD.asr) :: F) w) : St W (holdsA (rdsP ao ps) :: F) w := by
  subst hn
  exact ((St.join (r := [_, _]) (s := F)).1 h).hold (sep2 (fun w f h => row_reads HD.cells_len h) (fun w f h => hds_allP h) fun w h1 h2 => ⟨h1, h2⟩)
def fitsD (ds : List DiskD) : Prop := ∀ d, d ∈ ds → d.fits
theorem fitsL_of {ps : List HD} (h : fitsD (dsOf ps)) : fitsL ps := fun p hp => h p.d (List.mem_map_of_mem hp)
theorem ok_fits {d : DiskD} (h : d.ok = true) : d.fits := by
  unfold DiskD.ok at h
  simp only [Bool.and_eq_true, decide_eq_true_eq] at h
  obtain ⟨h1, h2, _, h4, h5⟩ := h
  refine ⟨by omega, by omega, fun k => ?_, fun k => ?_⟩
  · by_cases hk : k < d.fCells.length
    · have := allB_at h4 hk
      unfold cellB at this
      simp only [Bool.and_eq_true, decide_eq_true_eq] at this
      omega
    · rw [show d.fCells.getD k ByteArray.empty = ByteArray.empty by simp [List.getD, List.getElem?_eq_none (Nat.le_of_not_lt hk)]]; exact Nat.zero_le _
  · by_cases hk : k < d.fWaits.length
    · have := allB_at h5 hk
      unfold waitB at this
      simp only [Bool.and_eq_true, decide_eq_true_eq] at this
      omega
    · rw [show d.fWaits.getD k default = default by simp [List.getD, List.getElem?_eq_none (Nat.le_of_not_lt hk)]]; exact Nat.zero_le _
theorem okR_fits {ps : List HD} (h : okR (dsOf ps) = true) : fitsL ps := fitsL_of fun d hd => by
  obtain ⟨h1, h2⟩ := okR_at h
  obtain ⟨k, hk, rfl⟩ := List.mem_iff_getElem.1 hd
  have := h2 k (by omega)
  rw [getD_get hk] at this
  exact ok_fits this
end Go.Proofs.YtoaopmkbfifhaaaGreatDoor

/- Names, paths, texts cut: walked. -/
namespace Go.Proofs.YtoaopmkbfifhaaaGreatDoor
set_option linter.unusedVariables false
set_option linter.unusedSimpArgs false
set_option maxHeartbeats 1000000
set_option maxRecDepth 100000
open Go.RowKit

section
variable {P : Program} {w : World} {o : Oper} {a : Act} {t : TypeId} {x y z : Operand}
theorem yl_sliceSm (ho : o.op = .slice t x (some y) (some z) none) {b : ByteArray} (hx : a.eval x = .string b) {k1 k2 : IntKind} {m n : Int} (hy : a.eval y = .int k1 m) (hz : a.eval z = .int k2 n) (hu : P.underlying t = some .string) {i j : Nat} (hm : m = (i : Int)) (hn : n = (j : Int)) (hij : i ≤ j) (hj : j ≤ b.size) : Yl P w o a (.string (b.extract i j)) := by
  subst hm; subst hn
  have h1 : ((i : Int) ≤ (j : Int)) := by omega
  have h2 : ((j : Int) ≤ (b.size : Int)) := by omega
  unfold Yl execOp
  simp only [ho, hx, hy, hz, Option.map_some, Option.map_none, Instr.sliceAt, Instr.slice, Sem.run_bind, run_underlying hu w, Result.andThen_ok]
  simp [Instr.slice, Instr.sliceBounds, Instr.sliceBound, asIntOf, go_sem, run_underlying hu w, h1, h2]
  rw [if_pos hj, if_pos hij]
end
theorem u8_eqI {a b : UInt8} (h : ((a.toNat : Int) == (b.toNat : Int)) = true) : a = b := by
  have := eq_of_beq h
  exact UInt8.toNat_inj.1 (by omega)
theorem u8_neI {a b : UInt8} (h : ((a.toNat : Int) == (b.toNat : Int)) = false) : a ≠ b := fun e => by rw [e] at h; simp at h
/-- The variable of the library that tells how long a text may be for its fast road holds some number. -/
def MaxP (w : World) : Prop := ∃ m, w.cell? ⟨1, 0, none⟩ = some (.int .i64 m)
theorem MaxP.below {w w' : World} (h : MaxP w) (hb : Below w.heap.size w w') : MaxP w' := by
  obtain ⟨m, hm⟩ := h
  have hlt : 1 < w.heap.size := World.block_lt_of_cell? w _ hm
  exact ⟨m, (hb.cell (p := ⟨1, 0, none⟩) hlt).trans hm⟩

theorem nameOk1_any (r : Nat) (w0 : World) : Calls Tryz.prog 135 #[.int .i32 (r : Int)] w0 fun e w' => e = .returned (.bool (badR r)) ∧ Below w0.heap.size w0 w' := by
 have HS := Bx.mk (St.start w0)
 refine wc_enter Tryz.func135 rfl Tryz.ntmps135 [(0, .int .i32 (r : Int))] ⟨rfl, trivial⟩ rfl ?_; intro a HF
 refine wp_sr ?_
 refine za HF ?_; clear HF a; intro a HF
 refine wl_ne ?_
 refine wp_sr ?_
 refine zm HF ?_; clear HF a; intro a HF
 refine zy HF (yl_lssI rfl (HF.ev rfl) (HF.ev rfl)) ?_; clear HF a; intro a HF
 refine zm HF ?_; clear HF a; intro a HF
 refine HF.cases 5 rfl (fun cc1 _ => ?_) fun cc1 _ => ?_
 ·clear HF;rename_i HF
  have dcc1 := of_decide_eq_true cc1
  refine zk HF ?_; clear HF a; intro a HF
  refine zk HF ?_; clear HF a; intro a HF
  refine zy HF (yl_pick_t rfl (HF.ev rfl) (HF.ev rfl)) ?_; clear HF a; intro a HF
  refine za HF ?_; clear HF a; intro a HF
  refine wl_ne ?_
  refine wp_ret ?_
  refine bp_ret1 HF Tryz.results135 (HF.res rfl) ?_
  exact ⟨by unfold badR; rw [cc1] <;> rfl, HS.out.bel⟩
 ·clear HF;rename_i HF
  have dcc1 := of_decide_eq_false cc1
  refine zg HF (yl_move rfl (HF.ev rfl)) ?_; clear HF a; intro a HF
  refine zg HF (yl_gtrI rfl (HF.ev rfl) (HF.ev rfl)) ?_; clear HF a; intro a HF
  refine zy HF (yl_pick_f rfl (HF.ev rfl) (HF.ev rfl)) ?_; clear HF a; intro a HF
  refine za HF ?_; clear HF a; intro a HF
  refine wl_ne ?_
  refine wp_ret ?_
  refine bp_ret1 HF Tryz.results135 (HF.res rfl) ?_
  exact ⟨by unfold badR; rw [cc1] <;> rfl, HS.out.bel⟩

theorem idxF_any (s : ByteArray) (w : World) : Calls Tryz.prog 134 #[.string s, .func (.func 135) #[] #[]] w fun e w' => e = .returned (.int .i64 (Go.Lib.idxFunc badR true s)) ∧ Below w.heap.size w w' :=
  Any.strings_IndexFunc_grows layIdxF 135 #[] (enter_of Tryz.func135 (by kernel_rfl) rfl) badR s w fun W x _ _ => nameOk1_any x W

theorem implNameOk_any (s : ByteArray) (w0 : World) (hs : s.size ≤ 9223372036854775806) : Calls Tryz.prog 90 #[.string s] w0 fun e w' => e = .returned (.bool (nameB s)) ∧ Below w0.heap.size w0 w' := by
 have HS := Bx.mk (St.start w0)
 refine wc_enter Tryz.func90 rfl Tryz.ntmps90 [(0, .string s)] ⟨rfl, trivial⟩ rfl ?_; intro a HF
 refine wp_sr ?_
 refine za HF ?_; clear HF a; intro a HF
 refine wl_ne ?_
 refine wp_sr ?_
 refine zm HF ?_; clear HF a; intro a HF
 refine zy HF (yl_lenS rfl (HF.ev rfl) (by kernel_rfl)) ?_; clear HF a; intro a HF
 refine wl_callB rfl HF rfl (enter_of Tryz.func52 (by kernel_rfl) rfl) (args := #[.int .i64 (s.size : Int), .int .i64 1, .int .i64 4]) rfl (v := .bool (inB (s.size : Int) 1 4)) (((within_any (s.size : Int) 1 4 _).mono fun _ _ h => ⟨h.1, h.2 ▸ Below.refl _ _⟩)) rfl rfl HS.out ?_; clear HF HS a; intro w1 a HS HF; replace HS := Bx.mk HS
 refine zm HF ?_; clear HF a; intro a HF
 refine HF.cases 6 rfl (fun cc1 _ => ?_) fun cc1 _ => ?_
 ·clear HF;rename_i HF
  refine zg HF (yl_move rfl (HF.ev rfl)) ?_; clear HF a; intro a HF
  refine wl_callBg HF rfl rfl rfl rfl (enter_of Tryz.func134 (by kernel_rfl) rfl) (args := #[.string s, .func (.func 135) #[] #[]]) rfl (v := .int .i64 (Go.Lib.idxFunc badR true s)) (idxF_any s _) rfl rfl HS.out ?_; clear HF HS a; intro w2 a HS HF; replace HS := Bx.mk HS
  refine zg HF (yl_lssI rfl (HF.ev rfl) (HF.ev rfl)) ?_; clear HF a; intro a HF
  refine zy HF (yl_pick_t rfl (HF.ev rfl) (HF.ev rfl)) ?_; clear HF a; intro a HF
  refine za HF ?_; clear HF a; intro a HF
  refine wl_ne ?_
  refine wp_ret ?_
  refine bp_ret1 HF Tryz.results90 (HF.res rfl) ?_
  exact ⟨by unfold nameB; rw [cc1, Bool.true_and, ← idx_good], HS.out.bel⟩
 ·clear HF;rename_i HF
  refine zk HF ?_; clear HF a; intro a HF
  refine zk HF ?_; clear HF a; intro a HF
  refine zk HF ?_; clear HF a; intro a HF
  refine zy HF (yl_pick_f rfl (HF.ev rfl) (HF.ev rfl)) ?_; clear HF a; intro a HF
  refine za HF ?_; clear HF a; intro a HF
  refine wl_ne ?_
  refine wp_ret ?_
  refine bp_ret1 HF Tryz.results90 (HF.res rfl) ?_
  exact ⟨by unfold nameB; rw [cc1]; rfl, HS.out.bel⟩

theorem specNameOk_any (s : ByteArray) (w0 : World) (hs : s.size ≤ 9223372036854775806) : Calls Tryz.prog 87 #[.string s] w0 fun e w' => e = .returned (.bool (nameB s)) ∧ Below w0.heap.size w0 w' := by
 have HS := Bx.mk (St.start w0)
 refine wc_enter Tryz.func87 rfl Tryz.ntmps87 [(0, .string s)] ⟨rfl, trivial⟩ rfl ?_; intro a HF
 refine wp_sr ?_
 refine za HF ?_; clear HF a; intro a HF
 refine wl_ne ?_
 refine wp_seq ?_
 refine wp_sr ?_
 refine za HF ?_; clear HF a; intro a HF
 refine wl_ne ?_
 refine wp_block ?_
 refine wc_loop (ι := Nat) (fun k a w => (k ≤ s.size ∧ s.data.toList.all goodC = (s.data.toList.drop k).all goodC) ∧ Fr 23 a [(0, .string s), (3, .int .i64 (k : Int))] ∧ St w0 ([]) w) (fun k => s.size - k) 0 ⟨⟨Nat.zero_le _, rfl⟩, HF.less _ ⟨rfl, rfl, trivial⟩, HS.out⟩ ?_
 clear HF HS; clear a
 rintro k a w1 ⟨⟨hk, hg⟩, HF, HS⟩
 replace HS := Bx.mk HS
 refine wp_seq ?_
 refine wp_sr ?_
 refine zm HF ?_; clear HF a; intro a HF
 refine zm HF ?_; clear HF a; intro a HF
 refine zy HF (yl_lenS rfl (HF.ev rfl) (by kernel_rfl)) ?_; clear HF a; intro a HF
 refine zy HF (yl_lssI rfl (HF.ev rfl) (HF.ev rfl)) ?_; clear HF a; intro a HF
 refine wl_ne ?_
 refine HF.cases 7 rfl (fun cc1 _ => ?_) fun cc1 _ => ?_
 ·clear HF;rename_i HF
  have dcc1 := of_decide_eq_true cc1
  refine wc_true HF rfl ?_
  refine wp_skip ?_
  refine ex_then ?_
  refine wp_seq ?_
  refine wp_block ?_
  refine wp_sr ?_
  refine zm HF ?_; clear HF a; intro a HF
  refine zm HF ?_; clear HF a; intro a HF
  refine zy HF (yl_indexS (i := k) rfl (HF.ev rfl) (HF.ev rfl) (by kernel_rfl) (by omega) (by omega)) ?_; clear HF a; intro a HF
  refine zy HF (yl_lssI rfl (HF.ev rfl) (HF.ev rfl)) ?_; clear HF a; intro a HF
  refine zm HF ?_; clear HF a; intro a HF
  refine HF.cases 14 rfl (fun cc2 _ => ?_) fun cc2 _ => ?_
  ·clear HF;rename_i HF
   have dcc2 := of_decide_eq_true cc2
   refine zk HF ?_; clear HF a; intro a HF
   refine zk HF ?_; clear HF a; intro a HF
   refine zk HF ?_; clear HF a; intro a HF
   refine zk HF ?_; clear HF a; intro a HF
   refine zy HF (yl_pick_t rfl (HF.ev rfl) (HF.ev rfl)) ?_; clear HF a; intro a HF
   refine wl_ne ?_
   refine wc_true HF rfl ?_
   refine wp_sr ?_
   refine za HF ?_; clear HF a; intro a HF
   refine wl_ne ?_
   refine wp_ret ?_
   refine ex_block_ret ?_
   refine ex_then_ret ?_
   refine ex_then_ret ?_
   refine ex_block_ret ?_
   refine ex_then_ret ?_
   refine bp_ret1 HF Tryz.results87 (HF.res rfl) ?_
   have hgk : goodC (s.get! k) = false := by unfold goodC; rw [decide_eq_false (by have := of_decide_eq_true cc2; omega)]; rfl
   exact ⟨by unfold nameB; rw [hg, goodB_drop (by omega), hgk, Bool.false_and, Bool.and_false], HS.out.bel⟩
  ·clear HF;rename_i HF
   have dcc2 := of_decide_eq_false cc2
   refine zg HF (yl_move rfl (HF.ev rfl)) ?_; clear HF a; intro a HF
   refine zg HF (yl_move rfl (HF.ev rfl)) ?_; clear HF a; intro a HF
   refine zg HF (yl_indexS (i := k) rfl (HF.ev rfl) (HF.ev rfl) (by kernel_rfl) (by omega) (by omega)) ?_; clear HF a; intro a HF
   refine zg HF (yl_gtrI rfl (HF.ev rfl) (HF.ev rfl)) ?_; clear HF a; intro a HF
   refine zy HF (yl_pick_f rfl (HF.ev rfl) (HF.ev rfl)) ?_; clear HF a; intro a HF
   refine wl_ne ?_
   refine HF.cases 19 rfl (fun cc3 _ => ?_) fun cc3 _ => ?_
   ·clear HF;rename_i HF
    have dcc3 := of_decide_eq_true cc3
    refine wc_true HF rfl ?_
    refine wp_sr ?_
    refine za HF ?_; clear HF a; intro a HF
    refine wl_ne ?_
    refine wp_ret ?_
    refine ex_block_ret ?_
    refine ex_then_ret ?_
    refine ex_then_ret ?_
    refine ex_block_ret ?_
    refine ex_then_ret ?_
    refine bp_ret1 HF Tryz.results87 (HF.res rfl) ?_
    have hgk : goodC (s.get! k) = false := by unfold goodC; rw [decide_eq_false (show ¬ (s.get! k).toNat ≤ 122 by have := of_decide_eq_true cc3; omega), Bool.and_false]
    exact ⟨by unfold nameB; rw [hg, goodB_drop (by omega), hgk, Bool.false_and, Bool.and_false], HS.out.bel⟩
   ·clear HF;rename_i HF
    have dcc3 := of_decide_eq_false cc3
    refine wc_false HF rfl ?_
    refine wp_skip ?_
    refine ex_block ?_
    refine ex_then ?_
    refine wp_region_lit ?_
    refine zm HF ?_; clear HF a; intro a HF
    refine zy HF (yl_addI rfl (HF.ev rfl) (HF.ev rfl) (i64w (by omega))) ?_; clear HF a; intro a HF
    refine za HF ?_; clear HF a; intro a HF
    refine wl_ne ?_
    have hgk : goodC (s.get! k) = true := by have := of_decide_eq_false cc2; have := of_decide_eq_false cc3; unfold goodC; rw [decide_eq_true (by omega), decide_eq_true (by omega)]; rfl
    have hnx : s.data.toList.all goodC = (s.data.toList.drop (k + 1)).all goodC := by rw [hg, goodB_drop (by omega), hgk, Bool.true_and]
    exact ⟨k + 1, ⟨⟨by omega, hnx⟩, HF.less _ ⟨rfl, rfl, trivial⟩, HS.out⟩, (by omega)⟩
 ·clear HF;rename_i HF
  have dcc1 := of_decide_eq_false cc1
  refine wc_false HF rfl ?_
  refine wp_exit ?_
  refine ex_then_exit ?_
  refine ex_then_exit ?_
  refine ex_block_hit ?_
  refine ex_then ?_
  refine wp_sr ?_
  refine zm HF ?_; clear HF a; intro a HF
  refine zy HF (yl_lenS rfl (HF.ev rfl) (by kernel_rfl)) ?_; clear HF a; intro a HF
  refine wl_callB rfl HF rfl (enter_of Tryz.func61 (by kernel_rfl) rfl) (args := #[.int .i64 (s.size : Int), .int .i64 1, .int .i64 4]) rfl (v := .bool (inB (s.size : Int) 1 4)) (((l6In_any (s.size : Int) 1 4 _).mono fun _ _ h => ⟨h.1, h.2 ▸ Below.refl _ _⟩)) rfl rfl HS.out ?_; clear HF HS a; intro w2 a HS HF; replace HS := Bx.mk HS
  refine za HF ?_; clear HF a; intro a HF
  refine wl_ne ?_
  refine wp_ret ?_
  refine bp_ret1 HF Tryz.results87 (HF.res rfl) ?_
  exact ⟨by unfold nameB; rw [hg, goodB_end (by omega), Bool.and_true], HS.out.bel⟩

theorem l2Cut_any (s : ByteArray) (c : UInt8) (w0 : World) (hs : s.size ≤ 1099511627776) : Calls Tryz.prog 173 #[.string s, .int .u8 (c.toNat : Int)] w0 fun e w' => ∃ ao cp, e = .returned (.slice ao (piecesB s c).length cp) ∧ St w0 [rowA encS 1 9 (.slice ao (piecesB s c).length cp) (piecesB s c)] w' := by
 have HS := Bx.mk (St.start w0)
 refine wc_enter Tryz.func173 rfl Tryz.ntmps173 [(0, .string s), (1, .int .u8 (c.toNat : Int))] ⟨rfl, rfl, trivial⟩ rfl ?_; intro a HF
 refine wp_sr ?_
 refine za HF ?_; clear HF a; intro a HF
 refine wl_ne ?_
 refine wp_sr ?_
 refine wl_empty (e := 9) (size := 1) rfl HF rfl rfl rfl (by kernel_rfl) HS.out ?_; clear HF HS a; intro a w1 b1 HF HS; replace HS := Bx.mk HS
 refine za HF ?_; clear HF a; intro a HF
 refine wl_ne ?_
 refine wp_sr ?_
 refine za HF ?_; clear HF a; intro a HF
 refine wl_ne ?_
 refine wp_seq ?_
 refine wp_sr ?_
 refine za HF ?_; clear HF a; intro a HF
 refine wl_ne ?_
 refine wp_block ?_
 replace HS := Bx.mk (HS.out.nilRow encS 1 9 (some ⟨b1, 0, none⟩))
 refine wc_loop (ι := Nat) (fun k a w => ∃ (ao : Option Addr) (cp : Nat) (xs : List ByteArray), (k ≤ s.size ∧ xs = (cutAt s c k).1) ∧ Fr 35 a [(0, .string s), (1, .int .u8 (c.toNat : Int)), (5, .slice ao xs.length cp), (6, .int .i64 ((cutAt s c k).2 : Int)), (7, .int .i64 (k : Int))] ∧ St w0 ([rowA encS 1 9 (.slice ao xs.length cp) xs]) w) (fun k => s.size - k) 0 ⟨_, _, [], ⟨Nat.zero_le _, rfl⟩, HF.less _ ⟨rfl, rfl, rfl, rfl, rfl, trivial⟩, HS.out⟩ ?_
 clear HF HS; clear a
 rintro k a w2 ⟨ao, cp, xs, ⟨hk, hq⟩, HF, HS⟩
 replace HS := Bx.mk HS
 have hfl := cutAt_le s c k; have hml := cutAt_many s c k; have hxl : xs.length = (cutAt s c k).1.length := by rw [hq]
 refine wp_seq ?_
 refine wp_sr ?_
 refine zm HF ?_; clear HF a; intro a HF
 refine zm HF ?_; clear HF a; intro a HF
 refine zy HF (yl_lenS rfl (HF.ev rfl) (by kernel_rfl)) ?_; clear HF a; intro a HF
 refine zy HF (yl_lssI rfl (HF.ev rfl) (HF.ev rfl)) ?_; clear HF a; intro a HF
 refine wl_ne ?_
 refine HF.cases 12 rfl (fun cc1 _ => ?_) fun cc1 _ => ?_
 ·clear HF;rename_i HF
  have dcc1 := of_decide_eq_true cc1
  refine wc_true HF rfl ?_
  refine wp_skip ?_
  refine ex_then ?_
  refine wp_seq ?_
  refine wp_block ?_
  refine wp_sr ?_
  refine zm HF ?_; clear HF a; intro a HF
  refine zm HF ?_; clear HF a; intro a HF
  refine zy HF (yl_indexS (i := k) rfl (HF.ev rfl) (HF.ev rfl) (by kernel_rfl) (by omega) (by omega)) ?_; clear HF a; intro a HF
  refine zm HF ?_; clear HF a; intro a HF
  refine zy HF (yl_eqlI rfl (HF.ev rfl) (HF.ev rfl)) ?_; clear HF a; intro a HF
  refine wl_ne ?_
  refine HF.cases 19 rfl (fun cc2 _ => ?_) fun cc2 _ => ?_
  ·clear HF;rename_i HF
   have dcc2 := eq_of_beq cc2
   refine wc_true HF rfl ?_
   refine wp_sr ?_
   refine zm HF ?_; clear HF a; intro a HF
   refine zm HF ?_; clear HF a; intro a HF
   refine zm HF ?_; clear HF a; intro a HF
   refine zm HF ?_; clear HF a; intro a HF
   refine zy HF (yl_sliceSm (i := (cutAt s c k).2) (j := k) rfl (HF.ev rfl) (HF.ev rfl) (HF.ev rfl) (by kernel_rfl) (by omega) (by omega) (by omega) (by omega)) ?_; clear HF a; intro a HF
   refine wl_buildS (enc := encS) (e := 9) (size := 1) rfl HF rfl rfl rfl (ps := [(0, .string (s.extract ((cutAt s c k).2) k))]) rfl (cells := [.string (s.extract ((cutAt s c k).2) k)]) (by kernel_rfl) [s.extract ((cutAt s c k).2) k] rfl rfl (by unfold maxLen; omega) rfl HS.out ?_; clear HF HS a; intro b2 a w3 HF HS; replace HS := Bx.mk HS
   refine wl_appL rfl HF rfl rfl rfl (HF.ev rfl) (HF.ev rfl) elemS encS_len HS.out 1 (xs := xs) rfl (ys := [s.extract ((cutAt s c k).2) k]) (St.rdN HS.out encS_len 0 rfl) (cells_one_S _) (by unfold maxLen; (try simp only [List.length_append, List.length_cons, List.length_nil, List.nil_append, List.length_map]); omega) (by (try simp only [List.length_append, List.length_cons, List.length_nil, List.nil_append, List.length_map]); omega) ?_; clear HF HS a; intro ao3 cp4 w4 a HF HS; replace HS := Bx.mk HS
   try dsimp only [List.eraseIdx] at HS
   refine za HF ?_; clear HF a; intro a HF
   refine wl_ne ?_
   refine wp_region_lit ?_
   refine zm HF ?_; clear HF a; intro a HF
   refine zy HF (yl_addI rfl (HF.ev rfl) (HF.ev rfl) (i64w (by omega))) ?_; clear HF a; intro a HF
   refine za HF ?_; clear HF a; intro a HF
   refine wpList_nil ?_
   refine ex_block ?_
   refine ex_then ?_
   refine wp_region_lit ?_
   refine zm HF ?_; clear HF a; intro a HF
   refine zy HF (yl_addI rfl (HF.ev rfl) (HF.ev rfl) (i64w (by omega))) ?_; clear HF a; intro a HF
   refine za HF ?_; clear HF a; intro a HF
   refine wl_ne ?_
   have hst := cutAt_hit (s := s) (c := c) (k := k) (u8_eqI cc2)
   have hz : xs.length + [s.extract (cutAt s c k).2 k].length = (xs ++ [s.extract (cutAt s c k).2 k]).length := (List.length_append ..).symm
   rw [hz] at HS HF
   have hnext : xs ++ [s.extract (cutAt s c k).2 k] = (cutAt s c (k + 1)).1 := by rw [hst, hq]
   replace HS : Bx (St w0 ([rowA encS 1 9 (.slice ao3 ((xs ++ [s.extract (cutAt s c k).2 k]).length) cp4) (xs ++ [s.extract (cutAt s c k).2 k]), rowA encS 1 9 (.slice (some ⟨b2, 0, none⟩) 1 1) ([s.extract ((cutAt s c k).2) k])]) _) := ⟨(HS.out).pick 1 rfl⟩
   exact ⟨k + 1, ⟨_, _, xs ++ [s.extract (cutAt s c k).2 k], ⟨by omega, hnext⟩, HF.less _ ⟨rfl, rfl, rfl, (by rw [hst]; rfl), rfl, trivial⟩, (HS.out.erase 1)⟩, (by omega)⟩
  ·clear HF;rename_i HF
   have dcc2 := ne_of_beq_false cc2
   refine wc_false HF rfl ?_
   refine wp_skip ?_
   refine ex_block ?_
   refine ex_then ?_
   refine wp_region_lit ?_
   refine zm HF ?_; clear HF a; intro a HF
   refine zy HF (yl_addI rfl (HF.ev rfl) (HF.ev rfl) (i64w (by omega))) ?_; clear HF a; intro a HF
   refine za HF ?_; clear HF a; intro a HF
   refine wl_ne ?_
   have hst := cutAt_miss (s := s) (c := c) (k := k) (u8_neI cc2)
   have hnext : xs = (cutAt s c (k + 1)).1 := by rw [hst, hq]
   exact ⟨k + 1, ⟨_, _, xs, ⟨by omega, hnext⟩, HF.less _ ⟨rfl, rfl, rfl, (by rw [hst]; rfl), rfl, trivial⟩, HS.out⟩, (by omega)⟩
 ·clear HF;rename_i HF
  have dcc1 := of_decide_eq_false cc1
  refine wc_false HF rfl ?_
  refine wp_exit ?_
  refine ex_then_exit ?_
  refine ex_then_exit ?_
  refine ex_block_hit ?_
  refine ex_then ?_
  refine wp_sr ?_
  refine zm HF ?_; clear HF a; intro a HF
  refine zm HF ?_; clear HF a; intro a HF
  refine zm HF ?_; clear HF a; intro a HF
  refine zy HF (yl_sliceSl (k := (cutAt s c k).2) rfl (HF.ev rfl) (HF.ev rfl) (by kernel_rfl) (by omega) (by omega)) ?_; clear HF a; intro a HF
  refine wl_buildS (enc := encS) (e := 9) (size := 1) rfl HF rfl rfl rfl (ps := [(0, .string (s.extract ((cutAt s c k).2) s.size))]) rfl (cells := [.string (s.extract ((cutAt s c k).2) s.size)]) (by kernel_rfl) [s.extract ((cutAt s c k).2) s.size] rfl rfl (by unfold maxLen; omega) rfl HS.out ?_; clear HF HS a; intro b5 a w5 HF HS; replace HS := Bx.mk HS
  refine wl_appL rfl HF rfl rfl rfl (HF.ev rfl) (HF.ev rfl) elemS encS_len HS.out 1 (xs := xs) rfl (ys := [s.extract ((cutAt s c k).2) s.size]) (St.rdN HS.out encS_len 0 rfl) (cells_one_S _) (by unfold maxLen; (try simp only [List.length_append, List.length_cons, List.length_nil, List.nil_append, List.length_map]); omega) (by (try simp only [List.length_append, List.length_cons, List.length_nil, List.nil_append, List.length_map]); omega) ?_; clear HF HS a; intro ao6 cp7 w6 a HF HS; replace HS := Bx.mk HS
  try dsimp only [List.eraseIdx] at HS
  refine za HF ?_; clear HF a; intro a HF
  refine wl_ne ?_
  refine wp_ret ?_
  refine bp_ret1 HF Tryz.results173 (HF.res rfl) ?_
  replace HS : Bx (St w0 ([rowA encS 1 9 (.slice ao6 (xs.length + ([s.extract ((cutAt s c k).2) s.size]).length) cp7) (xs ++ ([s.extract ((cutAt s c k).2) s.size])), rowA encS 1 9 (.slice (some ⟨b5, 0, none⟩) 1 1) ([s.extract ((cutAt s c k).2) s.size])]) _) := ⟨(HS.out).pick 1 rfl⟩
  obtain rfl : k = s.size := by omega
  have hcb : xs ++ [s.extract (cutAt s c s.size).2 s.size] = cutB s c := by rw [hq]; rfl
  have hz : xs.length + [s.extract (cutAt s c s.size).2 s.size].length = (cutB s c).length := by rw [← hcb, List.length_append]
  refine ⟨ao6, cp7, ?_, ?_⟩
  ·rw [hz, cutB_pieces]
  ·have HT2 := (HS.out.erase 1); rw [hz, hcb, cutB_pieces] at HT2; exact HT2

theorem max_of {w : World} (h : w.ShapedOpen Tryz.prog) : MaxP w := laySplit.s1_3 w h
theorem split_any (s : ByteArray) (c : UInt8) (w : World) (hs : s.size < 4294967281) (hM : MaxP w) : Calls Tryz.prog 175 #[.string s, .string ⟨#[c]⟩] w fun e w' => ∃ ao cp, e = .returned (.slice ao (piecesB s c).length cp) ∧ St w [rowA encS 1 9 (.slice ao (piecesB s c).length cp) (piecesB s c)] w' := by
  obtain ⟨m, hm⟩ := hM
  refine (Any.strings_Split { laySplit with } laySplit.i9 s ⟨#[c]⟩ m w hs hm (Nat.le_refl 1)).mono ?_
  rintro e w' ⟨rfl, rfl⟩
  have hl : Go.Lib.countB s ⟨#[c]⟩ + 1 = (piecesB s c).length := by rw [← splitB_pieces, Go.Lib.splitB_all ⟨#[c]⟩ (Nat.le_refl 1) 0 _ s rfl]
  rw [hl, splitB_pieces]
  refine ⟨_, _, rfl, ?_⟩
  have hm2 : (piecesB s c).length ≤ maxLen := by
    have h1 := pieces_len s c
    have h2 := List.count_le_length (a := c) (l := s.data.toList)
    have h3 := size_list s
    unfold maxLen; omega
  refine (St.start w).rowNew (enc := encS) (size := 1) (ys := piecesB s c) ((Below.refl _ _).alloc (Nat.le_refl _) _) (blk_new w _ _ rfl) (Nat.le_refl _) (by simp) (Nat.le_refl _) hm2 ?_
  rw [Nat.mul_one, List.take_of_length_le (by simp), List.map_eq_flatMap]; rfl
theorem cutP_any (s : ByteArray) (w : World) : Calls Tryz.prog 174 #[.string s, .string (⟨#[47]⟩ : ByteArray)] w fun e w' => e = .returned (.tuple #[.string (bif s.data.toList.head? == some 47 then s.extract 1 s.size else s), .bool (s.data.toList.head? == some 47)]) ∧ Below w.heap.size w w' := by
  refine (Any.strings_CutPrefix layCutP s ⟨#[47]⟩ w).mono ?_
  rintro e w' ⟨rfl, rfl⟩
  refine ⟨?_, Below.refl _ _⟩
  have hz := size_list s
  have hx : (s.extract 1 s.size).data.toList = s.data.toList.drop 1 := by rw [list_extract, List.take_of_length_le (by rw [List.length_drop]; omega)]
  have hp : Go.Lib.hasPrefix s.data.toList (⟨#[47]⟩ : ByteArray).data.toList = (s.data.toList.head? == some 47) := by
    unfold Go.Lib.hasPrefix
    cases s.data.toList with
    | nil => rfl
    | cons b t => show (((47 : UInt8) == b) && List.isPrefixOf [] t) = (some b == some 47); rw [List.isPrefixOf_nil_left, Bool.and_true]; by_cases hb : b = 47
                  · subst hb; rfl
                  · rw [beq_eq_false_iff_ne.2 (fun e => hb e.symm), beq_eq_false_iff_ne.2 (fun e => hb (Option.some.inj e))]
  have ht : (⟨(Go.Lib.trimPrefix s.data.toList (⟨#[47]⟩ : ByteArray).data.toList).toArray⟩ : ByteArray) = bif s.data.toList.head? == some 47 then s.extract 1 s.size else s := by
    unfold Go.Lib.trimPrefix
    rw [hp]
    cases h : (s.data.toList.head? == some 47) with
    | true => rw [cond_true]; apply ba_ext; rw [hx]; rfl
    | false => rw [cond_false]; apply ba_ext; rfl
  rw [ht, hp]

theorem indexFuncT_any (a0 : Option Addr) (c0 : Nat) (xs : List ByteArray) (f : FuncId) (caps : Array Value) (p : Nat → Bool) (w0 : World) (hl : xs.length ≤ 1048576) (HE : ∀ (args : Array Value) (w : World), (callFunc f args).run Tryz.prog w = .ok (.enter f args) w) (hR : Rd encS 1 w0 a0 xs.length xs) (hf : ∀ k, k < xs.length → ∀ w, Below w0.heap.size w0 w → Calls Tryz.prog f (#[] ++ #[.string (xs.getD k ByteArray.empty)] ++ caps) w fun e w' => e = .returned (.bool (p k)) ∧ Below w.heap.size w w') : Calls Tryz.prog 208 #[.slice a0 xs.length c0, .func (.func f) #[] caps] w0 fun e w' => e = .returned (.int .i64 (idxB p xs.length 0)) ∧ Below w0.heap.size w0 w' := by
 have HR := Bx.mk hR; have HF0 := Bx.mk hf; clear hR hf
 have HS := Bx.mk (St.start w0)
 refine wc_enter Tryz.func208 rfl Tryz.ntmps208 [(0, .slice a0 xs.length c0), (1, .func (.func f) #[] caps)] ⟨rfl, rfl, trivial⟩ rfl ?_; intro a HF
 refine wp_sr ?_
 refine za HF ?_; clear HF a; intro a HF
 refine wl_ne ?_
 refine wp_seq ?_
 refine wp_sr ?_
 refine zm HF ?_; clear HF a; intro a HF
 refine zy HF (yl_lenL (e := 9) (size := 1) rfl (HF.ev rfl) (by kernel_rfl)) ?_; clear HF a; intro a HF
 refine zm HF ?_; clear HF a; intro a HF
 refine wl_ne ?_
 refine wp_block ?_
 refine wc_loop (ι := Nat) (fun k a w => (k ≤ xs.length ∧ idxB p xs.length 0 = idxB p xs.length k) ∧ Fr 19 a [(0, .slice a0 xs.length c0), (1, .func (.func f) #[] caps), (7, .int .i64 (xs.length : Int)), (8, .int .i64 (k : Int))] ∧ St w0 ([]) w) (fun k => xs.length - k) 0 ⟨⟨Nat.zero_le _, rfl⟩, HF.less _ ⟨rfl, rfl, rfl, rfl, trivial⟩, HS.out⟩ ?_
 clear HF HS; clear a
 rintro k a w1 ⟨⟨hk, hf⟩, HF, HS⟩
 replace HS := Bx.mk HS
 refine wp_sr ?_
 refine zy HF (yl_lssI rfl (HF.ev rfl) (HF.ev rfl)) ?_; clear HF a; intro a HF
 refine wl_ne ?_
 refine wp_seq ?_
 refine HF.cases 9 rfl (fun cc1 _ => ?_) fun cc1 _ => ?_
 ·clear HF;rename_i HF
  have dcc1 := of_decide_eq_true cc1
  refine wc_true HF rfl ?_
  refine wp_skip ?_
  refine ex_then ?_
  refine wp_seq ?_
  refine wp_block ?_
  refine wp_sr ?_
  refine zm HF ?_; clear HF a; intro a HF
  refine za HF ?_; clear HF a; intro a HF
  refine wl_ne ?_
  refine wp_seq ?_
  obtain ⟨g0, o0, r0⟩ := HR.out.opn; have R0 := Bx.mk r0; clear r0
  refine wp_region_lit ?_
  refine zm HF ?_; clear HF a; intro a HF
  refine zm HF ?_; clear HF a; intro a HF
  refine zm HF ?_; clear HF a; intro a HF
  refine zy HF (yl_indexAddrR (e := 9) (i := k) (size := 1) rfl (HF.ev rfl) (HF.ev rfl) (by kernel_rfl) rfl (by omega) (R0.out.ao k (by omega))) ?_; clear HF a; intro a HF
  refine zy HF (ylo (v := .string (xs.getD k ByteArray.empty)) rfl (HF.ev rfl) (R0.out.elem1 HS.out (get_getD (xs := xs) (j := k) (d := ByteArray.empty) (by omega)) rfl)) ?_; clear HF a; intro a HF
  refine wl_callvB rfl HF rfl (HF.ev rfl) HE (args := #[.string (xs.getD k ByteArray.empty)]) rfl (v := .bool (p k)) (HF0.out k (by omega) _ HS.out.bel) rfl rfl HS.out ?_; clear HF HS a; intro w2 a HS HF; replace HS := Bx.mk HS
  refine wl_ne ?_
  refine HF.cases 16 rfl (fun cc2 _ => ?_) fun cc2 _ => ?_
  ·clear HF;rename_i HF
   refine wc_true HF rfl ?_
   refine wp_sr ?_
   refine zm HF ?_; clear HF a; intro a HF
   refine za HF ?_; clear HF a; intro a HF
   refine wl_ne ?_
   refine wp_ret ?_
   refine ex_block_ret ?_
   refine ex_then_ret ?_
   refine ex_then_ret ?_
   refine ex_block_ret ?_
   refine ex_then_ret ?_
   refine bp_ret1 HF Tryz.results208 (HF.res rfl) ?_
   rw [idxB_lt (k := k) (by omega), if_pos cc2] at hf
   exact ⟨by rw [hf], HS.out.bel⟩
  ·clear HF;rename_i HF
   refine wc_false HF rfl ?_
   refine wp_skip ?_
   refine ex_block ?_
   refine ex_then ?_
   refine wp_region_lit ?_
   refine zy HF (yl_addI rfl (HF.ev rfl) (HF.ev rfl) (i64w (by omega))) ?_; clear HF a; intro a HF
   refine zm HF ?_; clear HF a; intro a HF
   refine wl_ne ?_
   rw [idxB_lt (k := k) (by omega), if_neg (by rw [cc2]; simp)] at hf
   exact ⟨k + 1, ⟨⟨by omega, hf⟩, HF.less _ ⟨rfl, rfl, rfl, rfl, trivial⟩, HS.out⟩, (by omega)⟩
 ·clear HF;rename_i HF
  have dcc1 := of_decide_eq_false cc1
  refine wc_false HF rfl ?_
  refine wp_exit ?_
  refine ex_then_exit ?_
  refine ex_then_exit ?_
  refine ex_block_hit ?_
  refine ex_then ?_
  refine wp_sr ?_
  refine za HF ?_; clear HF a; intro a HF
  refine wl_ne ?_
  refine wp_ret ?_
  refine bp_ret1 HF Tryz.results208 (HF.res rfl) ?_
  rw [idxB_end (k := k) (by omega)] at hf
  exact ⟨by rw [hf], HS.out.bel⟩

theorem containsFuncT_any (a0 : Option Addr) (c0 : Nat) (xs : List ByteArray) (f : FuncId) (caps : Array Value) (p : Nat → Bool) (w0 : World) (hl : xs.length ≤ 1048576) (HE : ∀ (args : Array Value) (w : World), (callFunc f args).run Tryz.prog w = .ok (.enter f args) w) (hR : Rd encS 1 w0 a0 xs.length xs) (hf : ∀ k, k < xs.length → ∀ w, Below w0.heap.size w0 w → Calls Tryz.prog f (#[] ++ #[.string (xs.getD k ByteArray.empty)] ++ caps) w fun e w' => e = .returned (.bool (p k)) ∧ Below w.heap.size w w') : Calls Tryz.prog 189 #[.slice a0 xs.length c0, .func (.func f) #[] caps] w0 fun e w' => e = .returned (.bool (!allB (fun k => !p k) xs.length)) ∧ Below w0.heap.size w0 w' := by
 have HR := Bx.mk hR; have HF0 := Bx.mk hf; clear hR hf
 have HS := Bx.mk (St.start w0)
 refine wc_enter Tryz.func189 rfl Tryz.ntmps189 [(0, .slice a0 xs.length c0), (1, .func (.func f) #[] caps)] ⟨rfl, rfl, trivial⟩ rfl ?_; intro a HF
 refine wp_sr ?_
 refine za HF ?_; clear HF a; intro a HF
 refine wl_ne ?_
 refine wp_sr ?_
 refine zm HF ?_; clear HF a; intro a HF
 refine zm HF ?_; clear HF a; intro a HF
 refine wl_callB rfl HF rfl (enter_of Tryz.func208 (by kernel_rfl) rfl) (args := #[.slice a0 xs.length c0, .func (.func f) #[] caps]) rfl (v := .int .i64 (idxB p xs.length 0)) (indexFuncT_any a0 c0 xs f caps p _ hl HE (HR.out.below HS.out.bel) (fun k hk w hb => HF0.out k hk w (HS.out.bel.trans (hb.mono HS.out.bel.size)))) rfl rfl HS.out ?_; clear HF HS a; intro w1 a HS HF; replace HS := Bx.mk HS
 refine zy HF (yl_geqI rfl (HF.ev rfl) (HF.ev rfl)) ?_; clear HF a; intro a HF
 refine za HF ?_; clear HF a; intro a HF
 refine wl_ne ?_
 refine wp_ret ?_
 refine bp_ret1 HF Tryz.results189 (HF.res rfl) ?_
 exact ⟨by rw [← idxB_any], HS.out.bel⟩

theorem pathOf1_any (s : ByteArray) (w0 : World) (hs : s.size ≤ 9223372036854775806) : Calls Tryz.prog 190 #[.string s] w0 fun e w' => e = .returned (.bool (!nameB s)) ∧ Below w0.heap.size w0 w' := by
 have HS := Bx.mk (St.start w0)
 refine wc_enter Tryz.func190 rfl Tryz.ntmps190 [(0, .string s)] ⟨rfl, trivial⟩ rfl ?_; intro a HF
 refine wp_sr ?_
 refine za HF ?_; clear HF a; intro a HF
 refine wl_ne ?_
 refine wp_sr ?_
 refine zm HF ?_; clear HF a; intro a HF
 refine wl_callB rfl HF rfl (enter_of Tryz.func90 (by kernel_rfl) rfl) (args := #[.string s]) rfl (v := .bool (nameB s)) (implNameOk_any s _ (by omega)) rfl rfl HS.out ?_; clear HF HS a; intro w1 a HS HF; replace HS := Bx.mk HS
 refine zy HF (yl_not rfl (HF.ev rfl)) ?_; clear HF a; intro a HF
 refine za HF ?_; clear HF a; intro a HF
 refine wl_ne ?_
 refine wp_ret ?_
 refine bp_ret1 HF Tryz.results190 (HF.res rfl) ?_
 exact ⟨rfl, HS.out.bel⟩

theorem allB_all (xs : List ByteArray) : allB (fun k => !!nameB (xs.getD k ByteArray.empty)) xs.length = xs.all nameB := by
  cases h : xs.all nameB with
  | true =>
    rw [List.all_eq_true] at h
    exact allB_mk fun k hk => by
      rw [Bool.not_not]
      have := h (xs.getD k ByteArray.empty) (by rw [List.getD_eq_getElem?_getD, List.getElem?_eq_getElem hk]; exact List.getElem_mem hk)
      exact this
  | false =>
    cases h2 : allB (fun k => !!nameB (xs.getD k ByteArray.empty)) xs.length with
    | false => rfl
    | true =>
      exfalso
      have : xs.all nameB = true := List.all_eq_true.2 fun x hx => by
        obtain ⟨k, hk, rfl⟩ := List.getElem_of_mem hx
        have := allB_at h2 hk
        rw [Bool.not_not, List.getD_eq_getElem?_getD, List.getElem?_eq_getElem hk] at this
        exact this
      rw [h] at this; cases this

theorem pathText_any (a0 : Option Addr) (n c0 : Nat) (xs : List ByteArray) (w0 : World) (hl : xs.length ≤ 100) (hx : szs xs) (hc : xs.length ≤ c0) (hR : Rd encS 1 w0 a0 n xs) : Calls Tryz.prog 191 #[.slice a0 n c0] w0 fun e w' => e = .returned (.string (slB ++ joinT xs slB)) ∧ Below w0.heap.size w0 w' := by
 obtain rfl := hR.len
 have hR0 := Bx.mk hR
 obtain ⟨g0, o0, r0⟩ := hR.opn; have R0 := Bx.mk r0; clear r0 hR
 have HS := Bx.mk (St.start w0)
 refine wc_enter Tryz.func191 rfl Tryz.ntmps191 [(0, .slice a0 xs.length c0)] ⟨rfl, trivial⟩ rfl ?_; intro a HF
 refine wp_sr ?_
 refine za HF ?_; clear HF a; intro a HF
 refine wl_ne ?_
 refine wp_seq ?_
 have hjz : (joinT xs (⟨#[47]⟩ : ByteArray)).size ≤ 100 * (100 + 1099511627776) := Nat.le_trans (joinT_size xs _ hx) (Nat.mul_le_mul hl (by decide))
 refine wp_region_lit ?_
 refine zm HF ?_; clear HF a; intro a HF
 refine wl_callB rfl HF rfl (enter_of Tryz.func159 (by kernel_rfl) rfl) (args := #[.slice a0 xs.length c0, .string (⟨#[47]⟩ : ByteArray)]) rfl (v := .string (joinT xs (⟨#[47]⟩ : ByteArray))) (join_any _ _ _ xs (⟨#[47]⟩ : ByteArray) _ (hR0.out.below HS.out.bel) hc (by omega) hx (by decide)) rfl rfl HS.out ?_; clear HF HS a; intro w1 a HS HF; replace HS := Bx.mk HS
 refine zy HF (yl_addS rfl (HF.ev rfl) (HF.ev rfl) (by (try simp only [size1]); omega)) ?_; clear HF a; intro a HF
 refine za HF ?_; clear HF a; intro a HF
 refine wl_ne ?_
 refine wp_ret ?_
 refine bp_ret1 HF Tryz.results191 (HF.res rfl) ?_
 exact ⟨rfl, HS.out.bel⟩

theorem pathOf_any (a0 : Option Addr) (n c0 : Nat) (xs : List ByteArray) (w0 : World) (hl : xs.length ≤ 100) (hx : szs xs) (hc : xs.length ≤ c0) (hR : Rd encS 1 w0 a0 n xs) : Calls Tryz.prog 176 #[.slice a0 n c0] w0 fun e w' => (okN xs = true ∧ e = .returned (.tuple #[.string (slB ++ joinT xs slB), .bool true]) ∧ Below w0.heap.size w0 w') ∨ (okN xs = false ∧ e = .returned (.tuple #[.string ByteArray.empty, .bool false]) ∧ Below w0.heap.size w0 w') := by
 obtain rfl := hR.len
 have hR0 := Bx.mk hR
 obtain ⟨g0, o0, r0⟩ := hR.opn; have R0 := Bx.mk r0; clear r0 hR
 have HS := Bx.mk (St.start w0)
 refine wc_enter Tryz.func176 rfl Tryz.ntmps176 [(0, .slice a0 xs.length c0)] ⟨rfl, trivial⟩ rfl ?_; intro a HF
 refine wp_sr ?_
 refine za HF ?_; clear HF a; intro a HF
 refine za HF ?_; clear HF a; intro a HF
 refine wl_ne ?_
 refine wp_seq ?_
 refine wp_sr ?_
 refine zm HF ?_; clear HF a; intro a HF
 refine zy HF (yl_lenL (e := 9) (size := 1) rfl (HF.ev rfl) (by kernel_rfl)) ?_; clear HF a; intro a HF
 refine zy HF (yl_gtrI rfl (HF.ev rfl) (HF.ev rfl)) ?_; clear HF a; intro a HF
 refine zm HF ?_; clear HF a; intro a HF
 refine HF.cases 7 rfl (fun cc1 _ => ?_) fun cc1 _ => ?_
 ·clear HF;rename_i HF
  have dcc1 := of_decide_eq_true cc1
  refine zk HF ?_; clear HF a; intro a HF
  refine zk HF ?_; clear HF a; intro a HF
  refine zy HF (yl_pick_t rfl (HF.ev rfl) (HF.ev rfl)) ?_; clear HF a; intro a HF
  refine wl_ne ?_
  refine wc_true HF rfl ?_
  refine wp_sr ?_
  refine za HF ?_; clear HF a; intro a HF
  refine za HF ?_; clear HF a; intro a HF
  refine wl_ne ?_
  refine wp_ret ?_
  refine ex_then_ret ?_
  refine bp_ret2 HF Tryz.results176 (HF.res rfl) (HF.res rfl) ?_
  exact .inr ⟨by unfold okN; rw [decide_eq_false (by omega)]; rfl, rfl, HS.out.bel⟩
 ·clear HF;rename_i HF
  have dcc1 := of_decide_eq_false cc1
  refine zg HF (yl_move rfl (HF.ev rfl)) ?_; clear HF a; intro a HF
  refine wl_callBg HF rfl rfl rfl rfl (enter_of Tryz.func189 (by kernel_rfl) rfl) (args := #[.slice a0 xs.length c0, .func (.func 190) #[] #[]]) rfl (v := .bool (!allB (fun k => !!nameB (xs.getD k ByteArray.empty)) xs.length)) (containsFuncT_any a0 c0 xs 190 #[] (fun k => !nameB (xs.getD k ByteArray.empty)) _ (by omega) (enter_of Tryz.func190 (by kernel_rfl) rfl) (hR0.out.below HS.out.bel) (fun k hk w _ => pathOf1_any _ w (by have := hx k; omega))) rfl rfl HS.out ?_; clear HF HS a; intro w1 a HS HF; replace HS := Bx.mk HS
  refine zy HF (yl_pick_f rfl (HF.ev rfl) (HF.ev rfl)) ?_; clear HF a; intro a HF
  refine wl_ne ?_
  refine HF.cases 10 rfl (fun cc2 _ => ?_) fun cc2 _ => ?_
  ·clear HF;rename_i HF
   refine wc_true HF rfl ?_
   refine wp_sr ?_
   refine za HF ?_; clear HF a; intro a HF
   refine za HF ?_; clear HF a; intro a HF
   refine wl_ne ?_
   refine wp_ret ?_
   refine ex_then_ret ?_
   refine bp_ret2 HF Tryz.results176 (HF.res rfl) (HF.res rfl) ?_
   exact .inr ⟨by unfold okN; rw [← allB_all]; rw [show allB (fun k => !!nameB (xs.getD k ByteArray.empty)) xs.length = false by simpa using cc2, Bool.and_false], rfl, HS.out.bel⟩
  ·clear HF;rename_i HF
   refine wc_false HF rfl ?_
   refine wp_skip ?_
   refine ex_then ?_
   refine wp_sr ?_
   refine zm HF ?_; clear HF a; intro a HF
   refine wl_callB rfl HF rfl (enter_of Tryz.func191 (by kernel_rfl) rfl) (args := #[.slice a0 xs.length c0]) rfl (v := .string (slB ++ joinT xs slB)) (pathText_any _ _ _ xs _ (by omega) hx hc (hR0.out.below HS.out.bel)) rfl rfl HS.out ?_; clear HF HS a; intro w2 a HS HF; replace HS := Bx.mk HS
   refine za HF ?_; clear HF a; intro a HF
   refine za HF ?_; clear HF a; intro a HF
   refine wl_ne ?_
   refine wp_ret ?_
   refine bp_ret2 HF Tryz.results176 (HF.res rfl) (HF.res rfl) ?_
   exact .inl ⟨by unfold okN; rw [decide_eq_true (by omega), Bool.true_and, ← allB_all]; simpa using cc2, rfl, HS.out.bel⟩

theorem cutP_ways (s : ByteArray) (w : World) : Calls Tryz.prog 174 #[.string s, .string (⟨#[47]⟩ : ByteArray)] w fun e w' => ((s.data.toList.head? == some 47) = true ∧ e = .returned (.tuple #[.string (s.extract 1 s.size), .bool true]) ∧ Below w.heap.size w w') ∨ ((s.data.toList.head? == some 47) = false ∧ e = .returned (.tuple #[.string s, .bool false]) ∧ Below w.heap.size w w') := by
  refine (cutP_any s w).mono ?_
  rintro e w' ⟨rfl, hb⟩
  cases h : (s.data.toList.head? == some 47) with
  | true => exact .inl ⟨rfl, rfl, hb⟩
  | false => exact .inr ⟨rfl, rfl, hb⟩
theorem szs_pieces (s : ByteArray) (c : UInt8) (h : s.size ≤ 1099511627776) : szs (piecesB s c) := fun k => by
  have key : ∀ (l : List UInt8) (x : List UInt8), x ∈ splitL c l → x.length ≤ l.length := by
    intro l
    induction l with
    | nil => intro x hx; obtain rfl : x = [] := by simpa [splitL] using hx
             exact Nat.le_refl _
    | cons b t ih =>
      intro x hx
      by_cases hb : b = c
      · subst hb
        rw [splitL_eq] at hx
        rcases List.mem_cons.1 hx with rfl | hx
        · exact Nat.zero_le _
        · exact Nat.le_succ_of_le (ih x hx)
      · obtain ⟨y, r, hs⟩ := splitL_ne c t
        rw [splitL_cons t hb hs] at hx
        rcases List.mem_cons.1 hx with rfl | hx
        · have := ih y (by rw [hs]; exact List.mem_cons_self ..)
          simp only [List.length_cons]; omega
        · exact Nat.le_succ_of_le (ih x (by rw [hs]; exact List.mem_cons_of_mem _ hx))
  by_cases hk : k < (piecesB s c).length
  · have hm : (piecesB s c).getD k ByteArray.empty ∈ piecesB s c := by rw [List.getD_eq_getElem?_getD, List.getElem?_eq_getElem hk]; exact List.getElem_mem hk
    obtain ⟨l, hl, e⟩ := List.mem_map.1 hm
    have := key _ _ hl
    rw [← size_list] at this
    rw [← e, size_list]; exact Nat.le_trans this h
  · rw [List.getD_eq_getElem?_getD, List.getElem?_eq_none (by omega)]; exact Nat.zero_le _

theorem pathNames_any (s : ByteArray) (w0 : World) (hM : MaxP w0) (hs : s.size ≤ 4000000000) : Calls Tryz.prog 163 #[.string s] w0 fun e w' => ∃ v, e = .returned (.tuple #[v, .bool (pathB s)]) ∧ Below w0.heap.size w0 w' := by
 have HM := Bx.mk hM; clear hM
 have HS := Bx.mk (St.start w0)
 refine wc_enter Tryz.func163 rfl Tryz.ntmps163 [(0, .string s)] ⟨rfl, trivial⟩ rfl ?_; intro a HF
 refine wp_sr ?_
 refine za HF ?_; clear HF a; intro a HF
 refine za HF ?_; clear HF a; intro a HF
 refine wl_ne ?_
 refine wp_seq ?_
 refine wp_sr ?_
 refine zm HF ?_; clear HF a; intro a HF
 refine zy HF (yl_eqlS rfl (HF.ev rfl) (HF.ev rfl)) ?_; clear HF a; intro a HF
 refine wl_ne ?_
 refine HF.cases 10 rfl (fun cc1 _ => ?_) fun cc1 _ => ?_
 ·clear HF;rename_i HF
  refine wc_true HF rfl ?_
  refine wp_sr ?_
  refine za HF ?_; clear HF a; intro a HF
  refine za HF ?_; clear HF a; intro a HF
  refine wl_ne ?_
  refine wp_ret ?_
  refine ex_then_ret ?_
  refine bp_ret2 HF Tryz.results163 (HF.res rfl) (HF.res rfl) ?_
  exact ⟨_, by rw [pathB_sl cc1] <;> rfl, HS.out.bel⟩
 ·clear HF;rename_i HF
  refine wc_false HF rfl ?_
  refine wp_skip ?_
  refine ex_then ?_
  refine wp_sr ?_
  refine zm HF ?_; clear HF a; intro a HF
  refine wl_call rfl HF rfl (enter_of Tryz.func174 (by kernel_rfl) rfl) (args := #[.string s, .string (⟨#[47]⟩ : ByteArray)]) rfl (cutP_ways s _) rfl rfl ?_
  rintro _ w1 (⟨hpr, rfl, hb⟩ | ⟨hpr, rfl, hb⟩)
  ·skip
   refine ⟨_, rfl, ?_⟩; replace HS := Bx.mk (HS.out.later hb);clear hb HF a;intro a HF
   refine zm HF ?_; clear HF a; intro a HF
   refine zy HF (yl_extract rfl (HF.ev rfl) rfl) ?_; clear HF a; intro a HF
   refine zy HF (yl_extract rfl (HF.ev rfl) rfl) ?_; clear HF a; intro a HF
   refine za HF ?_; clear HF a; intro a HF
   refine za HF ?_; clear HF a; intro a HF
   refine wl_ne ?_
   refine wp_seq ?_
   refine wp_sr ?_
   refine zm HF ?_; clear HF a; intro a HF
   refine zy HF (yl_not rfl (HF.ev rfl)) ?_; clear HF a; intro a HF
   refine zm HF ?_; clear HF a; intro a HF
   refine zg HF (yl_move rfl (HF.ev rfl)) ?_; clear HF a; intro a HF
   refine zg HF (yl_lenS rfl (HF.ev rfl) (by kernel_rfl)) ?_; clear HF a; intro a HF
   refine zg HF (yl_gtrI rfl (HF.ev rfl) (HF.ev rfl)) ?_; clear HF a; intro a HF
   refine zy HF (yl_pick_f rfl (HF.ev rfl) (HF.ev rfl)) ?_; clear HF a; intro a HF
   refine wl_ne ?_
   refine HF.cases 22 rfl (fun cc2 _ => ?_) fun cc2 _ => ?_
   ·clear HF;rename_i HF
    have dcc2 := of_decide_eq_true cc2
    refine wc_true HF rfl ?_
    refine wp_sr ?_
    refine za HF ?_; clear HF a; intro a HF
    refine za HF ?_; clear HF a; intro a HF
    refine wl_ne ?_
    refine wp_ret ?_
    refine ex_then_ret ?_
    refine bp_ret2 HF Tryz.results163 (HF.res rfl) (HF.res rfl) ?_
    exact ⟨_, by rw [(pathB_rest cc1 hpr).trans (restB_long (by omega))] <;> rfl, HS.out.bel⟩
   ·clear HF;rename_i HF
    have dcc2 := of_decide_eq_false cc2
    refine wc_false HF rfl ?_
    refine wp_skip ?_
    refine ex_then ?_
    refine wp_seq ?_
    have hez : (s.extract 1 s.size).size = s.size - 1 := ext1_size; have hpl := pieces_len (s.extract 1 s.size) 47; have hcl := List.count_le_length (a := (47 : UInt8)) (l := (s.extract 1 s.size).data.toList); have hsl := size_list (s.extract 1 s.size)
    refine wp_region_lit ?_
    refine zm HF ?_; clear HF a; intro a HF
    refine wl_call rfl HF rfl (enter_of Tryz.func175 (by kernel_rfl) rfl) (args := #[.string (s.extract 1 s.size), .string (⟨#[47]⟩ : ByteArray)]) rfl (split_any (s.extract 1 s.size) 47 _ (by omega) (HM.out.below HS.out.bel)) rfl rfl ?_
    rintro _ w2 ⟨ao1, cp1, rfl, hs⟩
    refine ⟨_, rfl, ?_⟩
    replace HS := Bx.mk (HS.out.add hs);clear hs HF a;intro a HF
    try dsimp only [List.eraseIdx] at HS
    refine za HF ?_; clear HF a; intro a HF
    refine wl_ne ?_
    refine wp_seq ?_
    refine wp_sr ?_
    refine zm HF ?_; clear HF a; intro a HF
    refine wl_call rfl HF rfl (enter_of Tryz.func176 (by kernel_rfl) rfl) (args := #[.slice ao1 ((piecesB (s.extract 1 s.size) 47).length) cp1]) rfl (pathOf_any _ _ _ (piecesB (s.extract 1 s.size) 47) _ (by omega) (szs_pieces _ _ (by omega)) (St.capLe HS.out 0 rfl) (St.rdOf HS.out encS_len 0 rfl)) rfl rfl ?_
    rintro _ w3 (⟨hok, rfl, hb⟩ | ⟨hok, rfl, hb⟩)
    ·skip
     refine ⟨_, rfl, ?_⟩; replace HS := Bx.mk (HS.out.later hb);clear hb HF a;intro a HF
     refine zm HF ?_; clear HF a; intro a HF
     refine zy HF (yl_extract rfl (HF.ev rfl) rfl) ?_; clear HF a; intro a HF
     refine zy HF (yl_extract rfl (HF.ev rfl) rfl) ?_; clear HF a; intro a HF
     refine za HF ?_; clear HF a; intro a HF
     refine za HF ?_; clear HF a; intro a HF
     refine wl_ne ?_
     refine wp_sr ?_
     refine zm HF ?_; clear HF a; intro a HF
     refine zy HF (yl_not rfl (HF.ev rfl)) ?_; clear HF a; intro a HF
     refine zm HF ?_; clear HF a; intro a HF
     refine zg HF (yl_move rfl (HF.ev rfl)) ?_; clear HF a; intro a HF
     refine zg HF (yl_move rfl (HF.ev rfl)) ?_; clear HF a; intro a HF
     refine zg HF (yl_neqS rfl (HF.ev rfl) (HF.ev rfl)) ?_; clear HF a; intro a HF
     refine zy HF (yl_pick_f rfl (HF.ev rfl) (HF.ev rfl)) ?_; clear HF a; intro a HF
     refine wl_ne ?_
     refine HF.cases 36 rfl (fun cc3 _ => ?_) fun cc3 _ => ?_
     ·clear HF;rename_i HF
      rw [joinT_sl, head_back hpr] at cc3
      simp at cc3
     ·clear HF;rename_i HF
      rw [joinT_sl, head_back hpr] at cc3
      refine wc_false HF rfl ?_
      refine wp_skip ?_
      refine ex_then ?_
      refine wp_sr ?_
      refine zm HF ?_; clear HF a; intro a HF
      refine za HF ?_; clear HF a; intro a HF
      refine za HF ?_; clear HF a; intro a HF
      refine wl_ne ?_
      refine wp_ret ?_
      refine bp_ret2 HF Tryz.results163 (HF.res rfl) (HF.res rfl) ?_
      exact ⟨_, by rw [(pathB_rest cc1 hpr).trans ((restB_okN _).trans hok)] <;> rfl, HS.out.bel⟩
    ·skip
     refine ⟨_, rfl, ?_⟩; replace HS := Bx.mk (HS.out.later hb);clear hb HF a;intro a HF
     refine zm HF ?_; clear HF a; intro a HF
     refine zy HF (yl_extract rfl (HF.ev rfl) rfl) ?_; clear HF a; intro a HF
     refine zy HF (yl_extract rfl (HF.ev rfl) rfl) ?_; clear HF a; intro a HF
     refine za HF ?_; clear HF a; intro a HF
     refine za HF ?_; clear HF a; intro a HF
     refine wl_ne ?_
     refine wp_sr ?_
     refine zm HF ?_; clear HF a; intro a HF
     refine zy HF (yl_not rfl (HF.ev rfl)) ?_; clear HF a; intro a HF
     refine zm HF ?_; clear HF a; intro a HF
     refine zk HF ?_; clear HF a; intro a HF
     refine zk HF ?_; clear HF a; intro a HF
     refine zk HF ?_; clear HF a; intro a HF
     refine zy HF (yl_pick_t rfl (HF.ev rfl) (HF.ev rfl)) ?_; clear HF a; intro a HF
     refine wl_ne ?_
     refine wc_true HF rfl ?_
     refine wp_sr ?_
     refine za HF ?_; clear HF a; intro a HF
     refine za HF ?_; clear HF a; intro a HF
     refine wl_ne ?_
     refine wp_ret ?_
     refine ex_then_ret ?_
     refine bp_ret2 HF Tryz.results163 (HF.res rfl) (HF.res rfl) ?_
     exact ⟨_, by rw [(pathB_rest cc1 hpr).trans ((restB_okN _).trans hok)] <;> rfl, HS.out.bel⟩
  ·skip
   refine ⟨_, rfl, ?_⟩; replace HS := Bx.mk (HS.out.later hb);clear hb HF a;intro a HF
   refine zm HF ?_; clear HF a; intro a HF
   refine zy HF (yl_extract rfl (HF.ev rfl) rfl) ?_; clear HF a; intro a HF
   refine zy HF (yl_extract rfl (HF.ev rfl) rfl) ?_; clear HF a; intro a HF
   refine za HF ?_; clear HF a; intro a HF
   refine za HF ?_; clear HF a; intro a HF
   refine wl_ne ?_
   refine wp_seq ?_
   refine wp_sr ?_
   refine zm HF ?_; clear HF a; intro a HF
   refine zy HF (yl_not rfl (HF.ev rfl)) ?_; clear HF a; intro a HF
   refine zm HF ?_; clear HF a; intro a HF
   refine zk HF ?_; clear HF a; intro a HF
   refine zk HF ?_; clear HF a; intro a HF
   refine zk HF ?_; clear HF a; intro a HF
   refine zy HF (yl_pick_t rfl (HF.ev rfl) (HF.ev rfl)) ?_; clear HF a; intro a HF
   refine wl_ne ?_
   refine wc_true HF rfl ?_
   refine wp_sr ?_
   refine za HF ?_; clear HF a; intro a HF
   refine za HF ?_; clear HF a; intro a HF
   refine wl_ne ?_
   refine wp_ret ?_
   refine ex_then_ret ?_
   refine bp_ret2 HF Tryz.results163 (HF.res rfl) (HF.res rfl) ?_
   exact ⟨_, by rw [pathB_no cc1 hpr] <;> rfl, HS.out.bel⟩

theorem implPathOk_any (s : ByteArray) (w0 : World) (hM : MaxP w0) (hs : s.size ≤ 4000000000) : Calls Tryz.prog 136 #[.string s] w0 fun e w' => e = .returned (.bool (pathB s)) ∧ Below w0.heap.size w0 w' := by
 have HM := Bx.mk hM; clear hM
 have HS := Bx.mk (St.start w0)
 refine wc_enter Tryz.func136 rfl Tryz.ntmps136 [(0, .string s)] ⟨rfl, trivial⟩ rfl ?_; intro a HF
 refine wp_sr ?_
 refine za HF ?_; clear HF a; intro a HF
 refine wl_ne ?_
 refine wp_sr ?_
 refine zm HF ?_; clear HF a; intro a HF
 refine wl_call rfl HF rfl (enter_of Tryz.func163 (by kernel_rfl) rfl) (args := #[.string s]) rfl (pathNames_any s _ (HM.out.below HS.out.bel) (by omega)) rfl rfl ?_
 rintro _ w1 ⟨v, rfl, hb⟩
 refine ⟨_, rfl, ?_⟩; replace HS := Bx.mk (HS.out.later hb);clear hb HF a;intro a HF
 refine zm HF ?_; clear HF a; intro a HF
 refine zy HF (yl_extract rfl (HF.ev rfl) rfl) ?_; clear HF a; intro a HF
 refine zy HF (yl_extract rfl (HF.ev rfl) rfl) ?_; clear HF a; intro a HF
 refine za HF ?_; clear HF a; intro a HF
 refine za HF ?_; clear HF a; intro a HF
 refine wl_ne ?_
 refine wp_sr ?_
 refine zm HF ?_; clear HF a; intro a HF
 refine za HF ?_; clear HF a; intro a HF
 refine wl_ne ?_
 refine wp_ret ?_
 refine bp_ret1 HF Tryz.results136 (HF.res rfl) ?_
 exact ⟨rfl, HS.out.bel⟩

theorem l14Names_any (s : ByteArray) (w0 : World) (hne : (s.toList == (⟨#[47]⟩ : ByteArray).toList) = false) (hh : (s.data.toList.head? == some 47) = true) (hs : s.size ≤ 1099511627776) : Calls Tryz.prog 161 #[.string s] w0 fun e w' => ∃ ao cp, e = .returned (.slice ao ((piecesB s 47).length - 1) cp) ∧ Rd encS 1 w' ao ((piecesB s 47).length - 1) (piecesB (s.extract 1 s.size) 47) ∧ Below w0.heap.size w0 w' := by
 have HS := Bx.mk (St.start w0)
 refine wc_enter Tryz.func161 rfl Tryz.ntmps161 [(0, .string s)] ⟨rfl, trivial⟩ rfl ?_; intro a HF
 refine wp_sr ?_
 refine za HF ?_; clear HF a; intro a HF
 refine wl_ne ?_
 refine wp_seq ?_
 refine wp_sr ?_
 refine zm HF ?_; clear HF a; intro a HF
 refine zy HF (yl_eqlS rfl (HF.ev rfl) (HF.ev rfl)) ?_; clear HF a; intro a HF
 refine wl_ne ?_
 refine HF.cases 4 rfl (fun cc1 _ => ?_) fun cc1 _ => ?_
 ·clear HF;rename_i HF
  rw [hne] at cc1; cases cc1
 ·clear HF;rename_i HF
  refine wc_false HF rfl ?_
  refine wp_skip ?_
  refine ex_then ?_
  refine wp_sr ?_
  refine zm HF ?_; clear HF a; intro a HF
  refine wl_call rfl HF rfl (enter_of Tryz.func173 (by kernel_rfl) rfl) (args := #[.string s, .int .u8 47]) rfl (l2Cut_any s 47 _ (by omega)) rfl rfl ?_
  rintro _ w1 ⟨ao1, cp1, rfl, hs⟩
  refine ⟨_, rfl, ?_⟩
  replace HS := Bx.mk (HS.out.add hs);clear hs HF a;intro a HF
  try dsimp only [List.eraseIdx] at HS
  have hph := pieces_head (eq_of_beq hh); have hpl := pieces_len (s.extract 1 s.size) 47; have hp2 : (piecesB s 47).length = (piecesB (s.extract 1 s.size) 47).length + 1 := by rw [hph]; rfl
  obtain ⟨g2, rfl, _, _, _, _⟩ := HS.out.rowOpen 0 rfl (by omega)
  refine zy HF (yl_sliceLo (e := 9) (size := 1) (k := 1) rfl (HF.ev rfl) (HF.ev rfl) (by kernel_rfl) (by omega) (by omega) (Nat.lt_of_lt_of_le (by omega) (St.capLe HS.out 0 rfl))) ?_; clear HF a; intro a HF
  refine za HF ?_; clear HF a; intro a HF
  refine wl_ne ?_
  refine wp_ret ?_
  refine bp_ret1 HF Tryz.results161 (HF.res rfl) ?_
  have hrd := Rd.drop (St.rdN HS.out encS_len 0 rfl) (k := 1) (by omega)
  rw [hph] at hrd
  refine ⟨_, _, rfl, ?_, HS.out.bel⟩
  have hn : (piecesB s 47).length - 1 = (piecesB (s.extract 1 s.size) 47).length := (by omega)
  have h1 : (ByteArray.empty :: piecesB (s.extract 1 s.size) 47).length - 1 = (piecesB (s.extract 1 s.size) 47).length := rfl
  rw [hn]; exact hrd

theorem allB_no {p : Nat → Bool} {n k : Nat} (hk : k < n) (h : p k = false) : allB p n = false := by
  cases h2 : allB p n with
  | false => rfl
  | true => rw [allB_at h2 hk] at h; cases h

theorem specPathOk_any (s : ByteArray) (w0 : World) (hs : s.size ≤ 4000000000) : Calls Tryz.prog 132 #[.string s] w0 fun e w' => e = .returned (.bool (pathB s)) ∧ Below w0.heap.size w0 w' := by
 have HS := Bx.mk (St.start w0)
 refine wc_enter Tryz.func132 rfl Tryz.ntmps132 [(0, .string s)] ⟨rfl, trivial⟩ rfl ?_; intro a HF
 refine wp_sr ?_
 refine za HF ?_; clear HF a; intro a HF
 refine wl_ne ?_
 refine wp_seq ?_
 refine wp_sr ?_
 refine zm HF ?_; clear HF a; intro a HF
 refine zy HF (yl_eqlS rfl (HF.ev rfl) (HF.ev rfl)) ?_; clear HF a; intro a HF
 refine wl_ne ?_
 refine HF.cases 6 rfl (fun cc1 _ => ?_) fun cc1 _ => ?_
 ·clear HF;rename_i HF
  refine wc_true HF rfl ?_
  refine wp_sr ?_
  refine za HF ?_; clear HF a; intro a HF
  refine wl_ne ?_
  refine wp_ret ?_
  refine ex_then_ret ?_
  refine bp_ret1 HF Tryz.results132 (HF.res rfl) ?_
  exact ⟨by rw [pathB_sl cc1], HS.out.bel⟩
 ·clear HF;rename_i HF
  refine wc_false HF rfl ?_
  refine wp_skip ?_
  refine ex_then ?_
  refine wp_seq ?_
  refine wp_sr ?_
  refine zm HF ?_; clear HF a; intro a HF
  refine zy HF (yl_eqlS rfl (HF.ev rfl) (HF.ev rfl)) ?_; clear HF a; intro a HF
  refine zm HF ?_; clear HF a; intro a HF
  refine HF.cases 9 rfl (fun cc2 _ => ?_) fun cc2 _ => ?_
  ·clear HF;rename_i HF
   refine zk HF ?_; clear HF a; intro a HF
   refine zk HF ?_; clear HF a; intro a HF
   refine zk HF ?_; clear HF a; intro a HF
   refine zy HF (yl_pick_t rfl (HF.ev rfl) (HF.ev rfl)) ?_; clear HF a; intro a HF
   refine wl_ne ?_
   refine wc_true HF rfl ?_
   refine wp_sr ?_
   refine za HF ?_; clear HF a; intro a HF
   refine wl_ne ?_
   refine wp_ret ?_
   refine ex_then_ret ?_
   refine bp_ret1 HF Tryz.results132 (HF.res rfl) ?_
   exact ⟨by rw [pathB_no cc1 (head_nil cc2 bytes_toList)], HS.out.bel⟩
  ·clear HF;rename_i HF
   have hpos := size_pos cc2
   refine zg HF (yl_move rfl (HF.ev rfl)) ?_; clear HF a; intro a HF
   refine zg HF (yl_indexS (i := 0) rfl (HF.ev rfl) (HF.ev rfl) (by kernel_rfl) (by omega) (by omega)) ?_; clear HF a; intro a HF
   refine zg HF (yl_neqI rfl (HF.ev rfl) (HF.ev rfl)) ?_; clear HF a; intro a HF
   refine zy HF (yl_pick_f rfl (HF.ev rfl) (HF.ev rfl)) ?_; clear HF a; intro a HF
   refine wl_ne ?_
   refine HF.cases 13 rfl (fun cc3 _ => ?_) fun cc3 _ => ?_
   ·clear HF;rename_i HF
    have dcc3 := bne_iff_ne.1 cc3
    refine wc_true HF rfl ?_
    refine wp_sr ?_
    refine za HF ?_; clear HF a; intro a HF
    refine wl_ne ?_
    refine wp_ret ?_
    refine ex_then_ret ?_
    refine bp_ret1 HF Tryz.results132 (HF.res rfl) ?_
    exact ⟨by rw [pathB_no cc1 (by rw [head_get hpos]; exact beq_eq_false_iff_ne.2 (bne_iff_ne.1 cc3))], HS.out.bel⟩
   ·clear HF;rename_i HF
    have dcc3 := bne_eq_false_iff_eq.1 cc3
    have hh : (s.data.toList.head? == some 47) = true := by rw [head_get hpos]; exact beq_iff_eq.2 (bne_eq_false_iff_eq.1 cc3)
    refine wc_false HF rfl ?_
    refine wp_skip ?_
    refine ex_then ?_
    refine wp_sr ?_
    refine zm HF ?_; clear HF a; intro a HF
    refine wl_call rfl HF rfl (enter_of Tryz.func161 (by kernel_rfl) rfl) (args := #[.string s]) rfl (l14Names_any s _ cc1 hh (by omega)) rfl rfl ?_
    rintro _ w1 ⟨ao, cp, rfl, hrd, hb⟩
    refine ⟨_, rfl, ?_⟩; have HB := Bx.mk (HS.out.later hb).bel; clear HS hb HF; clear a; intro a HF
    obtain ⟨w0, rfl⟩ : ∃ x, x = w1 := ⟨_, rfl⟩; have HS := Bx.mk (St.start w0)
    have hrl := hrd.len; rw [← hrl] at hrd HF; generalize hxs : piecesB (s.extract 1 s.size) 47 = xs at hrd HF hrl; obtain ⟨g0, o0, r0⟩ := hrd.opn; have R0 := Bx.mk r0; clear r0 hrd; have hx : szs xs := (by rw [← hxs]; exact szs_pieces _ _ (by rw [ext1_size]; omega)); have hpl := pieces_len (s.extract 1 s.size) 47; rw [hxs] at hpl; have hcl := List.count_le_length (a := (47 : UInt8)) (l := (s.extract 1 s.size).data.toList); have hsl := size_list (s.extract 1 s.size); have hez : (s.extract 1 s.size).size = s.size - 1 := ext1_size
    refine za HF ?_; clear HF a; intro a HF
    refine wl_ne ?_
    refine wp_seq ?_
    refine wp_sr ?_
    refine za HF ?_; clear HF a; intro a HF
    refine wl_ne ?_
    refine wp_block ?_
    refine wc_loop (ι := Nat) (fun k a w => (k ≤ xs.length ∧ ∀ j, j < k → nameB (xs.getD j ByteArray.empty) = true) ∧ Fr 31 a [(3, .slice ao xs.length cp), (4, .int .i64 (k : Int))] ∧ St w0 ([]) w) (fun k => xs.length - k) 0 ⟨⟨Nat.zero_le _, fun j hj => absurd hj (Nat.not_lt_zero _)⟩, HF.less _ ⟨rfl, rfl, trivial⟩, HS.out⟩ ?_
    clear HF HS; clear a
    rintro k a w2 ⟨⟨hk, hg⟩, HF, HS⟩
    replace HS := Bx.mk HS
    have hxk := hx k
    refine wp_seq ?_
    refine wp_sr ?_
    refine zm HF ?_; clear HF a; intro a HF
    refine zm HF ?_; clear HF a; intro a HF
    refine zy HF (yl_lenL (e := 9) (size := 1) rfl (HF.ev rfl) (by kernel_rfl)) ?_; clear HF a; intro a HF
    refine zy HF (yl_lssI rfl (HF.ev rfl) (HF.ev rfl)) ?_; clear HF a; intro a HF
    refine wl_ne ?_
    refine HF.cases 19 rfl (fun cc4 _ => ?_) fun cc4 _ => ?_
    ·clear HF;rename_i HF
     have dcc4 := of_decide_eq_true cc4
     refine wc_true HF rfl ?_
     refine wp_skip ?_
     refine ex_then ?_
     refine wp_seq ?_
     refine wp_block ?_
     refine wp_sr ?_
     refine zm HF ?_; clear HF a; intro a HF
     refine zm HF ?_; clear HF a; intro a HF
     refine zy HF (yl_indexAddrR (e := 9) (i := k) (size := 1) rfl (HF.ev rfl) (HF.ev rfl) (by kernel_rfl) rfl (by omega) (R0.out.ao k (by omega))) ?_; clear HF a; intro a HF
     refine zy HF (ylo (v := .string (xs.getD k ByteArray.empty)) rfl (HF.ev rfl) (R0.out.elem1 HS.out (get_getD (xs := xs) (j := k) (d := ByteArray.empty) (by omega)) rfl)) ?_; clear HF a; intro a HF
     refine wl_callB rfl HF rfl (enter_of Tryz.func87 (by kernel_rfl) rfl) (args := #[.string (xs.getD k ByteArray.empty)]) rfl (v := .bool (nameB (xs.getD k ByteArray.empty))) (specNameOk_any (xs.getD k ByteArray.empty) _ (by omega)) rfl rfl HS.out ?_; clear HF HS a; intro w3 a HS HF; replace HS := Bx.mk HS
     refine zy HF (yl_not rfl (HF.ev rfl)) ?_; clear HF a; intro a HF
     refine wl_ne ?_
     refine HF.cases 27 rfl (fun cc5 _ => ?_) fun cc5 _ => ?_
     ·clear HF;rename_i HF
      refine wc_true HF rfl ?_
      refine wp_sr ?_
      refine za HF ?_; clear HF a; intro a HF
      refine wl_ne ?_
      refine wp_ret ?_
      refine ex_block_ret ?_
      refine ex_then_ret ?_
      refine ex_then_ret ?_
      refine ex_block_ret ?_
      refine ex_then_ret ?_
      refine bp_ret1 HF Tryz.results132 (HF.res rfl) ?_
      have hok : okN xs = false := by unfold okN; rw [← allB_all, allB_no (k := k) (by omega) (by rw [Bool.not_not]; simpa using cc5), Bool.and_false]
      exact ⟨by rw [pathB_rest cc1 hh, restB_okN, hxs, hok], HB.out.trans (HS.out.bel.mono HB.out.size)⟩
     ·clear HF;rename_i HF
      refine wc_false HF rfl ?_
      refine wp_skip ?_
      refine ex_block ?_
      refine ex_then ?_
      refine wp_region_lit ?_
      refine zm HF ?_; clear HF a; intro a HF
      refine zy HF (yl_addI rfl (HF.ev rfl) (HF.ev rfl) (i64w (by omega))) ?_; clear HF a; intro a HF
      refine za HF ?_; clear HF a; intro a HF
      refine wl_ne ?_
      have hnx : ∀ j, j < k + 1 → nameB (xs.getD j ByteArray.empty) = true := fun j hj => by rcases Nat.lt_or_ge j k with h | h; exact hg j h; obtain rfl : j = k := (by omega); simpa using cc5
      exact ⟨k + 1, ⟨⟨by omega, hnx⟩, HF.less _ ⟨rfl, rfl, trivial⟩, HS.out⟩, (by omega)⟩
    ·clear HF;rename_i HF
     have dcc4 := of_decide_eq_false cc4
     refine wc_false HF rfl ?_
     refine wp_exit ?_
     refine ex_then_exit ?_
     refine ex_then_exit ?_
     refine ex_block_hit ?_
     refine ex_then ?_
     refine wp_sr ?_
     refine zm HF ?_; clear HF a; intro a HF
     refine zy HF (yl_lenL (e := 9) (size := 1) rfl (HF.ev rfl) (by kernel_rfl)) ?_; clear HF a; intro a HF
     refine zy HF (yl_leqI rfl (HF.ev rfl) (HF.ev rfl)) ?_; clear HF a; intro a HF
     refine za HF ?_; clear HF a; intro a HF
     refine wl_ne ?_
     refine wp_ret ?_
     refine bp_ret1 HF Tryz.results132 (HF.res rfl) ?_
     have hall : xs.all nameB = true := by rw [← allB_all]; exact allB_mk fun j hj => by rw [Bool.not_not]; exact hg j (by omega)
     have hok : okN xs = (decide ((xs.length : Int) ≤ 4)) := by unfold okN; rw [hall, Bool.and_true]; exact decide_eq_decide.2 (by omega)
     exact ⟨by rw [pathB_rest cc1 hh, restB_okN, hxs, hok], HB.out.trans (HS.out.bel.mono HB.out.size)⟩

end Go.Proofs.YtoaopmkbfifhaaaGreatDoor

/- Trees and roots as texts: walked. -/
namespace Go.Proofs.YtoaopmkbfifhaaaGreatDoor
set_option linter.unusedVariables false
set_option linter.unusedSimpArgs false
set_option maxHeartbeats 1000000
set_option maxRecDepth 100000
open Go.RowKit

structure TreeD where
  fRoot : PtrD
  fDepth : Int
  fMany : Int
def TreeD.cells (t : TreeD) : List Value := t.fRoot.cells ++ [.int .i64 t.fDepth, .int .i64 t.fMany]
structure RootD where
  fTxg : Int
  fMeta : TreeD
abbrev rV (x : RootD) : Value := .agg #[.int .i64 x.fTxg, .int .i64 x.fMeta.fRoot.fAt, .int .i64 x.fMeta.fRoot.fBirth, .int .i64 x.fMeta.fRoot.fSize, .int .i64 x.fMeta.fRoot.fSum, .int .i64 x.fMeta.fRoot.fLevel, .int .i64 x.fMeta.fDepth, .int .i64 x.fMeta.fMany]
abbrev rZ : Value := .agg #[.int .i64 0, .int .i64 0, .int .i64 0, .int .i64 0, .int .i64 0, .int .i64 0, .int .i64 0, .int .i64 0]
def RootD.cells (x : RootD) : List Value := .int .i64 x.fTxg :: x.fMeta.cells
/-- The three fields of a tree. -/
def treeB (t : TreeD) : List ByteArray := [ptrB t.fRoot, numB t.fDepth, numB t.fMany]

theorem signed_any (w0 w : World) (ao : Option Addr) (n c : Nat) (xs : List ByteArray) (F : List Asr) (hT : TabP w0) (hl : xs.length ≤ 100) (hx : szs xs) (hS : St w0 (rowA encS 1 9 (.slice ao n c) xs :: F) w) : Calls Tryz.prog 79 #[.slice ao n c] w fun e w' => e = .returned (.string (signB xs)) ∧ St w0 F w' := by
 have hfz := fieldsPut_le xs
 have HT := Bx.mk hT; clear hT
 have HS := Bx.mk hS; clear hS
 refine wc_enter Tryz.func79 rfl Tryz.ntmps79 [(0, .slice ao n c)] ⟨rfl, trivial⟩ rfl ?_; intro a HF
 refine wp_sr ?_
 refine za HF ?_;clear HF a;intro a HF
 refine wl_ne ?_
 refine wp_sr ?_
 refine zm HF ?_;clear HF a;intro a HF
 refine wl_callB rfl HF rfl (enter_of Tryz.func124 (by kernel_rfl) rfl) (args := #[.slice ao n c]) rfl (v := .tuple #[.string ((fieldsPut xs).1), .bool ((fieldsPut xs).2)]) (fieldsPutI_any _ _ _ xs _ (HT.out.below HS.out.bel) (by (try simp only [List.length_append, List.length_cons, List.length_nil, List.nil_append, List.length_map]); omega) hx (St.rdN HS.out encS_len 0 rfl)) rfl rfl HS.out ?_; clear HF HS a; intro w1 a HS HF; replace HS := Bx.mk HS
 refine zm HF ?_;clear HF a;intro a HF
 refine zy HF (yl_extract rfl (HF.ev rfl) rfl) ?_;clear HF a;intro a HF
 refine zy HF (yl_extract rfl (HF.ev rfl) rfl) ?_;clear HF a;intro a HF
 refine za HF ?_;clear HF a;intro a HF
 refine za HF ?_;clear HF a;intro a HF
 refine wl_ne ?_
 refine wp_sr ?_
 refine zm HF ?_;clear HF a;intro a HF
 refine zm HF ?_;clear HF a;intro a HF
 refine wl_callB rfl HF rfl (enter_of Tryz.func125 (by kernel_rfl) rfl) (args := #[.string ((fieldsPut xs).1)]) rfl (v := .int .i64 (sumOf ((fieldsPut xs).1))) (sumOfI_any ((fieldsPut xs).1) _ (by omega)) rfl rfl HS.out ?_; clear HF HS a; intro w2 a HS HF; replace HS := Bx.mk HS
 refine wl_callB rfl HF rfl (enter_of Tryz.func80 (by kernel_rfl) rfl) (args := #[.int .i64 (sumOf ((fieldsPut xs).1))]) rfl (v := .string (numB (sumOf ((fieldsPut xs).1)))) (numPutI_any (sumOf ((fieldsPut xs).1)) _ (HT.out.below HS.out.bel)) rfl rfl HS.out ?_; clear HF HS a; intro w3 a HS HF; replace HS := Bx.mk HS
 refine wl_buildS (enc := encS) (e := 9) (size := 1) rfl HF rfl rfl rfl (ps := [(0, .string (numB (sumOf ((fieldsPut xs).1))))]) rfl (cells := [.string (numB (sumOf ((fieldsPut xs).1)))]) (by kernel_rfl) [numB (sumOf ((fieldsPut xs).1))] rfl rfl (by unfold maxLen; omega) rfl HS.out ?_; clear HF HS a; intro b1 a w4 HF HS; replace HS := Bx.mk HS
 refine wl_appL rfl HF rfl rfl rfl (HF.ev rfl) (HF.ev rfl) elemS encS_len HS.out 1 (xs := xs) rfl (ys := [numB (sumOf ((fieldsPut xs).1))]) (St.rdN HS.out encS_len 0 rfl) (cells_one_S _) (by unfold maxLen; (try simp only [List.length_append, List.length_cons, List.length_nil, List.nil_append, List.length_map]); omega) (by (try simp only [List.length_append, List.length_cons, List.length_nil, List.nil_append, List.length_map]); omega) ?_; clear HF HS a; intro ao2 cp3 w5 a HF HS; replace HS := Bx.mk HS
 try dsimp only [List.eraseIdx] at HS
 refine wl_callB rfl HF rfl (enter_of Tryz.func124 (by kernel_rfl) rfl) (args := #[.slice ao2 (xs.length + ([numB (sumOf ((fieldsPut xs).1))]).length) cp3]) rfl (v := .tuple #[.string ((fieldsPut (xs ++ ([numB (sumOf ((fieldsPut xs).1))]))).1), .bool ((fieldsPut (xs ++ ([numB (sumOf ((fieldsPut xs).1))]))).2)]) (fieldsPutI_any _ _ _ (xs ++ ([numB (sumOf ((fieldsPut xs).1))])) _ (HT.out.below HS.out.bel) (by (try simp only [List.length_append, List.length_cons, List.length_nil, List.nil_append, List.length_map]); omega) (szs_app hx (szs_cons (Nat.le_trans (numB_le _) (by decide)) szs_nil)) (St.rdN HS.out encS_len 1 rfl)) rfl rfl HS.out ?_; clear HF HS a; intro w6 a HS HF; replace HS := Bx.mk HS
 refine zm HF ?_;clear HF a;intro a HF
 refine zy HF (yl_extract rfl (HF.ev rfl) rfl) ?_;clear HF a;intro a HF
 refine zy HF (yl_extract rfl (HF.ev rfl) rfl) ?_;clear HF a;intro a HF
 refine za HF ?_;clear HF a;intro a HF
 refine za HF ?_;clear HF a;intro a HF
 refine wl_ne ?_
 refine wp_sr ?_
 refine zm HF ?_;clear HF a;intro a HF
 refine za HF ?_;clear HF a;intro a HF
 refine wl_ne ?_
 refine wp_ret ?_
 refine bp_ret1 HF Tryz.results79 (HF.res rfl) ?_
 exact ⟨by unfold signB; rw [← numB_sum]; rfl, ((HS.out.erase 1).erase 0)⟩

def RootD.ok (x : RootD) : Bool := (bif inB x.fTxg 1 900 then (bif x.fMeta.fRoot.ok then (bif inB x.fMeta.fDepth 0 2 then inB x.fMeta.fMany 1 16 else false) else false) else false)

/-- The text of a root. -/
def rootB (x : RootD) : ByteArray := bif x.ok then signB ([(⟨#[114, 111, 111, 116]⟩ : ByteArray), numB x.fTxg] ++ treeB x.fMeta) else ByteArray.empty
end Go.Proofs.YtoaopmkbfifhaaaGreatDoor

/- Writing to a set of disks, by both. -/
namespace Go.Proofs.YtoaopmkbfifhaaaGreatDoor
set_option linter.unusedVariables false
set_option linter.unusedSimpArgs false
set_option maxHeartbeats 1000000
set_option maxRecDepth 100000
open Go.RowKit

theorem waits_small {qs : List HD} (h : okR (dsOf qs) = true) (k : Nat) : (qs.getD k default).d.fWaits.length ≤ 120 := by
  by_cases hk : k < 3
  · have := (okR_at h).2 k hk
    rw [dsOf_get] at this
    exact (ok_waits this).2
  · have hl := (okR_at h).1
    rw [dsOf_len] at hl
    rw [show qs.getD k default = default by simp [List.getD, List.getElem?_eq_none (show qs.length ≤ k by omega)]]; exact Nat.zero_le _

end Go.Proofs.YtoaopmkbfifhaaaGreatDoor

/- A text to a row of all disks; roots written, by both. -/
namespace Go.Proofs.YtoaopmkbfifhaaaGreatDoor
set_option linter.unusedVariables false
set_option linter.unusedSimpArgs false
set_option maxHeartbeats 1000000
set_option maxRecDepth 100000
open Go.RowKit

theorem writeRow1_any (w0 w : World) (bi bt m : Nat) (hm : m < 64) (ps : List HD) (k : Nat) (hokk : (ps.getD k default).d.ok = true) (hf : (ps.getD k default).d.fits) (hp : (ps.getD k default).reads w0) (t : ByteArray) (ht : t.size ≤ 2048) (X : List Asr) (hS : St w0 (boxA bi 1 3 (.agg #[.int .i64 (m : Int)]) :: boxA bt 1 9 (.agg #[.string t]) :: X) w) : Calls Tryz.prog 76 #[.int .i64 (k : Int), .agg #[.slice ((ps.getD k default).a0) ((ps.getD k default).d.fCells.length) ((ps.getD k default).c0), .slice ((ps.getD k default).a1) ((ps.getD k default).d.fWaits.length) ((ps.getD k default).c1), .bool ((ps.getD k default).d.fGone)], .pointer (some ⟨bi, 0, none⟩), .pointer (some ⟨bt, 0, none⟩)] w fun e w' => (stepPut (m : Int) (fun _ => t) (fun _ => true) k (ps.getD k default).d = none ∧ ∃ q : HD, e = .returned (.tuple #[.agg #[.slice q.a0 q.d.fCells.length q.c0, .slice q.a1 q.d.fWaits.length q.c1, .bool q.d.fGone], .bool false]) ∧ St w0 X w') ∨ (∃ q : HD, stepPut (m : Int) (fun _ => t) (fun _ => true) k (ps.getD k default).d = some q.d ∧ e = .returned (.tuple #[.agg #[.slice q.a0 q.d.fCells.length q.c0, .slice q.a1 q.d.fWaits.length q.c1, .bool q.d.fGone], .bool true]) ∧ St w0 (q.asr :: boxA bi 1 3 (.agg #[.int .i64 (m : Int)]) :: boxA bt 1 9 (.agg #[.string t]) :: X) w') := by
 have hP := Bx.mk hp; clear hp
 have HS := Bx.mk hS; clear hS
 refine wc_enter Tryz.func76 rfl Tryz.ntmps76 [(0, .int .i64 (k : Int)), (1, .agg #[.slice ((ps.getD k default).a0) ((ps.getD k default).d.fCells.length) ((ps.getD k default).c0), .slice ((ps.getD k default).a1) ((ps.getD k default).d.fWaits.length) ((ps.getD k default).c1), .bool ((ps.getD k default).d.fGone)]), (2, .pointer (some ⟨bi, 0, none⟩)), (3, .pointer (some ⟨bt, 0, none⟩))] ⟨rfl, rfl, rfl, rfl, trivial⟩ rfl ?_; intro a HF
 refine wp_sr ?_
 refine wl_box rfl HF rfl (HF.ev rfl) (Z := [.slice ((ps.getD k default).a0) ((ps.getD k default).d.fCells.length) ((ps.getD k default).c0), .slice ((ps.getD k default).a1) ((ps.getD k default).d.fWaits.length) ((ps.getD k default).c1), .bool ((ps.getD k default).d.fGone)]) rfl rfl rfl rfl HS.out ?_; clear HF HS a; intro a w1 b1 HF HS; replace HS := Bx.mk HS
 refine wl_alloc rfl HF rfl rfl rfl (Z := [.slice none 0 0, .slice none 0 0, .bool false]) (by kernel_rfl) rfl HS.out ?_; clear HF HS a; intro a w2 b2 HF HS; replace HS := Bx.mk HS
 refine za HF ?_;clear HF a;intro a HF
 refine wl_ne ?_
 refine wp_seq ?_
 refine wp_sr ?_
 refine zy HF (yfa 2 rfl (HF.ev rfl)) ?_;clear HF a;intro a HF
 refine zy HF (ylo (v := .bool ((ps.getD k default).d.fGone)) rfl (HF.ev rfl) (((HS.out.box 1 rfl).cell 2).trans rfl)) ?_;clear HF a;intro a HF
 refine wl_ne ?_
 refine HF.cases 9 rfl (fun cc1 _ => ?_) fun cc1 _ => ?_
 ·clear HF;rename_i HF
  refine wc_true HF rfl ?_
  refine wp_sr ?_
  refine zy HF (ylr (cs := [.slice ((ps.getD k default).a0) ((ps.getD k default).d.fCells.length) ((ps.getD k default).c0), .slice ((ps.getD k default).a1) ((ps.getD k default).d.fWaits.length) ((ps.getD k default).c1), .bool ((ps.getD k default).d.fGone)]) rfl (HF.ev rfl) ((HS.out.box 1 rfl).sub 0 3)) ?_;clear HF a;intro a HF
  refine wl_call rfl HF rfl (enter_of Tryz.func77 (by kernel_rfl) rfl) (args := #[.agg #[.slice ((ps.getD k default).a0) ((ps.getD k default).d.fCells.length) ((ps.getD k default).c0), .slice ((ps.getD k default).a1) ((ps.getD k default).d.fWaits.length) ((ps.getD k default).c1), .bool ((ps.getD k default).d.fGone)]]) rfl (clone_any (ps.getD k default) _ (hP.out.below HS.out.bel) hf) rfl rfl ?_
  rintro _ w3 ⟨⟨qa3, qc3, qb3, qe3, qd⟩, hqd, rfl, hs⟩; obtain rfl : qd = (ps.getD k default).d := hqd; refine ⟨_, rfl, ?_⟩
  replace HS := Bx.mk ((HS.out.add hs));clear hs HF a;intro a HF
  try dsimp only [List.eraseIdx] at HS
  refine wl_storeBox rfl HF rfl rfl (HF.ev rfl) (HF.ev rfl) HS.out 1 rfl (cells_lit [.slice qa3 ((ps.getD k default).d.fCells.length) qc3, .slice qb3 ((ps.getD k default).d.fWaits.length) qe3, .bool ((ps.getD k default).d.fGone)] rfl rfl) (by kernel_rfl) ?_; clear HS; intro w4 HS; replace HS := Bx.mk HS
  have HS : Bx (St w0 (HD.asr ⟨qa3, qc3, qb3, qe3, (ps.getD k default).d⟩ :: boxA b2 3 94 (.agg #[.slice qa3 ((ps.getD k default).d.fCells.length) qc3, .slice qb3 ((ps.getD k default).d.fWaits.length) qe3, .bool ((ps.getD k default).d.fGone)]) :: boxA b1 3 94 (.agg #[.slice ((ps.getD k default).a0) ((ps.getD k default).d.fCells.length) ((ps.getD k default).c0), .slice ((ps.getD k default).a1) ((ps.getD k default).d.fWaits.length) ((ps.getD k default).c1), .bool ((ps.getD k default).d.fGone)]) :: boxA bi 1 3 (.agg #[.int .i64 (m : Int)]) :: boxA bt 1 9 (.agg #[.string t]) :: X) _) := HS
  refine za HF ?_;clear HF a;intro a HF
  refine wl_ne ?_
  refine wp_ret ?_
  refine ex_then_ret ?_
  refine bp_ret2 HF Tryz.results76 (HF.resBox rfl (HS.out.box 1 rfl) (by kernel_rfl)) (HF.res rfl) ?_
  replace HS:=Bx.mk (((HS.out.pick 4 rfl).pick 4 rfl).pick 2 rfl)
  exact .inr ⟨⟨qa3, qc3, qb3, qe3, (ps.getD k default).d⟩, stepPut_skip (by rw [cc1, Bool.true_or]), rfl, ((HS.out.erase 4).erase 3)⟩
 ·clear HF;rename_i HF
  refine wc_false HF rfl ?_
  refine wp_skip ?_
  refine ex_then ?_
  refine wp_sr ?_
  refine zy HF (ylr (cs := [.slice ((ps.getD k default).a0) ((ps.getD k default).d.fCells.length) ((ps.getD k default).c0), .slice ((ps.getD k default).a1) ((ps.getD k default).d.fWaits.length) ((ps.getD k default).c1), .bool ((ps.getD k default).d.fGone)]) rfl (HF.ev rfl) ((HS.out.box 1 rfl).sub 0 3)) ?_;clear HF a;intro a HF
  refine zy HF (ylo (v := .int .i64 (m : Int)) rfl (HF.ev rfl) (((HS.out.box 2 rfl).cell 0).trans rfl)) ?_;clear HF a;intro a HF
  refine zy HF (ylo (v := .string t) rfl (HF.ev rfl) (((HS.out.box 3 rfl).cell 0).trans rfl)) ?_;clear HF a;intro a HF
  refine wl_call rfl HF rfl (enter_of Tryz.func78 (by kernel_rfl) rfl) (args := #[.agg #[.slice ((ps.getD k default).a0) ((ps.getD k default).d.fCells.length) ((ps.getD k default).c0), .slice ((ps.getD k default).a1) ((ps.getD k default).d.fWaits.length) ((ps.getD k default).c1), .bool ((ps.getD k default).d.fGone)], .int .i64 (m : Int), .string t]) rfl (diskWrite_any (ps.getD k default) (m : Int) t _ (hP.out.below HS.out.bel) hf hokk (by omega)) rfl rfl ?_
  rintro _ w5 (⟨hcan, q, rfl, hs⟩ | ⟨hcan, q, hqd, rfl, hs⟩)
  ·skip
   refine ⟨_, rfl, ?_⟩; replace HS := Bx.mk (HS.out.add hs);clear hs HF a;intro a HF
   try dsimp only [List.eraseIdx] at HS
   refine zy HF (yl_extract rfl (HF.ev rfl) rfl) ?_;clear HF a;intro a HF
   refine zy HF (yl_extract rfl (HF.ev rfl) rfl) ?_;clear HF a;intro a HF
   refine wl_storeBox rfl HF rfl rfl (HF.ev rfl) (HF.ev rfl) HS.out 1 rfl (cells_lit [.slice q.a0 q.d.fCells.length q.c0, .slice q.a1 q.d.fWaits.length q.c1, .bool q.d.fGone] rfl rfl) (by kernel_rfl) ?_; clear HS; intro w6 HS; replace HS := Bx.mk HS
   have HS : Bx (St w0 (HD.asr q :: boxA b2 3 94 (.agg #[.slice q.a0 q.d.fCells.length q.c0, .slice q.a1 q.d.fWaits.length q.c1, .bool q.d.fGone]) :: boxA b1 3 94 (.agg #[.slice ((ps.getD k default).a0) ((ps.getD k default).d.fCells.length) ((ps.getD k default).c0), .slice ((ps.getD k default).a1) ((ps.getD k default).d.fWaits.length) ((ps.getD k default).c1), .bool ((ps.getD k default).d.fGone)]) :: boxA bi 1 3 (.agg #[.int .i64 (m : Int)]) :: boxA bt 1 9 (.agg #[.string t]) :: X) _) := HS
   refine za HF ?_;clear HF a;intro a HF
   refine wl_ne ?_
   refine wp_ret ?_
   refine bp_ret2 HF Tryz.results76 (HF.resBox rfl (HS.out.box 1 rfl) (by kernel_rfl)) (HF.res rfl) ?_
   exact .inl ⟨stepPut_fail cc1 rfl hcan, q, rfl, (((((HS.out.erase 4).erase 3).erase 2).erase 1).erase 0)⟩
  ·skip
   refine ⟨_, rfl, ?_⟩; replace HS := Bx.mk (HS.out.add hs);clear hs HF a;intro a HF
   try dsimp only [List.eraseIdx] at HS
   refine zy HF (yl_extract rfl (HF.ev rfl) rfl) ?_;clear HF a;intro a HF
   refine zy HF (yl_extract rfl (HF.ev rfl) rfl) ?_;clear HF a;intro a HF
   refine wl_storeBox rfl HF rfl rfl (HF.ev rfl) (HF.ev rfl) HS.out 1 rfl (cells_lit [.slice q.a0 q.d.fCells.length q.c0, .slice q.a1 q.d.fWaits.length q.c1, .bool q.d.fGone] rfl rfl) (by kernel_rfl) ?_; clear HS; intro w7 HS; replace HS := Bx.mk HS
   have HS : Bx (St w0 (HD.asr q :: boxA b2 3 94 (.agg #[.slice q.a0 q.d.fCells.length q.c0, .slice q.a1 q.d.fWaits.length q.c1, .bool q.d.fGone]) :: boxA b1 3 94 (.agg #[.slice ((ps.getD k default).a0) ((ps.getD k default).d.fCells.length) ((ps.getD k default).c0), .slice ((ps.getD k default).a1) ((ps.getD k default).d.fWaits.length) ((ps.getD k default).c1), .bool ((ps.getD k default).d.fGone)]) :: boxA bi 1 3 (.agg #[.int .i64 (m : Int)]) :: boxA bt 1 9 (.agg #[.string t]) :: X) _) := HS
   refine za HF ?_;clear HF a;intro a HF
   refine wl_ne ?_
   refine wp_ret ?_
   refine bp_ret2 HF Tryz.results76 (HF.resBox rfl (HS.out.box 1 rfl) (by kernel_rfl)) (HF.res rfl) ?_
   replace HS:=Bx.mk (((HS.out.pick 4 rfl).pick 4 rfl).pick 2 rfl)
   exact .inr ⟨q, by rw [hqd]; exact stepPut_put cc1 rfl hcan, rfl, ((HS.out.erase 4).erase 3)⟩

/-- A text to a row of all disks that are not gone. -/
def sameF (ds : List DiskD) (row : Int) (t : ByteArray) : Option (List DiskD) := eachTo (stepPut row (fun _ => t) (fun _ => true)) ds 3
theorem writeRow_any (a0 : Option Addr) (c0 : Nat) (ps : List HD) (w0 : World) (hl : ps.length ≤ 1048576) (hf : fitsL ps) (hp : rdsP a0 ps w0) (row : Int) (hr0 : 0 ≤ row) (hr1 : row < 64) (t : ByteArray) (ht : t.size ≤ 2048) (hok : okR (dsOf ps) = true) : Calls Tryz.prog 37 #[.agg #[.slice a0 ps.length c0], .int .i64 row, .string t] w0 fun e w' => (sameF (dsOf ps) row t = none ∧ e = .returned (.tuple #[.agg #[.slice none 0 0], .bool false]) ∧ St w0 [] w') ∨ (∃ ao cp qs, sameF (dsOf ps) row t = some (dsOf qs) ∧ e = .returned (.tuple #[.agg #[.slice ao qs.length cp], .bool true]) ∧ St w0 [rowA HD.cells 3 94 (.slice ao qs.length cp) qs, sepA (qs.map HD.asr)] w') := by
 obtain ⟨m, rfl⟩ : ∃ m : Nat, row = (m : Int) := ⟨row.toNat, by omega⟩; have hm : m < 64 := by omega
 have h3 := okR_three hok
 have HS := Bx.mk (St.start w0)
 refine wc_enter Tryz.func37 rfl Tryz.ntmps37 [(0, .agg #[.slice a0 ps.length c0]), (1, .int .i64 (m : Int)), (2, .string t)] ⟨rfl, rfl, rfl, trivial⟩ rfl ?_; intro a HF
 refine wp_sr ?_
 refine wl_box rfl HF rfl (HF.ev rfl) (Z := [.slice a0 ps.length c0]) rfl rfl rfl rfl HS.out ?_; clear HF HS a; intro a w1 b1 HF HS; replace HS := Bx.mk HS
 refine wl_box rfl HF rfl (HF.ev rfl) (Z := [.int .i64 (m : Int)]) rfl rfl rfl rfl HS.out ?_; clear HF HS a; intro a w2 b2 HF HS; replace HS := Bx.mk HS
 refine wl_box rfl HF rfl (HF.ev rfl) (Z := [.string t]) rfl rfl rfl rfl HS.out ?_; clear HF HS a; intro a w3 b3 HF HS; replace HS := Bx.mk HS
 refine wl_alloc rfl HF rfl rfl rfl (Z := [.slice none 0 0]) (by kernel_rfl) rfl HS.out ?_; clear HF HS a; intro a w4 b4 HF HS; replace HS := Bx.mk HS
 refine za HF ?_;clear HF a;intro a HF
 refine wl_ne ?_
 refine wp_sr ?_
 refine zy HF (ylr (cs := [.slice a0 ps.length c0]) rfl (HF.ev rfl) ((HS.out.box 3 rfl).sub 0 1)) ?_;clear HF a;intro a HF
 refine zy HF (yl_makeFunc HF rfl (cs := #[.pointer (some ⟨b2, 0, none⟩), .pointer (some ⟨b3, 0, none⟩)]) rfl) ?_;clear HF a;intro a HF
 replace HS:=Bx.mk ((HS.out.pick 1 rfl).pick 2 rfl)
 refine wl_call rfl HF rfl (enter_of Tryz.func75 (by kernel_rfl) rfl) (args := #[.agg #[.slice a0 ps.length c0], .func (.func 76) #[] #[.pointer (some ⟨b2, 0, none⟩), .pointer (some ⟨b3, 0, none⟩)]]) rfl (each_any w0 _ a0 c0 ps 76 #[.pointer (some ⟨b2, 0, none⟩), .pointer (some ⟨b3, 0, none⟩)] (stepPut (m : Int) (fun _ => t) (fun _ => true)) (fun _ => [boxA b2 1 3 (.agg #[.int .i64 (m : Int)]), boxA b3 1 9 (.agg #[.string t])]) [boxA b4 1 34 (.agg #[.slice none 0 0]), boxA b1 1 34 (.agg #[.slice a0 ps.length c0])] hl (enter_of Tryz.func76 (by kernel_rfl) rfl) hp.1 (fun k hk w X _ hS => writeRow1_any w0 w b2 b3 m hm ps k (h3.2 k (by omega)) (hf.at k) (hp.at k hk) t ht X hS) HS.out) rfl rfl ?_
 rintro _ w5 (⟨hev, rfl, hs⟩ | ⟨ao, cp, qs, hev, rfl, hs⟩)
 ·skip
  refine ⟨_, rfl, ?_⟩; replace HS := Bx.mk (hs);clear hs HF a;intro a HF
  try dsimp only [List.eraseIdx] at HS
  refine zy HF (yl_extract rfl (HF.ev rfl) rfl) ?_;clear HF a;intro a HF
  refine zy HF (yl_extract rfl (HF.ev rfl) rfl) ?_;clear HF a;intro a HF
  refine wl_storeBox rfl HF rfl rfl (HF.ev rfl) (HF.ev rfl) HS.out 0 rfl (cells_lit [.slice none 0 0] rfl rfl) (by kernel_rfl) ?_; clear HS; intro w6 HS; replace HS := Bx.mk HS
  have HS : Bx (St w0 ([boxA b4 1 34 (.agg #[.slice none 0 0]), boxA b1 1 34 (.agg #[.slice a0 ps.length c0])]) _) := HS
  refine za HF ?_;clear HF a;intro a HF
  refine wl_ne ?_
  refine wp_ret ?_
  refine bp_ret2 HF Tryz.results37 (HF.resBox rfl (HS.out.box 0 rfl) (by kernel_rfl)) (HF.res rfl) ?_
  rw [h3.1] at hev
  exact .inl ⟨hev, rfl, ((HS.out.erase 1).erase 0)⟩
 ·skip
  refine ⟨_, rfl, ?_⟩; replace HS := Bx.mk (hs);clear hs HF a;intro a HF
  try dsimp only [List.eraseIdx] at HS
  refine zy HF (yl_extract rfl (HF.ev rfl) rfl) ?_;clear HF a;intro a HF
  refine zy HF (yl_extract rfl (HF.ev rfl) rfl) ?_;clear HF a;intro a HF
  refine wl_storeBox rfl HF rfl rfl (HF.ev rfl) (HF.ev rfl) HS.out 4 rfl (cells_lit [.slice ao qs.length cp] rfl rfl) (by kernel_rfl) ?_; clear HS; intro w7 HS; replace HS := Bx.mk HS
  have HS : Bx (St w0 ([rowA HD.cells 3 94 (.slice ao qs.length cp) qs, sepA (qs.map HD.asr), boxA b2 1 3 (.agg #[.int .i64 (m : Int)]), boxA b3 1 9 (.agg #[.string t]), boxA b4 1 34 (.agg #[.slice ao qs.length cp]), boxA b1 1 34 (.agg #[.slice a0 ps.length c0])]) _) := HS
  refine za HF ?_;clear HF a;intro a HF
  refine wl_ne ?_
  refine wp_ret ?_
  refine bp_ret2 HF Tryz.results37 (HF.resBox rfl (HS.out.box 4 rfl) (by kernel_rfl)) (HF.res rfl) ?_
  rw [h3.1] at hev
  replace HS:=Bx.mk ((HS.out.pick 1 rfl).pick 1 rfl)
  exact .inr ⟨_, _, qs, hev, rfl, ((((HS.out.erase 5).erase 4).erase 3).erase 2)⟩

theorem l22Same_any (w0 w : World) (ga ca : Nat) (qs : List HD) (F : List Asr) (row : Int) (hr0 : 0 ≤ row) (hr1 : row < 64) (t : ByteArray) (ht : t.size ≤ 2048) (hok : okR (dsOf qs) = true) (hql : qs.length = 3) (hS : St w0 (rowA HD.cells 3 94 (.slice (some ⟨ga, 0, none⟩) qs.length ca) qs :: sepA (qs.map HD.asr) :: F) w) : Calls Tryz.prog 30 #[.agg #[.slice (some ⟨ga, 0, none⟩) qs.length ca], .int .i64 row, .string t] w fun e w' => (sameF (dsOf qs) row t = none ∧ e = .returned (.tuple #[.agg #[.slice none 0 0], .bool false]) ∧ St w0 F w') ∨ (∃ zs, sameF (dsOf qs) row t = some (dsOf zs) ∧ zs.length = qs.length ∧ e = .returned (.tuple #[.agg #[.slice (some ⟨ga, 0, none⟩) qs.length ca], .bool true]) ∧ St w0 (rowA HD.cells 3 94 (.slice (some ⟨ga, 0, none⟩) qs.length ca) zs :: sepA (zs.map HD.asr) :: F) w') := by
 obtain ⟨m, rfl⟩ : ∃ m : Nat, row = (m : Int) := ⟨row.toNat, by omega⟩; have hm : m < 64 := by omega
 have HS := Bx.mk hS; clear hS
 refine wc_enter Tryz.func30 rfl Tryz.ntmps30 [(0, .agg #[.slice (some ⟨ga, 0, none⟩) qs.length ca]), (1, .int .i64 (m : Int)), (2, .string t)] ⟨rfl, rfl, rfl, trivial⟩ rfl ?_; intro a HF
 refine wp_sr ?_
 refine wl_box rfl HF rfl (HF.ev rfl) (Z := [.slice (some ⟨ga, 0, none⟩) qs.length ca]) rfl rfl rfl rfl HS.out ?_; clear HF HS a; intro a w1 b1 HF HS; replace HS := Bx.mk HS
 refine wl_alloc rfl HF rfl rfl rfl (Z := [.slice none 0 0]) (by kernel_rfl) rfl HS.out ?_; clear HF HS a; intro a w2 b2 HF HS; replace HS := Bx.mk HS
 refine za HF ?_;clear HF a;intro a HF
 refine wl_ne ?_
 refine wp_sr ?_
 refine zy HF (ylr (cs := [.slice (some ⟨ga, 0, none⟩) qs.length ca]) rfl (HF.ev rfl) ((HS.out.box 1 rfl).sub 0 1)) ?_;clear HF a;intro a HF
 refine zm HF ?_;clear HF a;intro a HF
 refine zm HF ?_;clear HF a;intro a HF
 refine zm HF ?_;clear HF a;intro a HF
 refine zm HF ?_;clear HF a;intro a HF
 refine wl_buildS (enc := encS) (e := 9) (size := 1) rfl HF rfl rfl rfl (ps := [(0, .string t), (1, .string t), (2, .string t)]) rfl (cells := [.string t, .string t, .string t]) (by kernel_rfl) [t, t, t] rfl rfl (by unfold maxLen; omega) rfl HS.out ?_; clear HF HS a; intro b3 a w3 HF HS; replace HS := Bx.mk HS
 refine wl_buildS (enc := encL) (e := 4) (size := 1) rfl HF rfl rfl rfl (ps := [(0, .bool true), (1, .bool true), (2, .bool true)]) rfl (cells := [.bool true, .bool true, .bool true]) (by kernel_rfl) [true, true, true] rfl rfl (by unfold maxLen; omega) rfl HS.out ?_; clear HF HS a; intro b4 a w4 HF HS; replace HS := Bx.mk HS
 replace HS:=Bx.mk ((((HS.out.pick 0 rfl).pick 1 rfl).pick 5 rfl).pick 5 rfl)
 have hcong : eachTo (stepPut (m : Int) (fun i => [t, t, t].getD i ByteArray.empty) (fun i => [true, true, true].getD i false)) (dsOf qs) qs.length = sameF (dsOf qs) (m : Int) t := by unfold sameF; rw [hql]; exact eachTo_congr fun k hk => by rcases (by omega : k = 0 ∨ k = 1 ∨ k = 2) with rfl | rfl | rfl <;> rfl
 refine wl_call rfl HF rfl (enter_of Tryz.func63 (by kernel_rfl) rfl) (args := #[.agg #[.slice (some ⟨ga, 0, none⟩) qs.length ca], .int .i64 (m : Int), .slice (some ⟨b3, 0, none⟩) 3 3, .slice (some ⟨b4, 0, none⟩) 3 3]) rfl (by have := l4Put_any w0 _ ga ca b3 3 b4 3 qs (m : Int) [t, t, t] [true, true, true] _ (by omega) (by rw [hql]; exact Nat.le_refl 3) (by rw [hql]; exact Nat.le_refl 3) (fun k => by have h9 := waits_small (qs := qs) hok k; omega) (fun i => by rcases (by omega : i = 0 ∨ i = 1 ∨ i = 2 ∨ 3 ≤ i) with rfl | rfl | rfl | h <;> first | (show t.size ≤ _; omega) | (rw [List.getD_eq_getElem?_getD, List.getElem?_eq_none (by simpa using h)]; exact Nat.zero_le _)) HS.out; rw [hcong] at this; exact this) rfl rfl ?_
 rintro _ w5 (⟨hev, rfl, hs⟩ | ⟨zs, hev, rfl, hs⟩)
 ·skip
  refine ⟨_, rfl, ?_⟩; replace HS := Bx.mk (hs);clear hs HF a;intro a HF
  try dsimp only [List.eraseIdx] at HS
  refine zy HF (yl_extract rfl (HF.ev rfl) rfl) ?_;clear HF a;intro a HF
  refine zy HF (yl_extract rfl (HF.ev rfl) rfl) ?_;clear HF a;intro a HF
  refine wl_storeBox rfl HF rfl rfl (HF.ev rfl) (HF.ev rfl) HS.out 2 rfl (cells_lit [.slice none 0 0] rfl rfl) (by kernel_rfl) ?_; clear HS; intro w6 HS; replace HS := Bx.mk HS
  have HS : Bx (St w0 (rowA encS 1 9 (.slice (some ⟨b3, 0, none⟩) 3 3) ([t, t, t]) :: rowA encL 1 4 (.slice (some ⟨b4, 0, none⟩) 3 3) ([true, true, true]) :: boxA b2 1 34 (.agg #[.slice none 0 0]) :: boxA b1 1 34 (.agg #[.slice (some ⟨ga, 0, none⟩) qs.length ca]) :: F) _) := HS
  refine za HF ?_;clear HF a;intro a HF
  refine wl_ne ?_
  refine wp_ret ?_
  refine bp_ret2 HF Tryz.results30 (HF.resBox rfl (HS.out.box 2 rfl) (by kernel_rfl)) (HF.res rfl) ?_
  exact .inl ⟨hev, rfl, ((((HS.out.erase 3).erase 2).erase 1).erase 0)⟩
 ·skip
  refine ⟨_, rfl, ?_⟩; replace HS := Bx.mk (hs);clear hs HF a;intro a HF
  try dsimp only [List.eraseIdx] at HS
  refine zy HF (yl_extract rfl (HF.ev rfl) rfl) ?_;clear HF a;intro a HF
  refine zy HF (yl_extract rfl (HF.ev rfl) rfl) ?_;clear HF a;intro a HF
  refine wl_storeBox rfl HF rfl rfl (HF.ev rfl) (HF.ev rfl) HS.out 4 rfl (cells_lit [.slice (some ⟨ga, 0, none⟩) qs.length ca] rfl rfl) (by kernel_rfl) ?_; clear HS; intro w7 HS; replace HS := Bx.mk HS
  have HS : Bx (St w0 (rowA HD.cells 3 94 (.slice (some ⟨ga, 0, none⟩) qs.length ca) zs :: sepA (zs.map HD.asr) :: rowA encS 1 9 (.slice (some ⟨b3, 0, none⟩) 3 3) ([t, t, t]) :: rowA encL 1 4 (.slice (some ⟨b4, 0, none⟩) 3 3) ([true, true, true]) :: boxA b2 1 34 (.agg #[.slice (some ⟨ga, 0, none⟩) qs.length ca]) :: boxA b1 1 34 (.agg #[.slice (some ⟨ga, 0, none⟩) qs.length ca]) :: F) _) := HS
  refine za HF ?_;clear HF a;intro a HF
  refine wl_ne ?_
  refine wp_ret ?_
  refine bp_ret2 HF Tryz.results30 (HF.resBox rfl (HS.out.box 4 rfl) (by kernel_rfl)) (HF.res rfl) ?_
  replace HS:=Bx.mk ((HS.out.pick 1 rfl).pick 1 rfl)
  have hzl : zs.length = qs.length := by have h8 := hev; unfold sameF at h8; rw [← dsOf_len, eachTo_len h8, hql]
  exact .inr ⟨zs, hev, hzl, rfl, ((((HS.out.erase 5).erase 4).erase 3).erase 2)⟩

end Go.Proofs.YtoaopmkbfifhaaaGreatDoor

/- Operations as texts: walked. -/
namespace Go.Proofs.YtoaopmkbfifhaaaGreatDoor
set_option linter.unusedVariables false
set_option linter.unusedSimpArgs false
set_option maxHeartbeats 1000000
set_option maxRecDepth 100000
open Go.RowKit

structure OpD where
  fKind : Int
  fPath : ByteArray
  fTo : ByteArray
  fAt : Int
  fText : ByteArray
def OpD.cells (o : OpD) : List Value := [.int .i64 o.fKind, .string o.fPath, .string o.fTo, .int .i64 o.fAt, .string o.fText]
def OpD.two (o : OpD) : Bool := (o.fKind == (6 : Int)) || (o.fKind == (7 : Int))
def OpD.sized (o : OpD) : Bool := (o.fKind == (3 : Int)) || (o.fKind == (4 : Int))
def OpD.toOk (o : OpD) : Bool := bif o.two then pathB o.fTo else (o.fTo.toList == (⟨#[]⟩ : ByteArray).toList)
def OpD.atOk (o : OpD) : Bool := (o.fAt == (0 : Int)) || (o.sized && inB o.fAt 0 192)
def OpD.textOk (o : OpD) : Bool := (o.fText.toList == (⟨#[]⟩ : ByteArray).toList) || ((o.fKind == (3 : Int)) && decide ((o.fText.size : Int) ≤ (24 : Int)))
def OpD.ok (o : OpD) : Bool := inB o.fKind 1 7 && pathB o.fPath && o.toOk && o.atOk && o.textOk
theorem OpD.ok_mk {o : OpD} (h1 : inB o.fKind 1 7 = true) (h2 : pathB o.fPath = true) (h3 : o.toOk = true) (h4 : o.atOk = true) : o.ok = o.textOk := by unfold OpD.ok; rw [h1, h2, h3, h4]; rfl
theorem OpD.ok_mk2 {o : OpD} (h1 : (inB o.fKind 1 7 && pathB o.fPath && o.toOk) = true) (h4 : o.textOk = true) : o.ok = o.atOk := by unfold OpD.ok; rw [h1, h4, Bool.true_and, Bool.and_true]
theorem pathB_nil {t : ByteArray} (h : (t.toList == (⟨#[]⟩ : ByteArray).toList) = true) : pathB t = false := by
  obtain rfl := bytes_toList h
  refine pathB_no ?_ rfl
  cases hc : ((⟨#[]⟩ : ByteArray).toList == (⟨#[47]⟩ : ByteArray).toList) with
  | false => rfl
  | true => exact absurd (congrArg ByteArray.size (bytes_toList hc)) (by decide)
theorem size_nil {t : ByteArray} (h : (t.toList == (⟨#[]⟩ : ByteArray).toList) = true) : decide ((24 : Int) < (t.size : Int)) = false := by
  obtain rfl := bytes_toList h
  rfl
theorem size_le24 (t : ByteArray) : decide ((t.size : Int) ≤ (24 : Int)) = !decide ((24 : Int) < (t.size : Int)) := by
  by_cases h : (t.size : Int) ≤ 24
  · rw [decide_eq_true h, decide_eq_false (by omega)]; rfl
  · rw [decide_eq_false h, decide_eq_true (by omega)]; rfl
theorem at_zero {n : Int} (h : (n == (0 : Int)) = true) : inB n 0 192 = true := by obtain rfl := eq_of_beq h; rfl
theorem bne_int (a b : Int) : (a != b) = !(a == b) := rfl

theorem opTo_tree (o : OpD) : (bif !((bif (o.fKind == 6) then true else (o.fKind == 7)) == (!(o.fTo.toList == (⟨#[]⟩ : ByteArray).toList))) then true else (bif (bif (o.fKind == 6) then true else (o.fKind == 7)) then (!(pathB o.fTo)) else false)) = !o.toOk := by
  have hr := fun h => pathB_nil (t := o.fTo) h
  unfold OpD.toOk OpD.two
  revert hr
  cases h1 : (o.fKind == (6 : Int)) <;> cases h2 : (o.fKind == (7 : Int)) <;> cases h3 : (o.fTo.toList == (⟨#[]⟩ : ByteArray).toList) <;> cases h4 : pathB o.fTo <;> intro hr <;> first | rfl | exact absurd (hr rfl) (by simp)
theorem opAt_tree (o : OpD) : (bif !(bif (o.fKind == 3) then true else (o.fKind == 4)) then (bif (o.fAt != 0) then true else (!(inB o.fAt 0 192))) else (!(inB o.fAt 0 192))) = !o.atOk := by
  have hr := fun h => at_zero (n := o.fAt) h
  unfold OpD.atOk OpD.sized
  rw [bne_int]
  revert hr
  cases h1 : (o.fKind == (3 : Int)) <;> cases h2 : (o.fKind == (4 : Int)) <;> cases h3 : (o.fAt == (0 : Int)) <;> cases h4 : inB o.fAt 0 192 <;> intro hr <;> first | rfl | exact absurd (hr rfl) (by simp)
theorem opText_tree (o : OpD) : (bif (o.fText.toList == (⟨#[]⟩ : ByteArray).toList) then true else (bif (o.fKind == 3) then (decide ((o.fText.size : Int) ≤ 24)) else false)) = o.textOk := by
  unfold OpD.textOk
  cases h1 : (o.fText.toList == (⟨#[]⟩ : ByteArray).toList) <;> cases h2 : (o.fKind == (3 : Int)) <;> rfl

theorem implOpOk_any (o : OpD) (w0 : World) (hM : MaxP w0) (hp : o.fPath.size ≤ 4000000000) (ht : o.fTo.size ≤ 4000000000) (hx : o.fText.size ≤ 4000000000) : Calls Tryz.prog 91 #[.agg #[.int .i64 o.fKind, .string o.fPath, .string o.fTo, .int .i64 o.fAt, .string o.fText]] w0 fun e w' => e = .returned (.bool o.ok) ∧ Below w0.heap.size w0 w' := by
 have HM := Bx.mk hM; clear hM
 have HS := Bx.mk (St.start w0)
 refine wc_enter Tryz.func91 rfl Tryz.ntmps91 [(0, .agg #[.int .i64 o.fKind, .string o.fPath, .string o.fTo, .int .i64 o.fAt, .string o.fText])] ⟨rfl, trivial⟩ rfl ?_; intro a HF
 refine wp_sr ?_
 refine wl_box rfl HF rfl (HF.ev rfl) (Z := [.int .i64 o.fKind, .string o.fPath, .string o.fTo, .int .i64 o.fAt, .string o.fText]) rfl rfl rfl rfl HS.out ?_; clear HF HS a; intro a w1 b1 HF HS; replace HS := Bx.mk HS
 refine za HF ?_;clear HF a;intro a HF
 refine wl_ne ?_
 refine wp_seq ?_
 refine wp_join (R := fun a w => Fr 73 a [(0, .agg #[.int .i64 o.fKind, .string o.fPath, .string o.fTo, .int .i64 o.fAt, .string o.fText]), (1, .pointer (some ⟨b1, 0, none⟩)), (2, .bool false), (3, .bool (bif (o.fKind == 6) then true else (o.fKind == 7)))] ∧ St w0 ([boxA b1 5 53 (.agg #[.int .i64 o.fKind, .string o.fPath, .string o.fTo, .int .i64 o.fAt, .string o.fText])]) w) ?_ ?_
 ·skip
  refine wp_region_lit ?_
  refine zy HF (yfa 0 rfl (HF.ev rfl)) ?_;clear HF a;intro a HF
  refine zy HF (ylo (v := .int .i64 o.fKind) rfl (HF.ev rfl) (((HS.out.box 0 rfl).cell 0).trans rfl)) ?_;clear HF a;intro a HF
  refine zy HF (yl_eqlI rfl (HF.ev rfl) (HF.ev rfl)) ?_;clear HF a;intro a HF
  refine zm HF ?_;clear HF a;intro a HF
  refine HF.cases 8 rfl (fun cc1 _ => ?_) fun cc1 _ => ?_
  ·clear HF;rename_i HF
   have dcc1 := eq_of_beq cc1
   refine zk HF ?_;clear HF a;intro a HF
   refine zk HF ?_;clear HF a;intro a HF
   refine zk HF ?_;clear HF a;intro a HF
   refine zy HF (yl_pick_t rfl (HF.ev rfl) (HF.ev rfl)) ?_;clear HF a;intro a HF
   refine za HF ?_;clear HF a;intro a HF
   refine wpList_nil ?_
   exact on_mk ⟨HF.less _ ⟨rfl, rfl, rfl, (congrArg (fun z => some (Value.bool z)) (show (true : Bool) = (bif (o.fKind == 6) then true else (o.fKind == 7)) from (by (try rw [cc1]); first | done | rfl))), trivial⟩, HS.out⟩
  ·clear HF;rename_i HF
   have dcc1 := ne_of_beq_false cc1
   refine zg HF (yfa 0 rfl (HF.ev rfl)) ?_;clear HF a;intro a HF
   refine zg HF (ylo (v := .int .i64 o.fKind) rfl (HF.ev rfl) (((HS.out.box 0 rfl).cell 0).trans rfl)) ?_;clear HF a;intro a HF
   refine zg HF (yl_eqlI rfl (HF.ev rfl) (HF.ev rfl)) ?_;clear HF a;intro a HF
   refine zy HF (yl_pick_f rfl (HF.ev rfl) (HF.ev rfl)) ?_;clear HF a;intro a HF
   refine za HF ?_;clear HF a;intro a HF
   refine wpList_nil ?_
   exact on_mk ⟨HF.less _ ⟨rfl, rfl, rfl, (congrArg (fun z => some (Value.bool z)) (show ((o.fKind == 7) : Bool) = (bif (o.fKind == 6) then true else (o.fKind == 7)) from (by (try rw [cc1]); first | done | rfl))), trivial⟩, HS.out⟩
 clear HF HS a; rintro a w2 ⟨HF, HS⟩; replace HS := Bx.mk HS
 refine ex_then ?_
 refine wp_seq ?_
 refine wp_join (R := fun a w => Fr 73 a [(0, .agg #[.int .i64 o.fKind, .string o.fPath, .string o.fTo, .int .i64 o.fAt, .string o.fText]), (1, .pointer (some ⟨b1, 0, none⟩)), (2, .bool false), (3, .bool (bif (o.fKind == 6) then true else (o.fKind == 7))), (4, .bool (bif (o.fKind == 3) then true else (o.fKind == 4)))] ∧ St w0 ([boxA b1 5 53 (.agg #[.int .i64 o.fKind, .string o.fPath, .string o.fTo, .int .i64 o.fAt, .string o.fText])]) w) ?_ ?_
 ·skip
  refine wp_region_lit ?_
  refine zy HF (yfa 0 rfl (HF.ev rfl)) ?_;clear HF a;intro a HF
  refine zy HF (ylo (v := .int .i64 o.fKind) rfl (HF.ev rfl) (((HS.out.box 0 rfl).cell 0).trans rfl)) ?_;clear HF a;intro a HF
  refine zy HF (yl_eqlI rfl (HF.ev rfl) (HF.ev rfl)) ?_;clear HF a;intro a HF
  refine zm HF ?_;clear HF a;intro a HF
  refine HF.cases 16 rfl (fun cc2 _ => ?_) fun cc2 _ => ?_
  ·clear HF;rename_i HF
   have dcc2 := eq_of_beq cc2
   refine zk HF ?_;clear HF a;intro a HF
   refine zk HF ?_;clear HF a;intro a HF
   refine zk HF ?_;clear HF a;intro a HF
   refine zy HF (yl_pick_t rfl (HF.ev rfl) (HF.ev rfl)) ?_;clear HF a;intro a HF
   refine za HF ?_;clear HF a;intro a HF
   refine wpList_nil ?_
   exact on_mk ⟨HF.less _ ⟨rfl, rfl, rfl, rfl, (congrArg (fun z => some (Value.bool z)) (show (true : Bool) = (bif (o.fKind == 3) then true else (o.fKind == 4)) from (by (try rw [cc2]); first | done | rfl))), trivial⟩, HS.out⟩
  ·clear HF;rename_i HF
   have dcc2 := ne_of_beq_false cc2
   refine zg HF (yfa 0 rfl (HF.ev rfl)) ?_;clear HF a;intro a HF
   refine zg HF (ylo (v := .int .i64 o.fKind) rfl (HF.ev rfl) (((HS.out.box 0 rfl).cell 0).trans rfl)) ?_;clear HF a;intro a HF
   refine zg HF (yl_eqlI rfl (HF.ev rfl) (HF.ev rfl)) ?_;clear HF a;intro a HF
   refine zy HF (yl_pick_f rfl (HF.ev rfl) (HF.ev rfl)) ?_;clear HF a;intro a HF
   refine za HF ?_;clear HF a;intro a HF
   refine wpList_nil ?_
   exact on_mk ⟨HF.less _ ⟨rfl, rfl, rfl, rfl, (congrArg (fun z => some (Value.bool z)) (show ((o.fKind == 4) : Bool) = (bif (o.fKind == 3) then true else (o.fKind == 4)) from (by (try rw [cc2]); first | done | rfl))), trivial⟩, HS.out⟩
 clear HF HS a; rintro a w3 ⟨HF, HS⟩; replace HS := Bx.mk HS
 refine ex_then ?_
 refine wp_seq ?_
 refine wp_block ?_
 refine wp_seq ?_
 refine wp_sr ?_
 refine zy HF (yfa 0 rfl (HF.ev rfl)) ?_;clear HF a;intro a HF
 refine zy HF (ylo (v := .int .i64 o.fKind) rfl (HF.ev rfl) (((HS.out.box 0 rfl).cell 0).trans rfl)) ?_;clear HF a;intro a HF
 refine wl_callB rfl HF rfl (enter_of Tryz.func52 (by kernel_rfl) rfl) (args := #[.int .i64 o.fKind, .int .i64 1, .int .i64 7]) rfl (v := .bool (inB o.fKind 1 7)) (((within_any o.fKind 1 7 _).mono fun _ _ h => ⟨h.1, h.2 ▸ Below.refl _ _⟩)) rfl rfl HS.out ?_; clear HF HS a; intro w4 a HS HF; replace HS := Bx.mk HS
 refine zy HF (yl_not rfl (HF.ev rfl)) ?_;clear HF a;intro a HF
 refine za HF ?_;clear HF a;intro a HF
 refine wl_ne ?_
 refine HF.cases 21 rfl (fun cc3 _ => ?_) fun cc3 _ => ?_
 ·clear HF;rename_i HF
  refine wc_true HF rfl ?_
  refine wp_skip ?_
  refine ex_then ?_
  refine wc_true HF rfl ?_
  refine wp_sr ?_
  refine za HF ?_;clear HF a;intro a HF
  refine wl_ne ?_
  refine wp_ret ?_
  refine ex_block_ret ?_
  refine ex_then_ret ?_
  refine bp_ret1 HF Tryz.results91 (HF.res rfl) ?_
  have k1 : inB o.fKind 1 7 = false := by simpa using cc3
  exact ⟨by unfold OpD.ok; rw [k1] <;> simp, HS.out.bel⟩
 ·clear HF;rename_i HF
  refine wc_false HF rfl ?_
  refine wp_region_lit ?_
  refine zy HF (yfa 1 rfl (HF.ev rfl)) ?_;clear HF a;intro a HF
  refine zy HF (ylo (v := .string o.fPath) rfl (HF.ev rfl) (((HS.out.box 0 rfl).cell 1).trans rfl)) ?_;clear HF a;intro a HF
  refine wl_callB rfl HF rfl (enter_of Tryz.func136 (by kernel_rfl) rfl) (args := #[.string o.fPath]) rfl (v := .bool (pathB o.fPath)) (implPathOk_any o.fPath _ (HM.out.below HS.out.bel) (by omega)) rfl rfl HS.out ?_; clear HF HS a; intro w5 a HS HF; replace HS := Bx.mk HS
  refine zy HF (yl_not rfl (HF.ev rfl)) ?_;clear HF a;intro a HF
  refine za HF ?_;clear HF a;intro a HF
  refine wl_ne ?_
  refine HF.cases 21 rfl (fun cc4 _ => ?_) fun cc4 _ => ?_
  ·clear HF;rename_i HF
   refine wc_true HF rfl ?_
   refine wp_sr ?_
   refine za HF ?_;clear HF a;intro a HF
   refine wl_ne ?_
   refine wp_ret ?_
   refine ex_block_ret ?_
   refine ex_then_ret ?_
   refine bp_ret1 HF Tryz.results91 (HF.res rfl) ?_
   have k1 : inB o.fKind 1 7 = true := by simpa using cc3
   have k2 : pathB o.fPath = false := by simpa using cc4
   exact ⟨by unfold OpD.ok; rw [k1, k2] <;> simp, HS.out.bel⟩
  ·clear HF;rename_i HF
   refine wc_false HF rfl ?_
   refine wp_seq ?_
   refine wp_join (R := fun a w => Fr 73 a [(0, .agg #[.int .i64 o.fKind, .string o.fPath, .string o.fTo, .int .i64 o.fAt, .string o.fText]), (1, .pointer (some ⟨b1, 0, none⟩)), (2, .bool false), (4, .bool (bif (o.fKind == 3) then true else (o.fKind == 4))), (22, .pointer (some ⟨b1, 0 + 0, none⟩)), (23, .int .i64 o.fKind), (24, .bool (inB o.fKind 1 7)), (25, .bool (!(inB o.fKind 1 7))), (21, .bool false), (26, .pointer (some ⟨b1, 0 + 1, none⟩)), (27, .string o.fPath), (28, .bool (pathB o.fPath)), (29, .bool (!(pathB o.fPath))), (30, .bool (bif !((bif (o.fKind == 6) then true else (o.fKind == 7)) == (!(o.fTo.toList == (⟨#[]⟩ : ByteArray).toList))) then true else (bif (bif (o.fKind == 6) then true else (o.fKind == 7)) then (!(pathB o.fTo)) else false)))] ∧ St w0 ([boxA b1 5 53 (.agg #[.int .i64 o.fKind, .string o.fPath, .string o.fTo, .int .i64 o.fAt, .string o.fText])]) w) ?_ ?_
   ·skip
    refine wp_region_lit ?_
    refine zm HF ?_;clear HF a;intro a HF
    refine zy HF (yfa 2 rfl (HF.ev rfl)) ?_;clear HF a;intro a HF
    refine zy HF (ylo (v := .string o.fTo) rfl (HF.ev rfl) (((HS.out.box 0 rfl).cell 2).trans rfl)) ?_;clear HF a;intro a HF
    refine zy HF (yl_neqS rfl (HF.ev rfl) (HF.ev rfl)) ?_;clear HF a;intro a HF
    refine zy HF (yl_neqB rfl (HF.ev rfl) (HF.ev rfl) (by kernel_rfl)) ?_;clear HF a;intro a HF
    refine zm HF ?_;clear HF a;intro a HF
    refine HF.cases 36 rfl (fun cc5 _ => ?_) fun cc5 _ => ?_
    ·clear HF;rename_i HF
     refine zk HF ?_;clear HF a;intro a HF
     refine zk HF ?_;clear HF a;intro a HF
     refine wl_skipU HF rfl rfl rfl rfl rfl ?_;clear HF a;intro a HF
     refine wl_skipU HF rfl rfl rfl rfl rfl ?_;clear HF a;intro a HF
     refine wl_skipU HF rfl rfl rfl rfl rfl ?_;clear HF a;intro a HF
     refine wl_skipU HF rfl rfl rfl rfl rfl ?_;clear HF a;intro a HF
     refine zk HF ?_;clear HF a;intro a HF
     refine zy HF (yl_pick_t rfl (HF.ev rfl) (HF.ev rfl)) ?_;clear HF a;intro a HF
     refine za HF ?_;clear HF a;intro a HF
     refine wpList_nil ?_
     exact on_mk ⟨HF.less _ ⟨rfl, rfl, rfl, rfl, rfl, rfl, rfl, rfl, rfl, rfl, rfl, rfl, rfl, (congrArg (fun z => some (Value.bool z)) (show (true : Bool) = (bif !((bif (o.fKind == 6) then true else (o.fKind == 7)) == (!(o.fTo.toList == (⟨#[]⟩ : ByteArray).toList))) then true else (bif (bif (o.fKind == 6) then true else (o.fKind == 7)) then (!(pathB o.fTo)) else false)) from (by (try rw [cc5]); first | done | rfl))), trivial⟩, HS.out⟩
    ·clear HF;rename_i HF
     refine zg HF (yl_move rfl (HF.ev rfl)) ?_;clear HF a;intro a HF
     refine zg HF (yl_move rfl (HF.ev rfl)) ?_;clear HF a;intro a HF
     refine HF.cases 38 rfl (fun cc6 _ => ?_) fun cc6 _ => ?_
     ·clear HF;rename_i HF
      refine zg HF (yfa 2 rfl (HF.ev rfl)) ?_;clear HF a;intro a HF
      refine zg HF (ylo (v := .string o.fTo) rfl (HF.ev rfl) (((HS.out.box 0 rfl).cell 2).trans rfl)) ?_;clear HF a;intro a HF
      refine wl_callBg HF rfl rfl rfl rfl (enter_of Tryz.func136 (by kernel_rfl) rfl) (args := #[.string o.fTo]) rfl (v := .bool (pathB o.fTo)) (implPathOk_any o.fTo _ (HM.out.below HS.out.bel) (by omega)) rfl rfl HS.out ?_; clear HF HS a; intro w6 a HS HF; replace HS := Bx.mk HS
      refine zg HF (yl_not rfl (HF.ev rfl)) ?_;clear HF a;intro a HF
      refine zg HF (yl_pick_t rfl (HF.ev rfl) (HF.ev rfl)) ?_;clear HF a;intro a HF
      refine zy HF (yl_pick_f rfl (HF.ev rfl) (HF.ev rfl)) ?_;clear HF a;intro a HF
      refine za HF ?_;clear HF a;intro a HF
      refine wpList_nil ?_
      exact on_mk ⟨HF.less _ ⟨rfl, rfl, rfl, rfl, rfl, rfl, rfl, rfl, rfl, rfl, rfl, rfl, rfl, (congrArg (fun z => some (Value.bool z)) (show (!(pathB o.fTo) : Bool) = (bif !((bif (o.fKind == 6) then true else (o.fKind == 7)) == (!(o.fTo.toList == (⟨#[]⟩ : ByteArray).toList))) then true else (bif (bif (o.fKind == 6) then true else (o.fKind == 7)) then (!(pathB o.fTo)) else false)) from (by (try rw [cc5]); (try rw [cc6]); first | done | rfl))), trivial⟩, HS.out⟩
     ·clear HF;rename_i HF
      refine zk HF ?_;clear HF a;intro a HF
      refine zk HF ?_;clear HF a;intro a HF
      refine zk HF ?_;clear HF a;intro a HF
      refine zk HF ?_;clear HF a;intro a HF
      refine zg HF (yl_pick_f rfl (HF.ev rfl) (HF.ev rfl)) ?_;clear HF a;intro a HF
      refine zy HF (yl_pick_f rfl (HF.ev rfl) (HF.ev rfl)) ?_;clear HF a;intro a HF
      refine za HF ?_;clear HF a;intro a HF
      refine wpList_nil ?_
      exact on_mk ⟨HF.less _ ⟨rfl, rfl, rfl, rfl, rfl, rfl, rfl, rfl, rfl, rfl, rfl, rfl, rfl, (congrArg (fun z => some (Value.bool z)) (show (false : Bool) = (bif !((bif (o.fKind == 6) then true else (o.fKind == 7)) == (!(o.fTo.toList == (⟨#[]⟩ : ByteArray).toList))) then true else (bif (bif (o.fKind == 6) then true else (o.fKind == 7)) then (!(pathB o.fTo)) else false)) from (by (try rw [cc5]); (try rw [cc6]); first | done | rfl))), trivial⟩, HS.out⟩
   clear HF HS a; rintro a w7 ⟨HF, HS⟩; replace HS := Bx.mk HS
   refine ex_then ?_
   refine HF.cases 30 rfl (fun cc7 _ => ?_) fun cc7 _ => ?_
   ·clear HF;rename_i HF
    refine wc_true HF rfl ?_
    refine wp_sr ?_
    refine za HF ?_;clear HF a;intro a HF
    refine wl_ne ?_
    refine wp_ret ?_
    refine ex_block_ret ?_
    refine ex_then_ret ?_
    refine bp_ret1 HF Tryz.results91 (HF.res rfl) ?_
    have k1 : inB o.fKind 1 7 = true := by simpa using cc3
    have k2 : pathB o.fPath = true := by simpa using cc4
    have k3 : o.toOk = false := by have := cc7; rw [opTo_tree] at this; simpa using this
    exact ⟨by unfold OpD.ok; rw [k1, k2, k3] <;> simp, HS.out.bel⟩
   ·clear HF;rename_i HF
    refine wc_false HF rfl ?_
    refine wp_seq ?_
    refine wp_join (R := fun a w => Fr 73 a [(0, .agg #[.int .i64 o.fKind, .string o.fPath, .string o.fTo, .int .i64 o.fAt, .string o.fText]), (1, .pointer (some ⟨b1, 0, none⟩)), (2, .bool false), (22, .pointer (some ⟨b1, 0 + 0, none⟩)), (23, .int .i64 o.fKind), (24, .bool (inB o.fKind 1 7)), (25, .bool (!(inB o.fKind 1 7))), (21, .bool false), (26, .pointer (some ⟨b1, 0 + 1, none⟩)), (27, .string o.fPath), (28, .bool (pathB o.fPath)), (29, .bool (!(pathB o.fPath))), (30, .bool false), (45, .bool (bif !(bif (o.fKind == 3) then true else (o.fKind == 4)) then (bif (o.fAt != 0) then true else (!(inB o.fAt 0 192))) else (!(inB o.fAt 0 192))))] ∧ St w0 ([boxA b1 5 53 (.agg #[.int .i64 o.fKind, .string o.fPath, .string o.fTo, .int .i64 o.fAt, .string o.fText])]) w) ?_ ?_
    ·skip
     refine wp_region_lit ?_
     refine zm HF ?_;clear HF a;intro a HF
     refine zy HF (yl_not rfl (HF.ev rfl)) ?_;clear HF a;intro a HF
     refine zm HF ?_;clear HF a;intro a HF
     refine HF.cases 48 rfl (fun cc8 _ => ?_) fun cc8 _ => ?_
     ·clear HF;rename_i HF
      refine zg HF (yfa 3 rfl (HF.ev rfl)) ?_;clear HF a;intro a HF
      refine zg HF (ylo (v := .int .i64 o.fAt) rfl (HF.ev rfl) (((HS.out.box 0 rfl).cell 3).trans rfl)) ?_;clear HF a;intro a HF
      refine zg HF (yl_neqI rfl (HF.ev rfl) (HF.ev rfl)) ?_;clear HF a;intro a HF
      refine zy HF (yl_pick_t rfl (HF.ev rfl) (HF.ev rfl)) ?_;clear HF a;intro a HF
      refine zm HF ?_;clear HF a;intro a HF
      refine HF.cases 53 rfl (fun cc9 _ => ?_) fun cc9 _ => ?_
      ·clear HF;rename_i HF
       have dcc9 := bne_iff_ne.1 cc9
       refine zk HF ?_;clear HF a;intro a HF
       refine zk HF ?_;clear HF a;intro a HF
       refine zk HF ?_;clear HF a;intro a HF
       refine zk HF ?_;clear HF a;intro a HF
       refine zy HF (yl_pick_t rfl (HF.ev rfl) (HF.ev rfl)) ?_;clear HF a;intro a HF
       refine za HF ?_;clear HF a;intro a HF
       refine wpList_nil ?_
       exact on_mk ⟨HF.less _ ⟨rfl, rfl, rfl, rfl, rfl, rfl, rfl, rfl, rfl, rfl, rfl, rfl, rfl, (congrArg (fun z => some (Value.bool z)) (show (true : Bool) = (bif !(bif (o.fKind == 3) then true else (o.fKind == 4)) then (bif (o.fAt != 0) then true else (!(inB o.fAt 0 192))) else (!(inB o.fAt 0 192))) from (by (try rw [cc8]); (try rw [cc9]); first | done | rfl))), trivial⟩, HS.out⟩
      ·clear HF;rename_i HF
       have dcc9 := bne_eq_false_iff_eq.1 cc9
       refine zg HF (yfa 3 rfl (HF.ev rfl)) ?_;clear HF a;intro a HF
       refine zg HF (ylo (v := .int .i64 o.fAt) rfl (HF.ev rfl) (((HS.out.box 0 rfl).cell 3).trans rfl)) ?_;clear HF a;intro a HF
       refine wl_callBg HF rfl rfl rfl rfl (enter_of Tryz.func52 (by kernel_rfl) rfl) (args := #[.int .i64 o.fAt, .int .i64 0, .int .i64 192]) rfl (v := .bool (inB o.fAt 0 192)) (((within_any o.fAt 0 192 _).mono fun _ _ h => ⟨h.1, h.2 ▸ Below.refl _ _⟩)) rfl rfl HS.out ?_; clear HF HS a; intro w8 a HS HF; replace HS := Bx.mk HS
       refine zg HF (yl_not rfl (HF.ev rfl)) ?_;clear HF a;intro a HF
       refine zy HF (yl_pick_f rfl (HF.ev rfl) (HF.ev rfl)) ?_;clear HF a;intro a HF
       refine za HF ?_;clear HF a;intro a HF
       refine wpList_nil ?_
       exact on_mk ⟨HF.less _ ⟨rfl, rfl, rfl, rfl, rfl, rfl, rfl, rfl, rfl, rfl, rfl, rfl, rfl, (congrArg (fun z => some (Value.bool z)) (show (!(inB o.fAt 0 192) : Bool) = (bif !(bif (o.fKind == 3) then true else (o.fKind == 4)) then (bif (o.fAt != 0) then true else (!(inB o.fAt 0 192))) else (!(inB o.fAt 0 192))) from (by (try rw [cc8]); (try rw [cc9]); first | done | rfl))), trivial⟩, HS.out⟩
     ·clear HF;rename_i HF
      refine zk HF ?_;clear HF a;intro a HF
      refine zk HF ?_;clear HF a;intro a HF
      refine zk HF ?_;clear HF a;intro a HF
      refine zy HF (yl_pick_f rfl (HF.ev rfl) (HF.ev rfl)) ?_;clear HF a;intro a HF
      refine zm HF ?_;clear HF a;intro a HF
      refine zg HF (yfa 3 rfl (HF.ev rfl)) ?_;clear HF a;intro a HF
      refine zg HF (ylo (v := .int .i64 o.fAt) rfl (HF.ev rfl) (((HS.out.box 0 rfl).cell 3).trans rfl)) ?_;clear HF a;intro a HF
      refine wl_callBg HF rfl rfl rfl rfl (enter_of Tryz.func52 (by kernel_rfl) rfl) (args := #[.int .i64 o.fAt, .int .i64 0, .int .i64 192]) rfl (v := .bool (inB o.fAt 0 192)) (((within_any o.fAt 0 192 _).mono fun _ _ h => ⟨h.1, h.2 ▸ Below.refl _ _⟩)) rfl rfl HS.out ?_; clear HF HS a; intro w9 a HS HF; replace HS := Bx.mk HS
      refine zg HF (yl_not rfl (HF.ev rfl)) ?_;clear HF a;intro a HF
      refine zy HF (yl_pick_f rfl (HF.ev rfl) (HF.ev rfl)) ?_;clear HF a;intro a HF
      refine za HF ?_;clear HF a;intro a HF
      refine wpList_nil ?_
      exact on_mk ⟨HF.less _ ⟨rfl, rfl, rfl, rfl, rfl, rfl, rfl, rfl, rfl, rfl, rfl, rfl, rfl, (congrArg (fun z => some (Value.bool z)) (show (!(inB o.fAt 0 192) : Bool) = (bif !(bif (o.fKind == 3) then true else (o.fKind == 4)) then (bif (o.fAt != 0) then true else (!(inB o.fAt 0 192))) else (!(inB o.fAt 0 192))) from (by (try rw [cc8]); first | done | rfl))), trivial⟩, HS.out⟩
    clear HF HS a; rintro a w10 ⟨HF, HS⟩; replace HS := Bx.mk HS
    refine ex_then ?_
    refine HF.cases 45 rfl (fun cc10 _ => ?_) fun cc10 _ => ?_
    ·clear HF;rename_i HF
     refine wc_true HF rfl ?_
     refine wp_sr ?_
     refine za HF ?_;clear HF a;intro a HF
     refine wl_ne ?_
     refine wp_ret ?_
     refine ex_block_ret ?_
     refine ex_then_ret ?_
     refine bp_ret1 HF Tryz.results91 (HF.res rfl) ?_
     have k1 : inB o.fKind 1 7 = true := by simpa using cc3
     have k2 : pathB o.fPath = true := by simpa using cc4
     have k3 : o.toOk = true := by have := cc7; rw [opTo_tree] at this; simpa using this
     have k4 : o.atOk = false := by have := cc10; rw [opAt_tree] at this; simpa using this
     exact ⟨by unfold OpD.ok; rw [k1, k2, k3, k4] <;> simp, HS.out.bel⟩
    ·clear HF;rename_i HF
     refine wc_false HF rfl ?_
     refine wp_skip ?_
     refine ex_block ?_
     refine ex_then ?_
     refine wp_seq ?_
     refine wp_join (R := fun a w => Fr 73 a [(0, .agg #[.int .i64 o.fKind, .string o.fPath, .string o.fTo, .int .i64 o.fAt, .string o.fText]), (1, .pointer (some ⟨b1, 0, none⟩)), (2, .bool (bif (o.fText.toList == (⟨#[]⟩ : ByteArray).toList) then true else (bif (o.fKind == 3) then (decide ((o.fText.size : Int) ≤ 24)) else false))), (22, .pointer (some ⟨b1, 0 + 0, none⟩)), (23, .int .i64 o.fKind), (24, .bool (inB o.fKind 1 7)), (25, .bool (!(inB o.fKind 1 7))), (21, .bool false), (26, .pointer (some ⟨b1, 0 + 1, none⟩)), (27, .string o.fPath), (28, .bool (pathB o.fPath)), (29, .bool (!(pathB o.fPath))), (30, .bool false), (45, .bool false)] ∧ St w0 ([boxA b1 5 53 (.agg #[.int .i64 o.fKind, .string o.fPath, .string o.fTo, .int .i64 o.fAt, .string o.fText])]) w) ?_ ?_
     ·skip
      refine wp_region_lit ?_
      refine zy HF (yfa 4 rfl (HF.ev rfl)) ?_;clear HF a;intro a HF
      refine zy HF (ylo (v := .string o.fText) rfl (HF.ev rfl) (((HS.out.box 0 rfl).cell 4).trans rfl)) ?_;clear HF a;intro a HF
      refine zy HF (yl_eqlS rfl (HF.ev rfl) (HF.ev rfl)) ?_;clear HF a;intro a HF
      refine zm HF ?_;clear HF a;intro a HF
      refine HF.cases 62 rfl (fun cc11 _ => ?_) fun cc11 _ => ?_
      ·clear HF;rename_i HF
       refine zk HF ?_;clear HF a;intro a HF
       refine zk HF ?_;clear HF a;intro a HF
       refine zk HF ?_;clear HF a;intro a HF
       refine zk HF ?_;clear HF a;intro a HF
       refine wl_skipU HF rfl rfl rfl rfl rfl ?_;clear HF a;intro a HF
       refine wl_skipU HF rfl rfl rfl rfl rfl ?_;clear HF a;intro a HF
       refine wl_skipU HF rfl rfl rfl rfl rfl ?_;clear HF a;intro a HF
       refine wl_skipU HF rfl rfl rfl rfl rfl ?_;clear HF a;intro a HF
       refine zk HF ?_;clear HF a;intro a HF
       refine zy HF (yl_pick_t rfl (HF.ev rfl) (HF.ev rfl)) ?_;clear HF a;intro a HF
       refine za HF ?_;clear HF a;intro a HF
       refine wpList_nil ?_
       exact on_mk ⟨HF.less _ ⟨rfl, rfl, (congrArg (fun z => some (Value.bool z)) (show (true : Bool) = (bif (o.fText.toList == (⟨#[]⟩ : ByteArray).toList) then true else (bif (o.fKind == 3) then (decide ((o.fText.size : Int) ≤ 24)) else false)) from (by (try rw [cc11]); first | done | rfl))), rfl, rfl, rfl, rfl, rfl, rfl, rfl, rfl, rfl, rfl, rfl, trivial⟩, HS.out⟩
      ·clear HF;rename_i HF
       refine zg HF (yfa 0 rfl (HF.ev rfl)) ?_;clear HF a;intro a HF
       refine zg HF (ylo (v := .int .i64 o.fKind) rfl (HF.ev rfl) (((HS.out.box 0 rfl).cell 0).trans rfl)) ?_;clear HF a;intro a HF
       refine zg HF (yl_eqlI rfl (HF.ev rfl) (HF.ev rfl)) ?_;clear HF a;intro a HF
       refine zg HF (yl_move rfl (HF.ev rfl)) ?_;clear HF a;intro a HF
       refine HF.cases 66 rfl (fun cc12 _ => ?_) fun cc12 _ => ?_
       ·clear HF;rename_i HF
        have dcc12 := eq_of_beq cc12
        refine zg HF (yfa 4 rfl (HF.ev rfl)) ?_;clear HF a;intro a HF
        refine zg HF (ylo (v := .string o.fText) rfl (HF.ev rfl) (((HS.out.box 0 rfl).cell 4).trans rfl)) ?_;clear HF a;intro a HF
        refine zg HF (yl_lenS rfl (HF.ev rfl) (by kernel_rfl)) ?_;clear HF a;intro a HF
        refine zg HF (yl_leqI rfl (HF.ev rfl) (HF.ev rfl)) ?_;clear HF a;intro a HF
        refine zg HF (yl_pick_t rfl (HF.ev rfl) (HF.ev rfl)) ?_;clear HF a;intro a HF
        refine zy HF (yl_pick_f rfl (HF.ev rfl) (HF.ev rfl)) ?_;clear HF a;intro a HF
        refine za HF ?_;clear HF a;intro a HF
        refine wpList_nil ?_
        exact on_mk ⟨HF.less _ ⟨rfl, rfl, (congrArg (fun z => some (Value.bool z)) (show ((decide ((o.fText.size : Int) ≤ 24)) : Bool) = (bif (o.fText.toList == (⟨#[]⟩ : ByteArray).toList) then true else (bif (o.fKind == 3) then (decide ((o.fText.size : Int) ≤ 24)) else false)) from (by (try rw [cc11]); (try rw [cc12]); first | done | rfl))), rfl, rfl, rfl, rfl, rfl, rfl, rfl, rfl, rfl, rfl, rfl, trivial⟩, HS.out⟩
       ·clear HF;rename_i HF
        have dcc12 := ne_of_beq_false cc12
        refine zk HF ?_;clear HF a;intro a HF
        refine zk HF ?_;clear HF a;intro a HF
        refine zk HF ?_;clear HF a;intro a HF
        refine zk HF ?_;clear HF a;intro a HF
        refine zg HF (yl_pick_f rfl (HF.ev rfl) (HF.ev rfl)) ?_;clear HF a;intro a HF
        refine zy HF (yl_pick_f rfl (HF.ev rfl) (HF.ev rfl)) ?_;clear HF a;intro a HF
        refine za HF ?_;clear HF a;intro a HF
        refine wpList_nil ?_
        exact on_mk ⟨HF.less _ ⟨rfl, rfl, (congrArg (fun z => some (Value.bool z)) (show (false : Bool) = (bif (o.fText.toList == (⟨#[]⟩ : ByteArray).toList) then true else (bif (o.fKind == 3) then (decide ((o.fText.size : Int) ≤ 24)) else false)) from (by (try rw [cc11]); (try rw [cc12]); first | done | rfl))), rfl, rfl, rfl, rfl, rfl, rfl, rfl, rfl, rfl, rfl, rfl, trivial⟩, HS.out⟩
     clear HF HS a; rintro a w11 ⟨HF, HS⟩; replace HS := Bx.mk HS
     refine ex_then ?_
     refine wp_ret ?_
     refine bp_ret1 HF Tryz.results91 (HF.res rfl) ?_
     have k1 : inB o.fKind 1 7 = true := by simpa using cc3
     have k2 : pathB o.fPath = true := by simpa using cc4
     have k3 : o.toOk = true := by have := cc7; rw [opTo_tree] at this; simpa using this
     have k4 : o.atOk = true := by have := cc10; rw [opAt_tree] at this; simpa using this
     exact ⟨by rw [OpD.ok_mk k1 k2 k3 k4, ← opText_tree], HS.out.bel⟩

theorem spTo_tree (o : OpD) : (bif !(inB o.fKind 1 7) then true else (bif !(pathB o.fPath) then true else (bif (bif (o.fKind == 6) then true else (o.fKind == 7)) then (bif !(pathB o.fTo) then true else false) else (!(o.fTo.toList == (⟨#[]⟩ : ByteArray).toList))))) = !(inB o.fKind 1 7 && pathB o.fPath && o.toOk) := by
  have hr := fun h => pathB_nil (t := o.fTo) h
  unfold OpD.toOk OpD.two
  revert hr
  cases inB o.fKind 1 7 <;> cases pathB o.fPath <;> cases h1 : (o.fKind == (6 : Int)) <;> cases h2 : (o.fKind == (7 : Int)) <;> cases h3 : (o.fTo.toList == (⟨#[]⟩ : ByteArray).toList) <;> cases h4 : pathB o.fTo <;> intro hr <;> first | rfl | exact absurd (hr rfl) (by simp)
theorem spText_tree (o : OpD) : (bif (o.fKind != 3) then (bif (!(o.fText.toList == (⟨#[]⟩ : ByteArray).toList)) then true else (decide ((24 : Int) < (o.fText.size : Int)))) else (decide ((24 : Int) < (o.fText.size : Int)))) = !o.textOk := by
  have hr := fun h => size_nil (t := o.fText) h
  unfold OpD.textOk
  rw [size_le24]
  try rw [bne_int]
  revert hr
  cases h1 : (o.fText.toList == (⟨#[]⟩ : ByteArray).toList) <;> cases h2 : (o.fKind == (3 : Int)) <;> cases h3 : decide ((24 : Int) < (o.fText.size : Int)) <;> intro hr <;> first | rfl | exact absurd (hr rfl) (by simp)
theorem spAt_tree (o : OpD) : (bif (o.fAt == 0) then true else (bif (bif (o.fKind == 3) then true else (o.fKind == 4)) then (inB o.fAt 0 192) else false)) = o.atOk := by
  unfold OpD.atOk OpD.sized
  cases h1 : (o.fKind == (3 : Int)) <;> cases h2 : (o.fKind == (4 : Int)) <;> cases h3 : (o.fAt == (0 : Int)) <;> rfl

theorem specOpOk_any (o : OpD) (w0 : World) (hp : o.fPath.size ≤ 4000000000) (ht : o.fTo.size ≤ 4000000000) (hx : o.fText.size ≤ 4000000000) : Calls Tryz.prog 88 #[.agg #[.int .i64 o.fKind, .string o.fPath, .string o.fTo, .int .i64 o.fAt, .string o.fText]] w0 fun e w' => e = .returned (.bool o.ok) ∧ Below w0.heap.size w0 w' := by
 have HS := Bx.mk (St.start w0)
 refine wc_enter Tryz.func88 rfl Tryz.ntmps88 [(0, .agg #[.int .i64 o.fKind, .string o.fPath, .string o.fTo, .int .i64 o.fAt, .string o.fText])] ⟨rfl, trivial⟩ rfl ?_; intro a HF
 refine wp_sr ?_
 refine wl_box rfl HF rfl (HF.ev rfl) (Z := [.int .i64 o.fKind, .string o.fPath, .string o.fTo, .int .i64 o.fAt, .string o.fText]) rfl rfl rfl rfl HS.out ?_; clear HF HS a; intro a w1 b1 HF HS; replace HS := Bx.mk HS
 refine za HF ?_;clear HF a;intro a HF
 refine wl_ne ?_
 refine wp_seq ?_
 refine wp_join (R := fun a w => Fr 74 a [(0, .agg #[.int .i64 o.fKind, .string o.fPath, .string o.fTo, .int .i64 o.fAt, .string o.fText]), (1, .pointer (some ⟨b1, 0, none⟩)), (2, .bool false), (3, .bool (bif (o.fKind == 6) then true else (o.fKind == 7)))] ∧ St w0 ([boxA b1 5 53 (.agg #[.int .i64 o.fKind, .string o.fPath, .string o.fTo, .int .i64 o.fAt, .string o.fText])]) w) ?_ ?_
 ·skip
  refine wp_region_lit ?_
  refine zy HF (yfa 0 rfl (HF.ev rfl)) ?_;clear HF a;intro a HF
  refine zy HF (ylo (v := .int .i64 o.fKind) rfl (HF.ev rfl) (((HS.out.box 0 rfl).cell 0).trans rfl)) ?_;clear HF a;intro a HF
  refine zy HF (yl_eqlI rfl (HF.ev rfl) (HF.ev rfl)) ?_;clear HF a;intro a HF
  refine zm HF ?_;clear HF a;intro a HF
  refine HF.cases 8 rfl (fun cc1 _ => ?_) fun cc1 _ => ?_
  ·clear HF;rename_i HF
   have dcc1 := eq_of_beq cc1
   refine zk HF ?_;clear HF a;intro a HF
   refine zk HF ?_;clear HF a;intro a HF
   refine zk HF ?_;clear HF a;intro a HF
   refine zy HF (yl_pick_t rfl (HF.ev rfl) (HF.ev rfl)) ?_;clear HF a;intro a HF
   refine za HF ?_;clear HF a;intro a HF
   refine wpList_nil ?_
   exact on_mk ⟨HF.less _ ⟨rfl, rfl, rfl, (congrArg (fun z => some (Value.bool z)) (show (true : Bool) = (bif (o.fKind == 6) then true else (o.fKind == 7)) from (by (try rw [cc1]); first | done | rfl))), trivial⟩, HS.out⟩
  ·clear HF;rename_i HF
   have dcc1 := ne_of_beq_false cc1
   refine zg HF (yfa 0 rfl (HF.ev rfl)) ?_;clear HF a;intro a HF
   refine zg HF (ylo (v := .int .i64 o.fKind) rfl (HF.ev rfl) (((HS.out.box 0 rfl).cell 0).trans rfl)) ?_;clear HF a;intro a HF
   refine zg HF (yl_eqlI rfl (HF.ev rfl) (HF.ev rfl)) ?_;clear HF a;intro a HF
   refine zy HF (yl_pick_f rfl (HF.ev rfl) (HF.ev rfl)) ?_;clear HF a;intro a HF
   refine za HF ?_;clear HF a;intro a HF
   refine wpList_nil ?_
   exact on_mk ⟨HF.less _ ⟨rfl, rfl, rfl, (congrArg (fun z => some (Value.bool z)) (show ((o.fKind == 7) : Bool) = (bif (o.fKind == 6) then true else (o.fKind == 7)) from (by (try rw [cc1]); first | done | rfl))), trivial⟩, HS.out⟩
 clear HF HS a; rintro a w2 ⟨HF, HS⟩; replace HS := Bx.mk HS
 refine ex_then ?_
 refine wp_seq ?_
 refine wp_join (R := fun a w => Fr 74 a [(0, .agg #[.int .i64 o.fKind, .string o.fPath, .string o.fTo, .int .i64 o.fAt, .string o.fText]), (1, .pointer (some ⟨b1, 0, none⟩)), (2, .bool false), (3, .bool (bif (o.fKind == 6) then true else (o.fKind == 7))), (4, .bool (bif (o.fKind == 3) then true else (o.fKind == 4)))] ∧ St w0 ([boxA b1 5 53 (.agg #[.int .i64 o.fKind, .string o.fPath, .string o.fTo, .int .i64 o.fAt, .string o.fText])]) w) ?_ ?_
 ·skip
  refine wp_region_lit ?_
  refine zy HF (yfa 0 rfl (HF.ev rfl)) ?_;clear HF a;intro a HF
  refine zy HF (ylo (v := .int .i64 o.fKind) rfl (HF.ev rfl) (((HS.out.box 0 rfl).cell 0).trans rfl)) ?_;clear HF a;intro a HF
  refine zy HF (yl_eqlI rfl (HF.ev rfl) (HF.ev rfl)) ?_;clear HF a;intro a HF
  refine zm HF ?_;clear HF a;intro a HF
  refine HF.cases 16 rfl (fun cc2 _ => ?_) fun cc2 _ => ?_
  ·clear HF;rename_i HF
   have dcc2 := eq_of_beq cc2
   refine zk HF ?_;clear HF a;intro a HF
   refine zk HF ?_;clear HF a;intro a HF
   refine zk HF ?_;clear HF a;intro a HF
   refine zy HF (yl_pick_t rfl (HF.ev rfl) (HF.ev rfl)) ?_;clear HF a;intro a HF
   refine za HF ?_;clear HF a;intro a HF
   refine wpList_nil ?_
   exact on_mk ⟨HF.less _ ⟨rfl, rfl, rfl, rfl, (congrArg (fun z => some (Value.bool z)) (show (true : Bool) = (bif (o.fKind == 3) then true else (o.fKind == 4)) from (by (try rw [cc2]); first | done | rfl))), trivial⟩, HS.out⟩
  ·clear HF;rename_i HF
   have dcc2 := ne_of_beq_false cc2
   refine zg HF (yfa 0 rfl (HF.ev rfl)) ?_;clear HF a;intro a HF
   refine zg HF (ylo (v := .int .i64 o.fKind) rfl (HF.ev rfl) (((HS.out.box 0 rfl).cell 0).trans rfl)) ?_;clear HF a;intro a HF
   refine zg HF (yl_eqlI rfl (HF.ev rfl) (HF.ev rfl)) ?_;clear HF a;intro a HF
   refine zy HF (yl_pick_f rfl (HF.ev rfl) (HF.ev rfl)) ?_;clear HF a;intro a HF
   refine za HF ?_;clear HF a;intro a HF
   refine wpList_nil ?_
   exact on_mk ⟨HF.less _ ⟨rfl, rfl, rfl, rfl, (congrArg (fun z => some (Value.bool z)) (show ((o.fKind == 4) : Bool) = (bif (o.fKind == 3) then true else (o.fKind == 4)) from (by (try rw [cc2]); first | done | rfl))), trivial⟩, HS.out⟩
 clear HF HS a; rintro a w3 ⟨HF, HS⟩; replace HS := Bx.mk HS
 refine ex_then ?_
 refine wp_seq ?_
 refine wp_seq ?_
 refine wp_join (R := fun a w => Fr 74 a [(0, .agg #[.int .i64 o.fKind, .string o.fPath, .string o.fTo, .int .i64 o.fAt, .string o.fText]), (1, .pointer (some ⟨b1, 0, none⟩)), (2, .bool false), (4, .bool (bif (o.fKind == 3) then true else (o.fKind == 4))), (48, .bool (bif !(inB o.fKind 1 7) then true else (bif !(pathB o.fPath) then true else (bif (bif (o.fKind == 6) then true else (o.fKind == 7)) then (bif !(pathB o.fTo) then true else false) else (!(o.fTo.toList == (⟨#[]⟩ : ByteArray).toList))))))] ∧ St w0 ([boxA b1 5 53 (.agg #[.int .i64 o.fKind, .string o.fPath, .string o.fTo, .int .i64 o.fAt, .string o.fText])]) w) ?_ ?_
 ·skip
  refine wp_region_lit ?_
  refine zy HF (yfa 0 rfl (HF.ev rfl)) ?_;clear HF a;intro a HF
  refine zy HF (ylo (v := .int .i64 o.fKind) rfl (HF.ev rfl) (((HS.out.box 0 rfl).cell 0).trans rfl)) ?_;clear HF a;intro a HF
  refine wl_callB rfl HF rfl (enter_of Tryz.func61 (by kernel_rfl) rfl) (args := #[.int .i64 o.fKind, .int .i64 1, .int .i64 7]) rfl (v := .bool (inB o.fKind 1 7)) (((l6In_any o.fKind 1 7 _).mono fun _ _ h => ⟨h.1, h.2 ▸ Below.refl _ _⟩)) rfl rfl HS.out ?_; clear HF HS a; intro w4 a HS HF; replace HS := Bx.mk HS
  refine zy HF (yl_not rfl (HF.ev rfl)) ?_;clear HF a;intro a HF
  refine zm HF ?_;clear HF a;intro a HF
  refine HF.cases 25 rfl (fun cc3 _ => ?_) fun cc3 _ => ?_
  ·clear HF;rename_i HF
   refine zk HF ?_;clear HF a;intro a HF
   refine zk HF ?_;clear HF a;intro a HF
   refine zk HF ?_;clear HF a;intro a HF
   refine zk HF ?_;clear HF a;intro a HF
   refine zy HF (yl_pick_t rfl (HF.ev rfl) (HF.ev rfl)) ?_;clear HF a;intro a HF
   refine zm HF ?_;clear HF a;intro a HF
   refine zk HF ?_;clear HF a;intro a HF
   refine zk HF ?_;clear HF a;intro a HF
   refine wl_skipU HF rfl rfl rfl rfl rfl ?_;clear HF a;intro a HF
   refine wl_skipU HF rfl rfl rfl rfl rfl ?_;clear HF a;intro a HF
   refine wl_skipU HF rfl rfl rfl rfl rfl ?_;clear HF a;intro a HF
   refine wl_skipU HF rfl rfl rfl rfl rfl ?_;clear HF a;intro a HF
   refine zk HF ?_;clear HF a;intro a HF
   refine zy HF (yl_pick_t rfl (HF.ev rfl) (HF.ev rfl)) ?_;clear HF a;intro a HF
   refine zm HF ?_;clear HF a;intro a HF
   refine zk HF ?_;clear HF a;intro a HF
   refine zk HF ?_;clear HF a;intro a HF
   refine zk HF ?_;clear HF a;intro a HF
   refine wl_skipU HF rfl rfl rfl rfl rfl ?_;clear HF a;intro a HF
   refine wl_skipU HF rfl rfl rfl rfl rfl ?_;clear HF a;intro a HF
   refine wl_skipU HF rfl rfl rfl rfl rfl ?_;clear HF a;intro a HF
   refine zk HF ?_;clear HF a;intro a HF
   refine zy HF (yl_pick_t rfl (HF.ev rfl) (HF.ev rfl)) ?_;clear HF a;intro a HF
   refine wpList_nil ?_
   exact on_mk ⟨HF.less _ ⟨rfl, rfl, rfl, rfl, (congrArg (fun z => some (Value.bool z)) (show (true : Bool) = (bif !(inB o.fKind 1 7) then true else (bif !(pathB o.fPath) then true else (bif (bif (o.fKind == 6) then true else (o.fKind == 7)) then (bif !(pathB o.fTo) then true else false) else (!(o.fTo.toList == (⟨#[]⟩ : ByteArray).toList))))) from (by (try rw [cc3]); first | done | rfl))), trivial⟩, HS.out⟩
  ·clear HF;rename_i HF
   refine zg HF (yfa 1 rfl (HF.ev rfl)) ?_;clear HF a;intro a HF
   refine zg HF (ylo (v := .string o.fPath) rfl (HF.ev rfl) (((HS.out.box 0 rfl).cell 1).trans rfl)) ?_;clear HF a;intro a HF
   refine wl_callBg HF rfl rfl rfl rfl (enter_of Tryz.func132 (by kernel_rfl) rfl) (args := #[.string o.fPath]) rfl (v := .bool (pathB o.fPath)) (specPathOk_any o.fPath _ (by omega)) rfl rfl HS.out ?_; clear HF HS a; intro w5 a HS HF; replace HS := Bx.mk HS
   refine zg HF (yl_not rfl (HF.ev rfl)) ?_;clear HF a;intro a HF
   refine zy HF (yl_pick_f rfl (HF.ev rfl) (HF.ev rfl)) ?_;clear HF a;intro a HF
   refine zm HF ?_;clear HF a;intro a HF
   refine HF.cases 31 rfl (fun cc4 _ => ?_) fun cc4 _ => ?_
   ·clear HF;rename_i HF
    refine zk HF ?_;clear HF a;intro a HF
    refine zk HF ?_;clear HF a;intro a HF
    refine wl_skipU HF rfl rfl rfl rfl rfl ?_;clear HF a;intro a HF
    refine wl_skipU HF rfl rfl rfl rfl rfl ?_;clear HF a;intro a HF
    refine wl_skipU HF rfl rfl rfl rfl rfl ?_;clear HF a;intro a HF
    refine wl_skipU HF rfl rfl rfl rfl rfl ?_;clear HF a;intro a HF
    refine zk HF ?_;clear HF a;intro a HF
    refine zy HF (yl_pick_t rfl (HF.ev rfl) (HF.ev rfl)) ?_;clear HF a;intro a HF
    refine zm HF ?_;clear HF a;intro a HF
    refine zk HF ?_;clear HF a;intro a HF
    refine zk HF ?_;clear HF a;intro a HF
    refine zk HF ?_;clear HF a;intro a HF
    refine wl_skipU HF rfl rfl rfl rfl rfl ?_;clear HF a;intro a HF
    refine wl_skipU HF rfl rfl rfl rfl rfl ?_;clear HF a;intro a HF
    refine wl_skipU HF rfl rfl rfl rfl rfl ?_;clear HF a;intro a HF
    refine zk HF ?_;clear HF a;intro a HF
    refine zy HF (yl_pick_t rfl (HF.ev rfl) (HF.ev rfl)) ?_;clear HF a;intro a HF
    refine wpList_nil ?_
    exact on_mk ⟨HF.less _ ⟨rfl, rfl, rfl, rfl, (congrArg (fun z => some (Value.bool z)) (show (true : Bool) = (bif !(inB o.fKind 1 7) then true else (bif !(pathB o.fPath) then true else (bif (bif (o.fKind == 6) then true else (o.fKind == 7)) then (bif !(pathB o.fTo) then true else false) else (!(o.fTo.toList == (⟨#[]⟩ : ByteArray).toList))))) from (by (try rw [cc3]); (try rw [cc4]); first | done | rfl))), trivial⟩, HS.out⟩
   ·clear HF;rename_i HF
    refine zg HF (yl_move rfl (HF.ev rfl)) ?_;clear HF a;intro a HF
    refine zg HF (yl_move rfl (HF.ev rfl)) ?_;clear HF a;intro a HF
    refine HF.cases 33 rfl (fun cc5 _ => ?_) fun cc5 _ => ?_
    ·clear HF;rename_i HF
     refine zg HF (yfa 2 rfl (HF.ev rfl)) ?_;clear HF a;intro a HF
     refine zg HF (ylo (v := .string o.fTo) rfl (HF.ev rfl) (((HS.out.box 0 rfl).cell 2).trans rfl)) ?_;clear HF a;intro a HF
     refine wl_callBg HF rfl rfl rfl rfl (enter_of Tryz.func132 (by kernel_rfl) rfl) (args := #[.string o.fTo]) rfl (v := .bool (pathB o.fTo)) (specPathOk_any o.fTo _ (by omega)) rfl rfl HS.out ?_; clear HF HS a; intro w6 a HS HF; replace HS := Bx.mk HS
     refine zg HF (yl_not rfl (HF.ev rfl)) ?_;clear HF a;intro a HF
     refine zg HF (yl_pick_t rfl (HF.ev rfl) (HF.ev rfl)) ?_;clear HF a;intro a HF
     refine zy HF (yl_pick_f rfl (HF.ev rfl) (HF.ev rfl)) ?_;clear HF a;intro a HF
     refine zm HF ?_;clear HF a;intro a HF
     refine HF.cases 40 rfl (fun cc6 _ => ?_) fun cc6 _ => ?_
     ·clear HF;rename_i HF
      refine zk HF ?_;clear HF a;intro a HF
      refine zk HF ?_;clear HF a;intro a HF
      refine zk HF ?_;clear HF a;intro a HF
      refine wl_skipU HF rfl rfl rfl rfl rfl ?_;clear HF a;intro a HF
      refine wl_skipU HF rfl rfl rfl rfl rfl ?_;clear HF a;intro a HF
      refine wl_skipU HF rfl rfl rfl rfl rfl ?_;clear HF a;intro a HF
      refine zk HF ?_;clear HF a;intro a HF
      refine zy HF (yl_pick_t rfl (HF.ev rfl) (HF.ev rfl)) ?_;clear HF a;intro a HF
      refine wpList_nil ?_
      exact on_mk ⟨HF.less _ ⟨rfl, rfl, rfl, rfl, (congrArg (fun z => some (Value.bool z)) (show (true : Bool) = (bif !(inB o.fKind 1 7) then true else (bif !(pathB o.fPath) then true else (bif (bif (o.fKind == 6) then true else (o.fKind == 7)) then (bif !(pathB o.fTo) then true else false) else (!(o.fTo.toList == (⟨#[]⟩ : ByteArray).toList))))) from (by (try rw [cc3]); (try rw [cc4]); (try rw [cc5]); (try rw [cc6]); first | done | rfl))), trivial⟩, HS.out⟩
     ·clear HF;rename_i HF
      refine zg HF (yl_move rfl (HF.ev rfl)) ?_;clear HF a;intro a HF
      refine zg HF (yl_not rfl (HF.ev rfl)) ?_;clear HF a;intro a HF
      refine zg HF (yl_move rfl (HF.ev rfl)) ?_;clear HF a;intro a HF
      refine HF.cases 43 rfl (fun cc7 _ => ?_) fun cc7 _ => ?_
      ·clear HF;rename_i HF
       rw [cc5] at cc7; cases cc7
      ·clear HF;rename_i HF
       refine zk HF ?_;clear HF a;intro a HF
       refine zk HF ?_;clear HF a;intro a HF
       refine zk HF ?_;clear HF a;intro a HF
       refine zg HF (yl_pick_f rfl (HF.ev rfl) (HF.ev rfl)) ?_;clear HF a;intro a HF
       refine zy HF (yl_pick_f rfl (HF.ev rfl) (HF.ev rfl)) ?_;clear HF a;intro a HF
       refine wpList_nil ?_
       exact on_mk ⟨HF.less _ ⟨rfl, rfl, rfl, rfl, (congrArg (fun z => some (Value.bool z)) (show (false : Bool) = (bif !(inB o.fKind 1 7) then true else (bif !(pathB o.fPath) then true else (bif (bif (o.fKind == 6) then true else (o.fKind == 7)) then (bif !(pathB o.fTo) then true else false) else (!(o.fTo.toList == (⟨#[]⟩ : ByteArray).toList))))) from (by (try rw [cc3]); (try rw [cc4]); (try rw [cc5]); (try rw [cc6]); (try rw [cc7]); first | done | rfl))), trivial⟩, HS.out⟩
    ·clear HF;rename_i HF
     refine zk HF ?_;clear HF a;intro a HF
     refine zk HF ?_;clear HF a;intro a HF
     refine zk HF ?_;clear HF a;intro a HF
     refine zk HF ?_;clear HF a;intro a HF
     refine zg HF (yl_pick_f rfl (HF.ev rfl) (HF.ev rfl)) ?_;clear HF a;intro a HF
     refine zy HF (yl_pick_f rfl (HF.ev rfl) (HF.ev rfl)) ?_;clear HF a;intro a HF
     refine zm HF ?_;clear HF a;intro a HF
     refine zg HF (yl_move rfl (HF.ev rfl)) ?_;clear HF a;intro a HF
     refine zg HF (yl_not rfl (HF.ev rfl)) ?_;clear HF a;intro a HF
     refine zg HF (yl_move rfl (HF.ev rfl)) ?_;clear HF a;intro a HF
     refine HF.cases 43 rfl (fun cc8 _ => ?_) fun cc8 _ => ?_
     ·clear HF;rename_i HF
      refine zg HF (yfa 2 rfl (HF.ev rfl)) ?_;clear HF a;intro a HF
      refine zg HF (ylo (v := .string o.fTo) rfl (HF.ev rfl) (((HS.out.box 0 rfl).cell 2).trans rfl)) ?_;clear HF a;intro a HF
      refine zg HF (yl_neqS rfl (HF.ev rfl) (HF.ev rfl)) ?_;clear HF a;intro a HF
      refine zg HF (yl_pick_t rfl (HF.ev rfl) (HF.ev rfl)) ?_;clear HF a;intro a HF
      refine zy HF (yl_pick_f rfl (HF.ev rfl) (HF.ev rfl)) ?_;clear HF a;intro a HF
      refine wpList_nil ?_
      exact on_mk ⟨HF.less _ ⟨rfl, rfl, rfl, rfl, (congrArg (fun z => some (Value.bool z)) (show ((!(o.fTo.toList == (⟨#[]⟩ : ByteArray).toList)) : Bool) = (bif !(inB o.fKind 1 7) then true else (bif !(pathB o.fPath) then true else (bif (bif (o.fKind == 6) then true else (o.fKind == 7)) then (bif !(pathB o.fTo) then true else false) else (!(o.fTo.toList == (⟨#[]⟩ : ByteArray).toList))))) from (by (try rw [cc3]); (try rw [cc4]); (try rw [cc5]); (try rw [cc8]); first | done | rfl))), trivial⟩, HS.out⟩
     ·clear HF;rename_i HF
      rw [cc5] at cc8; cases cc8
 clear HF HS a; rintro a w7 ⟨HF, HS⟩; replace HS := Bx.mk HS
 refine ex_then ?_
 refine HF.cases 48 rfl (fun cc9 _ => ?_) fun cc9 _ => ?_
 ·clear HF;rename_i HF
  refine wc_true HF rfl ?_
  refine wp_sr ?_
  refine za HF ?_;clear HF a;intro a HF
  refine wl_ne ?_
  refine wp_ret ?_
  refine ex_then_ret ?_
  refine bp_ret1 HF Tryz.results88 (HF.res rfl) ?_
  have k1 : (inB o.fKind 1 7 && pathB o.fPath && o.toOk) = false := by have := cc9; rw [spTo_tree] at this; cases hX : (inB o.fKind 1 7 && pathB o.fPath && o.toOk) with | false => rfl | true => rw [hX] at this; cases this
  exact ⟨by unfold OpD.ok; rw [k1]; rfl, HS.out.bel⟩
 ·clear HF;rename_i HF
  refine wc_false HF rfl ?_
  refine wp_skip ?_
  refine ex_then ?_
  refine wp_seq ?_
  refine wp_seq ?_
  refine wp_join (R := fun a w => Fr 74 a [(0, .agg #[.int .i64 o.fKind, .string o.fPath, .string o.fTo, .int .i64 o.fAt, .string o.fText]), (1, .pointer (some ⟨b1, 0, none⟩)), (2, .bool false), (4, .bool (bif (o.fKind == 3) then true else (o.fKind == 4))), (48, .bool false), (62, .bool (bif (o.fKind != 3) then (bif (!(o.fText.toList == (⟨#[]⟩ : ByteArray).toList)) then true else (decide ((24 : Int) < (o.fText.size : Int)))) else (decide ((24 : Int) < (o.fText.size : Int)))))] ∧ St w0 ([boxA b1 5 53 (.agg #[.int .i64 o.fKind, .string o.fPath, .string o.fTo, .int .i64 o.fAt, .string o.fText])]) w) ?_ ?_
  ·skip
   refine wp_region_lit ?_
   refine zy HF (yfa 0 rfl (HF.ev rfl)) ?_;clear HF a;intro a HF
   refine zy HF (ylo (v := .int .i64 o.fKind) rfl (HF.ev rfl) (((HS.out.box 0 rfl).cell 0).trans rfl)) ?_;clear HF a;intro a HF
   refine zy HF (yl_neqI rfl (HF.ev rfl) (HF.ev rfl)) ?_;clear HF a;intro a HF
   refine zm HF ?_;clear HF a;intro a HF
   refine HF.cases 52 rfl (fun cc10 _ => ?_) fun cc10 _ => ?_
   ·clear HF;rename_i HF
    have dcc10 := bne_iff_ne.1 cc10
    refine zg HF (yfa 4 rfl (HF.ev rfl)) ?_;clear HF a;intro a HF
    refine zg HF (ylo (v := .string o.fText) rfl (HF.ev rfl) (((HS.out.box 0 rfl).cell 4).trans rfl)) ?_;clear HF a;intro a HF
    refine zg HF (yl_neqS rfl (HF.ev rfl) (HF.ev rfl)) ?_;clear HF a;intro a HF
    refine zy HF (yl_pick_t rfl (HF.ev rfl) (HF.ev rfl)) ?_;clear HF a;intro a HF
    refine zm HF ?_;clear HF a;intro a HF
    refine HF.cases 57 rfl (fun cc11 _ => ?_) fun cc11 _ => ?_
    ·clear HF;rename_i HF
     refine zk HF ?_;clear HF a;intro a HF
     refine zk HF ?_;clear HF a;intro a HF
     refine zk HF ?_;clear HF a;intro a HF
     refine zk HF ?_;clear HF a;intro a HF
     refine zy HF (yl_pick_t rfl (HF.ev rfl) (HF.ev rfl)) ?_;clear HF a;intro a HF
     refine wpList_nil ?_
     exact on_mk ⟨HF.less _ ⟨rfl, rfl, rfl, rfl, rfl, (congrArg (fun z => some (Value.bool z)) (show (true : Bool) = (bif (o.fKind != 3) then (bif (!(o.fText.toList == (⟨#[]⟩ : ByteArray).toList)) then true else (decide ((24 : Int) < (o.fText.size : Int)))) else (decide ((24 : Int) < (o.fText.size : Int)))) from (by (try rw [cc10]); (try rw [cc11]); first | done | rfl))), trivial⟩, HS.out⟩
    ·clear HF;rename_i HF
     refine zg HF (yfa 4 rfl (HF.ev rfl)) ?_;clear HF a;intro a HF
     refine zg HF (ylo (v := .string o.fText) rfl (HF.ev rfl) (((HS.out.box 0 rfl).cell 4).trans rfl)) ?_;clear HF a;intro a HF
     refine zg HF (yl_lenS rfl (HF.ev rfl) (by kernel_rfl)) ?_;clear HF a;intro a HF
     refine zg HF (yl_gtrI rfl (HF.ev rfl) (HF.ev rfl)) ?_;clear HF a;intro a HF
     refine zy HF (yl_pick_f rfl (HF.ev rfl) (HF.ev rfl)) ?_;clear HF a;intro a HF
     refine wpList_nil ?_
     exact on_mk ⟨HF.less _ ⟨rfl, rfl, rfl, rfl, rfl, (congrArg (fun z => some (Value.bool z)) (show ((decide ((24 : Int) < (o.fText.size : Int))) : Bool) = (bif (o.fKind != 3) then (bif (!(o.fText.toList == (⟨#[]⟩ : ByteArray).toList)) then true else (decide ((24 : Int) < (o.fText.size : Int)))) else (decide ((24 : Int) < (o.fText.size : Int)))) from (by (try rw [cc10]); (try rw [cc11]); first | done | rfl))), trivial⟩, HS.out⟩
   ·clear HF;rename_i HF
    have dcc10 := bne_eq_false_iff_eq.1 cc10
    refine zk HF ?_;clear HF a;intro a HF
    refine zk HF ?_;clear HF a;intro a HF
    refine zk HF ?_;clear HF a;intro a HF
    refine zy HF (yl_pick_f rfl (HF.ev rfl) (HF.ev rfl)) ?_;clear HF a;intro a HF
    refine zm HF ?_;clear HF a;intro a HF
    refine zg HF (yfa 4 rfl (HF.ev rfl)) ?_;clear HF a;intro a HF
    refine zg HF (ylo (v := .string o.fText) rfl (HF.ev rfl) (((HS.out.box 0 rfl).cell 4).trans rfl)) ?_;clear HF a;intro a HF
    refine zg HF (yl_lenS rfl (HF.ev rfl) (by kernel_rfl)) ?_;clear HF a;intro a HF
    refine zg HF (yl_gtrI rfl (HF.ev rfl) (HF.ev rfl)) ?_;clear HF a;intro a HF
    refine zy HF (yl_pick_f rfl (HF.ev rfl) (HF.ev rfl)) ?_;clear HF a;intro a HF
    refine wpList_nil ?_
    exact on_mk ⟨HF.less _ ⟨rfl, rfl, rfl, rfl, rfl, (congrArg (fun z => some (Value.bool z)) (show ((decide ((24 : Int) < (o.fText.size : Int))) : Bool) = (bif (o.fKind != 3) then (bif (!(o.fText.toList == (⟨#[]⟩ : ByteArray).toList)) then true else (decide ((24 : Int) < (o.fText.size : Int)))) else (decide ((24 : Int) < (o.fText.size : Int)))) from (by (try rw [cc10]); first | done | rfl))), trivial⟩, HS.out⟩
  clear HF HS a; rintro a w8 ⟨HF, HS⟩; replace HS := Bx.mk HS
  refine ex_then ?_
  refine HF.cases 62 rfl (fun cc12 _ => ?_) fun cc12 _ => ?_
  ·clear HF;rename_i HF
   refine wc_true HF rfl ?_
   refine wp_sr ?_
   refine za HF ?_;clear HF a;intro a HF
   refine wl_ne ?_
   refine wp_ret ?_
   refine ex_then_ret ?_
   refine bp_ret1 HF Tryz.results88 (HF.res rfl) ?_
   have k1 : (inB o.fKind 1 7 && pathB o.fPath && o.toOk) = true := by have := cc9; rw [spTo_tree] at this; simpa using this
   have k4 : o.textOk = false := by have := cc12; rw [spText_tree] at this; simpa using this
   exact ⟨by unfold OpD.ok; rw [k4, Bool.and_false], HS.out.bel⟩
  ·clear HF;rename_i HF
   refine wc_false HF rfl ?_
   refine wp_skip ?_
   refine ex_then ?_
   refine wp_seq ?_
   refine wp_join (R := fun a w => Fr 74 a [(0, .agg #[.int .i64 o.fKind, .string o.fPath, .string o.fTo, .int .i64 o.fAt, .string o.fText]), (1, .pointer (some ⟨b1, 0, none⟩)), (2, .bool (bif (o.fAt == 0) then true else (bif (bif (o.fKind == 3) then true else (o.fKind == 4)) then (inB o.fAt 0 192) else false))), (48, .bool false), (62, .bool false)] ∧ St w0 ([boxA b1 5 53 (.agg #[.int .i64 o.fKind, .string o.fPath, .string o.fTo, .int .i64 o.fAt, .string o.fText])]) w) ?_ ?_
   ·skip
    refine wp_region_lit ?_
    refine zy HF (yfa 3 rfl (HF.ev rfl)) ?_;clear HF a;intro a HF
    refine zy HF (ylo (v := .int .i64 o.fAt) rfl (HF.ev rfl) (((HS.out.box 0 rfl).cell 3).trans rfl)) ?_;clear HF a;intro a HF
    refine zy HF (yl_eqlI rfl (HF.ev rfl) (HF.ev rfl)) ?_;clear HF a;intro a HF
    refine zm HF ?_;clear HF a;intro a HF
    refine HF.cases 66 rfl (fun cc13 _ => ?_) fun cc13 _ => ?_
    ·clear HF;rename_i HF
     have dcc13 := eq_of_beq cc13
     refine zk HF ?_;clear HF a;intro a HF
     refine zk HF ?_;clear HF a;intro a HF
     refine wl_skipU HF rfl rfl rfl rfl rfl ?_;clear HF a;intro a HF
     refine wl_skipU HF rfl rfl rfl rfl rfl ?_;clear HF a;intro a HF
     refine wl_skipU HF rfl rfl rfl rfl rfl ?_;clear HF a;intro a HF
     refine zk HF ?_;clear HF a;intro a HF
     refine zy HF (yl_pick_t rfl (HF.ev rfl) (HF.ev rfl)) ?_;clear HF a;intro a HF
     refine za HF ?_;clear HF a;intro a HF
     refine wpList_nil ?_
     exact on_mk ⟨HF.less _ ⟨rfl, rfl, (congrArg (fun z => some (Value.bool z)) (show (true : Bool) = (bif (o.fAt == 0) then true else (bif (bif (o.fKind == 3) then true else (o.fKind == 4)) then (inB o.fAt 0 192) else false)) from (by (try rw [cc13]); first | done | rfl))), rfl, rfl, trivial⟩, HS.out⟩
    ·clear HF;rename_i HF
     have dcc13 := ne_of_beq_false cc13
     refine zg HF (yl_move rfl (HF.ev rfl)) ?_;clear HF a;intro a HF
     refine zg HF (yl_move rfl (HF.ev rfl)) ?_;clear HF a;intro a HF
     refine HF.cases 68 rfl (fun cc14 _ => ?_) fun cc14 _ => ?_
     ·clear HF;rename_i HF
      refine zg HF (yfa 3 rfl (HF.ev rfl)) ?_;clear HF a;intro a HF
      refine zg HF (ylo (v := .int .i64 o.fAt) rfl (HF.ev rfl) (((HS.out.box 0 rfl).cell 3).trans rfl)) ?_;clear HF a;intro a HF
      refine wl_callBg HF rfl rfl rfl rfl (enter_of Tryz.func61 (by kernel_rfl) rfl) (args := #[.int .i64 o.fAt, .int .i64 0, .int .i64 192]) rfl (v := .bool (inB o.fAt 0 192)) (((l6In_any o.fAt 0 192 _).mono fun _ _ h => ⟨h.1, h.2 ▸ Below.refl _ _⟩)) rfl rfl HS.out ?_; clear HF HS a; intro w9 a HS HF; replace HS := Bx.mk HS
      refine zg HF (yl_pick_t rfl (HF.ev rfl) (HF.ev rfl)) ?_;clear HF a;intro a HF
      refine zy HF (yl_pick_f rfl (HF.ev rfl) (HF.ev rfl)) ?_;clear HF a;intro a HF
      refine za HF ?_;clear HF a;intro a HF
      refine wpList_nil ?_
      exact on_mk ⟨HF.less _ ⟨rfl, rfl, (congrArg (fun z => some (Value.bool z)) (show (inB o.fAt 0 192 : Bool) = (bif (o.fAt == 0) then true else (bif (bif (o.fKind == 3) then true else (o.fKind == 4)) then (inB o.fAt 0 192) else false)) from (by (try rw [cc13]); (try rw [cc14]); first | done | rfl))), rfl, rfl, trivial⟩, HS.out⟩
     ·clear HF;rename_i HF
      refine zk HF ?_;clear HF a;intro a HF
      refine zk HF ?_;clear HF a;intro a HF
      refine zk HF ?_;clear HF a;intro a HF
      refine zg HF (yl_pick_f rfl (HF.ev rfl) (HF.ev rfl)) ?_;clear HF a;intro a HF
      refine zy HF (yl_pick_f rfl (HF.ev rfl) (HF.ev rfl)) ?_;clear HF a;intro a HF
      refine za HF ?_;clear HF a;intro a HF
      refine wpList_nil ?_
      exact on_mk ⟨HF.less _ ⟨rfl, rfl, (congrArg (fun z => some (Value.bool z)) (show (false : Bool) = (bif (o.fAt == 0) then true else (bif (bif (o.fKind == 3) then true else (o.fKind == 4)) then (inB o.fAt 0 192) else false)) from (by (try rw [cc13]); (try rw [cc14]); first | done | rfl))), rfl, rfl, trivial⟩, HS.out⟩
   clear HF HS a; rintro a w10 ⟨HF, HS⟩; replace HS := Bx.mk HS
   refine ex_then ?_
   refine wp_ret ?_
   refine bp_ret1 HF Tryz.results88 (HF.res rfl) ?_
   have k1 : (inB o.fKind 1 7 && pathB o.fPath && o.toOk) = true := by have := cc9; rw [spTo_tree] at this; simpa using this
   have k4 : o.textOk = true := by have := cc12; rw [spText_tree] at this; simpa using this
   exact ⟨by rw [OpD.ok_mk2 (by simpa using k1) k4, ← spAt_tree], HS.out.bel⟩

end Go.Proofs.YtoaopmkbfifhaaaGreatDoor
