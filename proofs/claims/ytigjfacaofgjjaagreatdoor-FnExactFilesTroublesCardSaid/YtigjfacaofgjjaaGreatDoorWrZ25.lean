/- A part of the proof in YtigjfacaofgjjaaGreatDoorWrZ33. -/
import Derived.Shelf.Slices.Cells
import Derived.Shelf.Slices.Delete
import Derived.Shelf.Slices.Empties
import Derived.Shelf.Slices.Turned
import Derived.Shelf.Spec.SlicesGrow
import Derived.Shelf.Spec.SlicesInsert
import Derived.Shelf.Spec.SlicesInsertGrow
import Derived.Test.YtigjfacaofgjjaaGreatDoorWrZ24
namespace Go.Proofs.YtigjfacaofgjjaaGreatDoor
set_option linter.unusedVariables false
set_option linter.unusedSimpArgs false
set_option maxHeartbeats 1000000
set_option maxRecDepth 100000
open Go.RowKit
open Go.RowKit
def Zd.zero : Zd := ⟨0, 0, 0, ⟨PtrD.zero, 0, 0⟩⟩
def Xj (ns : List (Option Zd)) (k : Int) : Zd := if 0 ≤ k then (ns.getD k.toNat none).getD Zd.zero else Zd.zero
def ZaH (ns : List (Option Zd)) (k : Int) : Bool := decide (0 ≤ k) && (ns.getD k.toNat none).isSome
theorem Zet {ns : List (Option Zd)} {k : Nat} (h : ns.length ≤ k) : ns.getD k none = none := by
  rw [List.getD_eq_getElem?_getD, List.getElem?_eq_none h]; rfl
theorem Zeu {ns : List (Option Zd)} {k : Int} (h : k < 0 ∨ ns.getD k.toNat none = none) : Xj ns k = Zd.zero ∧ ZaH ns k = false := by
  unfold Xj ZaH;rcases h with h | h
  · rw [if_neg (by omega), decide_eq_false (by omega)]; exact ⟨rfl, rfl⟩
  · rw [h]
    constructor
    · split <;> rfl
    · simp
theorem Zev {ns : List (Option Zd)} {k : Int} {n : Zd} (h0 : 0 ≤ k) (h : ns.getD k.toNat none = some n) : Xj ns k = n ∧ ZaH ns k = true := by
  unfold Xj ZaH;rw [if_pos h0, decide_eq_true h0, h]; exact ⟨rfl, rfl⟩
theorem Zgu {ns : List (Option Zd)} {k : Nat} : ZaH ns (k : Int) = ZX ns k := by
  unfold ZaH ZX;rw [decide_eq_true (by omega), Int.toNat_natCast]; rfl
theorem Zkj {ns : List (Option Zd)} {k : Nat} {n : Zd} (h : ns.getD k none = some n) : Xj ns (k : Int) = n := (Zev (by omega) (by rw [Int.toNat_natCast]; exact h)).1
noncomputable def YC (st : Zb) (n : Zd) : ByteArray × Bool := match (leavesF st n.fTree).bind (blobL st) with
  | none => (ByteArray.empty, false)
  | some s => (s, (s.size : Int) == n.fSize)
theorem UT {st : Zb} {n : Zd} (h : leavesF st n.fTree = none) : YC st n = (ByteArray.empty, false) := by unfold YC; rw [h]; rfl
theorem QF {st : Zb} {n : Zd} {l : List PtrD} (h : leavesF st n.fTree = some l) (hb : blobL st l = none) : YC st n = (ByteArray.empty, false) := by
  unfold YC; rw [h]; simp only [Option.bind_some]; rw [hb]
theorem Vx {st : Zb} {n : Zd} {l : List PtrD} {s : ByteArray} (h : leavesF st n.fTree = some l) (hb : blobL st l = some s) : YC st n = (s, (s.size : Int) == n.fSize) := by
  unfold YC; rw [h]; simp only [Option.bind_some]; rw [hb]
theorem ZfM {st : Zb} {n : Zd} : Qd st n = bif (YC st n).2 then entsG (YC st n).1 else none := by
  cases h : leavesF st n.fTree with
  | none => rw [ZbZ h, UT h]; rfl
  | some l =>
    cases hb : blobL st l with
    | none => rw [Zb0 h hb, QF h hb]; rfl
    | some s =>
      rw [Vx h hb]
      by_cases hs : (s.size : Int) = n.fSize
      · rw [Zbj h hb hs, beq_iff_eq.2 hs]; rfl
      · rw [Zb1 h hb hs, beq_eq_false_iff_ne.2 hs]; rfl
def Vy (w : World) (f : Int → Option Value) (k : Nat) (es : List Za) : Prop := ∃ ao cp, (f (k : Int)).getD (.slice none 0 0) = .slice ao es.length cp ∧ Rd Za.cells 2 w ao es.length es
theorem Vy.below {w w' : World} {f : Int → Option Value} {k : Nat} {es : List Za} (h : Vy w f k es) (hb : Below w.heap.size w w') : Vy w' f k es := by
  obtain ⟨ao, cp, h1, h2⟩ := h;exact ⟨ao, cp, h1, h2.below hb⟩
theorem Vy.none (w : World) (f : Int → Option Value) (k : Nat) (h : f (k : Int) = .none) : Vy w f k [] := ⟨.none, 0, by rw [h]; rfl, Zjy _ _ _ _⟩
def ZiI (b : Nat) (st : Zb) (t : ZL) (ns : List (Option Zd)) (w : World) : Prop := ∃ (pst : Value) (ao : Option Addr) (bm : Nat) (f : Int → Option Value),
  Box w b 10 113 (.agg #[pst, .int .i64 t.fRoot.fAt, .int .i64 t.fRoot.fBirth, .int .i64 t.fRoot.fSize, .int .i64 t.fRoot.fSum, .int .i64 t.fRoot.fLevel, .int .i64 t.fDepth, .int .i64 t.fMany, .slice ao ns.length ns.length, .map (some bm)]) ∧ Z7 ao ns w ∧ ZcY w bm f ∧ ∀ k : Nat, Vy w f k (Ze st ns k)
theorem ZiI.below {b : Nat} {st : Zb} {t : ZL} {ns : List (Option Zd)} {w w' : World} (h : ZiI b st t ns w) (hb : Below w.heap.size w w') : ZiI b st t ns w' := by
  obtain ⟨pst, ao, bm, f, h1, h2, h3, h4⟩ := h;exact ⟨pst, ao, bm, f, h1.below hb (Nat.le_refl _), h2.below hb, h3.below hb, fun k => (h4 k).below hb⟩
open Go.RowKit
def ZlN (l : List Nat) : List Int := l.map fun (k : Nat) => (k : Int)
theorem ZfN (l : List Nat) : (ZlN l).length = l.length := List.length_map ..
def ZhM (fn : Int → Option Value) (X : List Nat) : Prop := ∀ k : Int, 0 ≤ k → (fn k).getD (.int .i64 0) = .int .i64 ((X.count k.toNat : Nat) : Int)
theorem ZhM.none : ZhM (fun _ => none) [] := fun k _ => rfl
theorem ZhM.upd {fn : Int → Option Value} {X : List Nat} (h : ZhM fn X) {id : Int} (hid : 0 ≤ id) : ZhM (QJ fn id (.int .i64 (((X.count id.toNat : Nat) : Int) + 1))) (X ++ [id.toNat]) := fun k hk => by
  by_cases e : k = id
  · subst e
    rw [V0, Option.getD_some, List.count_append, List.count_singleton_self]; rfl
  · rw [Q4 e, h k hk, List.count_append, List.count_eq_zero.2 (fun hm : k.toNat ∈ [id.toNat] => e (by have := List.mem_singleton.1 hm; omega)), Nat.add_zero]
section
variable (st : Zb) (ns : List (Option Zd))
structure LO (Q : List Nat) (p : Nat) (fn : Int → Option Value) (tl : List Int) : Prop where
  qi : LinkP.QI (kdN st ns) (isFN ns) (ZX ns) Q p
  run : ZmB st ns = LinkP.bfsRun (kdN st ns) (isFN ns) (ZX ns) (17 - p) Q p
  tl : tl = ZlN (Q.drop p)
  nm : ZhM fn ((Q.take p).flatMap (kdN st ns))
  q16 : Q.length ≤ 16
structure LJ (Q : List Nat) (p j : Nat) (fn : Int → Option Value) (tl : List Int) : Prop where
  qi : LinkP.QI (kdN st ns) (isFN ns) (ZX ns) Q p
  run : ZmB st ns = LinkP.bfsRun (kdN st ns) (isFN ns) (ZX ns) (17 - p) Q p
  lt : p < Q.length
  q16 : Q.length ≤ 16
  tl : tl = ZlN ((Q ++ ((kdN st ns (Q.getD p 0)).take j).filter (isFN ns)).drop p)
  ok : ∀ x ∈ (kdN st ns (Q.getD p 0)).take j, ZX ns x = true
  nd : (Q ++ ((kdN st ns (Q.getD p 0)).take j).filter (isFN ns)).Nodup
  nm : ZhM fn ((Q.take p).flatMap (kdN st ns) ++ (kdN st ns (Q.getD p 0)).take j)
end
section
variable {st : Zb} {ns : List (Option Zd)}
theorem LO.start (H : Y1 ns) (h0 : isFN ns 0 = true) : LO st ns [0] 0 (fun _ => none) [0] := ⟨LinkP.QI.start, rfl, rfl, ZhM.none, by decide⟩
theorem LO.row {Q : List Nat} {p : Nat} {fn : Int → Option Value} {tl : List Int} (h : LO st ns Q p fn tl) (hp : 0 < tl.length) : LJ st ns Q p 0 fn tl := by
  have hlt : p < Q.length := by
    rw [h.tl, ZfN, List.length_drop] at hp
    omega
  refine ⟨h.qi, h.run, hlt, h.q16, ?_, fun x hx => (by cases hx), ?_, ?_⟩
  · rw [List.take_zero, List.filter_nil, List.append_nil]; exact h.tl
  · rw [List.take_zero, List.filter_nil, List.append_nil]; exact h.qi.nd
  · rw [List.take_zero, List.append_nil]; exact h.nm
theorem ZnG {Q : List Nat} {p j : Nat} (hj : j < (Ze st ns (Q.getD p 0)).length) : j < (kdN st ns (Q.getD p 0)).length ∧ (kdN st ns (Q.getD p 0)).take (j + 1) = (kdN st ns (Q.getD p 0)).take j ++ [((Ze st ns (Q.getD p 0)).getD j Za.zero).fId.toNat] ∧ 1 ≤ ((Ze st ns (Q.getD p 0)).getD j Za.zero).fId := by
  have hl : j < (kdN st ns (Q.getD p 0)).length := by unfold kdN; rw [List.length_map]; exact hj
  refine ⟨hl, ?_, (Y8 (VX _) (Vv hj)).2.1⟩;rw [List.take_succ_eq_append_getElem hl]
  congr 2
  refine (List.getElem?_eq_some_iff.1 (?_ : (kdN st ns (Q.getD p 0))[j]? = some _)).2;unfold kdN;generalize Ze st ns (Q.getD p 0) = L at hj;rw [List.getElem?_map, List.getD_eq_getElem?_getD, List.getElem?_eq_getElem hj]; rfl
theorem ZhN {l : List Nat} {k : Nat} {x : Nat} (h : x ∈ l.take k) : x ∈ l := List.mem_of_mem_take h
theorem LJ.bad {Q : List Nat} {p j : Nat} {fn : Int → Option Value} {tl : List Int} (h : LJ st ns Q p j fn tl) (hj : j < (Ze st ns (Q.getD p 0)).length) (hb : ZX ns ((Ze st ns (Q.getD p 0)).getD j Za.zero).fId.toNat = false) : Zlu st ns = false := by
  obtain ⟨h1, h2, _⟩ := ZnG hj;refine Zim ?_;have h16 := h.q16;have hlt := h.lt;obtain ⟨m, hm⟩ : ∃ m, 17 - p = m + 1 := ⟨16 - p, by omega⟩;rw [h.run, hm, LinkP.bfs_bad h.lt fun hg => ?_];have hx : ((Ze st ns (Q.getD p 0)).getD j Za.zero).fId.toNat ∈ (kdN st ns (Q.getD p 0)).take (j + 1) := by rw [h2]; simp
  rw [hg.1 _ (ZhN hx)] at hb; cases hb
theorem LJ.len {Q : List Nat} {p j : Nat} {fn : Int → Option Value} {tl : List Int} (h : LJ st ns Q p j fn tl) : tl.length ≤ 16 + 12 := by
  have h12 := (Qu (VX (st := st) (ns := ns) (Q.getD p 0))).2;have h1 : (((kdN st ns (Q.getD p 0)).take j).filter (isFN ns)).length ≤ 12 := by
    refine Nat.le_trans (List.length_filter_le _ _) ?_;rw [List.length_take]; unfold kdN; rw [List.length_map]; omega
  have := h.q16;rw [h.tl, ZfN, List.length_drop, List.length_append]; omega
theorem Qv (H : Y1 ns) {k : Nat} {n : Zd} (h : ns.getD k none = some n) : (n.fKind == 2) = isFN ns k := by
  rw [VV h];have := (Zd.ok_is (H.ok k n h)).small.kind;rcases this with e | e <;> rw [e] <;> rfl
end
open Go.RowKit
theorem Zkk {k a b : Int} (h : inB k a b = false) : k < a ∨ b < k := by
  by_cases h1 : a ≤ k
  · by_cases h2 : k ≤ b
    · rw [ZkA h1 h2] at h; cases h
    · omega
  · omega
theorem ZlO {ns : List (Option Zd)} {k : Int} (h : inB k 0 ((ns.length : Int) - 1) = false) : k < 0 ∨ ns.getD k.toNat none = none := by
  by_cases h0 : k < 0
  · exact .inl h0
  · refine .inr (Zet ?_)
    have := Zkk h
    omega
theorem ZiJ (aoN : Option Addr) (ns : List (Option Zd)) (k : Int) (w0 : World) (h16 : ns.length ≤ 16) (hN : Z7 aoN ns w0) : Calls Tryz.prog 130 #[.slice aoN ns.length ns.length, .int .i64 k] w0 fun e w' => e = .returned (.tuple #[nV (Xj ns k), .bool (ZaH ns k)]) ∧ Below w0.heap.size w0 w' := by
 obtain ⟨g5, o5, av5, r5, hal, hlk⟩ := hN.look; have RN := Bx.mk r5; clear r5;have HS := Bx.mk (St.start w0);refine Zk Tryz.func130 rfl Tryz.ntmps130 [(0, .slice aoN ns.length ns.length), (1, .int .i64 k)] ⟨rfl, rfl, trivial⟩ rfl ?_;refine xsr ?_;intro a HF;refine yal z10 HF HS ?_;clear HF HS a;intro a w1 b1 HF HS;revert a;refine xr 1 rfl<|xne<|xsq<|xsr<|xr 2 rfl<|xy rfl (vn 108 1 rfl)<|xy rfl (fun a HF=>YN rfl (HF.ev rfl) (HF.ev rfl) (QQ (by omega))) ?_;intro a HF;refine ycB ((Z2 k 0 ((ns.length : Int) - 1) _).mono fun _ _ h => ⟨h.1, h.2 ▸ Below.refl _ _⟩) HF Tryz.func86 HS ?_; clear HF HS a; intro w2 a HS HF;revert a;refine xr 2 rfl<|xcs 12 rfl (fun cc1=>?_) fun cc1=>?_
 have hin : inB k 0 ((ns.length : Int) - 1) = false := by simpa using cc1
 refine xr 6 rfl<|xne<|xct rfl<|xsr<|xy rfl (vb z10 rfl) ?_;intro a HF;refine yst HF HS 0 ?_;clear HS;intro w3 HS
 try dsimp only [List.set] at HS
 revert a;refine xr 1 rfl<|xne<|xre<|xtr ?_;intro a HF;refine ZS HF Tryz.results130 (HF.resBox rfl (HS.out.box 0 rfl) (by kernel_rfl)) (HF.res rfl) ?_;have hz := Zeu (ns := ns) (k := k) (ZlO hin);exact ⟨by rw [hz.1, hz.2] <;> rfl, HS.out.bel⟩;have hin : inB k 0 ((ns.length : Int) - 1) = true := by simpa using cc1
 have hkk := ZB hin;refine xr 2 rfl<|xy rfl (fun a HF=>Xx (e := 108) (i := k.toNat) (size := 1) rfl (HF.ev rfl) (HF.ev rfl) (by kernel_rfl) (by omega) (by omega) (RN.out.ao k.toNat (by omega))) ?_;rcases hlk k.toNat (by omega) with ⟨hn2, ha2⟩ | ⟨n2, bn2, hn2, ha2, hbn2⟩;refine xy rfl (fun a HF=>ylo (v := .pointer none) rfl (HF.ev rfl) (RN.out.elem1 HS.out ha2 rfl))<|xy rfl (fun a HF=>show Yl _ _ _ _ (.bool true) from Zc8 (e := 69) (p := none) rfl (HF.ev rfl) (HF.ev rfl) (by kernel_rfl))<|xr 1 rfl<|xne<|xct rfl<|xsr<|xy rfl (vb z10 rfl) ?_;intro a HF;refine yst HF HS 0 ?_;clear HS;intro w4 HS
 try dsimp only [List.set] at HS
 revert a;refine xr 1 rfl<|xne<|xre<|xtr ?_;intro a HF;refine ZS HF Tryz.results130 (HF.resBox rfl (HS.out.box 0 rfl) (by kernel_rfl)) (HF.res rfl) ?_;have hz := Zeu (ns := ns) (k := k) (.inr hn2);exact ⟨by rw [hz.1, hz.2] <;> rfl, HS.out.bel⟩;have HBN2 := Bx.mk hbn2; clear hbn2;refine xy rfl (fun a HF=>ylo (v := .pointer (some ⟨bn2, 0, none⟩)) rfl (HF.ev rfl) (RN.out.elem1 HS.out ha2 rfl))<|xy rfl (fun a HF=>show Yl _ _ _ _ (.bool false) from Zc8 (e := 69) (p := (some ⟨bn2, 0, none⟩)) rfl (HF.ev rfl) (HF.ev rfl) (by kernel_rfl))<|xr 1 rfl<|xne<|xcf rfl<|xsk<|xet<|xsr<|xr 2 rfl<|xy rfl (fun a HF=>Xx (e := 108) (i := k.toNat) (size := 1) rfl (HF.ev rfl) (HF.ev rfl) (by kernel_rfl) (by omega) (by omega) (RN.out.ao k.toNat (by omega)))<|xy rfl (fun a HF=>ylo (v := .pointer (some ⟨bn2, 0, none⟩)) rfl (HF.ev rfl) (RN.out.elem1 HS.out ha2 rfl))<|xr 1 rfl<|xy rfl (fun a HF=>ylr (cs := nL n2) rfl (HF.ev rfl) ((HBN2.out.below HS.out.bel (Nat.le_refl _)).sub 0 10)) ?_;intro a HF;refine yst HF HS 0 ?_;clear HS;intro w5 HS
 try dsimp only [List.set] at HS
 revert a;refine xr 1 rfl<|xne<|xre ?_;intro a HF;refine ZS HF Tryz.results130 (HF.resBox rfl (HS.out.box 0 rfl) (by kernel_rfl)) (HF.res rfl) ?_;have hz := Zev (ns := ns) (k := k) (by omega) hn2;exact ⟨by rw [hz.1, hz.2] <;> rfl, HS.out.bel⟩
theorem Zbw {st : Zb} (p : PtrD) : (Zr st p).size ≤ 128 := by
  cases hh : p.hole with
  | true => rw [JI hh]; exact Nat.zero_le _
  | false =>
    cases hf : Qj p (Vg st p) with
    | false => rw [ZdN hh hf]; exact Nat.zero_le _
    | true =>
      rw [VN hh hf];unfold Qj at hf;simp only [Bool.and_eq_true, beq_iff_eq] at hf;have h := hf.1;unfold PtrD.ok at h;rw [hh] at h;simp only [Bool.false_or, Bool.and_eq_true] at h;have := (ZB h.1.1.2).2
      omega
theorem Ud {s : ByteArray} (h : (s.toList == (⟨#[]⟩ : ByteArray).toList) = false) (h0 : s.size = 0) : False := by
  have := ZgT h
  omega
theorem Zew (a0 : Option Addr) (c0 : Nat) (a1 : Option Addr) (c1 : Nat) (a2 : Option Addr) (c2 : Nat) (a4 : Option Addr) (c4 : Nat) (a6 : Option Addr) (c6 : Nat) (st : Zb) (n : Zd) (b : Nat) (w0 : World) (hT : Qg w0) (hM : Je w0) (hE : Jn w0) (hB : Box w0 b 8 40 (sV a0 c0 a1 c1 a2 c2 a4 c4 a6 c6 st)) (hR : Rd Zl 1 w0 a0 st.fRows.length st.fRows) (hrow : Yq st) : Calls Tryz.prog 160 #[.pointer (some ⟨b, 0, none⟩), nV n] w0 fun e w' => e = .returned (.tuple #[.string (YC st n).1, .bool (YC st n).2]) ∧ Below w0.heap.size w0 w' := by
 have HT := Bx.mk hT; have HM := Bx.mk hM; have HE := Bx.mk hE; have HB := Bx.mk hB; have HR := Bx.mk hR; clear hT hM hE hB hR;have HS := Bx.mk (St.start w0);refine Zk Tryz.func160 rfl Tryz.ntmps160 [(0, .pointer (some ⟨b, 0, none⟩)), (1, nV n)] ⟨rfl, rfl, trivial⟩ rfl ?_;refine xsr ?_;intro a HF;refine ybx HF HS ?_;clear HF HS a;intro a w1 b1 HF HS;revert a;refine xr 2 rfl<|xne<|xsr<|xr 1 rfl<|xy rfl (vf 3 rfl)<|xy rfl (vw HS.out 0 7 rfl rfl) ?_;intro a HF;refine yc (UR a0 c0 a1 c1 a2 c2 a4 c4 a6 c6 st n.fTree b _ (HT.out.below HS.out.bel) (HM.out.below HS.out.bel) (HE.out.below HS.out.bel) (HB.out.below HS.out.bel (Nat.le_refl _)) (HR.out.below HS.out.bel) hrow) HF Tryz.func121 ?_;rintro _ w2 (⟨l, hlf, ao, rfl, hs1⟩ | ⟨hlf, rfl, hb⟩);refine ⟨_, rfl, ?_⟩; replace HS := Bx.mk (HS.out.add hs1);clear hs1 HF a;intro a HF
 try dsimp only [List.eraseIdx] at HS
 revert a;refine xr 5 rfl<|xne<|xsq<|xsr<|xr 2 rfl<|xne<|xcf rfl<|xsk<|xet<|xsq ?_;have hl16 := Qt hlf; have hoks := ZaD hlf (ZcC hlf);refine xrl<|xr 1 rfl<|xne<|xsq<|xsr<|xr 1 rfl<|xy rfl (vn 42 5 rfl)<|xr 1 rfl<|xne<|xbl ?_;intro a HF;refine ZN (ι := Nat) (fun i a w => ∃ (tx : ByteArray), (i ≤ l.length ∧ tx.size ≤ 128 * i ∧ blobL st l = (blobL st (l.drop i)).map (tx ++ ·)) ∧ Fr 59 a [(0, .pointer (some ⟨b, 0, none⟩)), (3, .pointer (some ⟨b1, 0, none⟩)), (6, .slice ao l.length l.length), (22, .slice ao l.length l.length), (23, .int .i64 (l.length : Int)), (8, .string tx), (24, .int .i64 (i : Int))] ∧ St w0 ([holdsA (fun w => Rd PtrD.cells 5 w ao l.length l), Zn b1 10 69 (nV n)]) w) (fun i => l.length - i) 0 ⟨⟨#[]⟩, ⟨Nat.zero_le _, Nat.zero_le _, Zd2⟩, HF.less _ ⟨rfl, rfl, rfl, rfl, rfl, rfl, rfl, trivial⟩, HS.out⟩ ?_;clear HF HS; clear a;rintro i a w3 ⟨tx, ⟨hi, htx, hbl⟩, HF, HS⟩;replace HS := Bx.mk HS;revert a;refine xsr<|xr 1 rfl<|xne<|xsq<|xcs 25 rfl (fun cc1=>?_) fun cc1=>?_
 have dcc1 := of_decide_eq_true cc1;refine xct rfl<|xsk<|xet<|xsq<|xbl<|xsq ?_;obtain ⟨g7, o7, r7⟩ := (HS.out.holds 0 rfl).opn; have RL := Bx.mk r7; clear r7; have hrt := Jl hrow (l.getD i PtrD.zero); have hrp := Zbw (st := st) (l.getD i PtrD.zero);refine xrl<|xr 1 rfl<|xy rfl (vxr 42 i 5 rfl (RL.out.ao i (by omega)))<|xy rfl (fun a HF=>ylr (cs := pL (l.getD i PtrD.zero)) rfl (HF.ev rfl) (RL.out.elem (St.start _) (Zx (xs := l) (j := i) (d := PtrD.zero) (by omega)))) ?_;intro a HF;refine yal z5 HF HS ?_;clear HF HS a;intro a w4 b2 HF HS;revert a;refine xr 1 rfl ?_;intro a HF;refine yst HF HS 0 ?_;clear HS;intro w5 HS
 try dsimp only [List.set] at HS
 revert a;refine xne<|xsr<|xr 1 rfl<|xy rfl (vw HS.out 0 5 rfl rfl) ?_;intro a HF;refine ycB (JK a0 c0 a1 c1 a2 c2 a4 c4 a6 c6 st (l.getD i PtrD.zero) b _ (HB.out.below HS.out.bel (Nat.le_refl _)) (HR.out.below HS.out.bel) hrow (hoks _ (Ji (by omega)))) HF Tryz.func122 HS ?_; clear HF HS a; intro w6 a HS HF;revert a;refine xr 5 rfl<|xne<|xsq<|xsr<|xr 2 rfl<|xy rfl (vn 42 5 rfl)<|xy rfl (fun a HF=>YN (r := ((l.length - 1 : Nat) : Int)) rfl (HF.ev rfl) (HF.ev rfl) ((QQ (by omega)).trans (by omega)))<|xr 2 rfl<|xcs 40 rfl (fun cc2=>?_) fun cc2=>?_
 have dcc2 := of_decide_eq_true cc2;refine xr 1 rfl<|xy rfl (fun a HF=>Z6 rfl (HF.ev rfl) (by kernel_rfl))<|xr 3 rfl<|xcs 45 rfl (fun cc3=>?_) fun cc3=>?_;have dcc3 := bne_iff_ne.1 cc3;refine xr 3 rfl<|xne<|xct rfl<|xsr<|xr 2 rfl<|xne<|xre<|xtr<|xbr<|xtr<|xtr<|xbr<|xtr<|xb2 Tryz.results160 rfl rfl ?_;exact ⟨by rw [QF hlf (Uq hbl (show i < l.length by omega) (.inr ⟨by omega, by have h := dcc3; omega⟩))] <;> rfl, HS.out.bel⟩;have dcc3 := bne_eq_false_iff_eq.1 cc3;refine xr 1 rfl<|xy rfl (fun a HF=>UB rfl (HF.ev rfl) (HF.ev rfl))<|xr 1 rfl<|xne<|xcs 48 rfl (fun cc4=>?_) fun cc4=>?_;refine xct rfl<|xsr<|xr 2 rfl<|xne<|xre<|xtr<|xbr<|xtr<|xtr<|xbr<|xtr<|xb2 Tryz.results160 rfl rfl ?_;have h0 : Zr st (l.getD i PtrD.zero) = ⟨#[]⟩ := ZR (by simpa using cc4);exact ⟨by rw [QF hlf (Uq hbl (show i < l.length by omega) (.inl (by rw [h0]; rfl)))] <;> rfl, HS.out.bel⟩;refine xcf rfl<|xsk<|xet<|xrl<|xr 2 rfl<|xy rfl (fun a HF=>Ye rfl (HF.ev rfl) (HF.ev rfl) (by (try simp only [XP, ZC]); omega))<|xr 1 rfl<|xni<|xeb<|xet<|xrl<|xy rfl (vad rfl)<|xr 1 rfl<|xne ?_;have h1 : (Zr st (l.getD i PtrD.zero)).size ≠ 0 := fun h => Ud (by simpa using cc4) h
 have hbs := VU hbl (show i < l.length by omega) h1 (.inr (by have h := dcc3; omega));replace HS:=Bx.mk ((HS.out.pick 2 rfl).pick 2 rfl);intro a HF;exact ⟨(i + 1), ⟨(tx ++ Zr st (l.getD i PtrD.zero)), ⟨by omega, by rw [ZC]; omega, hbs⟩, HF.less _ ⟨rfl, rfl, rfl, rfl, rfl, rfl, rfl, trivial⟩, (HS.out.erase 2)⟩, (by omega)⟩;have dcc2 := of_decide_eq_false cc2;refine xr 6 rfl<|xy rfl (fun a HF=>UB rfl (HF.ev rfl) (HF.ev rfl))<|xr 1 rfl<|xne<|xcs 48 rfl (fun cc5=>?_) fun cc5=>?_;refine xct rfl<|xsr<|xr 2 rfl<|xne<|xre<|xtr<|xbr<|xtr<|xtr<|xbr<|xtr<|xb2 Tryz.results160 rfl rfl ?_;have h0 : Zr st (l.getD i PtrD.zero) = ⟨#[]⟩ := ZR (by simpa using cc5);exact ⟨by rw [QF hlf (Uq hbl (show i < l.length by omega) (.inl (by rw [h0]; rfl)))] <;> rfl, HS.out.bel⟩;refine xcf rfl<|xsk<|xet<|xrl<|xr 2 rfl<|xy rfl (fun a HF=>Ye rfl (HF.ev rfl) (HF.ev rfl) (by (try simp only [XP, ZC]); omega))<|xr 1 rfl<|xni<|xeb<|xet<|xrl<|xy rfl (vad rfl)<|xr 1 rfl<|xne ?_;have h1 : (Zr st (l.getD i PtrD.zero)).size ≠ 0 := fun h => Ud (by simpa using cc5) h
 have hbs := VU hbl (show i < l.length by omega) h1 (.inl (by omega));replace HS:=Bx.mk ((HS.out.pick 2 rfl).pick 2 rfl);intro a HF;exact ⟨(i + 1), ⟨(tx ++ Zr st (l.getD i PtrD.zero)), ⟨by omega, by rw [ZC]; omega, hbs⟩, HF.less _ ⟨rfl, rfl, rfl, rfl, rfl, rfl, rfl, trivial⟩, (HS.out.erase 2)⟩, (by omega)⟩;have dcc1 := of_decide_eq_false cc1;refine xcf rfl<|xex<|xtx<|xtx<|xbh<|xet<|xsq ?_;intro a HF;refine ZU (by kernel_rfl) (by kernel_rfl) HS.out ?_;revert a;refine xqr 2 rfl<|xq rfl (fun HS a HF=>Z6 rfl (HF.ev rfl) (by kernel_rfl))<|xq rfl (fun HS=>vf 2 rfl)<|xq rfl (fun HS=>vc HS 1 rfl rfl)<|xqr 3 rfl ?_;intro a HF;refine wpQuiet_nil ?_; intro w7 HS; replace HS := Bx.mk HS;revert a;refine xet<|xre<|xb2 Tryz.results160 rfl rfl ?_;have hbx := Zhg hbl (by omega);exact ⟨by rw [Vx hlf hbx] <;> rfl, HS.out.bel⟩;refine ⟨_, rfl, ?_⟩; replace HS := Bx.mk (HS.out.later hb);clear hb HF a;refine xr 5 rfl<|xne<|xsq<|xsr<|xr 2 rfl<|xne<|xct rfl<|xsr<|xr 2 rfl<|xne<|xre<|xtr<|xb2 Tryz.results160 rfl rfl ?_;exact ⟨by rw [UT hlf] <;> rfl, HS.out.bel⟩
open Go.RowKit
theorem Vy.upd {w : World} {fn : Int → Option Value} {i : Nat} {es : List Za} (h : Vy w fn i es) {k : Nat} (hk : i ≠ k) (v : Value) : Vy w (QJ fn (k : Int) v) i es := by
  obtain ⟨ao, cp, h1, h2⟩ := h;exact ⟨ao, cp, by rw [Q4 (by omega)]; exact h1, h2⟩
theorem Zgv {st : Zb} {n : Zd} (hk : (n.fKind == 1) = false) {l : List Za} (h2 : (YC st n).2 = true) (hg : entsG (YC st n).1 = some l) : Jj st n = true ∧ Qd st n = some l := by
  have hd : Qd st n = some l := by rw [ZfM, h2, hg]; rfl
  exact ⟨by rw [Q1 hk, hd]; rfl, hd⟩
theorem UU {st : Zb} {n : Zd} (hk : (n.fKind == 1) = false) (h : (YC st n).2 = false ∨ entsG (YC st n).1 = none) : Jj st n = false := by
  rw [Q1 hk, ZfM];rcases h with h | h
  · rw [h]; rfl
  · rw [h]; cases (YC st n).2 <;> rfl
theorem Zgw (st : Zb) (n : Zd) : (YC st n).1.size ≤ 2048 := by
  cases h : leavesF st n.fTree with
  | none => rw [UT h]; exact Nat.zero_le _
  | some l =>
    cases hb : blobL st l with
    | none => rw [QF h hb]; exact Nat.zero_le _
    | some s =>
      rw [Vx h hb];have h1 := Zax (st := st) (fun p => Zbw p) hb;have h2 := Qt h;show s.size ≤ 2048
      omega
open Go.RowKit
def Zd.cs (n : Zd) : List Value := [.int .i64 n.fKind, .int .i64 n.fLinks, .int .i64 n.fSize, .int .i64 n.fTree.fRoot.fAt, .int .i64 n.fTree.fRoot.fBirth, .int .i64 n.fTree.fRoot.fSize, .int .i64 n.fTree.fRoot.fSum, .int .i64 n.fTree.fRoot.fLevel, .int .i64 n.fTree.fDepth, .int .i64 n.fTree.fMany]
theorem Zd.cs_len (n : Zd) : n.cs.length = 10 := rfl
theorem Znp : Uf Tryz.prog 129 69 10 80 := by
  obtain ⟨i0, hi, hz0, hz1, hz2⟩ := info_parts (P := Tryz.prog) (e := 69) (z := .agg #[.int .i64 0, .int .i64 0, .int .i64 0, .int .i64 0, .int .i64 0, .int .i64 0, .int .i64 0, .int .i64 0, .int .i64 0, .int .i64 0]) (size := 10) (bytes := 80) (by kernel_rfl);exact ⟨Tryz.underlying129, ⟨i0, _, hi, hz0, hz1, hz2, rfl⟩, by decide⟩
theorem ZcF (xs : List Zd) : ∀ u ∈ xs.flatMap Zd.cs, u.oneCell' = true := by
  intro u hu;obtain ⟨x, _, hx⟩ := List.mem_flatMap.1 hu;simp only [Zd.cs, List.mem_cons, List.not_mem_nil, or_false] at hx;rcases hx with rfl | rfl | rfl | rfl | rfl | rfl | rfl | rfl | rfl | rfl <;> rfl
theorem Zex : Uf Tryz.prog 34 90 2 24 := by
  obtain ⟨i0, hi, hz0, hz1, hz2⟩ := info_parts (P := Tryz.prog) (e := 90) (z := .agg #[.string ByteArray.empty, .int .i64 0]) (size := 2) (bytes := 24) (by kernel_rfl);exact ⟨Tryz.underlying34, ⟨i0, _, hi, hz0, hz1, hz2, rfl⟩, by decide⟩
theorem QG (xs : List Zh) : ∀ u ∈ xs.flatMap Zh.cells, u.oneCell' = true := by
  intro u hu;obtain ⟨x, _, hx⟩ := List.mem_flatMap.1 hu;simp only [Zh.cells, List.mem_cons, List.not_mem_nil, or_false] at hx;rcases hx with rfl | rfl <;> rfl
def Zo (ns : List (Option Zd)) : List Zd := ns.map fun o => o.getD Zd.zero
theorem Xs (ns : List (Option Zd)) : (Zo ns).length = ns.length := List.length_map ..
theorem ZfO (ns : List (Option Zd)) (k : Nat) : (Zo ns).getD k Zd.zero = (ns.getD k none).getD Zd.zero := by
  unfold Zo;rw [List.getD_eq_getElem?_getD, List.getD_eq_getElem?_getD, List.getElem?_map]
  cases ns[k]? <;> rfl
theorem Xn {ns : List (Option Zd)} {k : Nat} {n : Zd} (h : ns.getD k none = some n) : (Zo ns).getD k Zd.zero = n := by rw [ZfO, h]; rfl
theorem ZcG {ns : List (Option Zd)} {k : Nat} (h : ns.getD k none = none) : (Zo ns).getD k Zd.zero = Zd.zero := by rw [ZfO, h]; rfl
theorem Vz {ns : List (Option Zd)} (H : Y1 ns) {k : Nat} (h : ((Zo ns).getD k Zd.zero).fKind ≠ 0) : ∃ n, ns.getD k none = some n ∧ (Zo ns).getD k Zd.zero = n := by
  cases hn : ns.getD k none with
  | none => rw [ZcG hn] at h; exact absurd rfl h
  | some n => exact ⟨n, rfl, Xn hn⟩
theorem ZcH {ns : List (Option Zd)} (H : Y1 ns) {k : Nat} (h : ((Zo ns).getD k Zd.zero).fKind = 0) : ns.getD k none = none := by
  cases hn : ns.getD k none with
  | none => rfl
  | some n =>
    rw [Xn hn] at h;have := (Zd.ok_is (H.ok k n hn)).small.kind
    omega
noncomputable def entF (st : Zb) (n : Zd) : Option (List Za) := bif n.ok && (n.fKind == 2) then Qd st n else none
theorem Zjl {st : Zb} {n : Zd} (h : n.ok = false ∨ (n.fKind == 2) = false) : entF st n = none := by
  unfold entF;rcases h with h | h
  · rw [h]; rfl
  · rw [h, Bool.and_false]; rfl
theorem Zbx {st : Zb} {n : Zd} (h : n.ok = true) (h2 : (n.fKind == 2) = true) : entF st n = Qd st n := by unfold entF; rw [h, h2]; rfl
theorem Zey {st : Zb} {p : PtrD} (he : ((Zr st p).toList == (⟨#[]⟩ : ByteArray).toList) = false) : (Zr st p).size ≠ 0 := fun h => Ud he h
theorem Zkl (a0 : Option Addr) (c0 : Nat) (a1 : Option Addr) (c1 : Nat) (a2 : Option Addr) (c2 : Nat) (a4 : Option Addr) (c4 : Nat) (a6 : Option Addr) (c6 : Nat) (st : Zb) (t : ZL) {x l : List PtrD} (X : TreeX st t x l) (w0 : World) (hR : Rd Zl 1 w0 a0 st.fRows.length st.fRows) (hrow : Yq st) : Calls Tryz.prog 128 #[sV a0 c0 a1 c1 a2 c2 a4 c4 a6 c6 st, tV t] w0 fun e w' => e = .returned (.tuple #[.string ((blobL st l).getD ByteArray.empty), .bool (blobL st l).isSome]) ∧ Below w0.heap.size w0 w' := by
 have HR := Bx.mk hR; clear hR;have HS := Bx.mk (St.start w0);have hll := X.len; have hmm := X.many; have hlm : (l.map (Zr st)).length = l.length := List.length_map ..; have h16 := Qt X.lv;refine Zk Tryz.func128 rfl Tryz.ntmps128 [(0, sV a0 c0 a1 c1 a2 c2 a4 c4 a6 c6 st), (1, tV t)] ⟨rfl, rfl, trivial⟩ rfl ?_;refine xsr ?_;intro a HF;refine ybx HF HS ?_;clear HF HS a;intro a w1 b1 HF HS;refine ybx HF HS ?_;clear HF HS a;intro a w2 b2 HF HS;revert a;refine xr 2 rfl<|xne<|xsr<|xr 1 rfl<|xne<|xsr<|xy rfl (vw HS.out 1 8 rfl rfl)<|xy rfl (vw HS.out 0 7 rfl rfl) ?_;intro a HF;refine yc (VZ a0 c0 a1 c1 a2 c2 a4 c4 a6 c6 st t X _ (HR.out.below HS.out.bel) hrow) HF Tryz.func118 ?_;rintro _ w3 ⟨ao3, cp3, rfl, hs⟩;refine ⟨_, rfl, ?_⟩;replace HS := Bx.mk (HS.out.add hs);clear hs HF a;intro a HF
 try dsimp only [List.eraseIdx] at HS
 revert a;refine xr 1 rfl<|xne<|xsq<|xsr<|xr 1 rfl<|xne<|xbl ?_;intro a HF;refine ZN (ι := Nat) (fun k a w => ∃ (tx : ByteArray), (k ≤ l.length ∧ tx.size ≤ 128 * k ∧ blobL st l = (blobL st (l.drop k)).map (tx ++ ·)) ∧ Fr 41 a [(2, .pointer (some ⟨b1, 0, none⟩)), (3, .pointer (some ⟨b2, 0, none⟩)), (7, .slice ao3 ((l.map (Zr st)).length) cp3), (6, .string tx), (8, .int .i64 (k : Int))] ∧ St w0 ([Zg Zl 1 9 (.slice ao3 ((l.map (Zr st)).length) cp3) (l.map (Zr st)), Zn b2 7 44 (tV t), Zn b1 8 40 (sV a0 c0 a1 c1 a2 c2 a4 c4 a6 c6 st)]) w) (fun k => l.length - k) 0 ⟨⟨#[]⟩, ⟨Nat.zero_le _, Nat.zero_le _, Zd2⟩, HF.less _ ⟨rfl, rfl, rfl, rfl, rfl, trivial⟩, HS.out⟩ ?_;clear HF HS; clear a;rintro k a w4 ⟨tx, ⟨hk, htx, hbl⟩, HF, HS⟩;replace HS := Bx.mk HS;revert a;refine xsq<|xsr<|xr 1 rfl<|xy rfl (vf 6 rfl)<|xy rfl (vc HS.out 1 rfl rfl)<|xr 1 rfl<|xne<|xcs 16 rfl (fun cc1=>?_) fun cc1=>?_
 have dcc1 := of_decide_eq_true cc1;refine xct rfl<|xsk<|xet<|xsq<|xbl<|xsq ?_;have hrp := Zbw (st := st) (l.getD k PtrD.zero);obtain ⟨g4, rfl, _, _, _, _⟩ := HS.out.rowOpen 0 rfl (by omega);refine xrl<|xr 2 rfl<|xy rfl (vx 9 k 1 rfl)<|xy rfl (fun a HF=>ylo (v := .string (Zr st (l.getD k PtrD.zero))) rfl (HF.ev rfl) (HS.out.elem1 encS_len 0 rfl (Zc9 (by omega)) rfl))<|xr 1 rfl<|xne<|xsq<|xsr<|xr 1 rfl<|xy rfl (fun a HF=>UB rfl (HF.ev rfl) (HF.ev rfl))<|xr 1 rfl<|xcs 25 rfl (fun cc2=>?_) fun cc2=>?_;refine xr 11 rfl<|xne<|xct rfl<|xsr<|xr 2 rfl<|xne<|xre<|xtr<|xbr<|xtr<|xtr<|xbr<|xtr<|xb2 Tryz.results128 rfl rfl ?_;have h0 : Zr st (l.getD k PtrD.zero) = ⟨#[]⟩ := ZR (by simpa using cc2);exact ⟨by rw [Uq hbl (show k < l.length by omega) (.inl (by rw [h0]; rfl))] <;> rfl, HS.out.bel⟩;refine xr 1 rfl<|xy rfl (vad rfl)<|xy rfl (vf 6 rfl)<|xy rfl (vc HS.out 1 rfl rfl)<|xr 2 rfl<|xcs 31 rfl (fun cc3=>?_) fun cc3=>?_;have dcc3 := of_decide_eq_true cc3;refine xr 1 rfl<|xy rfl (fun a HF=>Z6 rfl (HF.ev rfl) (by kernel_rfl))<|xr 3 rfl<|xne<|xcs 36 rfl (fun cc4=>?_) fun cc4=>?_;have dcc4 := bne_iff_ne.1 cc4;refine xct rfl<|xsr<|xr 2 rfl<|xne<|xre<|xtr<|xbr<|xtr<|xtr<|xbr<|xtr<|xb2 Tryz.results128 rfl rfl ?_;exact ⟨by rw [Uq hbl (show k < l.length by omega) (.inr ⟨by omega, by have h := dcc4; omega⟩)] <;> rfl, HS.out.bel⟩;have dcc4 := bne_eq_false_iff_eq.1 cc4;refine xcf rfl<|xsk<|xet<|xrl<|xr 2 rfl<|xy rfl (fun a HF=>Ye rfl (HF.ev rfl) (HF.ev rfl) (by (try simp only [XP, ZC]); omega))<|xr 1 rfl<|xni<|xeb<|xet<|xrl<|xr 1 rfl<|xy rfl (vad rfl)<|xr 1 rfl<|xne ?_;have h1 : (Zr st (l.getD k PtrD.zero)).size ≠ 0 := Zey (by simpa using cc2);have hbs := VU hbl (show k < l.length by omega) h1 (.inr (by have h := dcc4; omega));intro a HF;exact ⟨(k + 1), ⟨(tx ++ Zr st (l.getD k PtrD.zero)), ⟨by omega, by rw [ZC]; omega, hbs⟩, HF.less _ ⟨rfl, rfl, rfl, rfl, rfl, trivial⟩, HS.out⟩, (by omega)⟩;have dcc3 := of_decide_eq_false cc3;refine xr 5 rfl<|xne<|xcf rfl<|xsk<|xet<|xrl<|xr 2 rfl<|xy rfl (fun a HF=>Ye rfl (HF.ev rfl) (HF.ev rfl) (by (try simp only [XP, ZC]); omega))<|xr 1 rfl<|xni<|xeb<|xet<|xrl<|xr 1 rfl<|xy rfl (vad rfl)<|xr 1 rfl<|xne ?_;have h1 : (Zr st (l.getD k PtrD.zero)).size ≠ 0 := Zey (by simpa using cc2);have hbs := VU hbl (show k < l.length by omega) h1 (.inl (by omega));intro a HF;exact ⟨(k + 1), ⟨(tx ++ Zr st (l.getD k PtrD.zero)), ⟨by omega, by rw [ZC]; omega, hbs⟩, HF.less _ ⟨rfl, rfl, rfl, rfl, rfl, trivial⟩, HS.out⟩, (by omega)⟩;have dcc1 := of_decide_eq_false cc1;refine xcf rfl<|xex<|xtx<|xtx<|xbh<|xet<|xsr<|xr 3 rfl<|xne<|xre<|xb2 Tryz.results128 rfl rfl ?_;have hbx := Zhg hbl (by omega);exact ⟨by rw [hbx] <;> rfl, HS.out.bel⟩
theorem Zez (a0 : Option Addr) (c0 : Nat) (a1 : Option Addr) (c1 : Nat) (a2 : Option Addr) (c2 : Nat) (a4 : Option Addr) (c4 : Nat) (a6 : Option Addr) (c6 : Nat) (st : Zb) (n : Zd) (w0 : World) (hR : Rd Zl 1 w0 a0 st.fRows.length st.fRows) (hrow : Yq st) (h0 : 0 ≤ st.fTxg) : Calls Tryz.prog 71 #[sV a0 c0 a1 c1 a2 c2 a4 c4 a6 c6 st, nV n] w0 fun e w' => (∃ es, entF st n = some es ∧ ∃ ao cp, e = .returned (.tuple #[.slice ao es.length cp, .bool true]) ∧ St w0 [Zg Za.cells 2 118 (.slice ao es.length cp) es] w') ∨ (entF st n = none ∧ ∃ ae, e = .returned (.tuple #[.slice ae 0 0, .bool false]) ∧ Below w0.heap.size w0 w') := by
 have HR := Bx.mk hR; clear hR;have HS := Bx.mk (St.start w0);refine Zk Tryz.func71 rfl Tryz.ntmps71 [(0, sV a0 c0 a1 c1 a2 c2 a4 c4 a6 c6 st), (1, nV n)] ⟨rfl, rfl, trivial⟩ rfl ?_;refine xsr ?_;intro a HF;refine ybx HF HS ?_;clear HF HS a;intro a w1 b1 HF HS;refine ybx HF HS ?_;clear HF HS a;intro a w2 b2 HF HS;revert a;refine xr 2 rfl<|xne<|xsq<|xsr<|xy rfl (vw HS.out 0 10 rfl rfl) ?_;intro a HF;refine ycB (QE n _) HF Tryz.func83 HS ?_; clear HF HS a; intro w3 a HS HF;revert a;refine xr 2 rfl<|xcs 11 rfl (fun cc1=>?_) fun cc1=>?_
 refine xr 11 rfl<|xne<|xct rfl<|xsr ?_;intro a HF;refine yem 118 2 HF HS ?_;clear HF HS a;intro a w4 b3 HF HS;revert a;refine xr 2 rfl<|xne<|xre<|xtr<|xb2 Tryz.results71 rfl rfl ?_;exact .inr ⟨Zjl (.inl (by simpa using cc1)), _, rfl, HS.out.bel⟩;refine xy rfl (vf 0 rfl)<|xy rfl (vc HS.out 0 rfl rfl)<|xr 3 rfl<|xcs 16 rfl (fun cc2=>?_) fun cc2=>?_;have dcc2 := bne_iff_ne.1 cc2;refine xr 6 rfl<|xne<|xct rfl<|xsr ?_;intro a HF;refine yem 118 2 HF HS ?_;clear HF HS a;intro a w5 b4 HF HS;revert a;refine xr 2 rfl<|xne<|xre<|xtr<|xb2 Tryz.results71 rfl rfl ?_;exact .inr ⟨Zjl (.inr (by simpa using cc2)), _, rfl, HS.out.bel⟩;have dcc2 := bne_eq_false_iff_eq.1 cc2;refine xy rfl (vw HS.out 1 8 rfl rfl)<|xy rfl (vf 3 rfl)<|xy rfl (vw HS.out 0 7 rfl rfl) ?_;intro a HF;refine JO (Zbp a0 c0 a1 c1 a2 c2 a4 c4 a6 c6 st n.fTree _ (HR.out.below HS.out.bel) hrow) HF Tryz.func84 HS ?_; clear HF HS a; intro w6 a HS HF;revert a;refine xr 2 rfl<|xne<|xcs 22 rfl (fun cc3=>?_) fun cc3=>?_
 refine xct rfl<|xsr ?_;intro a HF;refine yem 118 2 HF HS ?_;clear HF HS a;intro a w7 b5 HF HS;revert a;refine xr 2 rfl<|xne<|xre<|xtr<|xb2 Tryz.results71 rfl rfl ?_;exact .inr ⟨by unfold entF; rw [ZbZ (Zen h0 (by simpa using cc3))]; cases (n.ok && (n.fKind == 2)) <;> rfl, _, rfl, HS.out.bel⟩;refine xcf rfl<|xsk<|xet<|xsq ?_;have hok : n.ok = true := by simpa using cc1
 have hk2 : (n.fKind == 2) = true := by simpa using cc2
 have htk : okS st n.fTree = true := by simpa using cc3
 obtain ⟨l, hlf⟩ := Zem h0 htk; obtain ⟨x, X⟩ := Zjj h0 hlf;refine xrl<|xy rfl (vw HS.out 1 8 rfl rfl)<|xy rfl (vf 3 rfl)<|xy rfl (vw HS.out 0 7 rfl rfl) ?_;intro a HF;refine ycB (Zkl a0 c0 a1 c1 a2 c2 a4 c4 a6 c6 st n.fTree X _ (HR.out.below HS.out.bel) hrow) HF Tryz.func128 HS ?_; clear HF HS a; intro w8 a HS HF;revert a;refine xr 5 rfl<|xne<|xsq<|xsr<|xr 3 rfl<|xcs 33 rfl (fun cc4=>?_) fun cc4=>?_
 refine xr 6 rfl<|xne<|xct rfl<|xsr ?_;intro a HF;refine yem 118 2 HF HS ?_;clear HF HS a;intro a w9 b6 HF HS;revert a;refine xr 2 rfl<|xne<|xre<|xtr<|xb2 Tryz.results71 rfl rfl ?_;exact .inr ⟨by unfold entF; rw [Zb0 hlf (by cases hb9 : blobL st l with | none => rfl | some s => rw [hb9] at cc4; simp at cc4)]; cases (n.ok && (n.fKind == 2)) <;> rfl, _, rfl, HS.out.bel⟩;refine xr 1 rfl<|xy rfl (fun a HF=>Z6 rfl (HF.ev rfl) (by kernel_rfl))<|xy rfl (vf 2 rfl)<|xy rfl (vc HS.out 0 rfl rfl)<|xr 2 rfl<|xne<|xcs 39 rfl (fun cc5=>?_) fun cc5=>?_;have dcc5 := bne_iff_ne.1 cc5;refine xct rfl<|xsr ?_;intro a HF;refine yem 118 2 HF HS ?_;clear HF HS a;intro a w10 b7 HF HS;revert a;refine xr 2 rfl<|xne<|xre<|xtr<|xb2 Tryz.results71 rfl rfl ?_;obtain ⟨s, hbl⟩ : ∃ s, blobL st l = some s := Option.isSome_iff_exists.1 (by simpa using cc4);exact .inr ⟨by unfold entF; rw [Zb1 hlf hbl (by have h := dcc5; rw [hbl] at h; exact h)]; cases (n.ok && (n.fKind == 2)) <;> rfl, _, rfl, HS.out.bel⟩;have dcc5 := bne_eq_false_iff_eq.1 cc5;refine xcf rfl<|xsk<|xet<|xsq ?_;obtain ⟨s, hbl⟩ : ∃ s, blobL st l = some s := Option.isSome_iff_exists.1 (by simpa using cc4); have hsz := Zax (st := st) (fun p => Zbw p) hbl; have h16 := Qt hlf; have hsz9 : ((blobL st l).getD ByteArray.empty).size ≤ 2048 := by rw [hbl]; show s.size ≤ 2048; omega
 refine xrl<|xr 1 rfl ?_;intro a HF;refine yc (ZaE ((blobL st l).getD ByteArray.empty) _ hsz9) HF Tryz.func129 ?_;rintro _ w11 (⟨el, heg, aoL, cpL, rfl, hs1⟩ | ⟨heg, ae, rfl, hb⟩);refine ⟨_, rfl, ?_⟩; replace HS := Bx.mk (HS.out.add hs1);clear hs1 HF a;intro a HF
 try dsimp only [List.eraseIdx] at HS
 revert a;refine xr 4 rfl<|xne<|xre<|xb2 Tryz.results71 rfl rfl ?_;have hd : entF st n = entsG s := by rw [Zbx hok hk2]; exact Zbj hlf hbl (by have h := dcc5; rw [hbl] at h; exact h)
 rw [hbl] at heg;exact .inl ⟨el, hd.trans heg, _, _, rfl, ((HS.out.erase 2).erase 1)⟩;refine ⟨_, rfl, ?_⟩; replace HS := Bx.mk (HS.out.later hb);clear hb HF a;refine xr 4 rfl<|xne<|xre<|xb2 Tryz.results71 rfl rfl ?_;have hd : entF st n = entsG s := by rw [Zbx hok hk2]; exact Zbj hlf hbl (by have h := dcc5; rw [hbl] at h; exact h)
 rw [hbl] at heg;exact .inr ⟨hd.trans heg, _, rfl, HS.out.bel⟩
theorem ZcI {ns : List (Option Zd)} {k : Nat} (h : k < ns.length) {n : Zd} (hn : (Zo ns).getD k Zd.zero = n) : (Zo ns).take k ++ [n] = (Zo ns).take (k + 1) := by
  have hl : k < (Zo ns).length := by rw [Xs]; exact h
  rw [List.take_succ_eq_append_getElem hl, ← hn, List.getD_eq_getElem?_getD, List.getElem?_eq_getElem hl]; rfl
theorem QH (a0 : Option Addr) (c0 : Nat) (a1 : Option Addr) (c1 : Nat) (a2 : Option Addr) (c2 : Nat) (a4 : Option Addr) (c4 : Nat) (a6 : Option Addr) (c6 : Nat) (st : Zb) (t : ZL) {ns : List (Option Zd)} (htb : tabF st t = some ns) (w0 : World) (hR : Rd Zl 1 w0 a0 st.fRows.length st.fRows) (hrow : Yq st) (h0 : 0 ≤ st.fTxg) : Calls Tryz.prog 101 #[sV a0 c0 a1 c1 a2 c2 a4 c4 a6 c6 st, tV t] w0 fun e w' => ∃ ao cp, e = .returned (.slice ao (Zo ns).length cp) ∧ St w0 [Zg Zd.cs 10 69 (.slice ao (Zo ns).length cp) (Zo ns)] w' := by
 have HR := Bx.mk hR; clear hR;have HS := Bx.mk (St.start w0);obtain ⟨l, hlf, htL, hlen⟩ := Zjb htb; obtain ⟨x, X⟩ := Zjj h0 hlf; have hll := X.len; have hmm := X.many; have hlm : (l.map (Zr st)).length = l.length := List.length_map ..; have h16 := Qt hlf;refine Zk Tryz.func101 rfl Tryz.ntmps101 [(0, sV a0 c0 a1 c1 a2 c2 a4 c4 a6 c6 st), (1, tV t)] ⟨rfl, rfl, trivial⟩ rfl ?_;refine xsr ?_;intro a HF;refine ybx HF HS ?_;clear HF HS a;intro a w1 b1 HF HS;refine ybx HF HS ?_;clear HF HS a;intro a w2 b2 HF HS;revert a;refine xr 1 rfl<|xne<|xsr ?_;intro a HF;refine yem 69 10 HF HS ?_;clear HF HS a;intro a w3 b3 HF HS;revert a;refine xr 1 rfl<|xne<|xsr<|xy rfl (vw HS.out 1 8 rfl rfl)<|xy rfl (vw HS.out 0 7 rfl rfl) ?_;intro a HF;refine yc (VZ a0 c0 a1 c1 a2 c2 a4 c4 a6 c6 st t X _ (HR.out.below HS.out.bel) hrow) HF Tryz.func118 ?_;rintro _ w4 ⟨ao4, cp4, rfl, hs⟩;refine ⟨_, rfl, ?_⟩;replace HS := Bx.mk (HS.out.add hs);clear hs HF a;intro a HF
 try dsimp only [List.eraseIdx] at HS
 revert a;refine xr 1 rfl<|xne<|xsq<|xsr<|xr 1 rfl<|xne<|xbl ?_;replace HS := Bx.mk (HS.out.nilRow Zd.cs 10 69 (some ⟨b3, 0, none⟩));intro a HF;refine ZN (ι := Nat) (fun k a w => ∃ (ao : Option Addr) (cp : Nat) (xs : List Zd), (k ≤ ns.length ∧ xs = (Zo ns).take k) ∧ Fr 33 a [(2, .pointer (some ⟨b1, 0, none⟩)), (3, .pointer (some ⟨b2, 0, none⟩)), (6, .slice ao4 ((l.map (Zr st)).length) cp4), (5, .slice ao xs.length cp), (7, .int .i64 (k : Int))] ∧ St w0 ([Zg Zd.cs 10 69 (.slice ao xs.length cp) xs, Zg Zl 1 9 (.slice ao4 ((l.map (Zr st)).length) cp4) (l.map (Zr st)), Zn b2 7 44 (tV t), Zn b1 8 40 (sV a0 c0 a1 c1 a2 c2 a4 c4 a6 c6 st)]) w) (fun k => ns.length - k) 0 ⟨_, _, [], ⟨Nat.zero_le _, rfl⟩, HF.less _ ⟨rfl, rfl, rfl, rfl, rfl, trivial⟩, HS.out⟩ ?_;clear HF HS; clear a;rintro k a w5 ⟨ao, cp, xs, ⟨hk, hq⟩, HF, HS⟩;replace HS := Bx.mk HS;have hxl : xs.length = k := by rw [hq, List.length_take, Xs]; omega
 revert a;refine xsq<|xsr<|xr 2 rfl<|xy rfl (vn 9 1 rfl)<|xr 1 rfl<|xne<|xcs 17 rfl (fun cc1=>?_) fun cc1=>?_
 have dcc1 := of_decide_eq_true cc1;refine xct rfl<|xsk<|xet<|xsq<|xbl<|xsq ?_;have hrt := Jl hrow (l.getD k PtrD.zero);obtain ⟨g5, rfl, _, _, _, _⟩ := HS.out.rowOpen 1 rfl (by omega);refine xrl<|xr 2 rfl<|xy rfl (vx 9 k 1 rfl)<|xy rfl (fun a HF=>ylo (v := .string (Zr st (l.getD k PtrD.zero))) rfl (HF.ev rfl) (HS.out.elem1 encS_len 1 rfl (Zc9 (by omega)) rfl)) ?_;have hat := Zgl htL k (by omega);intro a HF;refine yc (U0 (Zr st (l.getD k PtrD.zero)) _ hrt) HF Tryz.func116 ?_;rintro _ w6 (⟨n, hno, hnb, rfl, hb⟩ | ⟨hnn, rfl, hb⟩);have hnk : ns.getD k none = some n := ZiB hat hno hnb;refine ⟨_, rfl, ?_⟩; replace HS := Bx.mk (HS.out.later hb);clear hb HF a;refine xr 3 rfl ?_;intro a HF;refine yal z10 HF HS ?_;clear HF HS a;intro a w7 b6 HF HS;refine yst HF HS 0 ?_;clear HS;intro w8 HS
 try dsimp only [List.set] at HS
 revert a;refine xr 1 rfl<|xne<|xrl<|xr 1 rfl<|xy rfl (vw HS.out 0 10 rfl rfl) ?_;intro a HF;refine ybs Zd.cs 69 10 [n] HF HS ?_;clear HF HS a;intro b7 a w9 HF HS;refine yap Znp Zd.cs_len HS 2 HF (St.rdN HS.out Zd.cs_len 0 rfl) (ZcF _) ?_;clear HF HS a;intro ao8 cp9 w10 a HF HS
 try dsimp only [List.eraseIdx] at HS
 revert a;refine xr 1 rfl<|xni<|xeb<|xet<|xrl<|xr 1 rfl<|xy rfl (vad rfl)<|xr 1 rfl<|xne ?_;have hz : xs.length + ([n]).length = (xs ++ ([n])).length := (List.length_append ..).symm;intro a HF;rw [hz] at HS HF;have hnext : xs ++ ([n]) = (Zo ns).take (k + 1) := by rw [hq]; exact ZcI (by omega) (Xn hnk)
 replace HS:=Bx.mk ((((HS.out.pick 5 rfl).pick 5 rfl).pick 5 rfl).pick 5 rfl);exact ⟨k + 1, ⟨_, _, xs ++ ([n]), ⟨by omega, hnext⟩, HF.less _ ⟨rfl, rfl, rfl, rfl, rfl, trivial⟩, ((HS.out.erase 5).erase 4)⟩, (by omega)⟩;have hnk : ns.getD k none = none := ZiC hat hnn;refine ⟨_, rfl, ?_⟩; replace HS := Bx.mk (HS.out.later hb);clear hb HF a;refine xr 3 rfl ?_;intro a HF;refine yal z10 HF HS ?_;clear HF HS a;intro a w11 b10 HF HS;refine yst HF HS 0 ?_;clear HS;intro w12 HS
 try dsimp only [List.set] at HS
 revert a;refine xr 1 rfl<|xne<|xrl<|xr 1 rfl<|xy rfl (vw HS.out 0 10 rfl rfl) ?_;intro a HF;refine ybs Zd.cs 69 10 [Zd.zero] HF HS ?_;clear HF HS a;intro b11 a w13 HF HS;refine yap Znp Zd.cs_len HS 2 HF (St.rdN HS.out Zd.cs_len 0 rfl) (ZcF _) ?_;clear HF HS a;intro ao12 cp13 w14 a HF HS
 try dsimp only [List.eraseIdx] at HS
 revert a;refine xr 1 rfl<|xni<|xeb<|xet<|xrl<|xr 1 rfl<|xy rfl (vad rfl)<|xr 1 rfl<|xne ?_;have hz : xs.length + ([Zd.zero]).length = (xs ++ ([Zd.zero])).length := (List.length_append ..).symm;intro a HF;rw [hz] at HS HF;have hnext : xs ++ ([Zd.zero]) = (Zo ns).take (k + 1) := by rw [hq]; exact ZcI (by omega) (ZcG hnk)
 replace HS:=Bx.mk ((((HS.out.pick 5 rfl).pick 5 rfl).pick 5 rfl).pick 5 rfl);exact ⟨k + 1, ⟨_, _, xs ++ ([Zd.zero]), ⟨by omega, hnext⟩, HF.less _ ⟨rfl, rfl, rfl, rfl, rfl, trivial⟩, ((HS.out.erase 5).erase 4)⟩, (by omega)⟩;have dcc1 := of_decide_eq_false cc1;refine xcf rfl<|xex<|xtx<|xtx<|xbh<|xet<|xsr<|xr 2 rfl<|xne<|xre<|xb1 Tryz.results101 rfl ?_;obtain rfl : k = ns.length := by omega
 have hq9 : xs = Zo ns := by rw [hq, ← Xs, List.take_length]
 subst hq9;exact ⟨_, _, rfl, (((HS.out.erase 3).erase 2).erase 1)⟩
theorem ZeA {p s : ByteArray} (h : (p.toList == (⟨#[47]⟩ : ByteArray).toList) = true) : ZP p s = (⟨#[47]⟩ : ByteArray) ++ s := by
  unfold ZP;show (bif (p.toList == (⟨#[47]⟩ : ByteArray).toList) then _ else _) = _;rw [h]; rfl
theorem ZeB {p s : ByteArray} (h : (p.toList == (⟨#[47]⟩ : ByteArray).toList) = false) : ZP p s = (p ++ (⟨#[47]⟩ : ByteArray)) ++ s := by
  unfold ZP;show (bif (p.toList == (⟨#[47]⟩ : ByteArray).toList) then _ else _) = _;rw [h]; rfl
theorem ZhO (p s : ByteArray) : (ZP p s).size ≤ p.size + 1 + s.size := by
  cases h : (p.toList == (⟨#[47]⟩ : ByteArray).toList) with
  | true => rw [ZeA h, ZC]; have : (⟨#[47]⟩ : ByteArray).size = 1 := rfl; omega
  | false => rw [ZeB h, ZC, ZC]; have : (⟨#[47]⟩ : ByteArray).size = 1 := rfl; omega
open Go.RowKit
def ZhP (ms : List Int) (o : List Zh) (k : Nat) (n : Nat) : Prop := ms.length = n ∧ ∀ j, j < n → ms.getD j 0 = ((((o.take k).map fun x => x.fId.toNat).count j : Nat) : Int)
theorem ZhP.start (o : List Zh) (n : Nat) : ZhP (List.replicate n 0) o 0 n := ⟨List.length_replicate .., fun j hj => by
  rw [List.getD_eq_getElem?_getD, List.getElem?_replicate, if_pos hj, List.take_zero]; rfl⟩
theorem ZhP.step {ms : List Int} {o : List Zh} {k n : Nat} (h : ZhP ms o k n) (hk : k < o.length) : ZhP (ms.set (o.getD k Xa).fId.toNat (ms.getD (o.getD k Xa).fId.toNat 0 + 1)) o (k + 1) n := by
  refine ⟨by rw [List.length_set]; exact h.1, fun j hj => ?_⟩;have e : (o.take (k + 1)).map (fun x => x.fId.toNat) = (o.take k).map (fun x => x.fId.toNat) ++ [(o.getD k Xa).fId.toNat] := by
    rw [List.take_succ_eq_append_getElem hk, List.map_append, List.getD_eq_getElem?_getD, List.getElem?_eq_getElem hk]; rfl
  rw [e, List.count_append, List.getD_eq_getElem?_getD, List.getElem?_set]
  by_cases hj2 : (o.getD k Xa).fId.toNat = j
  · rw [if_pos hj2, if_pos (by rw [h.1]; omega), Option.getD_some, hj2, h.2 j hj, List.count_singleton_self]; rfl
  · rw [if_neg hj2, List.count_eq_zero.2 (fun hm : j ∈ [(o.getD k Xa).fId.toNat] => hj2 (List.mem_singleton.1 hm).symm), Nat.add_zero, ← List.getD_eq_getElem?_getD, h.2 j hj]
open Go.RowKit
def Zc.zero : Zc := ⟨0, 0, ByteArray.empty⟩
def Zc.cells (x : Zc) : List Value := [.int .i64 x.fKind, .int .i64 x.fId, .string x.fName]
theorem Zc.cells_len (x : Zc) : x.cells.length = 3 := rfl
theorem JM : Uf Tryz.prog 72 142 3 32 := by
  obtain ⟨i0, hi, hz0, hz1, hz2⟩ := info_parts (P := Tryz.prog) (e := 142) (z := .agg #[.int .i64 0, .int .i64 0, .string ByteArray.empty]) (size := 3) (bytes := 32) (by kernel_rfl);exact ⟨Tryz.underlying72, ⟨i0, _, hi, hz0, hz1, hz2, rfl⟩, by decide⟩
theorem Yv (xs : List Zc) : ∀ u ∈ xs.flatMap Zc.cells, u.oneCell' = true := by
  intro u hu;obtain ⟨x, _, hx⟩ := List.mem_flatMap.1 hu;simp only [Zc.cells, List.mem_cons, List.not_mem_nil, or_false] at hx;rcases hx with rfl | rfl | rfl <;> rfl
structure Zby where
  ao : Option Addr
  cp : Nat
  xs : List ByteArray
def Zby.row (q : Zby) : Asr := Zg Zl 1 9 (.slice q.ao q.xs.length q.cp) q.xs
def UV (q : Nat → Zby) (n : Nat) : List Asr := (List.range n).map fun k => (q k).row
def Qw (q : Nat → Zby) (k n : Nat) : List Asr := ((List.range n).erase k).map fun k => (q k).row
def Zcb (q : Nat → Zby) (k : Nat) (z : Zby) : Nat → Zby := fun i => if i = k then z else q i
theorem ZfP (q : Nat → Zby) {k n : Nat} (h : k < n) : (UV q n).Perm ((q k).row :: Qw q k n) := by
  unfold UV Qw;have hp := List.perm_cons_erase (List.mem_range.2 h);exact (hp.map fun k => (q k).row).trans (by rw [List.map_cons])
theorem Zkm (q : Nat → Zby) (k n : Nat) (z : Zby) : Qw (Zcb q k z) k n = Qw q k n := by
  unfold Qw;refine List.map_congr_left fun i hi => ?_;have : i ≠ k := fun e => by
    subst e;exact (List.Nodup.not_mem_erase List.nodup_range) hi
  unfold Zcb; rw [if_neg this]
theorem St.badTake {W w : World} {q : Nat → Zby} {n k : Nat} {F : List Asr} (h : St W (sepA (UV q n) :: F) w) (hk : k < n) : St W (Zg Zl 1 9 (.slice (q k).ao (q k).xs.length (q k).cp) (q k).xs :: sepA (Qw q k n) :: F) w := by
  have h1 := St.join.2 h;have h2 : St W ([(q k).row] ++ (Qw q k n ++ F)) w := h1.perm (by
    have := (ZfP q hk).append_right F;exact this)
  have h3 : St W (Qw q k n ++ ((q k).row :: F)) w := h2.perm (by
    rw [List.singleton_append];exact List.perm_middle.symm)
  exact (St.join.1 h3).perm (List.Perm.swap ..)
theorem St.badPut {W w : World} {q : Nat → Zby} {n k : Nat} {F : List Asr} {a : Option Addr} {c : Nat} {xs : List ByteArray} (h : St W (Zg Zl 1 9 (.slice a xs.length c) xs :: sepA (Qw q k n) :: F) w) (hk : k < n) : St W (sepA (UV (Zcb q k ⟨a, c, xs⟩) n) :: F) w := by
  have h0 : St W (sepA (Qw q k n) :: Zg Zl 1 9 (.slice a xs.length c) xs :: F) w := h.perm (List.Perm.swap ..);have h1 := St.join.2 h0;refine St.join.1 (h1.perm ?_);have hp := ZfP (Zcb q k ⟨a, c, xs⟩) hk;rw [Zkm] at hp;have e : (Zcb q k ⟨a, c, xs⟩ k).row = Zg Zl 1 9 (.slice a xs.length c) xs := by unfold Zcb; rw [if_pos rfl]; rfl
  rw [e] at hp;refine List.Perm.trans ?_ (hp.symm.append_right F);exact List.perm_middle
def Yr (st : Zb) (ns : List (Option Zd)) (f2 : Int → Option Value) (d : Nat → Bool) (w : World) : Prop := ∀ k : Nat, d k = true → Vy w f2 k (Ze st ns k)
structure WkX where
  m1 : Nat
  m2 : Nat
  m3 : Nat
  f1 : Int → Option Value
  f3 : Int → Option Value
  q : Nat → Zby
  a5 : Option Addr
  c5 : Nat
  a6 : Option Addr
  c6 : Nat
  a7 : Option Addr
  c7 : Nat
  od : List Int
structure WkF (ns : List (Option Zd)) (x : WkX) (met : Nat → Nat) (d : Nat → Bool) (f2 : Int → Option Value) (bd : Nat) : Prop where
  h1 : ∀ k : Nat, (x.f1 (k : Int)).getD (.int .i64 0) = .int .i64 ((met k : Nat) : Int)
  h2 : ∀ k : Nat, d k = false → f2 (k : Int) = none
  h3 : ∀ k : Nat, k < ns.length → (x.f3 (k : Int)).getD (.slice none 0 0) = .slice (x.q k).ao (x.q k).xs.length (x.q k).cp
  hq : ∀ k : Nat, (x.q k).xs.length ≤ bd
  ho : x.od.length ≤ bd
def wkA (wb sb : Nat) (ao : Option Addr) (st : Zb) (ns : List (Option Zd)) (met : Nat → Nat) (d : Nat → Bool) (f2 : Int → Option Value) (tr : List Zc) (pa : List Zh) (bd : Nat) : Asr :=
  exA fun x : WkX => sepA [pureA (WkF ns x met d f2 bd), Zn wb 8 139 (.agg #[.pointer (some ⟨sb, 0, none⟩), .slice ao ns.length ns.length, .map (some x.m1), .map (some x.m2), .map (some x.m3), .slice x.a5 tr.length x.c5, .slice x.a6 pa.length x.c6, .slice x.a7 x.od.length x.c7]), holdsA (Z7 ao ns), Z5 x.m1 x.f1, Z5 x.m2 f2, Z5 x.m3 x.f3, holdsA (Yr st ns f2 d), Zg Zc.cells 3 142 (.slice x.a5 tr.length x.c5) tr, Zg Zh.cells 2 90 (.slice x.a6 pa.length x.c6) pa, Zg Zz 1 3 (.slice x.a7 x.od.length x.c7) x.od, sepA (UV x.q ns.length)]
section
variable {wb sb : Nat} {ao : Option Addr} {st : Zb} {ns : List (Option Zd)} {met : Nat → Nat} {d : Nat → Bool} {f2 : Int → Option Value} {tr : List Zc} {pa : List Zh} {bd : Nat} {W w : World} {F : List Asr}
theorem St.wkOut (h : St W (wkA wb sb ao st ns met d f2 tr pa bd :: F) w) : ∃ x : WkX, WkF ns x met d f2 bd ∧ St W (Zn wb 8 139 (.agg #[.pointer (some ⟨sb, 0, none⟩), .slice ao ns.length ns.length, .map (some x.m1), .map (some x.m2), .map (some x.m3), .slice x.a5 tr.length x.c5, .slice x.a6 pa.length x.c6, .slice x.a7 x.od.length x.c7]) :: holdsA (Z7 ao ns) :: Z5 x.m1 x.f1 :: Z5 x.m2 f2 :: Z5 x.m3 x.f3 :: holdsA (Yr st ns f2 d) :: Zg Zc.cells 3 142 (.slice x.a5 tr.length x.c5) tr :: Zg Zh.cells 2 90 (.slice x.a6 pa.length x.c6) pa :: Zg Zz 1 3 (.slice x.a7 x.od.length x.c7) x.od :: sepA (UV x.q ns.length) :: F) w := by
  obtain ⟨x, h⟩ := h.ex;have h1 := (St.join (r := [_, _, _, _, _, _, _, _, _, _, _])).2 h;exact ⟨x, St.pure.1 h1⟩
theorem St.wkIn {x : WkX} (hx : WkF ns x met d f2 bd) (h : St W (Zn wb 8 139 (.agg #[.pointer (some ⟨sb, 0, none⟩), .slice ao ns.length ns.length, .map (some x.m1), .map (some x.m2), .map (some x.m3), .slice x.a5 tr.length x.c5, .slice x.a6 pa.length x.c6, .slice x.a7 x.od.length x.c7]) :: holdsA (Z7 ao ns) :: Z5 x.m1 x.f1 :: Z5 x.m2 f2 :: Z5 x.m3 x.f3 :: holdsA (Yr st ns f2 d) :: Zg Zc.cells 3 142 (.slice x.a5 tr.length x.c5) tr :: Zg Zh.cells 2 90 (.slice x.a6 pa.length x.c6) pa :: Zg Zz 1 3 (.slice x.a7 x.od.length x.c7) x.od :: sepA (UV x.q ns.length) :: F) w) : St W (wkA wb sb ao st ns met d f2 tr pa bd :: F) w :=
  St.exI x ((St.join (r := [_, _, _, _, _, _, _, _, _, _, _])).1 (St.pure.2 ⟨hx, h⟩))
end
theorem ZlP (wb : Nat) (v0 v1 v2 v3 v4 v6 v7 : Value) (a5 : Option Addr) (c5 : Nat) (tr : List Zc) (kd id : Int) (nm : ByteArray) (hl : tr.length ≤ 2000) (F : List Asr) (w0 w : World) (hS : St w0 (Zn wb 8 139 (.agg #[v0, v1, v2, v3, v4, .slice a5 tr.length c5, v6, v7]) :: Zg Zc.cells 3 142 (.slice a5 tr.length c5) tr :: F) w) : Calls Tryz.prog 156 #[.pointer (some ⟨wb, 0, none⟩), .int .i64 kd, .int .i64 id, .string nm] w fun e w' => e = .returned (.tuple #[]) ∧ ∃ a c, St w0 (Zn wb 8 139 (.agg #[v0, v1, v2, v3, v4, .slice a (tr ++ [(⟨kd, id, nm⟩ : Zc)]).length c, v6, v7]) :: Zg Zc.cells 3 142 (.slice a (tr ++ [(⟨kd, id, nm⟩ : Zc)]).length c) (tr ++ [(⟨kd, id, nm⟩ : Zc)]) :: F) w' := by
 have HS := Bx.mk hS; clear hS;refine Zk Tryz.func156 rfl Tryz.ntmps156 [(0, .pointer (some ⟨wb, 0, none⟩)), (1, .int .i64 kd), (2, .int .i64 id), (3, .string nm)] ⟨rfl, rfl, rfl, rfl, trivial⟩ rfl ?_;refine xrl<|xr 3 rfl<|xy rfl (vf 5 rfl)<|xy rfl (vc HS.out 0 rfl rfl)<|xr 3 rfl<|xy rfl (vb [.int .i64 kd, .int .i64 id, .string nm] rfl) ?_;intro a HF;refine ybs Zc.cells 142 3 [(⟨kd, id, nm⟩ : Zc)] HF HS ?_;clear HF HS a;intro b1 a w1 HF HS;refine yap JM Zc.cells_len HS 2 HF (St.rdN HS.out Zc.cells_len 0 rfl) (Yv _) ?_;clear HF HS a;intro ao2 cp3 w2 a HF HS
 try dsimp only [List.eraseIdx] at HS
 revert a;refine xr 1 rfl<|xy rfl (vf 5 rfl) ?_;intro a HF;refine ZQ rfl rfl rfl (HF.ev rfl) (HF.ev rfl) (by kernel_rfl) HS.out 1 rfl rfl rfl ?_; clear HS; intro w3 HS; replace HS := Bx.mk HS
 try dsimp only [List.set] at HS
 refine wpList_nil ?_;refine X2 HF Tryz.results156 ?_;replace HS:=Bx.mk ((HS.out.pick 2 rfl).pick 2 rfl);have hz : tr.length + ([(⟨kd, id, nm⟩ : Zc)]).length = (tr ++ ([(⟨kd, id, nm⟩ : Zc)])).length := (List.length_append ..).symm;rw [hz] at HS;exact ⟨rfl, _, _, (HS.out.erase 2)⟩
theorem WkF.note {ns : List (Option Zd)} {x : WkX} {met : Nat → Nat} {d : Nat → Bool} {f2 : Int → Option Value} {bd : Nat} (h : WkF ns x met d f2 bd) (a : Option Addr) (c : Nat) : WkF ns { x with a5 := a, c5 := c } met d f2 bd := ⟨h.h1, h.h2, h.h3, h.hq, h.ho⟩
theorem J4 (wb sb : Nat) (ao : Option Addr) (st : Zb) (ns : List (Option Zd)) (met : Nat → Nat) (d : Nat → Bool) (f2 : Int → Option Value) (tr : List Zc) (pa : List Zh) (bd : Nat) (kd id : Int) (nm : ByteArray) (hl : tr.length ≤ 2000) (F : List Asr) (w0 w : World) (hS : St w0 (wkA wb sb ao st ns met d f2 tr pa bd :: F) w) : Calls Tryz.prog 156 #[.pointer (some ⟨wb, 0, none⟩), .int .i64 kd, .int .i64 id, .string nm] w fun e w' => e = .returned (.tuple #[]) ∧ St w0 (wkA wb sb ao st ns met d f2 (tr ++ [(⟨kd, id, nm⟩ : Zc)]) pa bd :: F) w' := by
  obtain ⟨x, hx, h⟩ := hS.wkOut;have h1 := ((h).pick 6 rfl).pick 1 rfl;refine (ZlP wb _ _ _ _ _ _ _ x.a5 x.c5 tr kd id nm hl _ w0 w h1).mono fun e w' hr => ?_;obtain ⟨he, a, c, h2⟩ := hr;exact ⟨he, St.wkIn (hx.note a c) (((((((((((h2).pick 9 rfl).pick 9 rfl).pick 9 rfl).pick 4 rfl).pick 9 rfl).pick 9 rfl).pick 9 rfl).pick 9 rfl).pick 9 rfl).pick 9 rfl)⟩
end Go.Proofs.YtigjfacaofgjjaaGreatDoor
