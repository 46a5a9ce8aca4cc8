/- A part of the proof in YtfhdmfcfcgbgeaaGreatSaX30. -/
import Derived.LoopIn
import Derived.LoopNIn
import Derived.OwnWalkIn
import Derived.RangeFuncLeaves
import Derived.RangeFuncNested
import Derived.Shelf.Abstract
import Derived.TacticsInMore
import Derived.Test.YtfhdmfcfcgbgeaaGreatSaX15
namespace Go.Proofs.YtfhdmfcfcgbgeaaGreat
open Go.Proofs.Tryz
open _root_.ByteArray (size_append)
set_option linter.unusedVariables false
set_option linter.unusedSimpArgs false
set_option maxHeartbeats 1000000
set_option maxRecDepth 100000
open Go.RowKit
structure HD where
  a0 : Option Addr
  c0 : Nat
  a1 : Option Addr
  c1 : Nat
  d : Zn0
instance : Inhabited Zn0 := ⟨⟨[], [], false⟩⟩
instance : Inhabited HD := ⟨⟨none, 0, none, 0, default⟩⟩
theorem St.swap {W w : World} {a b : Asr} {F : List Asr} (h : St W (a :: b :: F) w) : St W (b :: a :: F) w := h.perm (List.Perm.swap ..)
section
variable {P : Program} {ops : Array Oper} {Q : Exit → Act → World → Prop} {o : Oper} {a : Act} {w W : World} {s : List Asr} {K : Act → World → Prop} {α : Type} {size : Nat} {enc : α → List Value} {e : TypeId} {i0 : Nat}
theorem Zj9 (hi0 : ops[i0]? = some o) (hg : o.guard = none) {t : TypeId} {x y : Operand} (ho : o.op = .store t x y) (hd : o.dst = none) {p : Addr} {u v : Value} (hx : a.eval x = .pointer (some p)) (hy : a.eval y = v) (hs : Yw P t = true) (hc : w.cell? p = some u) (hf : w.frozen? p = false) (hv : v.oneCell' = true)
  (h : K a (w.setCell p v)) : wpOp P ops Q i0 K a w := by
 refine Vt hi0 hg ?_;have hr : (execOp a.eval o).run P w = .ok .skip (w.setCell p v) := by
  unfold execOp;simp only [ho, hx, hy];simp [Sem.run_bind, ZaG hs hc hf hv]
 unfold Oper.wp;rw [hr];show K (a.put o.dst undef) _;rw [hd];exact h
theorem Zft {enc : α → List Value} (he : ∀ x, (enc x).length = 1) (hi0 : ops[i0]? = some o) (hg : o.guard = none) {t : TypeId} {x y : Operand} (ho : o.op = .store t x y) (hd : o.dst = none) {g n cap j : Nat} {v : Value} (hx : a.eval x = .pointer (some ⟨g, 0 + j * 1, none⟩)) (hy : a.eval y = v) (hs : Yw P t = true) (hS : St W s w) (i : Nat) {xs : List α}
  (hi : s[i]? = some (Zf enc 1 e (.slice (some ⟨g, 0, none⟩) n cap) xs)) (hj : j < xs.length) {z : α} (hz : enc z = [v]) (hv : v.oneCell' = true)
  (h : ∀ w', St W (s.set i (Zf enc 1 e (.slice (some ⟨g, 0, none⟩) n cap) (xs.set j z))) w' → K a w') : wpOp P ops Q i0 K a w := by
 obtain ⟨g', e1, rfl, hb, hw, hlt⟩ := hS.rowOpen i hi (by omega);simp only [Option.some.injEq, Addr.mk.injEq, and_true] at e1;subst e1;have e0 : 0 + j * 1 = j := by omega
 have hc := hS.elem he i hi (List.getElem?_eq_getElem hj);rw [e0] at hx hc;have hc0 : w.cell? ⟨g, j, none⟩ = some ((enc xs[j])[0]'(by rw [he]; omega)) := by
  have := hc 0 _ (List.getElem?_eq_getElem (by rw [he]; omega))
  simpa using this
 have hp := hS.putRow he i hi hj z;rw [hz, show j * 1 = j by omega] at hp;exact Zj9 hi0 hg ho hd hx hy hs hc0 (hw.frozenAt j) hv (h _ hp)
end
section
variable {P : Program} {o : Oper} {a : Act} {w : World} {e : TypeId}
theorem ZaM {t : TypeId} {x y : Operand} (ho : o.op = .slice t x (some y) none none) {g off n cap : Nat} (hx : a.eval x = .slice (some ⟨g, off, none⟩) n cap) {kk : IntKind} {m : Int} (hy : a.eval y = .int kk m) {size : Nat} (hu : Ys P t = some (e, size)) {k : Nat} (hm : m = (k : Int)) (hk : k ≤ n) (hc : k < cap) : Yl P w o a (.slice (some ⟨g, off + k * size, none⟩) (n - k) (cap - k)) := by
 unfold Ys at hu
 split at hu
 ·rename_i e' hu'
  split at hu
  ·rename_i inf hq
   simp only [Option.some.injEq, Prod.mk.injEq] at hu;obtain ⟨_, rfl⟩ := hu;subst hm;have h2 : ((k : Int) ≤ (n : Int)) := by omega
   have h3 : ¬ cap = k := by omega
   unfold Yl execOp;simp only [ho, hx, hy, Option.map_some, Option.map_none, Instr.sliceAt, Instr.slice, Sem.run_bind, run_underlying hu' w, Result.andThen_ok];simp [Instr.slice, Instr.sliceBounds, Instr.sliceBound, asIntOf, go_sem, run_underlying hu' w, sizeOf, typeInfo, hq, h2, h3, Addr.add];rw [if_pos hk]
   by_cases hz : k * inf.size = 0
   ·rw [if_pos hz, hz, Nat.add_zero]
   ·rw [if_neg hz]
  ·cases hu
 ·cases hu
end
section
variable {P : Program} {ops : Array Oper} {Q : Exit → Act → World → Prop} {a : Act} {w W : World} {s : List Asr} {fuel m N : Nat} {listed : Array Bool} {oi : Oper} {l : List (Nat × Value)} {K : Act → World → Prop}
end
def holdsA (P : World → Prop) : Asr := ⟨fun w f => ∀ w', w.heap.size ≤ w'.heap.size → (∀ b, b ∈ f → w'.heap[b]? = w.heap[b]?) → P w', fun w w' f hs hb h w2 hs2 hb2 => h w2 (Nat.le_trans hs hs2) fun b hm => (hb2 b hm).trans (hb b hm)⟩
theorem St.hold {W w : World} {A : Asr} {F : List Asr} {P : World → Prop} (h : St W (A :: F) w) (hP : ∀ w f, A.P w f → P w) : St W (holdsA P :: F) w := by
 obtain ⟨f, ⟨f1, f2, rfl, h1, h2⟩, hn, hb⟩ := h.sep;exact ⟨h.bel, f1 ++ f2, ⟨f1, f2, rfl, fun w' hs hb => hP w' f1 (A.loc _ _ _ hs hb h1), h2⟩, hn, hb⟩
theorem St.holds {W w : World} {s : List Asr} {P : World → Prop} (h : St W s w) (i : Nat) (hi : s[i]? = some (holdsA P)) : P w := by
 obtain ⟨f, h1, _⟩ := h.get i hi;exact h1 w (Nat.le_refl _) fun _ _ => rfl
theorem Rd.drop {α : Type} {enc : α → List Value} {size : Nat} {w : World} {g o n : Nat} {xs : List α} (h : Rd enc size w (some ⟨g, o, none⟩) n xs) {k : Nat} (hk : k ≤ xs.length) : Rd enc size w (some ⟨g, o + k * size, none⟩) (n - k) (xs.drop k) := by
 refine ⟨by rw [List.length_drop, h.len], fun i hi => ?_⟩;rw [List.length_drop] at hi;obtain ⟨b, off, x, hx, e, hlt, hr⟩ := h.at_ (k + i) (by omega);simp only [Option.some.injEq, Addr.mk.injEq, and_true] at e;obtain ⟨rfl, rfl⟩ := e;exact ⟨g, o + k * size, x, by rw [List.getElem?_drop]; exact hx, rfl, hlt, by rw [Nat.add_assoc, ← Nat.add_mul]; exact hr⟩
theorem Zjy {xs : List ByteArray} {m : Nat} (h : ∀ x, x ∈ xs → x.size ≤ m) (k : Nat) : (xs.getD k ByteArray.empty).size ≤ m := by
 by_cases hk : k < xs.length
 ·rw [show xs.getD k ByteArray.empty = xs[k] by simp [List.getD, hk]]
  exact h _ (List.getElem_mem hk)
 ·rw [show xs.getD k ByteArray.empty = ByteArray.empty by simp [List.getD, List.getElem?_eq_none (Nat.le_of_not_lt hk)]]
  exact Nat.zero_le _
theorem Xh (x : UInt8) : (⟨#[x]⟩ : ByteArray).size = 1 := rfl
theorem Zka {n : Nat} (h : decide ((2048 : Int) < (n : Int)) = false) : n ≤ 2048 := by have := of_decide_eq_false h; omega
theorem Zkb {n : Nat} (h : decide ((2048 : Int) < (n : Int)) = true) : ¬ n ≤ 2048 := by have := of_decide_eq_true h; omega
theorem Zcl (n : Nat) (hn : n ≤ 9223372036854775807) (w0 : World) : Calls prog 74 #[.int .i64 (n : Int)] w0 fun e w' => e = .returned (.string (ZB n)) ∧ Below w0.heap.size w0 w' := by
 induction n using Nat.strongRecOn generalizing w0
 rename_i n ih
 have hd := U6 (n := n / 10) (by omega);have E := Bx.mk (St.start w0);refine ent func74 ntmps74 ?_;refine xsr<|xr 1 rfl<|xne<|xsq<|xsr<|xr 2 rfl<|xne<|xcd 4 rfl (fun _ dcc1=>?_) fun _ dcc1=>?_
 omega
 refine xcf rfl<|xsk<|xet<|xsq<|xsr<|xr 2 rfl<|xne<|xcd 6 rfl (fun _ dcc2=>?_) fun _ dcc2=>?_
 omega
 refine xcf rfl<|xsk<|xet<|xsq<|xsr<|xr 2 rfl<|xne<|xcd 12 rfl (fun _ dcc3=>?_) fun _ dcc3=>?_;refine xct rfl<|xsr<|xr 1 rfl<|xy rfl (vad rfl)<|xy rfl (fun a J=>Zby (b := UInt8.ofNat ((48 : Int) + (n : Int)).toNat) rfl (J.ev rfl) (by omega) rfl (by kernel_rfl) (by kernel_rfl)) ?_;refine ybs encB 5 1 [(UInt8.ofNat ((48 : Int) + (n : Int)).toNat)] E ?_;clear E;intro b1 w1 E;refine xy rfl (fun a J=>Jv (e1 := 5) rfl (J.ev rfl) (by kernel_rfl) (by kernel_rfl) (by kernel_rfl) (xs := [(UInt8.ofNat ((48 : Int) + (n : Int)).toNat)]) (St.rdN E.o YL 0 rfl))<|xr 1 rfl<|xne<|xre<|xtr<|xb1 results74 rfl ?_;exact ⟨by rw [Ziy (by omega), show UInt8.ofNat (48 + (n : Int)).toNat = UInt8.ofNat (48 + n) from congrArg UInt8.ofNat (by omega)], E.o.bel⟩;refine xcf rfl<|xsk<|xet<|xsq ?_;refine hld [] E ?_;clear E;intro w2 E M;refine Hp 0 E rfl<|xhy 1 E.o rfl rfl (fun E a J=>Ue rfl (J.ev rfl) (J.ev rfl) (by omega) (Ug (by omega) (by omega) (by omega)))<|Hp 3 E rfl<|xhy 4 E.o rfl rfl (fun E a J=>Qj rfl (J.ev rfl) (J.ev rfl) (by omega) (Qm (by omega) (by omega)))<|xhy 5 E.o rfl rfl (fun E=>vad rfl)<|xhy 6 E.o rfl rfl (fun E a J=>Zby (b := UInt8.ofNat ((48 : Int) + ((n : Int) % 10)).toNat) rfl (J.ev rfl) (by omega) rfl (by kernel_rfl) (by kernel_rfl)) ?_;refine ZdM 2 7 ?_ ?_;refine yoB (ih (n / 10) (by omega) (by omega) _) func74 ?_;intro w3 hb; replace E := Bx.mk (E.o.later hb); replace M := Bx.mk (M.o.later hb);clear hb; refine onb E.o ?_;refine Zq 7 ?_;intro a J;refine Xe (enc := encB) (e := 5) (size := 1) rfl rfl J rfl rfl rfl (ps := [(0, .int .u8 ((UInt8.ofNat ((48 : Int) + ((n : Int) % 10)).toNat).toNat : Int))]) rfl (cells := [.int .u8 ((UInt8.ofNat ((48 : Int) + ((n : Int) % 10)).toNat).toNat : Int)]) (by kernel_rfl) [(UInt8.ofNat ((48 : Int) + ((n : Int) % 10)).toNat)] rfl rfl (by unfold maxLen; omega) rfl M.o E.o ?_; clear J E M a; intro b2 a w5 J M E; replace E := Bx.mk E; replace M := Bx.mk M; refine ⟨E.o, ?_⟩;revert a;refine Zq 8 ?_;refine yoy E (fun a J=>Jv (e1 := 5) rfl (J.ev rfl) (by kernel_rfl) (by kernel_rfl) (by kernel_rfl) (xs := [(UInt8.ofNat ((48 : Int) + ((n : Int) % 10)).toNat)]) (St.rdN M.o YL 0 rfl)) ?_;refine xhy 9 E.o rfl rfl (fun E a J=>ZE rfl (J.ev rfl) (J.ev rfl) (by (try simp only [Xh, Zl]); omega))<|Hp 10 E rfl ?_;refine hdn ?_;replace E := M; clear M;refine xet<|xre<|xb1 results74 rfl ?_;exact ⟨by rw [ZdO (n := n) (by omega), show UInt8.ofNat (48 + (n : Int) % (10 : Int)).toNat = UInt8.ofNat (48 + n % 10) from congrArg UInt8.ofNat (by omega)], E.o.bel⟩;intro a J;refine Xe (enc := encB) (e := 5) (size := 1) rfl rfl J rfl rfl rfl (ps := [(0, .int .u8 ((UInt8.ofNat ((48 : Int) + ((n : Int) % 10)).toNat).toNat : Int))]) rfl (cells := [.int .u8 ((UInt8.ofNat ((48 : Int) + ((n : Int) % 10)).toNat).toNat : Int)]) (by kernel_rfl) [(UInt8.ofNat ((48 : Int) + ((n : Int) % 10)).toNat)] rfl rfl (by unfold maxLen; omega) rfl M.o E.o ?_; clear J E M a; intro b3 a w8 J M E; replace E := Bx.mk E; replace M := Bx.mk M; refine ⟨E.o, ?_⟩;revert a;refine ZdM 2 8 ?_ ?_;refine yoB (ih (n / 10) (by omega) (by omega) _) func74 ?_;intro w9 hb; replace E := Bx.mk (E.o.later hb); replace M := Bx.mk (M.o.later hb);clear hb; refine onb E.o ?_;refine Zq 8 ?_;refine yoy E (fun a J=>Jv (e1 := 5) rfl (J.ev rfl) (by kernel_rfl) (by kernel_rfl) (by kernel_rfl) (xs := [(UInt8.ofNat ((48 : Int) + ((n : Int) % 10)).toNat)]) (St.rdN M.o YL 0 rfl)) ?_;refine xhy 9 E.o rfl rfl (fun E a J=>ZE rfl (J.ev rfl) (J.ev rfl) (by (try simp only [Xh, Zl]); omega))<|Hp 10 E rfl ?_;refine hdn ?_;replace E := M; clear M;refine xet<|xre<|xb1 results74 rfl ?_;exact ⟨by rw [ZdO (n := n) (by omega), show UInt8.ofNat (48 + (n : Int) % (10 : Int)).toNat = UInt8.ofNat (48 + n % 10) from congrArg UInt8.ofNat (by omega)], E.o.bel⟩;refine yoy E (fun a J=>Jv (e1 := 5) rfl (J.ev rfl) (by kernel_rfl) (by kernel_rfl) (by kernel_rfl) (xs := [(UInt8.ofNat ((48 : Int) + ((n : Int) % 10)).toNat)]) (St.rdN M.o YL 0 rfl)) ?_;refine Zq 2 ?_;refine yoB (ih (n / 10) (by omega) (by omega) _) func74 ?_;intro w12 hb; replace E := Bx.mk (E.o.later hb); replace M := Bx.mk (M.o.later hb);clear hb; refine onb E.o ?_;refine xhy 9 E.o rfl rfl (fun E a J=>ZE rfl (J.ev rfl) (J.ev rfl) (by (try simp only [Xh, Zl]); omega))<|Hp 10 E rfl ?_;refine hdn ?_;replace E := M; clear M;refine xet<|xre<|xb1 results74 rfl ?_;exact ⟨by rw [ZdO (n := n) (by omega), show UInt8.ofNat (48 + (n : Int) % (10 : Int)).toNat = UInt8.ofNat (48 + n % 10) from congrArg UInt8.ofNat (by omega)], E.o.bel⟩
theorem ZaN : (⟨#[58]⟩ : ByteArray).size = 1 := rfl
theorem JR (a0 : Option Addr) (n c0 : Nat) (xs : List ByteArray) (w0 : World) (hl : xs.length ≤ 1048576) (hx : szs xs) (hR : Rd Zx 1 w0 a0 n xs) : Calls prog 148 #[.slice a0 n c0] w0 fun e w' => e = .returned (.tuple #[.string (Yv xs).1, .bool (Yv xs).2]) ∧ Below w0.heap.size w0 w' := by
 obtain rfl := hR.len;obtain ⟨g0, o0, r0⟩ := hR.opn; have R0 := Bx.mk r0; clear r0 hR;have E := Bx.mk (St.start w0);refine Xy func148 rfl ntmps148 [(0, .slice a0 xs.length c0)] ⟨rfl, trivial⟩ rfl ?_;refine xsr<|xr 2 rfl<|xne<|xsr<|xr 1 rfl<|xne<|xsq<|xsr<|xr 1 rfl<|xne<|xbl ?_;intro a J;refine Zt (ι := Nat) (fun k a w => (k ≤ xs.length ∧ (Ye (xs.take k)).size ≤ 2048 ∧ (¬ xs.length ≤ 60 → k = 0)) ∧ Fr 44 a [(0, .slice a0 xs.length c0), (4, .string (Ye (xs.take k))), (5, .int .i64 (k : Int))] ∧ St w0 ([]) w) (fun k => xs.length - k) 0 ⟨⟨Nat.zero_le _, by simp [Ye], fun _ => rfl⟩, J.less _ ⟨rfl, rfl, rfl, trivial⟩, E.o⟩ ?_;clear J E; clear a;rintro k a w1 ⟨⟨hk, hr, h0k⟩, J, E⟩;replace E := Bx.mk E;have hxk := hx k; have hdec := U6 (n := (xs.getD k ByteArray.empty).size) (by omega);revert a;refine xsq<|xsr<|xr 2 rfl<|xy rfl (vn 9 1 rfl)<|xr 2 rfl<|xcd 10 rfl (fun _ dcc1=>?_) fun _ dcc1=>?_
 refine xr 1 rfl<|xy rfl (vn 9 1 rfl)<|xr 2 rfl<|xne<|xcd 14 rfl (fun _ dcc2=>?_) fun _ dcc2=>?_;refine xct rfl<|xsk<|xet<|xsq<|xbl<|xsq<|xsr<|xr 2 rfl<|xy rfl (vxr 9 k 1 rfl (R0.out.ao k (by omega)))<|xy rfl (fun a J=>ylo (v := .string (xs.getD k ByteArray.empty)) rfl (J.ev rfl) (R0.out.elem1 E.o (Zg (xs := xs) (j := k) (d := ByteArray.empty) (by omega)) rfl))<|xy rfl (fun a J=>ZO rfl (J.ev rfl) (by kernel_rfl))<|xr 1 rfl<|xne<|xcd 22 rfl (fun _ dcc3=>?_) fun _ dcc3=>?_;refine xct rfl<|xsr<|xr 2 rfl<|xne<|xre<|xtr<|xbr<|xtr<|xtr<|xbr<|xtr<|xb2 results148 rfl rfl ?_;exact ⟨by rw [ZdQ (k := k) (by omega) (by omega)]; rfl, E.o.bel⟩;refine xcf rfl<|xsk<|xet<|xsq ?_;intro a J;refine Z1 (by kernel_rfl) (by kernel_rfl) E.o ?_;revert a;refine xqr 3 rfl<|xq rfl (fun E=>vxr 9 k 1 rfl (R0.out.ao k (by omega)))<|xq rfl (fun E a J=>ylo (v := .string (xs.getD k ByteArray.empty)) rfl (J.ev rfl) (R0.out.elem1 E (Zg (xs := xs) (j := k) (d := ByteArray.empty) (by omega)) rfl))<|xq rfl (fun E a J=>ZO rfl (J.ev rfl) (by kernel_rfl)) ?_;refine yq (fun _ E => Zcl ((xs.getD k ByteArray.empty).size) (by omega) _) func74 ?_;refine xq rfl (fun E a J=>ZE rfl (J.ev rfl) (J.ev rfl) (by (try simp only [ZaN, Zl]); omega))<|xq rfl (fun E a J=>ZE rfl (J.ev rfl) (J.ev rfl) (by (try simp only [ZaN, Zl]); omega))<|xqr 2 rfl<|xq rfl (fun E=>vxr 9 k 1 rfl (R0.out.ao k (by omega)))<|xq rfl (fun E a J=>ylo (v := .string (xs.getD k ByteArray.empty)) rfl (J.ev rfl) (R0.out.elem1 E (Zg (xs := xs) (j := k) (d := ByteArray.empty) (by omega)) rfl))<|xq rfl (fun E a J=>ZE rfl (J.ev rfl) (J.ev rfl) (by (try simp only [ZaN, Zl]); omega))<|xqr 1 rfl ?_;intro a J;refine wpQuiet_nil ?_; intro w2 E; replace E := Bx.mk E;revert a;refine xet<|xsr<|xr 1 rfl<|xy rfl (fun a J=>ZO rfl (J.ev rfl) (by kernel_rfl))<|xr 1 rfl<|xne<|xcd 39 rfl (fun cc4 dcc4=>?_) fun cc4 dcc4=>?_
 refine xct rfl<|xsr<|xr 2 rfl<|xne<|xre<|xbr<|xtr<|xtr<|xbr<|xtr<|xb2 results148 rfl rfl ?_;have hgt : ¬ (Ye (xs.take (k + 1))).size ≤ 2048 := by rw [Zck xs (by omega)]; exact Zkb cc4
 exact ⟨by rw [Ze6 hgt]; rfl, E.o.bel⟩;refine xcf rfl<|xsk<|xeb<|xet<|xrl<|xr 1 rfl<|xy rfl (vad rfl)<|xr 1 rfl<|xne ?_;have hst := Zck xs (k := k) (by omega);have hle : (Ye (xs.take (k + 1))).size ≤ 2048 := by rw [hst]; exact Zka cc4
 intro a J;exact ⟨k + 1, ⟨⟨by omega, hle, fun h => absurd h (by omega)⟩, J.less _ ⟨rfl, (congrArg (fun z => some (Value.string z)) hst.symm), rfl, trivial⟩, E.o⟩, (by omega)⟩;refine xcf rfl<|xex<|xtx<|xtx<|xbh<|xet<|xsr<|xr 2 rfl<|xy rfl (vn 9 1 rfl)<|xr 3 rfl<|xne<|xre<|xb2 results148 rfl rfl ?_
 by_cases h60 : xs.length ≤ 60
 obtain rfl : k = xs.length := by omega
 rw [List.take_length] at hr;exact ⟨by rw [Y4 h60 hr, List.take_length, show ((decide ((xs.length : Int) ≤ 60))) = true from decide_eq_true (by omega)], E.o.bel⟩;obtain rfl : k = 0 := h0k (by omega);exact ⟨by rw [VH h60, show ((decide ((xs.length : Int) ≤ 60))) = false from decide_eq_false (by omega)]; rfl, E.o.bel⟩;refine xr 4 rfl<|xne<|xcf rfl<|xex<|xtx<|xtx<|xbh<|xet<|xsr<|xr 2 rfl<|xy rfl (vn 9 1 rfl)<|xr 3 rfl<|xne<|xre<|xb2 results148 rfl rfl ?_
 by_cases h60 : xs.length ≤ 60
 obtain rfl : k = xs.length := by omega
 rw [List.take_length] at hr;exact ⟨by rw [Y4 h60 hr, List.take_length, show ((decide ((xs.length : Int) ≤ 60))) = true from decide_eq_true (by omega)], E.o.bel⟩;obtain rfl : k = 0 := h0k (by omega);exact ⟨by rw [VH h60, show ((decide ((xs.length : Int) ≤ 60))) = false from decide_eq_false (by omega)]; rfl, E.o.bel⟩
def Qd (s : ByteArray) : Nat → ByteArray
 | 0 => ByteArray.empty
 | n + 1 => s ++ Qd s n
theorem ZdV (s : ByteArray) (n : Nat) : (Qd s n).size = n * s.size := by
 induction n with
 | zero => simp [Qd]
 | succ n ih => unfold Qd; rw [size_append, ih, Nat.succ_mul]; omega
theorem Zfu (s : ByteArray) (n : Nat) : Qd (s ++ s) n = Qd s (2 * n) := by
 induction n with
 | zero => rfl
 | succ n ih =>
  rw [show 2 * (n + 1) = 2 * n + 1 + 1 by omega];unfold Qd;rw [ih]
  conv => rhs; rw [show Qd s (2 * n + 1) = s ++ Qd s (2 * n) from rfl]
  apply Yz
  simp [Z6]
theorem ZlD (o s : ByteArray) (n : Nat) (h : n % 2 = 1) : o ++ Qd s n = (o ++ s) ++ Qd (s ++ s) (n / 2) := by
 rw [Zfu];obtain ⟨m, rfl⟩ : ∃ m, n = 2 * m + 1 := ⟨n / 2, by omega⟩;rw [show (2 * m + 1) / 2 = m by omega]
 conv => lhs; rw [show Qd s (2 * m + 1) = s ++ Qd s (2 * m) from rfl]
 apply Yz
 simp [Z6]
theorem Zkc (o s : ByteArray) (n : Nat) (h : ¬ n % 2 = 1) : o ++ Qd s n = o ++ Qd (s ++ s) (n / 2) := by
 rw [Zfu, show 2 * (n / 2) = n by omega]
theorem ZdW (s : ByteArray) (n : Nat) (w0 : World) (hn : n ≤ 1000000) (hs : n * s.size ≤ 1000000000) (hs2 : s.size ≤ 1000000000) : Calls prog 87 #[.string s, .int .i64 (n : Int)] w0 fun e w' => e = .returned (.string (Qd s n)) ∧ Below w0.heap.size w0 w' := by
 have E := Bx.mk (St.start w0);refine ent func87 ntmps87 ?_;refine xsr<|xr 1 rfl<|xne<|xsr<|xr 1 rfl<|xne<|xsq<|xbl ?_;intro a J;refine Zt (ι := Nat) (fun m a w => ∃ (t o : ByteArray), (m ≤ n ∧ o ++ Qd t m = Qd s n ∧ o.size + m * t.size = n * s.size ∧ t.size ≤ 2 * (n * s.size) + s.size) ∧ Fr 20 a [(0, .string t), (1, .int .i64 (m : Int)), (5, .string o)] ∧ St w0 ([]) w) (fun m => m) n ⟨s, ByteArray.empty, ⟨Nat.le_refl _, rfl, by simp, by omega⟩, J.less _ ⟨rfl, rfl, rfl, trivial⟩, E.o⟩ ?_;clear J E; clear a;rintro m a w1 ⟨t, o, ⟨hm, hq, hz, ht⟩, J, E⟩;replace E := Bx.mk E;revert a;refine xsq<|xsr<|xr 2 rfl<|xne<|xcd 7 rfl (fun _ dcc1=>?_) fun _ dcc1=>?_
 refine xct rfl<|xsk<|xet<|xbl<|xsq<|xsq ?_;have hm1 : 1 * t.size ≤ m * t.size := Nat.mul_le_mul_right _ (by omega);refine xrl<|xr 1 rfl<|xy rfl (fun a J=>Qj rfl (J.ev rfl) (J.ev rfl) (by omega) (Qm (by omega) (by omega)))<|xr 1 rfl<|xne<|xce 10 rfl (fun _ dcc2=>?_) fun _ dcc2=>?_;refine xct rfl<|xrl<|xr 2 rfl<|xy rfl (fun a J=>ZE rfl (J.ev rfl) (J.ev rfl) (by omega))<|xr 1 rfl<|xne<|xsr<|xr 2 rfl<|xy rfl (fun a J=>ZE rfl (J.ev rfl) (J.ev rfl) (by omega))<|xr 1 rfl<|xne<|xrl<|xr 1 rfl<|xy rfl (fun a J=>Ue rfl (J.ev rfl) (J.ev rfl) (by omega) (Ug (by omega) (by omega) (by omega)))<|xr 1 rfl<|xni<|xeb<|xet ?_;have hmm : m / 2 + m / 2 + m % 2 = m := by omega
 have ho : m % 2 = 1 := by omega
 rw [ZlD o t m ho] at hq;have hts : (t ++ t).size = t.size + t.size := size_append;have hos : (o ++ t).size = o.size + t.size := size_append;have hmt : (m / 2) * (t.size + t.size) + (m % 2) * t.size = m * t.size := by rw [Nat.mul_add, ← Nat.add_mul, ← Nat.add_mul, hmm]
 have hm1 : 1 * t.size ≤ m * t.size := Nat.mul_le_mul_right _ (by omega);rw [ho, Nat.one_mul] at hmt;intro a J;exact ⟨m / 2, ⟨_, _, ⟨by omega, hq, by rw [hts, hos]; omega, by rw [hts]; omega⟩, J.less _ ⟨rfl, (by show _ = some (Value.int .i64 ((m / 2 : Nat) : Int)); rw [show ((m / 2 : Nat) : Int) = (m : Int) / 2 by omega]; rfl), rfl, trivial⟩, E.o⟩, (by omega)⟩;refine xcf rfl<|xsk<|xet<|xsr<|xr 2 rfl<|xy rfl (fun a J=>ZE rfl (J.ev rfl) (J.ev rfl) (by omega))<|xr 1 rfl<|xne<|xrl<|xr 1 rfl<|xy rfl (fun a J=>Ue rfl (J.ev rfl) (J.ev rfl) (by omega) (Ug (by omega) (by omega) (by omega)))<|xr 1 rfl<|xni<|xeb<|xet ?_;have hmm : m / 2 + m / 2 + m % 2 = m := by omega
 have ho : ¬ m % 2 = 1 := by omega
 rw [Zkc o t m ho] at hq;have hts : (t ++ t).size = t.size + t.size := size_append;have hmt : (m / 2) * (t.size + t.size) + (m % 2) * t.size = m * t.size := by rw [Nat.mul_add, ← Nat.add_mul, ← Nat.add_mul, hmm]
 have hm1 : 1 * t.size ≤ m * t.size := Nat.mul_le_mul_right _ (by omega);rw [show m % 2 = 0 by omega, Nat.zero_mul] at hmt;intro a J;exact ⟨m / 2, ⟨_, _, ⟨by omega, hq, by rw [hts]; omega, by rw [hts]; omega⟩, J.less _ ⟨rfl, (by show _ = some (Value.int .i64 ((m / 2 : Nat) : Int)); rw [show ((m / 2 : Nat) : Int) = (m : Int) / 2 by omega]; rfl), rfl, trivial⟩, E.o⟩, (by omega)⟩;refine xcf rfl<|xex<|xtx<|xtx<|xbh<|xet<|xsr<|xr 2 rfl<|xne<|xre<|xb1 results87 rfl ?_;obtain rfl : m = 0 := by omega
 have ho : o = Qd s n := by rw [← hq]; apply Yz; simp [Z6, Qd]
 exact ⟨by rw [ho], E.o.bel⟩
theorem Zgp {n lo hi : Int} (h1 : lo ≤ n) (h2 : n ≤ hi) : inB n lo hi = true := by
 unfold inB; simp [h1, h2]
theorem ZdX : Vu prog 24 3 1 8 := by
 obtain ⟨i0, hi, hz0, hz1, hz2⟩ := info_parts (P := prog) (e := 3) (z := .int .i64 0) (size := 1) (bytes := 8) (by kernel_rfl);exact ⟨Tryz.underlying24, ⟨i0, _, hi, hz0, hz1, hz2, rfl⟩, by decide⟩
theorem YJ (n : Int) (h0 : 0 ≤ n) (h1 : n ≤ 9223372036854775807) (w0 : World) : Calls prog 74 #[.int .i64 n] w0 fun e w' => e = .returned (.string (ZB n.toNat)) ∧ Below w0.heap.size w0 w' := by
 obtain ⟨m, rfl⟩ : ∃ m : Nat, n = (m : Int) := ⟨n.toNat, by omega⟩;rw [Int.toNat_natCast]; exact Zcl m (by omega) w0
def Zcm : ByteArray := ⟨#[46]⟩
def YM (p : PtrD) : ByteArray := bif p.ok then (bif p.hole then ⟨#[45]⟩ else Yx p.aA ++ Zcm ++ Yx p.al ++ Zcm ++ Yx p.av ++ Zcm ++ Yx p.aC ++ Zcm ++ Yx p.ar) else ByteArray.empty
theorem Zgq {p : PtrD} (h : p.ok = false) : YM p = ByteArray.empty := by unfold YM; rw [h]; rfl
theorem QS {p : PtrD} (h : p.ok = true) (h2 : p.hole = true) : YM p = ⟨#[45]⟩ := by unfold YM; rw [h, h2]; rfl
theorem VI {p : PtrD} (h : p.ok = true) (h2 : p.hole = false) : YM p = Yx p.aA ++ Zcm ++ Yx p.al ++ Zcm ++ Yx p.av ++ Zcm ++ Yx p.aC ++ Zcm ++ Yx p.ar := by unfold YM; rw [h, h2]; rfl
theorem ZlE : Zcm.size = 1 := rfl
theorem Zdx (p : PtrD) : (YM p).size ≤ 49 := by
 have h1 := Xs p.aA; have h2 := Xs p.al; have h3 := Xs p.av; have h4 := Xs p.aC; have h5 := Xs p.ar
 cases h : p.ok with
 | false => rw [Zgq h]; exact Nat.zero_le _
 | true =>
  cases hh : p.hole with
  | true => rw [QS h hh]; decide
  | false => rw [VI h hh]; simp only [Zl, ZlE]; omega
theorem PtrD.ok_all {p : PtrD} (h : p.ok = true) (h2 : p.hole = false) : 8 ≤ p.aA ∧ p.aA ≤ 63 ∧ 1 ≤ p.al ∧ p.al ≤ 900 ∧ 1 ≤ p.av ∧ p.av ≤ 128 ∧ 0 ≤ p.aC ∧ p.aC ≤ 99460728 ∧ 0 ≤ p.ar ∧ p.ar ≤ 2 := by
 unfold PtrD.ok at h;rw [h2, Bool.false_or] at h;simp only [Bool.and_eq_true] at h;have h1 := Zw h.1.1.1.1;have h3 := Zw h.1.1.1.2;have h4 := Zw h.1.1.2;have h5 := Zw h.1.2;have h6 := Zw h.2
 omega
theorem Ja (p : PtrD) (w0 : World) : Calls prog 149 #[pV p] w0 fun e w' => e = .returned (.string (YM p)) ∧ Below w0.heap.size w0 w' := by
 have E := Bx.mk (St.start w0);refine ent func149 ntmps149 ?_;refine xsr ?_;refine ybx E ?_;clear E;intro w1 b1 E;refine xr 1 rfl<|xne<|xsq<|xsr<|Xw 0 5 E rfl rfl ?_;refine ycB (ZQ p _) func43 E ?_;clear E;intro w2 E;refine xr 1 rfl<|xne<|xcs 5 rfl (fun cc1=>?_) fun cc1=>?_;refine xct rfl<|xsr<|xr 1 rfl<|xne<|xre<|xtr<|xb1 results149 rfl ?_;exact ⟨by rw [Zgq (by simpa using cc1)]; rfl, E.o.bel⟩;refine xcf rfl<|xsk<|xet<|xsq<|xsr<|Xw 0 5 E rfl rfl ?_;refine ycB (ZA p _) func52 E ?_;clear E;intro w3 E;refine xne<|xcs 7 rfl (fun cc2=>?_) fun cc2=>?_;refine xct rfl<|xsr<|xr 1 rfl<|xne<|xre<|xtr<|xb1 results149 rfl ?_;exact ⟨by rw [QS (by simpa using cc1) cc2], E.o.bel⟩;refine xcf rfl<|xsk<|xet<|xsq ?_;have hpb := PtrD.ok_all (p := p) (by simpa using cc1) cc2;have zfAt : (ZB p.aA.toNat).size ≤ 19 := U6 (by omega);have zfBirth : (ZB p.al.toNat).size ≤ 19 := U6 (by omega);have zfSize : (ZB p.av.toNat).size ≤ 19 := U6 (by omega);have zfSum : (ZB p.aC.toNat).size ≤ 19 := U6 (by omega);have zfLevel : (ZB p.ar.toNat).size ≤ 19 := U6 (by omega);intro a J;refine Z1 (by kernel_rfl) (by kernel_rfl) E.o ?_;revert a;refine Qf 0 rfl<|Ql 0 rfl rfl ?_;refine yq (fun _ E => YJ p.aA (by omega) (by omega) _) func74 ?_;refine xq rfl (fun E a J=>ZE rfl (J.ev rfl) (J.ev rfl) (by (try simp only [Xh, Zl]); omega))<|Qf 1 rfl<|Ql 0 rfl rfl ?_;refine yq (fun _ E => YJ p.al (by omega) (by omega) _) func74 ?_;refine xq rfl (fun E a J=>ZE rfl (J.ev rfl) (J.ev rfl) (by (try simp only [Xh, Zl]); omega))<|xq rfl (fun E a J=>ZE rfl (J.ev rfl) (J.ev rfl) (by (try simp only [Xh, Zl]); omega))<|Qf 2 rfl<|Ql 0 rfl rfl ?_;refine yq (fun _ E => YJ p.av (by omega) (by omega) _) func74 ?_;refine xq rfl (fun E a J=>ZE rfl (J.ev rfl) (J.ev rfl) (by (try simp only [Xh, Zl]); omega))<|xq rfl (fun E a J=>ZE rfl (J.ev rfl) (J.ev rfl) (by (try simp only [Xh, Zl]); omega))<|Qf 3 rfl<|Ql 0 rfl rfl ?_;refine yq (fun _ E => YJ p.aC (by omega) (by omega) _) func74 ?_;refine xq rfl (fun E a J=>ZE rfl (J.ev rfl) (J.ev rfl) (by (try simp only [Xh, Zl]); omega))<|xq rfl (fun E a J=>ZE rfl (J.ev rfl) (J.ev rfl) (by (try simp only [Xh, Zl]); omega))<|Qf 4 rfl<|Ql 0 rfl rfl ?_;refine yq (fun _ E => YJ p.ar (by omega) (by omega) _) func74 ?_;refine xq rfl (fun E a J=>ZE rfl (J.ev rfl) (J.ev rfl) (by (try simp only [Xh, Zl]); omega))<|xqr 1 rfl ?_;intro a J;refine wpQuiet_nil ?_; intro w4 E; replace E := Bx.mk E;revert a;refine xet<|xre<|xb1 results149 rfl ?_;exact ⟨by rw [VI (by simpa using cc1) cc2, Xc (n := p.aA) (by omega) (by omega), Xc (n := p.al) (by omega) (by omega), Xc (n := p.av) (by omega) (by omega), Xc (n := p.aC) (by omega) (by omega), Xc (n := p.ar) (by omega) (by omega)]; rfl, E.o.bel⟩
section
variable {P : Program} {o : Oper} {a : Act} {w : World} {t t' : TypeId} {x y : Operand}
theorem Znl (ho : o.op = .binOp .eql t x y t') {b c : Bool} (hx : a.eval x = .bool b) (hy : a.eval y = .bool c) (hu : P.underlying t = some .bool) : Yl P w o a (.bool (b == c)) := by
 have h : (Op.equal t (.bool b) (.bool c)).run P w = .ok (b == c) w := by
  unfold Op.equal Op.maxDepth;rw [Op.equalIn];simp only [Sem.run_bind, run_underlying hu w, Result.andThen_ok, Sem.run_pure]
 unfold Yl execOp;simp only [ho, hx, hy];simp [eqGuard, binOp, h]
theorem ZbA (ho : o.op = .binOp .eql t x y t') {b : Bool} (hx : a.eval x = .bool b) (hy : a.eval y = .bool b) (hu : P.underlying t = some .bool) : Yl P w o a (.bool true) := by
 have := Znl (P := P) (w := w) ho hx hy hu
 simpa using this
end
theorem ZV {a b : ByteArray} (h : (a.toList == b.toList) = true) : a = b := by
 have h := eq_of_beq h;rw [ByteArray.toList_eq, ByteArray.toList_eq] at h;exact ByteArray.ext (Array.toList_inj.1 h)
end Go.Proofs.YtfhdmfcfcgbgeaaGreat
