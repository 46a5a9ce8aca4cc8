/- A part of the proof in YtfhdmfcfcgbgeaaGreatDoorNoX33. -/
import Derived.LoopIn
import Derived.LoopNIn
import Derived.OwnWalkIn
import Derived.RangeFuncLeaves
import Derived.RangeFuncNested
import Derived.Shelf.Abstract
import Derived.TacticsInMore
import Derived.Test.YtfhdmfcfcgbgeaaGreatDoorNoX16
namespace Go.Proofs.YtfhdmfcfcgbgeaaGreatDoor
open Go.Proofs.Tryz
open _root_.ByteArray (size_append)
open List (append_nil length_append length_cons length_nil map_cons nil_append)
set_option linter.unusedVariables false
set_option linter.unusedSimpArgs false
set_option maxHeartbeats 1000000
set_option maxRecDepth 100000
open Go.RowKit
structure HD where
  a0 : Option Addr
  c0 : Nat
  a1 : Option Addr
  c1 : Nat
  d : ZnJ
instance : Inhabited ZnJ := ⟨⟨[], [], false⟩⟩
instance : Inhabited HD := ⟨⟨none, 0, none, 0, default⟩⟩
open Go.RowKit
theorem St.swap {W w : World} {a b : Asr} {F : List Asr} (h : St W (a :: b :: F) w) : St W (b :: a :: F) w := h.perm (List.Perm.swap ..)
open Go.RowKit
section
variable {P : Program} {ops : Array Oper} {Q : Exit → Act → World → Prop} {o : Oper} {a : Act} {w W : World} {s : List Asr} {K : Act → World → Prop} {α : Type} {size : Nat} {enc : α → List Value} {e : TypeId} {i0 : Nat}
theorem ZjG (hi0 : ops[i0]? = some o) (hg : o.guard = none) {t : TypeId} {x y : Operand} (ho : o.op = .store t x y) (hd : o.dst = none) {p : Addr} {u v : Value} (hx : a.eval x = .pointer (some p)) (hy : a.eval y = v) (hs : YB P t = true) (hc : w.cell? p = some u) (hf : w.frozen? p = false) (hv : v.oneCell' = true)
  (h : K a (w.setCell p v)) : wpOp P ops Q i0 K a w := by
 refine Vl hi0 hg ?_;have hr : (execOp a.eval o).run P w = .ok .skip (w.setCell p v) := by
  unfold execOp;simp only [ho, hx, hy];simp [Sem.run_bind, ZaD hs hc hf hv]
 unfold Oper.wp;rw [hr];show K (a.put o.dst undef) _;rw [hd];exact h
theorem ZeS {enc : α → List Value} (he : ∀ x, (enc x).length = 1) (hi0 : ops[i0]? = some o) (hg : o.guard = none) {t : TypeId} {x y : Operand} (ho : o.op = .store t x y) (hd : o.dst = none) {g n cap j : Nat} {v : Value} (hx : a.eval x = .pointer (some ⟨g, 0 + j * 1, none⟩)) (hy : a.eval y = v) (hs : YB P t = true) (hS : St W s w) (i : Nat) {xs : List α}
  (hi : s[i]? = some (Zg enc 1 e (.slice (some ⟨g, 0, none⟩) n cap) xs)) (hj : j < xs.length) {z : α} (hz : enc z = [v]) (hv : v.oneCell' = true)
  (h : ∀ w', St W (s.set i (Zg enc 1 e (.slice (some ⟨g, 0, none⟩) n cap) (xs.set j z))) w' → K a w') : wpOp P ops Q i0 K a w := by
 obtain ⟨g', e1, rfl, hb, hw, hlt⟩ := hS.rowOpen i hi (by omega);simp only [Option.some.injEq, Addr.mk.injEq, and_true] at e1;subst e1;have e0 : 0 + j * 1 = j := by omega
 have hc := hS.elem he i hi (List.getElem?_eq_getElem hj);rw [e0] at hx hc;have hc0 : w.cell? ⟨g, j, none⟩ = some ((enc xs[j])[0]'(by rw [he]; omega)) := by
  have := hc 0 _ (List.getElem?_eq_getElem (by rw [he]; omega))
  simpa using this
 have hp := hS.putRow he i hi hj z;rw [hz, show j * 1 = j by omega] at hp;exact ZjG hi0 hg ho hd hx hy hs hc0 (hw.frozenAt j) hv (h _ hp)
end
section
variable {P : Program} {o : Oper} {a : Act} {w : World} {e : TypeId}
theorem Zds {t : TypeId} {x y : Operand} (ho : o.op = .slice t x (some y) none none) {g off n cap : Nat} (hx : a.eval x = .slice (some ⟨g, off, none⟩) n cap) {kk : IntKind} {m : Int} (hy : a.eval y = .int kk m) {size : Nat} (hu : Yy P t = some (e, size)) {k : Nat} (hm : m = (k : Int)) (hk : k ≤ n) (hc : k < cap) : Yl P w o a (.slice (some ⟨g, off + k * size, none⟩) (n - k) (cap - k)) := by
 unfold Yy at hu
 split at hu
 ·rename_i e' hu'
  split at hu
  ·rename_i inf hq
   simp only [Option.some.injEq, Prod.mk.injEq] at hu;obtain ⟨_, rfl⟩ := hu;subst hm;have h2 : ((k : Int) ≤ (n : Int)) := by omega
   have h3 : ¬ cap = k := by omega
   unfold Yl execOp;simp only [ho, hx, hy, Option.map_some, Option.map_none, Instr.sliceAt, Instr.slice, Sem.run_bind, run_underlying hu' w, Result.andThen_ok];simp [Instr.slice, Instr.sliceBounds, Instr.sliceBound, asIntOf, go_sem, run_underlying hu' w, sizeOf, typeInfo, hq, h2, h3, Addr.add];rw [if_pos hk]
   by_cases hz : k * inf.size = 0
   ·rw [if_pos hz, hz, Nat.add_zero]
   ·rw [if_neg hz]
  ·cases hu
 ·cases hu
end
section
variable {P : Program} {ops : Array Oper} {Q : Exit → Act → World → Prop} {a : Act} {w W : World} {s : List Asr} {fuel m N : Nat} {listed : Array Bool} {oi : Oper} {l : List (Nat × Value)} {K : Act → World → Prop}
end
def holdsA (P : World → Prop) : Asr := ⟨fun w f => ∀ w', w.heap.size ≤ w'.heap.size → (∀ b, b ∈ f → w'.heap[b]? = w.heap[b]?) → P w', fun w w' f hs hb h w2 hs2 hb2 => h w2 (Nat.le_trans hs hs2) fun b hm => (hb2 b hm).trans (hb b hm)⟩
theorem St.hold {W w : World} {A : Asr} {F : List Asr} {P : World → Prop} (h : St W (A :: F) w) (hP : ∀ w f, A.P w f → P w) : St W (holdsA P :: F) w := by
 obtain ⟨f, ⟨f1, f2, rfl, h1, h2⟩, hn, hb⟩ := h.sep;exact ⟨h.bel, f1 ++ f2, ⟨f1, f2, rfl, fun w' hs hb => hP w' f1 (A.loc _ _ _ hs hb h1), h2⟩, hn, hb⟩
theorem St.holds {W w : World} {s : List Asr} {P : World → Prop} (h : St W s w) (i : Nat) (hi : s[i]? = some (holdsA P)) : P w := by
 obtain ⟨f, h1, _⟩ := h.get i hi;exact h1 w (Nat.le_refl _) fun _ _ => rfl
theorem Rd.drop {α : Type} {enc : α → List Value} {size : Nat} {w : World} {g o n : Nat} {xs : List α} (h : Rd enc size w (some ⟨g, o, none⟩) n xs) {k : Nat} (hk : k ≤ xs.length) : Rd enc size w (some ⟨g, o + k * size, none⟩) (n - k) (xs.drop k) := by
 refine ⟨by rw [List.length_drop, h.len], fun i hi => ?_⟩;rw [List.length_drop] at hi;obtain ⟨b, off, x, hx, e, hlt, hr⟩ := h.at_ (k + i) (by omega);simp only [Option.some.injEq, Addr.mk.injEq, and_true] at e;obtain ⟨rfl, rfl⟩ := e;exact ⟨g, o + k * size, x, by rw [List.getElem?_drop]; exact hx, rfl, hlt, by rw [Nat.add_assoc, ← Nat.add_mul]; exact hr⟩
theorem ZiZ {xs : List ByteArray} {m : Nat} (h : ∀ x, x ∈ xs → x.size ≤ m) (k : Nat) : (xs.getD k ByteArray.empty).size ≤ m := by
 by_cases hk : k < xs.length
 ·rw [show xs.getD k ByteArray.empty = xs[k] by simp [List.getD, hk]]
  exact h _ (List.getElem_mem hk)
 ·rw [show xs.getD k ByteArray.empty = ByteArray.empty by simp [List.getD, List.getElem?_eq_none (Nat.le_of_not_lt hk)]]
  exact Nat.zero_le _
open Go.RowKit
theorem Qo (n : Int) (w0 : World) (hT : Zb8 w0) : Calls prog 54 #[.int .i64 n] w0 fun e w' => e = .returned (.string (ZJ n)) ∧ Below w0.heap.size w0 w' := by
 have HT := Bx.mk hT; clear hT;have E := Bx.mk (St.start w0);refine ent func54 ntmps54 ?_;refine xsr<|xr 1 rfl<|xne<|xsq<|xsr<|xr 1 rfl ?_;refine ycB ((Qc n 0 999999999 _).mono fun _ _ h => ⟨h.1, h.2 ▸ Below.refl _ _⟩) func18 E ?_;clear E;intro w1 E;refine xr 1 rfl<|xne<|xcs 5 rfl (fun cc1=>?_) fun cc1=>?_;refine xct rfl<|xsr<|xr 1 rfl<|xne<|xre<|xtr<|xb1 results54 rfl ?_;exact ⟨by rw [Zk7 (by have := cc1; simp [inB] at this; omega)]; rfl, E.o.bel⟩;refine xcf rfl<|xsk<|xet<|xsq ?_;have hin : inB n 0 999999999 = true := by simpa using cc1
 obtain ⟨hn0, hn1⟩ : 0 ≤ n ∧ n ≤ 999999999 := by unfold inB at hin; simpa using hin
 obtain ⟨m, rfl⟩ : ∃ m : Nat, n = (m : Int) := ⟨n.toNat, by omega⟩;refine xrl<|xr 1 rfl ?_;refine ycB (ZgD m (by omega) _ (HT.o.below E.o.bel)) func50 E ?_;clear E;intro w2 E;refine xr 1 rfl<|xne<|xre<|xb1 results54 rfl ?_;exact ⟨by rw [Y1 hn0 hn1, Int.toNat_natCast], E.o.bel⟩
theorem Xe (x : UInt8) : (⟨#[x]⟩ : ByteArray).size = 1 := rfl
theorem ZeT {n : Nat} (h : decide ((2048 : Int) < (n : Int)) = false) : n ≤ 2048 := by have := of_decide_eq_false h; omega
theorem ZeU {n : Nat} (h : decide ((2048 : Int) < (n : Int)) = true) : ¬ n ≤ 2048 := by have := of_decide_eq_true h; omega
theorem XJ (a0 : Option Addr) (n c0 : Nat) (xs : List ByteArray) (w0 : World) (hT : Zb8 w0) (hl : xs.length ≤ 1048576) (hx : szs xs) (hR : Rd Zu 1 w0 a0 n xs) : Calls prog 27 #[.slice a0 n c0] w0 fun e w' => e = .returned (.tuple #[.string (Yf xs).1, .bool (Yf xs).2]) ∧ Below w0.heap.size w0 w' := by
 obtain rfl := hR.len;obtain ⟨g0, o0, r0⟩ := hR.opn; have R0 := Bx.mk r0; clear r0 hR;have HT := Bx.mk hT; clear hT;have E := Bx.mk (St.start w0);refine QD func27 rfl ntmps27 [(0, .slice a0 xs.length c0)] ⟨rfl, trivial⟩ rfl ?_;refine xsr<|xr 2 rfl<|xne<|xsq<|xsr<|xr 1 rfl<|xy rfl (vn 9 1 rfl)<|xr 1 rfl<|xne<|xcd 9 rfl (fun _ dcc1=>?_) fun _ dcc1=>?_;refine xct rfl<|xsr<|xr 2 rfl<|xne<|xre<|xtr<|xb2 results27 rfl rfl ?_;exact ⟨by rw [JD (by omega)]; rfl, E.o.bel⟩;refine xcf rfl<|xsk<|xet<|xsr ?_;refine yal [.pointer none, .slice none 0 0] E ?_;clear E;intro w1 b1 E;refine xne<|xsq<|xsr<|xr 1 rfl<|xy rfl (vn 9 1 rfl)<|xr 1 rfl<|xne<|xbl ?_;replace E := Bx.mk E.o.bldNew;intro a J;refine Zt (ι := Nat) (fun k a w => (k ≤ xs.length ∧ (ZY (xs.take k)).size ≤ 2048) ∧ Fr 27 a [(4, .pointer (some ⟨b1, 0, none⟩)), (10, .slice a0 xs.length c0), (11, .int .i64 (xs.length : Int)), (12, .int .i64 (k : Int))] ∧ St w0 ([bldA b1 (ZY (xs.take k)).data.toList]) w) (fun k => xs.length - k) 0 ⟨⟨Nat.zero_le _, by simp [ZY]⟩, J.less _ ⟨rfl, rfl, rfl, rfl, trivial⟩, E.o⟩ ?_;clear J E; clear a;rintro k a w2 ⟨⟨hk, hr⟩, J, E⟩;replace E := Bx.mk E;have hxk := hx k; have hdec := J7 (n := (xs.getD k ByteArray.empty).size) (by omega);revert a;refine xsr<|xr 1 rfl<|xne<|xsq<|xcd 13 rfl (fun _ dcc2=>?_) fun _ dcc2=>?_
 refine xct rfl<|xsk<|xet<|xsq<|xbl<|xsr<|xy rfl (vxr 9 k 1 rfl (R0.out.ao k (by omega)))<|xy rfl (fun a J=>ylo (v := .string (xs.getD k ByteArray.empty)) rfl (J.ev rfl) (R0.out.elem1 E.o (Zh (xs := xs) (j := k) (d := ByteArray.empty) (by omega)) rfl))<|xr 1 rfl<|xne<|xsr<|xr 1 rfl<|xy rfl (fun a J=>ZO rfl (J.ev rfl) (by kernel_rfl)) ?_;refine ycB (ZgD ((xs.getD k ByteArray.empty).size) (by omega) _ (HT.o.below E.o.bel)) func50 E ?_;clear E;intro w3 E;replace E:=E.pks [0];refine yc (Zdm w0 _ b1 ((ZY (xs.take k)).data.toList) (Zy ((xs.getD k ByteArray.empty).size)) (by simp only [length_append, length_cons, length_nil, ← Zi]; omega) E.o) func49 ?_;rintro _ w4 ⟨rfl, hs1⟩;refine ⟨_, rfl, ?_⟩; replace E := Bx.mk hs1;clear hs1;refine xne<|xsr ?_;replace E:=E.pks [0];refine yc (ZhX w0 _ b1 ((ZY (xs.take k)).data.toList ++ (Zy ((xs.getD k ByteArray.empty).size)).data.toList) (58 : UInt8) (by simp only [length_append, length_cons, length_nil, ← Zi]; omega) E.o) func51 ?_;rintro _ w5 ⟨rfl, hs1⟩;refine ⟨_, rfl, ?_⟩; replace E := Bx.mk hs1;clear hs1;refine xne<|xsr<|xr 1 rfl ?_;replace E:=E.pks [0];refine yc (Zdm w0 _ b1 (((ZY (xs.take k)).data.toList ++ (Zy ((xs.getD k ByteArray.empty).size)).data.toList) ++ [(58 : UInt8)]) (xs.getD k ByteArray.empty) (by simp only [length_append, length_cons, length_nil, ← Zi]; omega) E.o) func49 ?_;rintro _ w6 ⟨rfl, hs1⟩;refine ⟨_, rfl, ?_⟩; replace E := Bx.mk hs1;clear hs1;refine xne<|xsr ?_;refine ycB (ZhY w0 _ b1 ((((ZY (xs.take k)).data.toList ++ (Zy ((xs.getD k ByteArray.empty).size)).data.toList) ++ [(58 : UInt8)]) ++ (xs.getD k ByteArray.empty).data.toList) E.o) func52 E ?_;clear E;intro w7 E;refine xr 1 rfl<|xne<|xcd 24 rfl (fun cc3 dcc3=>?_) fun cc3 dcc3=>?_;refine xct rfl<|xsr<|xr 2 rfl<|xne<|xre<|xbr<|xtr<|xtr<|xbr<|xtr<|xb2 results27 rfl rfl ?_;have hgt : ¬ (ZY (xs.take (k + 1))).size ≤ 2048 := by rw [Jn xs (by omega), Zi, ZA, ZA, ZA]; exact ZeU cc3
 exact ⟨by rw [Zau hgt]; rfl, E.o.bel⟩;refine xcf rfl<|xsk<|xeb<|xet<|xrl<|xy rfl (vad rfl)<|xr 1 rfl<|xne ?_;replace E : Bx (St w0 [bldA b1 (ZY (xs.take (k + 1))).data.toList] _) := ⟨by rw [Jn xs (by omega), ZA, ZA, ZA]; exact E.o⟩;have hle : (ZY (xs.take (k + 1))).size ≤ 2048 := by rw [Jn xs (by omega), Zi, ZA, ZA, ZA]; exact ZeT cc3
 intro a J;exact ⟨k + 1, ⟨⟨by omega, hle⟩, J.less _ ⟨rfl, rfl, rfl, rfl, trivial⟩, E.o⟩, (by omega)⟩;refine xcf rfl<|xex<|xtx<|xtx<|xbh<|xet<|xsr ?_;replace E:=E.pks [0];refine yc (ZhZ w0 _ b1 ((ZY (xs.take k)).data.toList) E.o) func53 ?_;rintro _ w8 ⟨rfl, hs1⟩;refine ⟨_, rfl, ?_⟩; replace E := Bx.mk hs1;clear hs1;refine xr 2 rfl<|xne<|xre<|xb2 results27 rfl rfl ?_;obtain rfl : k = xs.length := by omega
 rw [List.take_length] at hr;exact ⟨by rw [YQ (by omega) hr]; simp [List.take_length], E.o.bel⟩
theorem ZeV (n : Nat) (hn : n ≤ 9223372036854775807) (w0 : World) : Calls prog 31 #[.int .i64 (n : Int)] w0 fun e w' => e = .returned (.string (Zy n)) ∧ Below w0.heap.size w0 w' := by
 induction n using Nat.strongRecOn generalizing w0
 rename_i n ih
 have hd := J7 (n := n / 10) (by omega);have E := Bx.mk (St.start w0);refine ent func31 ntmps31 ?_;refine xsr<|xr 1 rfl<|xne<|xsq<|xsr<|xr 2 rfl<|xne<|xcd 4 rfl (fun _ dcc1=>?_) fun _ dcc1=>?_
 omega
 refine xcf rfl<|xsk<|xet<|xsq<|xsr<|xr 2 rfl<|xne<|xcd 6 rfl (fun _ dcc2=>?_) fun _ dcc2=>?_
 omega
 refine xcf rfl<|xsk<|xet<|xsq<|xsr<|xr 2 rfl<|xne<|xcd 12 rfl (fun _ dcc3=>?_) fun _ dcc3=>?_;refine xct rfl<|xsr<|xr 1 rfl<|xy rfl (vad rfl)<|xy rfl (fun a J=>Zbv (b := UInt8.ofNat ((48 : Int) + (n : Int)).toNat) rfl (J.ev rfl) (by omega) rfl (by kernel_rfl) (by kernel_rfl)) ?_;refine ybs encB 5 1 [(UInt8.ofNat ((48 : Int) + (n : Int)).toNat)] E ?_;clear E;intro b1 w1 E;refine xy rfl (fun a J=>Jp (e1 := 5) rfl (J.ev rfl) (by kernel_rfl) (by kernel_rfl) (by kernel_rfl) (xs := [(UInt8.ofNat ((48 : Int) + (n : Int)).toNat)]) (St.rdN E.o YO 0 rfl))<|xr 1 rfl<|xne<|xre<|xtr<|xb1 results31 rfl ?_;exact ⟨by rw [ZhU (by omega), show UInt8.ofNat (48 + (n : Int)).toNat = UInt8.ofNat (48 + n) from congrArg UInt8.ofNat (by omega)], E.o.bel⟩;refine xcf rfl<|xsk<|xet<|xsq ?_;refine hld [] E ?_;clear E;intro w2 E M;refine Hp 0 E rfl<|xhy 1 E.o rfl rfl (fun E a J=>QX rfl (J.ev rfl) (J.ev rfl) (by omega) (QZ (by omega) (by omega) (by omega)))<|Hp 3 E rfl<|xhy 4 E.o rfl rfl (fun E a J=>QB rfl (J.ev rfl) (J.ev rfl) (by omega) (QE (by omega) (by omega)))<|xhy 5 E.o rfl rfl (fun E=>vad rfl)<|xhy 6 E.o rfl rfl (fun E a J=>Zbv (b := UInt8.ofNat ((48 : Int) + ((n : Int) % 10)).toNat) rfl (J.ev rfl) (by omega) rfl (by kernel_rfl) (by kernel_rfl)) ?_;refine Ut 2 7 ?_ ?_;refine yoB (ih (n / 10) (by omega) (by omega) _) func31 ?_;intro w3 hb; replace E := Bx.mk (E.o.later hb); replace M := Bx.mk (M.o.later hb);clear hb; refine onb E.o ?_;refine Zl 7 ?_;intro a J;refine ZI (enc := encB) (e := 5) (size := 1) rfl rfl J rfl rfl rfl (ps := [(0, .int .u8 ((UInt8.ofNat ((48 : Int) + ((n : Int) % 10)).toNat).toNat : Int))]) rfl (cells := [.int .u8 ((UInt8.ofNat ((48 : Int) + ((n : Int) % 10)).toNat).toNat : Int)]) (by kernel_rfl) [(UInt8.ofNat ((48 : Int) + ((n : Int) % 10)).toNat)] rfl rfl (by unfold maxLen; omega) rfl M.o E.o ?_; clear J E M a; intro b2 a w5 J M E; replace E := Bx.mk E; replace M := Bx.mk M; refine ⟨E.o, ?_⟩;revert a;refine Zl 8 ?_;refine yoy E (fun a J=>Jp (e1 := 5) rfl (J.ev rfl) (by kernel_rfl) (by kernel_rfl) (by kernel_rfl) (xs := [(UInt8.ofNat ((48 : Int) + ((n : Int) % 10)).toNat)]) (St.rdN M.o YO 0 rfl)) ?_;refine xhy 9 E.o rfl rfl (fun E a J=>ZD rfl (J.ev rfl) (J.ev rfl) (by (try simp only [Xe, Zk]); omega))<|Hp 10 E rfl ?_;refine hdn ?_;replace E := M; clear M;refine xet<|xre<|xb1 results31 rfl ?_;exact ⟨by rw [Zdi (n := n) (by omega), show UInt8.ofNat (48 + (n : Int) % (10 : Int)).toNat = UInt8.ofNat (48 + n % 10) from congrArg UInt8.ofNat (by omega)], E.o.bel⟩;intro a J;refine ZI (enc := encB) (e := 5) (size := 1) rfl rfl J rfl rfl rfl (ps := [(0, .int .u8 ((UInt8.ofNat ((48 : Int) + ((n : Int) % 10)).toNat).toNat : Int))]) rfl (cells := [.int .u8 ((UInt8.ofNat ((48 : Int) + ((n : Int) % 10)).toNat).toNat : Int)]) (by kernel_rfl) [(UInt8.ofNat ((48 : Int) + ((n : Int) % 10)).toNat)] rfl rfl (by unfold maxLen; omega) rfl M.o E.o ?_; clear J E M a; intro b3 a w8 J M E; replace E := Bx.mk E; replace M := Bx.mk M; refine ⟨E.o, ?_⟩;revert a;refine Ut 2 8 ?_ ?_;refine yoB (ih (n / 10) (by omega) (by omega) _) func31 ?_;intro w9 hb; replace E := Bx.mk (E.o.later hb); replace M := Bx.mk (M.o.later hb);clear hb; refine onb E.o ?_;refine Zl 8 ?_;refine yoy E (fun a J=>Jp (e1 := 5) rfl (J.ev rfl) (by kernel_rfl) (by kernel_rfl) (by kernel_rfl) (xs := [(UInt8.ofNat ((48 : Int) + ((n : Int) % 10)).toNat)]) (St.rdN M.o YO 0 rfl)) ?_;refine xhy 9 E.o rfl rfl (fun E a J=>ZD rfl (J.ev rfl) (J.ev rfl) (by (try simp only [Xe, Zk]); omega))<|Hp 10 E rfl ?_;refine hdn ?_;replace E := M; clear M;refine xet<|xre<|xb1 results31 rfl ?_;exact ⟨by rw [Zdi (n := n) (by omega), show UInt8.ofNat (48 + (n : Int) % (10 : Int)).toNat = UInt8.ofNat (48 + n % 10) from congrArg UInt8.ofNat (by omega)], E.o.bel⟩;refine yoy E (fun a J=>Jp (e1 := 5) rfl (J.ev rfl) (by kernel_rfl) (by kernel_rfl) (by kernel_rfl) (xs := [(UInt8.ofNat ((48 : Int) + ((n : Int) % 10)).toNat)]) (St.rdN M.o YO 0 rfl)) ?_;refine Zl 2 ?_;refine yoB (ih (n / 10) (by omega) (by omega) _) func31 ?_;intro w12 hb; replace E := Bx.mk (E.o.later hb); replace M := Bx.mk (M.o.later hb);clear hb; refine onb E.o ?_;refine xhy 9 E.o rfl rfl (fun E a J=>ZD rfl (J.ev rfl) (J.ev rfl) (by (try simp only [Xe, Zk]); omega))<|Hp 10 E rfl ?_;refine hdn ?_;replace E := M; clear M;refine xet<|xre<|xb1 results31 rfl ?_;exact ⟨by rw [Zdi (n := n) (by omega), show UInt8.ofNat (48 + (n : Int) % (10 : Int)).toNat = UInt8.ofNat (48 + n % 10) from congrArg UInt8.ofNat (by omega)], E.o.bel⟩
theorem ZaK : (⟨#[58]⟩ : ByteArray).size = 1 := rfl
theorem JK (a0 : Option Addr) (n c0 : Nat) (xs : List ByteArray) (w0 : World) (hl : xs.length ≤ 1048576) (hx : szs xs) (hR : Rd Zu 1 w0 a0 n xs) : Calls prog 30 #[.slice a0 n c0] w0 fun e w' => e = .returned (.tuple #[.string (Yf xs).1, .bool (Yf xs).2]) ∧ Below w0.heap.size w0 w' := by
 obtain rfl := hR.len;obtain ⟨g0, o0, r0⟩ := hR.opn; have R0 := Bx.mk r0; clear r0 hR;have E := Bx.mk (St.start w0);refine QD func30 rfl ntmps30 [(0, .slice a0 xs.length c0)] ⟨rfl, trivial⟩ rfl ?_;refine xsr<|xr 2 rfl<|xne<|xsr<|xr 1 rfl<|xne<|xsq<|xsr<|xr 1 rfl<|xne<|xbl ?_;intro a J;refine Zt (ι := Nat) (fun k a w => (k ≤ xs.length ∧ (ZY (xs.take k)).size ≤ 2048 ∧ (¬ xs.length ≤ 60 → k = 0)) ∧ Fr 44 a [(0, .slice a0 xs.length c0), (4, .string (ZY (xs.take k))), (5, .int .i64 (k : Int))] ∧ St w0 ([]) w) (fun k => xs.length - k) 0 ⟨⟨Nat.zero_le _, by simp [ZY], fun _ => rfl⟩, J.less _ ⟨rfl, rfl, rfl, trivial⟩, E.o⟩ ?_;clear J E; clear a;rintro k a w1 ⟨⟨hk, hr, h0k⟩, J, E⟩;replace E := Bx.mk E;have hxk := hx k; have hdec := J7 (n := (xs.getD k ByteArray.empty).size) (by omega);revert a;refine xsq<|xsr<|xr 2 rfl<|xy rfl (vn 9 1 rfl)<|xr 2 rfl<|xcd 10 rfl (fun _ dcc1=>?_) fun _ dcc1=>?_
 refine xr 1 rfl<|xy rfl (vn 9 1 rfl)<|xr 2 rfl<|xne<|xcd 14 rfl (fun _ dcc2=>?_) fun _ dcc2=>?_;refine xct rfl<|xsk<|xet<|xsq<|xbl<|xsq<|xsr<|xr 2 rfl<|xy rfl (vxr 9 k 1 rfl (R0.out.ao k (by omega)))<|xy rfl (fun a J=>ylo (v := .string (xs.getD k ByteArray.empty)) rfl (J.ev rfl) (R0.out.elem1 E.o (Zh (xs := xs) (j := k) (d := ByteArray.empty) (by omega)) rfl))<|xy rfl (fun a J=>ZO rfl (J.ev rfl) (by kernel_rfl))<|xr 1 rfl<|xne<|xcd 22 rfl (fun _ dcc3=>?_) fun _ dcc3=>?_;refine xct rfl<|xsr<|xr 2 rfl<|xne<|xre<|xtr<|xbr<|xtr<|xtr<|xbr<|xtr<|xb2 results30 rfl rfl ?_;exact ⟨by rw [Zdl (k := k) (by omega) (by omega)]; rfl, E.o.bel⟩;refine xcf rfl<|xsk<|xet<|xsq ?_;intro a J;refine Yh (by kernel_rfl) (by kernel_rfl) E.o ?_;revert a;refine xqr 3 rfl<|xq rfl (fun E=>vxr 9 k 1 rfl (R0.out.ao k (by omega)))<|xq rfl (fun E a J=>ylo (v := .string (xs.getD k ByteArray.empty)) rfl (J.ev rfl) (R0.out.elem1 E (Zh (xs := xs) (j := k) (d := ByteArray.empty) (by omega)) rfl))<|xq rfl (fun E a J=>ZO rfl (J.ev rfl) (by kernel_rfl)) ?_;refine yq (fun _ E => ZeV ((xs.getD k ByteArray.empty).size) (by omega) _) func31 ?_;refine xq rfl (fun E a J=>ZD rfl (J.ev rfl) (J.ev rfl) (by (try simp only [ZaK, Zk]); omega))<|xq rfl (fun E a J=>ZD rfl (J.ev rfl) (J.ev rfl) (by (try simp only [ZaK, Zk]); omega))<|xqr 2 rfl<|xq rfl (fun E=>vxr 9 k 1 rfl (R0.out.ao k (by omega)))<|xq rfl (fun E a J=>ylo (v := .string (xs.getD k ByteArray.empty)) rfl (J.ev rfl) (R0.out.elem1 E (Zh (xs := xs) (j := k) (d := ByteArray.empty) (by omega)) rfl))<|xq rfl (fun E a J=>ZD rfl (J.ev rfl) (J.ev rfl) (by (try simp only [ZaK, Zk]); omega))<|xqr 1 rfl ?_;intro a J;refine wpQuiet_nil ?_; intro w2 E; replace E := Bx.mk E;revert a;refine xet<|xsr<|xr 1 rfl<|xy rfl (fun a J=>ZO rfl (J.ev rfl) (by kernel_rfl))<|xr 1 rfl<|xne<|xcd 39 rfl (fun cc4 dcc4=>?_) fun cc4 dcc4=>?_
 refine xct rfl<|xsr<|xr 2 rfl<|xne<|xre<|xbr<|xtr<|xtr<|xbr<|xtr<|xb2 results30 rfl rfl ?_;have hgt : ¬ (ZY (xs.take (k + 1))).size ≤ 2048 := by rw [Jn xs (by omega)]; exact ZeU cc4
 exact ⟨by rw [Zau hgt]; rfl, E.o.bel⟩;refine xcf rfl<|xsk<|xeb<|xet<|xrl<|xr 1 rfl<|xy rfl (vad rfl)<|xr 1 rfl<|xne ?_;have hst := Jn xs (k := k) (by omega);have hle : (ZY (xs.take (k + 1))).size ≤ 2048 := by rw [hst]; exact ZeT cc4
 intro a J;exact ⟨k + 1, ⟨⟨by omega, hle, fun h => absurd h (by omega)⟩, J.less _ ⟨rfl, (congrArg (fun z => some (Value.string z)) hst.symm), rfl, trivial⟩, E.o⟩, (by omega)⟩;refine xcf rfl<|xex<|xtx<|xtx<|xbh<|xet<|xsr<|xr 2 rfl<|xy rfl (vn 9 1 rfl)<|xr 3 rfl<|xne<|xre<|xb2 results30 rfl rfl ?_
 by_cases h60 : xs.length ≤ 60
 obtain rfl : k = xs.length := by omega
 rw [List.take_length] at hr;exact ⟨by rw [YQ h60 hr, List.take_length, show ((decide ((xs.length : Int) ≤ 60))) = true from decide_eq_true (by omega)], E.o.bel⟩;obtain rfl : k = 0 := h0k (by omega);exact ⟨by rw [JD h60, show ((decide ((xs.length : Int) ≤ 60))) = false from decide_eq_false (by omega)]; rfl, E.o.bel⟩;refine xr 4 rfl<|xne<|xcf rfl<|xex<|xtx<|xtx<|xbh<|xet<|xsr<|xr 2 rfl<|xy rfl (vn 9 1 rfl)<|xr 3 rfl<|xne<|xre<|xb2 results30 rfl rfl ?_
 by_cases h60 : xs.length ≤ 60
 obtain rfl : k = xs.length := by omega
 rw [List.take_length] at hr;exact ⟨by rw [YQ h60 hr, List.take_length, show ((decide ((xs.length : Int) ≤ 60))) = true from decide_eq_true (by omega)], E.o.bel⟩;obtain rfl : k = 0 := h0k (by omega);exact ⟨by rw [JD h60, show ((decide ((xs.length : Int) ≤ 60))) = false from decide_eq_false (by omega)]; rfl, E.o.bel⟩
open Go.RowKit
def X4 (s : ByteArray) : Nat → ByteArray
 | 0 => ByteArray.empty
 | n + 1 => s ++ X4 s n
theorem Zh1 (s : ByteArray) (n : Nat) : (X4 s n).size = n * s.size := by
 induction n with
 | zero => simp [X4]
 | succ n ih => unfold X4; rw [size_append, ih, Nat.succ_mul]; omega
theorem ZeW (s : ByteArray) (n : Nat) : X4 (s ++ s) n = X4 s (2 * n) := by
 induction n with
 | zero => rfl
 | succ n ih =>
  rw [show 2 * (n + 1) = 2 * n + 1 + 1 by omega];unfold X4;rw [ih]
  conv => rhs; rw [show X4 s (2 * n + 1) = s ++ X4 s (2 * n) from rfl]
  apply YA
  simp [ZA]
theorem Zlg (o s : ByteArray) (n : Nat) (h : n % 2 = 1) : o ++ X4 s n = (o ++ s) ++ X4 (s ++ s) (n / 2) := by
 rw [ZeW];obtain ⟨m, rfl⟩ : ∃ m, n = 2 * m + 1 := ⟨n / 2, by omega⟩;rw [show (2 * m + 1) / 2 = m by omega]
 conv => lhs; rw [show X4 s (2 * m + 1) = s ++ X4 s (2 * m) from rfl]
 apply YA
 simp [ZA]
theorem ZjH (o s : ByteArray) (n : Nat) (h : ¬ n % 2 = 1) : o ++ X4 s n = o ++ X4 (s ++ s) (n / 2) := by
 rw [ZeW, show 2 * (n / 2) = n by omega]
theorem Zh2 (s : ByteArray) (n : Nat) (w0 : World) (hn : n ≤ 1000000) (hs : n * s.size ≤ 1000000000) (hs2 : s.size ≤ 1000000000) : Calls prog 92 #[.string s, .int .i64 (n : Int)] w0 fun e w' => e = .returned (.string (X4 s n)) ∧ Below w0.heap.size w0 w' := by
 have E := Bx.mk (St.start w0);refine ent func92 ntmps92 ?_;refine xsr<|xr 1 rfl<|xne<|xsr<|xr 1 rfl<|xne<|xsq<|xbl ?_;intro a J;refine Zt (ι := Nat) (fun m a w => ∃ (t o : ByteArray), (m ≤ n ∧ o ++ X4 t m = X4 s n ∧ o.size + m * t.size = n * s.size ∧ t.size ≤ 2 * (n * s.size) + s.size) ∧ Fr 20 a [(0, .string t), (1, .int .i64 (m : Int)), (5, .string o)] ∧ St w0 ([]) w) (fun m => m) n ⟨s, ByteArray.empty, ⟨Nat.le_refl _, rfl, by simp, by omega⟩, J.less _ ⟨rfl, rfl, rfl, trivial⟩, E.o⟩ ?_;clear J E; clear a;rintro m a w1 ⟨t, o, ⟨hm, hq, hz, ht⟩, J, E⟩;replace E := Bx.mk E;revert a;refine xsq<|xsr<|xr 2 rfl<|xne<|xcd 7 rfl (fun _ dcc1=>?_) fun _ dcc1=>?_
 refine xct rfl<|xsk<|xet<|xbl<|xsq<|xsq ?_;have hm1 : 1 * t.size ≤ m * t.size := Nat.mul_le_mul_right _ (by omega);refine xrl<|xr 1 rfl<|xy rfl (fun a J=>QB rfl (J.ev rfl) (J.ev rfl) (by omega) (QE (by omega) (by omega)))<|xr 1 rfl<|xne<|xce 10 rfl (fun _ dcc2=>?_) fun _ dcc2=>?_;refine xct rfl<|xrl<|xr 2 rfl<|xy rfl (fun a J=>ZD rfl (J.ev rfl) (J.ev rfl) (by omega))<|xr 1 rfl<|xne<|xsr<|xr 2 rfl<|xy rfl (fun a J=>ZD rfl (J.ev rfl) (J.ev rfl) (by omega))<|xr 1 rfl<|xne<|xrl<|xr 1 rfl<|xy rfl (fun a J=>QX rfl (J.ev rfl) (J.ev rfl) (by omega) (QZ (by omega) (by omega) (by omega)))<|xr 1 rfl<|xni<|xeb<|xet ?_;have hmm : m / 2 + m / 2 + m % 2 = m := by omega
 have ho : m % 2 = 1 := by omega
 rw [Zlg o t m ho] at hq;have hts : (t ++ t).size = t.size + t.size := size_append;have hos : (o ++ t).size = o.size + t.size := size_append;have hmt : (m / 2) * (t.size + t.size) + (m % 2) * t.size = m * t.size := by rw [Nat.mul_add, ← Nat.add_mul, ← Nat.add_mul, hmm]
 have hm1 : 1 * t.size ≤ m * t.size := Nat.mul_le_mul_right _ (by omega);rw [ho, Nat.one_mul] at hmt;intro a J;exact ⟨m / 2, ⟨_, _, ⟨by omega, hq, by rw [hts, hos]; omega, by rw [hts]; omega⟩, J.less _ ⟨rfl, (by show _ = some (Value.int .i64 ((m / 2 : Nat) : Int)); rw [show ((m / 2 : Nat) : Int) = (m : Int) / 2 by omega]; rfl), rfl, trivial⟩, E.o⟩, (by omega)⟩;refine xcf rfl<|xsk<|xet<|xsr<|xr 2 rfl<|xy rfl (fun a J=>ZD rfl (J.ev rfl) (J.ev rfl) (by omega))<|xr 1 rfl<|xne<|xrl<|xr 1 rfl<|xy rfl (fun a J=>QX rfl (J.ev rfl) (J.ev rfl) (by omega) (QZ (by omega) (by omega) (by omega)))<|xr 1 rfl<|xni<|xeb<|xet ?_;have hmm : m / 2 + m / 2 + m % 2 = m := by omega
 have ho : ¬ m % 2 = 1 := by omega
 rw [ZjH o t m ho] at hq;have hts : (t ++ t).size = t.size + t.size := size_append;have hmt : (m / 2) * (t.size + t.size) + (m % 2) * t.size = m * t.size := by rw [Nat.mul_add, ← Nat.add_mul, ← Nat.add_mul, hmm]
 have hm1 : 1 * t.size ≤ m * t.size := Nat.mul_le_mul_right _ (by omega);rw [show m % 2 = 0 by omega, Nat.zero_mul] at hmt;intro a J;exact ⟨m / 2, ⟨_, _, ⟨by omega, hq, by rw [hts]; omega, by rw [hts]; omega⟩, J.less _ ⟨rfl, (by show _ = some (Value.int .i64 ((m / 2 : Nat) : Int)); rw [show ((m / 2 : Nat) : Int) = (m : Int) / 2 by omega]; rfl), rfl, trivial⟩, E.o⟩, (by omega)⟩;refine xcf rfl<|xex<|xtx<|xtx<|xbh<|xet<|xsr<|xr 2 rfl<|xne<|xre<|xb1 results92 rfl ?_;obtain rfl : m = 0 := by omega
 have ho : o = X4 s n := by rw [← hq]; apply YA; simp [ZA, X4]
 exact ⟨by rw [ho], E.o.bel⟩
open Go.RowKit
theorem U4 {n lo hi : Int} (h1 : lo ≤ n) (h2 : n ≤ hi) : inB n lo hi = true := by
 unfold inB; simp [h1, h2]
open Go.RowKit
theorem Zdt : Us prog 39 3 1 8 := by
 obtain ⟨i0, hi, hz0, hz1, hz2⟩ := info_parts (P := prog) (e := 3) (z := .int .i64 0) (size := 1) (bytes := 8) (by kernel_rfl);exact ⟨Tryz.underlying39, ⟨i0, _, hi, hz0, hz1, hz2, rfl⟩, by decide⟩
open Go.RowKit
theorem YL (n : Int) (h0 : 0 ≤ n) (h1 : n ≤ 9223372036854775807) (w0 : World) : Calls prog 31 #[.int .i64 n] w0 fun e w' => e = .returned (.string (Zy n.toNat)) ∧ Below w0.heap.size w0 w' := by
 obtain ⟨m, rfl⟩ : ∃ m : Nat, n = (m : Int) := ⟨n.toNat, by omega⟩;rw [Int.toNat_natCast]; exact ZeV m (by omega) w0
def Zb9 : ByteArray := ⟨#[46]⟩
def Z5 (p : PtrD) : ByteArray := bif p.ok then (bif p.hole then ⟨#[45]⟩ else ZJ p.aB ++ Zb9 ++ ZJ p.al ++ Zb9 ++ ZJ p.am ++ Zb9 ++ ZJ p.aC ++ Zb9 ++ ZJ p.ar) else ByteArray.empty
theorem Zc7 {p : PtrD} (h : p.ok = false) : Z5 p = ByteArray.empty := by unfold Z5; rw [h]; rfl
theorem Qp {p : PtrD} (h : p.ok = true) (h2 : p.hole = true) : Z5 p = ⟨#[45]⟩ := by unfold Z5; rw [h, h2]; rfl
theorem Uv {p : PtrD} (h : p.ok = true) (h2 : p.hole = false) : Z5 p = ZJ p.aB ++ Zb9 ++ ZJ p.al ++ Zb9 ++ ZJ p.am ++ Zb9 ++ ZJ p.aC ++ Zb9 ++ ZJ p.ar := by unfold Z5; rw [h, h2]; rfl
theorem Zlh : Zb9.size = 1 := rfl
theorem Zbw (p : PtrD) : (Z5 p).size ≤ 49 := by
 have h1 := Ym p.aB; have h2 := Ym p.al; have h3 := Ym p.am; have h4 := Ym p.aC; have h5 := Ym p.ar
 cases h : p.ok with
 | false => rw [Zc7 h]; exact Nat.zero_le _
 | true =>
  cases hh : p.hole with
  | true => rw [Qp h hh]; decide
  | false => rw [Uv h hh]; simp only [Zk, Zlh]; omega
theorem PtrD.ok_all {p : PtrD} (h : p.ok = true) (h2 : p.hole = false) : 8 ≤ p.aB ∧ p.aB ≤ 63 ∧ 1 ≤ p.al ∧ p.al ≤ 900 ∧ 1 ≤ p.am ∧ p.am ≤ 128 ∧ 0 ≤ p.aC ∧ p.aC ≤ 99460728 ∧ 0 ≤ p.ar ∧ p.ar ≤ 2 := by
 unfold PtrD.ok at h;rw [h2, Bool.false_or] at h;simp only [Bool.and_eq_true] at h;have h1 := Zs h.1.1.1.1;have h3 := Zs h.1.1.1.2;have h4 := Zs h.1.1.2;have h5 := Zs h.1.2;have h6 := Zs h.2
 omega
def ZnR (x : Option Addr) : List Value := [.pointer x]
theorem VB (x : Option Addr) : (ZnR x).length = 1 := rfl
theorem ZnS (a b c d e s : ByteArray) : QF [a, b, c, d, e] s = a ++ s ++ b ++ s ++ c ++ s ++ d ++ s ++ e := by
 apply YA
 show Go.Lib.join _ _ = _;simp only [map_cons, List.map_nil, Go.Lib.join_cons, Go.Lib.joinTail, ZA, List.flatten_cons, List.flatten_nil, append_nil, List.append_assoc]
theorem ZjI (b : Nat) (w0 : World) : Calls prog 76 #[.pointer (some ⟨b, 0, none⟩)] w0 fun e w' => ∃ ao cp, e = .returned (.slice ao 5 cp) ∧ St w0 [Zg ZnR 1 59 (.slice ao 5 cp) [(some ⟨b, 0 + 0, none⟩), (some ⟨b, 0 + 1, none⟩), (some ⟨b, 0 + 2, none⟩), (some ⟨b, 0 + 3, none⟩), (some ⟨b, 0 + 4, none⟩)]] w' := by
 have E := Bx.mk (St.start w0);refine ent func76 ntmps76 ?_;refine xsr<|xr 1 rfl<|xne<|xsq ?_;intro a J;refine U0 15 (by kernel_rfl) (by kernel_rfl) E.o ?_;simp only [List.take_succ_cons, List.take_zero, List.drop_succ_cons, List.drop_zero];intro w1 E;replace E := Bx.mk E;refine ZQ rfl J rfl rfl (YW rfl (J.ev rfl)) ?_; clear J a; intro a J;refine ZQ rfl J rfl rfl (Qm rfl (J.ev rfl)) ?_; clear J a; intro a J;refine ZQ rfl J rfl rfl (yfa 0 rfl (J.ev rfl)) ?_; clear J a; intro a J;refine ZQ rfl J rfl rfl (YW rfl (J.ev rfl)) ?_; clear J a; intro a J;refine ZQ rfl J rfl rfl (Qm rfl (J.ev rfl)) ?_; clear J a; intro a J;refine ZQ rfl J rfl rfl (yfa 1 rfl (J.ev rfl)) ?_; clear J a; intro a J;refine ZQ rfl J rfl rfl (YW rfl (J.ev rfl)) ?_; clear J a; intro a J;refine ZQ rfl J rfl rfl (Qm rfl (J.ev rfl)) ?_; clear J a; intro a J;refine ZQ rfl J rfl rfl (yfa 2 rfl (J.ev rfl)) ?_; clear J a; intro a J;refine ZQ rfl J rfl rfl (YW rfl (J.ev rfl)) ?_; clear J a; intro a J;refine ZQ rfl J rfl rfl (Qm rfl (J.ev rfl)) ?_; clear J a; intro a J;refine ZQ rfl J rfl rfl (yfa 3 rfl (J.ev rfl)) ?_; clear J a; intro a J;refine ZQ rfl J rfl rfl (YW rfl (J.ev rfl)) ?_; clear J a; intro a J;refine ZQ rfl J rfl rfl (Qm rfl (J.ev rfl)) ?_; clear J a; intro a J;refine ZQ rfl J rfl rfl (yfa 4 rfl (J.ev rfl)) ?_; clear J a; intro a J;refine wpStill_nil ?_;revert a;refine ybs ZnR 59 1 [(some ⟨b, 0 + 0, none⟩), (some ⟨b, 0 + 1, none⟩), (some ⟨b, 0 + 2, none⟩), (some ⟨b, 0 + 3, none⟩), (some ⟨b, 0 + 4, none⟩)] E ?_;clear E;intro b1 w2 E;refine xr 1 rfl<|xne<|xre<|xb1 results76 rfl ?_;exact ⟨_, _, rfl, E.o⟩
theorem ZcI (p : PtrD) (w0 : World) (hT : Zb8 w0) : Calls prog 55 #[pV p] w0 fun e w' => e = .returned (.string (Z5 p)) ∧ Below w0.heap.size w0 w' := by
 have HT := Bx.mk hT; clear hT;have E := Bx.mk (St.start w0);refine ent func55 ntmps55 ?_;refine xsr ?_;refine ybx E ?_;clear E;intro w1 b1 E;refine xr 1 rfl<|xne<|xsq<|xbl<|xsr<|Xw 0 5 E rfl rfl ?_;refine ycB (Un p _) func20 E ?_;clear E;intro w2 E;refine xr 2 rfl<|xne<|xcs 6 rfl (fun cc1=>?_) fun cc1=>?_;refine xct rfl<|xsr<|xr 1 rfl<|xne<|xre<|xbr<|xtr<|xb1 results55 rfl ?_;exact ⟨by rw [Zc7 (by simpa using cc1)]; rfl, E.o.bel⟩;refine xcf rfl<|xsr<|Xw 0 5 E rfl rfl ?_;refine ycB (Jg p _) func21 E ?_;clear E;intro w3 E;refine xr 1 rfl<|xne<|xcs 10 rfl (fun cc2=>?_) fun cc2=>?_;refine xct rfl<|xsr<|xr 1 rfl<|xne<|xre<|xbr<|xtr<|xb1 results55 rfl ?_;exact ⟨by rw [Qp (by simpa using cc1) cc2], E.o.bel⟩;refine xcf rfl<|xsk<|xeb<|xet<|xsr<|xr 1 rfl<|xne<|xsq<|xsr ?_;refine yc (ZjI b1 _) func76 ?_;rintro _ w4 ⟨ao2, cp2, rfl, hs⟩;refine ⟨_, rfl, ?_⟩;replace E := E.ad hs;clear hs;refine xy rfl (vn 59 1 rfl)<|xr 1 rfl<|xne<|xbl ?_;intro a J;refine ZjF 6 ?_;refine wp_seq ?_;obtain ⟨g3, rfl, _, _, _, _⟩ := E.o.rowOpen 0 rfl (Nat.succ_pos _);revert a;refine xrl<|xr 1 rfl<|xne<|xsq ?_;intro a J;replace J := J.know (k := 16) (c := true) rfl (by decide);revert a;refine xct rfl<|xsk<|xet<|xsq<|xbl<|xsr<|xy rfl (vx 59 0 1 rfl)<|xy rfl (ve VB E.o 0 0 rfl rfl rfl rfl)<|xr 1 rfl<|xne<|xrl<|xr 3 rfl<|Xl 1 E rfl rfl ?_;refine ycB (Qo p.aB _ (HT.o.below E.o.bel)) func54 E ?_;clear E;intro w5 E;refine ybs Zu 9 1 [ZJ p.aB] E ?_;clear E;intro b4 w6 E;replace E := Bx.mk (E.o.nilRow Zu 1 9 none);refine yap YX Zf E 0 (St.rdN E.o Zf 1 rfl) (Zv _) ?_;clear E;intro ao6 cp7 w7 E;refine xr 1 rfl<|xni<|xeb<|xet<|xrl<|xy rfl (fun a J=>YP (r := 1) rfl (J.ev rfl) (J.ev rfl) (by decide))<|xr 1 rfl<|xne ?_;intro a J;refine VA 5 ?_;revert a;refine xsr<|xr 1 rfl<|xne<|xsq ?_;intro a J;replace J := J.know (k := 16) (c := true) rfl (by decide);revert a;refine xct rfl<|xsk<|xet<|xsq<|xbl<|xsr<|xy rfl (vx 59 1 1 rfl)<|xy rfl (ve VB E.o 2 1 rfl rfl rfl rfl)<|xr 1 rfl<|xne<|xrl<|xr 3 rfl<|Xl 3 E rfl rfl ?_;refine ycB (Qo p.al _ (HT.o.below E.o.bel)) func54 E ?_;clear E;intro w8 E;refine ybs Zu 9 1 [ZJ p.al] E ?_;clear E;intro b8 w9 E;refine yap YX Zf E 1 (St.rdN E.o Zf 0 rfl) (Zv _) ?_;clear E;intro ao9 cp10 w10 E;refine xr 1 rfl<|xni<|xeb<|xet<|xrl<|xy rfl (fun a J=>YP (r := 2) rfl (J.ev rfl) (J.ev rfl) (by decide))<|xr 1 rfl<|xne ?_;intro a J;refine VA 4 ?_;revert a;refine xsr<|xr 1 rfl<|xne<|xsq ?_;intro a J;replace J := J.know (k := 16) (c := true) rfl (by decide);revert a;refine xct rfl<|xsk<|xet<|xsq<|xbl<|xsr<|xy rfl (vx 59 2 1 rfl)<|xy rfl (ve VB E.o 3 2 rfl rfl rfl rfl)<|xr 1 rfl<|xne<|xrl<|xr 3 rfl<|Xl 4 E rfl rfl ?_;refine ycB (Qo p.am _ (HT.o.below E.o.bel)) func54 E ?_;clear E;intro w11 E;refine ybs Zu 9 1 [ZJ p.am] E ?_;clear E;intro b11 w12 E;refine yap YX Zf E 2 (St.rdN E.o Zf 0 rfl) (Zv _) ?_;clear E;intro ao12 cp13 w13 E;refine xr 1 rfl<|xni<|xeb<|xet<|xrl<|xy rfl (fun a J=>YP (r := 3) rfl (J.ev rfl) (J.ev rfl) (by decide))<|xr 1 rfl<|xne ?_;intro a J;refine VA 3 ?_;revert a;refine xsr<|xr 1 rfl<|xne<|xsq ?_;intro a J;replace J := J.know (k := 16) (c := true) rfl (by decide);revert a;refine xct rfl<|xsk<|xet<|xsq<|xbl<|xsr<|xy rfl (vx 59 3 1 rfl)<|xy rfl (ve VB E.o 4 3 rfl rfl rfl rfl)<|xr 1 rfl<|xne<|xrl<|xr 3 rfl<|Xl 5 E rfl rfl ?_;refine ycB (Qo p.aC _ (HT.o.below E.o.bel)) func54 E ?_;clear E;intro w14 E;refine ybs Zu 9 1 [ZJ p.aC] E ?_;clear E;intro b14 w15 E;refine yap YX Zf E 3 (St.rdN E.o Zf 0 rfl) (Zv _) ?_;clear E;intro ao15 cp16 w16 E;refine xr 1 rfl<|xni<|xeb<|xet<|xrl<|xy rfl (fun a J=>YP (r := 4) rfl (J.ev rfl) (J.ev rfl) (by decide))<|xr 1 rfl<|xne ?_;intro a J;refine VA 2 ?_;revert a;refine xsr<|xr 1 rfl<|xne<|xsq ?_;intro a J;replace J := J.know (k := 16) (c := true) rfl (by decide);revert a;refine xct rfl<|xsk<|xet<|xsq<|xbl<|xsr<|xy rfl (vx 59 4 1 rfl)<|xy rfl (ve VB E.o 5 4 rfl rfl rfl rfl)<|xr 1 rfl<|xne<|xrl<|xr 3 rfl<|Xl 6 E rfl rfl ?_;refine ycB (Qo p.ar _ (HT.o.below E.o.bel)) func54 E ?_;clear E;intro w17 E;refine ybs Zu 9 1 [ZJ p.ar] E ?_;clear E;intro b17 w18 E;refine yap YX Zf E 4 (St.rdN E.o Zf 0 rfl) (Zv _) ?_;clear E;intro ao18 cp19 w19 E;refine xr 1 rfl<|xni<|xeb<|xet<|xrl<|xy rfl (fun a J=>YP (r := 5) rfl (J.ev rfl) (J.ev rfl) (by decide))<|xr 1 rfl<|xne ?_;intro a J;refine VA 1 ?_;revert a;refine xsr<|xr 1 rfl<|xne<|xsq ?_;intro a J;replace J := J.know (k := 16) (c := false) rfl (by decide);revert a;refine xcf rfl<|xex<|xtx<|xtx<|xbh<|xet<|xsr<|xr 1 rfl ?_;refine ycB (Zk8 _ _ _ (((((([]) ++ ([ZJ p.aB])) ++ ([ZJ p.al])) ++ ([ZJ p.am])) ++ ([ZJ p.aC])) ++ ([ZJ p.ar])) (⟨#[46]⟩ : ByteArray) _ (St.rdN E.o Zf 4 rfl) (St.capLe E.o 4 rfl) (by simp) (Zbp (Zbp (Zbp (Zbp (Zbp J8 (Yt (Nat.le_trans (Ym _) (by decide)) J8)) (Yt (Nat.le_trans (Ym _) (by decide)) J8)) (Yt (Nat.le_trans (Ym _) (by decide)) J8)) (Yt (Nat.le_trans (Ym _) (by decide)) J8)) (Yt (Nat.le_trans (Ym _) (by decide)) J8)) (by decide)) func77 E ?_;clear E;intro w20 E;refine xr 1 rfl<|xne<|xre<|xb1 results55 rfl ?_;exact ⟨by rw [Uv (by simpa using cc1) cc2]; simp only [nil_append, List.cons_append, List.singleton_append]; rw [ZnS]; rfl, E.o.bel⟩
theorem Q5 (p : PtrD) (w0 : World) : Calls prog 32 #[pV p] w0 fun e w' => e = .returned (.string (Z5 p)) ∧ Below w0.heap.size w0 w' := by
 have E := Bx.mk (St.start w0);refine ent func32 ntmps32 ?_;refine xsr ?_;refine ybx E ?_;clear E;intro w1 b1 E;refine xr 1 rfl<|xne<|xsq<|xsr<|Xw 0 5 E rfl rfl ?_;refine ycB (ZM p _) func24 E ?_;clear E;intro w2 E;refine xr 1 rfl<|xne<|xcs 5 rfl (fun cc1=>?_) fun cc1=>?_;refine xct rfl<|xsr<|xr 1 rfl<|xne<|xre<|xtr<|xb1 results32 rfl ?_;exact ⟨by rw [Zc7 (by simpa using cc1)]; rfl, E.o.bel⟩;refine xcf rfl<|xsk<|xet<|xsq<|xsr<|Xw 0 5 E rfl rfl ?_;refine ycB (Zz p _) func26 E ?_;clear E;intro w3 E;refine xne<|xcs 7 rfl (fun cc2=>?_) fun cc2=>?_;refine xct rfl<|xsr<|xr 1 rfl<|xne<|xre<|xtr<|xb1 results32 rfl ?_;exact ⟨by rw [Qp (by simpa using cc1) cc2], E.o.bel⟩;refine xcf rfl<|xsk<|xet<|xsq ?_;have hpb := PtrD.ok_all (p := p) (by simpa using cc1) cc2;have zfAt : (Zy p.aB.toNat).size ≤ 19 := J7 (by omega);have zfBirth : (Zy p.al.toNat).size ≤ 19 := J7 (by omega);have zfSize : (Zy p.am.toNat).size ≤ 19 := J7 (by omega);have zfSum : (Zy p.aC.toNat).size ≤ 19 := J7 (by omega);have zfLevel : (Zy p.ar.toNat).size ≤ 19 := J7 (by omega);intro a J;refine Yh (by kernel_rfl) (by kernel_rfl) E.o ?_;revert a;refine Qf 0 rfl<|Ql 0 rfl rfl ?_;refine yq (fun _ E => YL p.aB (by omega) (by omega) _) func31 ?_;refine xq rfl (fun E a J=>ZD rfl (J.ev rfl) (J.ev rfl) (by (try simp only [Xe, Zk]); omega))<|Qf 1 rfl<|Ql 0 rfl rfl ?_;refine yq (fun _ E => YL p.al (by omega) (by omega) _) func31 ?_;refine xq rfl (fun E a J=>ZD rfl (J.ev rfl) (J.ev rfl) (by (try simp only [Xe, Zk]); omega))<|xq rfl (fun E a J=>ZD rfl (J.ev rfl) (J.ev rfl) (by (try simp only [Xe, Zk]); omega))<|Qf 2 rfl<|Ql 0 rfl rfl ?_;refine yq (fun _ E => YL p.am (by omega) (by omega) _) func31 ?_;refine xq rfl (fun E a J=>ZD rfl (J.ev rfl) (J.ev rfl) (by (try simp only [Xe, Zk]); omega))<|xq rfl (fun E a J=>ZD rfl (J.ev rfl) (J.ev rfl) (by (try simp only [Xe, Zk]); omega))<|Qf 3 rfl<|Ql 0 rfl rfl ?_;refine yq (fun _ E => YL p.aC (by omega) (by omega) _) func31 ?_;refine xq rfl (fun E a J=>ZD rfl (J.ev rfl) (J.ev rfl) (by (try simp only [Xe, Zk]); omega))<|xq rfl (fun E a J=>ZD rfl (J.ev rfl) (J.ev rfl) (by (try simp only [Xe, Zk]); omega))<|Qf 4 rfl<|Ql 0 rfl rfl ?_;refine yq (fun _ E => YL p.ar (by omega) (by omega) _) func31 ?_;refine xq rfl (fun E a J=>ZD rfl (J.ev rfl) (J.ev rfl) (by (try simp only [Xe, Zk]); omega))<|xqr 1 rfl ?_;intro a J;refine wpQuiet_nil ?_; intro w4 E; replace E := Bx.mk E;revert a;refine xet<|xre<|xb1 results32 rfl ?_;exact ⟨by rw [Uv (by simpa using cc1) cc2, Y1 (n := p.aB) (by omega) (by omega), Y1 (n := p.al) (by omega) (by omega), Y1 (n := p.am) (by omega) (by omega), Y1 (n := p.aC) (by omega) (by omega), Y1 (n := p.ar) (by omega) (by omega)]; rfl, E.o.bel⟩
open Go.RowKit
section
variable {P : Program} {o : Oper} {a : Act} {w : World} {t t' : TypeId} {x y : Operand}
theorem Zi0 (ho : o.op = .binOp .eql t x y t') {b c : Bool} (hx : a.eval x = .bool b) (hy : a.eval y = .bool c) (hu : P.underlying t = some .bool) : Yl P w o a (.bool (b == c)) := by
 have h : (Op.equal t (.bool b) (.bool c)).run P w = .ok (b == c) w := by
  unfold Op.equal Op.maxDepth;rw [Op.equalIn];simp only [Sem.run_bind, run_underlying hu w, Result.andThen_ok, Sem.run_pure]
 unfold Yl execOp;simp only [ho, hx, hy];simp [eqGuard, binOp, h]
theorem Zli (ho : o.op = .binOp .eql t x y t') {b : Bool} (hx : a.eval x = .bool b) (hy : a.eval y = .bool b) (hu : P.underlying t = some .bool) : Yl P w o a (.bool true) := by
 have := Zi0 (P := P) (w := w) ho hx hy hu
 simpa using this
end
theorem ZW {a b : ByteArray} (h : (a.toList == b.toList) = true) : a = b := by
 have h := eq_of_beq h;rw [ByteArray.toList_eq, ByteArray.toList_eq] at h;exact ByteArray.ext (Array.toList_inj.1 h)
end Go.Proofs.YtfhdmfcfcgbgeaaGreatDoor
