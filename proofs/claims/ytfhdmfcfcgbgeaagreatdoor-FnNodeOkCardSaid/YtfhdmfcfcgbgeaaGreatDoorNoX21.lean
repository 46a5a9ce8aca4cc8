/- A part of the proof in YtfhdmfcfcgbgeaaGreatDoorNoX33. -/
import Derived.Shelf.Strconv.Clone
import Derived.Shelf.Strings.Cut
import Derived.Test.YtfhdmfcfcgbgeaaGreatDoorNoX20
namespace Go.Proofs.YtfhdmfcfcgbgeaaGreatDoor
open _root_.ByteArray (size_extract)
open List (length_append length_cons length_nil length_take map_cons mem_append mem_append_left mem_append_right mem_cons mem_cons_of_mem mem_cons_self mem_singleton)
set_option linter.unusedVariables false
set_option linter.unusedSimpArgs false
set_option maxHeartbeats 1000000
set_option maxRecDepth 100000
open Go.RowKit
theorem Zln (n : Nat) : ∀ x ∈ (Zy n).data.toList, x ≠ 46 := by
 intro x hx e;subst e;rw [Yp] at hx;obtain ⟨d, hd⟩ := JJ n 46 hx;obtain ⟨h1, h10⟩ := JG hd;have hn : (UInt8.ofNat (48 + d)).toNat = 48 + d := by rw [UInt8.toNat_ofNat']; omega
 rw [← h1] at hn;have : (46 : UInt8).toNat = 46 := rfl
 omega
theorem VF {n : Int} (h : 0 ≤ n ∧ n ≤ 999999999) : ∀ x ∈ (ZJ n).data.toList, x ≠ 46 := by rw [Y1 h.1 h.2]; exact Zln _
theorem Zby {a : ByteArray} (h : ∀ x ∈ a.data.toList, x ≠ 46) (b : ByteArray) : Zd (a ++ (Zb9 ++ b)) 46 = a :: Zd b 46 := by
 unfold Zd;rw [ZA, ZA, show Zb9.data.toList = [46] from rfl, List.singleton_append, QS 46 _ _ h, map_cons]
theorem ZfN {a : ByteArray} (h : ∀ x ∈ a.data.toList, x ≠ 46) : Zd a 46 = [a] := by
 unfold Zd;rw [Q2 46 _ h, map_cons, List.map_nil]
theorem ZeY (a b c : ByteArray) : a ++ b ++ c = a ++ (b ++ c) := YA (by simp only [ZA, List.append_assoc])
theorem Qh {p : PtrD} (h : p.ok = true) (hh : p.hole = false) : Zd (Z5 p) 46 = [ZJ p.aB, ZJ p.al, ZJ p.am, ZJ p.aC, ZJ p.ar] := by
 have hb := PtrD.ok_all h hh;rw [Uv h hh];simp only [ZeY];rw [Zby (VF (by omega)), Zby (VF (by omega)), Zby (VF (by omega)), Zby (VF (by omega)), ZfN (VF (by omega))]
theorem Yz {n : Int} (h : 0 ≤ n ∧ n ≤ 999999999) : Q4 (ZJ n) = some n.toNat := by rw [Y1 h.1 h.2]; exact Zbu (by omega)
theorem Zlo {n : Int} {m : Nat} (h : 0 ≤ n ∧ n ≤ 999999999) (hg : Q4 (ZJ n) = some m) : (m : Int) = n := by
 rw [Yz h] at hg;have := Option.some.inj hg
 omega
theorem YI {p : PtrD} (h : p.hole = true) : p = PtrD.zero := by
 unfold PtrD.hole at h;simp only [Bool.and_eq_true, beq_iff_eq] at h;obtain ⟨⟨⟨⟨h1, h2⟩, h3⟩, h4⟩, h5⟩ := h
 cases p
 simp only at h1 h2 h3 h4 h5;subst h1; subst h2; subst h3; subst h4; subst h5
 rfl
theorem ZgL {p : PtrD} {s : ByteArray} (h : p.ok = true) (hs : Z5 p = s) (hd : (s.toList == (⟨#[45]⟩ : ByteArray).toList) = false) : p.hole = false := by
 cases hh : p.hole with
 | false => rfl
 | true =>
  rw [Qp h hh] at hs;rw [← hs, show ((⟨#[45]⟩ : ByteArray).toList == (⟨#[45]⟩ : ByteArray).toList) = true from beq_self_eq_true _] at hd
  cases hd
theorem ZoH {α : Type} {l : List α} (h : l.length = 5) : ∃ a b c d e, l = [a, b, c, d, e] := by
 match l, h with
 | [a, b, c, d, e], _ => exact ⟨a, b, c, d, e, rfl⟩
theorem Zdv {p q : PtrD} (hp : p.ok = true) (hq : q.ok = true) (h : Z5 p = Z5 q) : p = q := by
 cases h1 : p.hole with
 | true =>
  cases h2 : q.hole with
  | true => rw [YI h1, YI h2]
  | false =>
   have := Qh hq h2;rw [← h, Qp hp h1] at this;exact absurd (congrArg List.length this) (show ¬ (1 : Nat) = 5 by decide)
 | false =>
  cases h2 : q.hole with
  | true =>
   have := Qh hp h1;rw [h, Qp hq h2] at this;exact absurd (congrArg List.length this) (show ¬ (1 : Nat) = 5 by decide)
  | false =>
   have e1 := Qh hp h1;have e2 := Qh hq h2;rw [h, e2] at e1;have hb := PtrD.ok_all hp h1;have hc := PtrD.ok_all hq h2;simp only [List.cons.injEq, and_true] at e1;obtain ⟨k1, k2, k3, k4, k5⟩ := e1;have num : ∀ {m n : Int}, 0 ≤ m ∧ m ≤ 999999999 → 0 ≤ n ∧ n ≤ 999999999 → ZJ m = ZJ n → n = m := fun hm hn e => by
    have := Yz hm;rw [e, Yz hn] at this;have := Option.some.inj this
    omega
   have j1 := num (by omega) (by omega) k1;have j2 := num (by omega) (by omega) k2;have j3 := num (by omega) (by omega) k3;have j4 := num (by omega) (by omega) k4;have j5 := num (by omega) (by omega) k5
   cases p; cases q
   simp only at j1 j2 j3 j4 j5;subst j1; subst j2; subst j3; subst j4; subst j5
   rfl
open Go.RowKit Go.Lib
def Zlp : ByteArray := ⟨#[44]⟩
def fanB (l : List PtrD) : ByteArray := QF (l.map Z5) Zlp
theorem Zbz (c : UInt8) : ∀ (x : List UInt8) (r : List (List UInt8)), (∀ y ∈ x :: r, ∀ b ∈ y, b ≠ c) → splitL c (Go.Lib.join (x :: r) [c]) = x :: r
 | x, [], h => by
  rw [show Go.Lib.join [x] [c] = x by simp [Go.Lib.join, Go.Lib.joinTail]];exact Q2 c x (h x (mem_cons_self ..))
 | x, y :: r, h => by
  have e : Go.Lib.join (x :: y :: r) [c] = x ++ c :: Go.Lib.join (y :: r) [c] := by simp [Go.Lib.join, Go.Lib.joinTail]
  rw [e, QS c _ x (h x (mem_cons_self ..)), Zbz c y r fun z hz => h z (mem_cons_of_mem _ hz)]
theorem ZgM {l : List ByteArray} {c : UInt8} (hne : l ≠ []) (h : ∀ y ∈ l, ∀ b ∈ y.data.toList, b ≠ c) : Zd (QF l ⟨#[c]⟩) c = l := by
 match l, hne with
 | x :: r, _ =>
  unfold Zd QF;show (splitL c (Go.Lib.join ((x :: r).map (·.data.toList)) [c])).map _ = _;rw [map_cons, Zbz c _ _ (fun y hy b hb => by
   rcases mem_cons.1 hy with rfl | hy
   ·exact h x (mem_cons_self ..) b hb
   ·obtain ⟨z, hz, rfl⟩ := List.mem_map.1 hy
    exact h z (mem_cons_of_mem _ hz) b hb), ← map_cons (f := fun y : ByteArray => y.data.toList)]
  exact Zdo (x :: r)
theorem ZmN (c : UInt8) (hc : digitVal c = none) (n : Nat) : ∀ x ∈ (Zy n).data.toList, x ≠ c := by
 intro x hx e;subst e;obtain ⟨d, hd⟩ := JJ n x (by rw [← Yp]; exact hx);rw [hc] at hd
 cases hd
theorem ZfO (c : UInt8) (hc : digitVal c = none) (n : Int) : ∀ x ∈ (ZJ n).data.toList, x ≠ c := by
 unfold ZJ
 split
 ·exact ZmN c hc _
 ·intro x hx; simp at hx
theorem Zlq (p : PtrD) : ∀ x ∈ (Z5 p).data.toList, x ≠ 44 := by
 cases h : p.ok with
 | false => rw [Zc7 h]; intro x hx; simp at hx
 | true =>
  cases hh : p.hole with
  | true => rw [Qp h hh]; intro x hx; rw [show x = 45 from by simpa using hx]; decide
  | false =>
   rw [Uv h hh];intro x hx;have hn := fun n => ZfO 44 (by decide) n x
   simp only [ZA, mem_append, show Zb9.data.toList = [46] from rfl, mem_singleton] at hx;rcases hx with (((((((hx | hx) | hx) | hx) | hx) | hx) | hx) | hx) | hx
   all_goals first | exact hn _ hx | (rw [hx]; decide)
theorem ZaM {l : List PtrD} (hne : l ≠ []) : Zd (fanB l) 44 = l.map Z5 := by
 refine ZgM (by simpa using hne) fun y hy => ?_;obtain ⟨p, _, rfl⟩ := List.mem_map.1 hy;exact Zlq p
structure IsFan (s : ByteArray) (l : List PtrD) : Prop where
  n : l.length = 4
  ok : ∀ p ∈ l, p.ok = true
  some : l.all (fun p => p.hole) = false
  is : fanB l = s
theorem Zi1 {l m : List PtrD} (hl : ∀ p ∈ l, p.ok = true) (hm : ∀ p ∈ m, p.ok = true) (h : l.map Z5 = m.map Z5) : l = m := by
 induction l generalizing m with
 | nil => cases m with
  | nil => rfl
  | cons _ _ => simp at h
 | cons p l ih => cases m with
  | nil => simp at h
  | cons q m =>
   simp only [map_cons, List.cons.injEq] at h;rw [Zdv (hl p (mem_cons_self ..)) (hm q (mem_cons_self ..)) h.1, ih (fun x hx => hl x (mem_cons_of_mem _ hx)) (fun x hx => hm x (mem_cons_of_mem _ hx)) h.2]
theorem IsFan.one {s : ByteArray} {l m : List PtrD} (h : IsFan s l) (k : IsFan s m) : l = m := by
 refine Zi1 h.ok k.ok ?_;rw [← ZaM (l := l) (fun e => by have := h.n; rw [e] at this; cases this), ← ZaM (l := m) (fun e => by have := k.n; rw [e] at this; cases this), h.is, k.is]
theorem IsFan.pieces {s : ByteArray} {l : List PtrD} (h : IsFan s l) : Zd s 44 = l.map Z5 := by
 rw [← h.is];exact ZaM fun e => by have := h.n; rw [e] at this; cases this
open Classical in
noncomputable def Zlr (s : ByteArray) : Option (List PtrD) := if h : ∃ l, IsFan s l then some h.choose else none
theorem ZgN {s : ByteArray} {l : List PtrD} (h : IsFan s l) : Zlr s = some l := by
 have he : ∃ l, IsFan s l := ⟨l, h⟩;unfold Zlr;rw [dif_pos he, he.choose_spec.one h]
theorem ZmO {s : ByteArray} (h : ∀ l, ¬ IsFan s l) : Zlr s = none := by
 unfold Zlr;rw [dif_neg fun ⟨l, hl⟩ => h l hl]
open Go.RowKit
def X5 (p : PtrD) (s : ByteArray) : Bool := p.ok && (!p.hole && ((p.am == (s.size : Int)) && (p.aC == Uu s)))
def Yq (st : Za) (p : PtrD) : ByteArray := st.ac.getD p.aB.toNat ByteArray.empty
def Zn (st : Za) (p : PtrD) : ByteArray := bif p.hole then ByteArray.empty else bif X5 p (Yq st p) then Yq st p else ByteArray.empty
def XC (st : Za) (p : PtrD) : Bool := bif p.hole then true else X5 p (Yq st p)
theorem Y5 {st : Za} {p : PtrD} (h : p.hole = true) : Zn st p = ByteArray.empty := by unfold Zn; rw [h]; rfl
theorem ZaN {st : Za} {p : PtrD} (h : p.hole = true) : XC st p = true := by unfold XC; rw [h]; rfl
theorem Jr {st : Za} {p : PtrD} (h : p.hole = false) (hf : X5 p (Yq st p) = true) : Zn st p = Yq st p := by unfold Zn; rw [h, hf]; rfl
theorem ZgO {st : Za} {p : PtrD} (h : p.hole = false) (hf : X5 p (Yq st p) = false) : Zn st p = ByteArray.empty := by unfold Zn; rw [h, hf]; rfl
theorem QH {st : Za} {p : PtrD} (h : p.hole = false) : XC st p = X5 p (Yq st p) := by unfold XC; rw [h]; rfl
def YD : List PtrD := [PtrD.zero, PtrD.zero, PtrD.zero, PtrD.zero]
theorem XU : PtrD.zero.hole = true := rfl
noncomputable def kids (st : Za) (p : PtrD) (level : Int) : Option (List PtrD) :=
 bif p.hole then some YD else bif XC st p && (p.ar == level) then (Zlr (Zn st p)).bind fun l => bif l.any (fun k => decide (p.al < k.al)) then none else some l else none
noncomputable def kidsS (st : Za) (p : PtrD) (level : Int) : Option (List PtrD) :=
 bif p.hole then some YD else bif p.ok && ((p.ar == level) && decide (p.al ≤ st.av)) then kids st p level else none
theorem Js {st : Za} {p : PtrD} {n : Int} (h : p.hole = true) : kids st p n = some YD := by unfold kids; rw [h]; rfl
theorem JN {st : Za} {p : PtrD} {n : Int} (h : p.hole = true) : kidsS st p n = some YD := by unfold kidsS; rw [h]; rfl
theorem ZcJ {st : Za} {p : PtrD} {n : Int} (h : p.hole = false) (hr : XC st p = false) : kids st p n = none := by unfold kids; rw [h, hr]; rfl
theorem Zdw {st : Za} {p : PtrD} {n : Int} (h : p.hole = false) (hr : (p.ar == n) = false) : kids st p n = none := by unfold kids; rw [h, hr, Bool.and_false]; rfl
theorem Zdx {st : Za} {p : PtrD} {n : Int} (h : p.hole = false) (hf : ∀ l, ¬ IsFan (Zn st p) l) : kids st p n = none := by
 unfold kids;rw [h, ZmO hf]
 cases (XC st p && (p.ar == n)) <;> rfl
theorem ZeZ {st : Za} {p : PtrD} {n : Int} {l : List PtrD} (h : p.hole = false) (hf : IsFan (Zn st p) l) (hb : l.any (fun k => decide (p.al < k.al)) = true) : kids st p n = none := by
 unfold kids;rw [h, ZgN hf]
 cases (XC st p && (p.ar == n))
 ·rfl
 ·simp only [cond_true, cond_false, Option.bind_some, hb]
theorem Zdy {st : Za} {p : PtrD} {n : Int} {l : List PtrD} (h : p.hole = false) (hr : XC st p = true) (hn : (p.ar == n) = true) (hf : IsFan (Zn st p) l) (hb : l.any (fun k => decide (p.al < k.al)) = false) : kids st p n = some l := by
 unfold kids;rw [h, ZgN hf, hr, hn];simp only [cond_true, cond_false, Option.bind_some, hb, Bool.and_self]
theorem QI {st : Za} {p : PtrD} {n : Int} {l : List PtrD} (h : kids st p n = some l) : l.length = 4 ∧ (∀ k ∈ l, k.ok = true) ∧ (p.hole = true ∧ l = YD ∨ p.hole = false ∧ p.ar = n ∧ XC st p = true ∧ IsFan (Zn st p) l ∧ ∀ k ∈ l, k.al ≤ p.al) := by
 cases hh : p.hole with
 | true =>
  rw [Js hh] at h;obtain rfl := Option.some.inj h;exact ⟨rfl, fun k hk => by simp only [YD, mem_cons, List.not_mem_nil, or_false, or_self] at hk; rw [hk]; rfl, .inl ⟨rfl, rfl⟩⟩
 | false =>
  cases hr : XC st p with
  | false => rw [ZcJ hh hr] at h; cases h
  | true =>
   cases hn : (p.ar == n) with
   | false => rw [Zdw hh hn] at h; cases h
   | true =>
    by_cases hf : ∃ m, IsFan (Zn st p) m
    ·obtain ⟨m, hm⟩ := hf
     cases hb : m.any (fun k => decide (p.al < k.al)) with
     | true => rw [ZeZ hh hm hb] at h; cases h
     | false =>
      rw [Zdy hh hr hn hm hb] at h;obtain rfl := Option.some.inj h;refine ⟨hm.n, hm.ok, .inr ⟨rfl, eq_of_beq hn, rfl, hm, fun k hk => ?_⟩⟩;have := (List.any_eq_false.1 hb) k hk;have := of_decide_eq_false (by simpa using this : decide (p.al < k.al) = false)
      omega
    ·rw [Zdx hh fun l hl => hf ⟨l, hl⟩] at h; cases h
theorem JO {st : Za} {p : PtrD} {n : Int} (hp : p.ok = true) (hb : p.al ≤ st.av) : kidsS st p n = kids st p n := by
 unfold kidsS;rw [hp, decide_eq_true hb, Bool.and_true, Bool.true_and]
 cases hh : p.hole with
 | true => rw [Js hh]; rfl
 | false =>
  cases hn : (p.ar == n) with
  | false => rw [Zdw hh hn]; rfl
  | true => rfl
theorem VG {st : Za} {p : PtrD} {n : Int} (h : p.hole = false) (hn : (p.ok && ((p.ar == n) && decide (p.al ≤ st.av))) = false) : kidsS st p n = none := by unfold kidsS; rw [h, hn]; rfl
theorem Uy {st : Za} {p : PtrD} {n : Int} {l : List PtrD} (h : kidsS st p n = some l) : kids st p n = some l ∧ (p.hole = false → p.ok = true ∧ p.al ≤ st.av) := by
 cases hh : p.hole with
 | true => rw [JN hh] at h; rw [Js hh]; exact ⟨h, fun e => by cases e⟩
 | false =>
  cases hc : (p.ok && ((p.ar == n) && decide (p.al ≤ st.av))) with
  | false => rw [VG hh hc] at h; cases h
  | true =>
   unfold kidsS at h;rw [hh, hc] at h;simp only [Bool.and_eq_true, decide_eq_true_eq] at hc;exact ⟨h, fun _ => ⟨hc.1, hc.2.2⟩⟩
noncomputable def YJ (f : PtrD → Option (List PtrD)) : List PtrD → Option (List PtrD)
 | [] => some []
 | p :: r => (f p).bind fun k => (YJ f r).map (k ++ ·)
theorem VH {f : PtrD → Option (List PtrD)} {p : PtrD} {r : List PtrD} (h : f p = none) : YJ f (p :: r) = none := by show Option.bind _ _ = _; rw [h]; rfl
theorem Zaf {f : PtrD → Option (List PtrD)} {p : PtrD} {r k : List PtrD} (h : f p = some k) : YJ f (p :: r) = (YJ f r).map (k ++ ·) := by show Option.bind _ _ = _; rw [h]; rfl
theorem ZmP {o : Option (List PtrD)} (a b : List PtrD) : (o.map (b ++ ·)).map (a ++ ·) = o.map ((a ++ b) ++ ·) := by cases o <;> simp
theorem ZcK {f g : PtrD → Option (List PtrD)} : ∀ {l : List PtrD}, (∀ p ∈ l, f p = g p) → YJ f l = YJ g l
 | [], _ => rfl
 | p :: r, h => by
  show Option.bind _ _ = Option.bind _ _;rw [h p (mem_cons_self ..), ZcK fun q hq => h q (mem_cons_of_mem _ hq)]
theorem Zca {f : PtrD → Option (List PtrD)} : ∀ {l m : List PtrD}, YJ f l = some m → (∀ p ∈ l, ∃ k, f p = some k) ∧ (∀ q ∈ m, ∃ p ∈ l, ∃ k, f p = some k ∧ q ∈ k) ∧ (∀ p ∈ l, ∀ k, f p = some k → ∀ q ∈ k, q ∈ m)
 | [], m, h => by
  obtain rfl : [] = m := Option.some.inj h;exact ⟨fun p hp => (nomatch hp), fun p hp => (nomatch hp), fun p hp => (nomatch hp)⟩
 | p :: r, m, h => by
  cases hk : f p with
  | none => rw [VH hk] at h; cases h
  | some k =>
   rw [Zaf hk] at h
   cases hn : YJ f r with
   | none => rw [hn] at h; cases h
   | some n =>
    rw [hn] at h;obtain rfl : k ++ n = m := Option.some.inj h;obtain ⟨i1, i2, i3⟩ := Zca hn;refine ⟨fun q hq => ?_, fun q hq => ?_, fun q hq k2 hk2 x hx => ?_⟩
    ·rcases mem_cons.1 hq with rfl | hq
     ·exact ⟨k, hk⟩
     ·exact i1 q hq
    ·rcases mem_append.1 hq with hq | hq
     ·exact ⟨p, mem_cons_self .., k, hk, hq⟩
     ·obtain ⟨y, hy, z, hz, hq⟩ := i2 q hq
      exact ⟨y, mem_cons_of_mem _ hy, z, hz, hq⟩
    ·rcases mem_cons.1 hq with rfl | hq
     ·rw [hk] at hk2
      obtain rfl := Option.some.inj hk2;exact mem_append_left _ hx
     ·exact mem_append_right _ (i3 q hq k2 hk2 x hx)
theorem Ze0 {f : PtrD → Option (List PtrD)} (hf : ∀ p k, f p = some k → k.length = 4) : ∀ {l m : List PtrD}, YJ f l = some m → m.length = 4 * l.length
 | [], m, h => by obtain rfl : [] = m := Option.some.inj h; rfl
 | p :: r, m, h => by
  cases hk : f p with
  | none => rw [VH hk] at h; cases h
  | some k =>
   rw [Zaf hk] at h
   cases hn : YJ f r with
   | none => rw [hn] at h; cases h
   | some n =>
    rw [hn] at h;obtain rfl : k ++ n = m := Option.some.inj h;have := Ze0 hf hn;rw [length_append, hf p k hk, length_cons]; omega
noncomputable def downL (f : PtrD → Int → Option (List PtrD)) : Nat → List PtrD → Option (List PtrD)
 | 0, l => some l
 | n + 1, l => (YJ (fun p => f p ((n + 1 : Nat) : Int)) l).bind (downL f n)
theorem JP {f : PtrD → Int → Option (List PtrD)} {n : Nat} {l : List PtrD} (h : YJ (fun p => f p ((n + 1 : Nat) : Int)) l = none) : downL f (n + 1) l = none := by show Option.bind _ _ = _; rw [h]; rfl
theorem Jt {f : PtrD → Int → Option (List PtrD)} {n : Nat} {l m : List PtrD} (h : YJ (fun p => f p ((n + 1 : Nat) : Int)) l = some m) : downL f (n + 1) l = downL f n m := by show Option.bind _ _ = _; rw [h]; rfl
theorem Zcb {f : PtrD → Int → Option (List PtrD)} (hf : ∀ p n k, f p n = some k → k.length = 4) : ∀ {n : Nat} {l m : List PtrD}, downL f n l = some m → m.length = 4 ^ n * l.length
 | 0, l, m, h => by obtain rfl : l = m := Option.some.inj h; omega
 | n + 1, l, m, h => by
  cases hn : YJ (fun p => f p ((n + 1 : Nat) : Int)) l with
  | none => rw [JP hn] at h; cases h
  | some x =>
   rw [Jt hn] at h;rw [Zcb hf h, Ze0 (fun p k => hf p _ k) hn, Nat.pow_succ, Nat.mul_assoc]
def depthN (many : Int) : Nat := if many ≤ 1 then 0 else if many ≤ 4 then 1 else 2
theorem YK (many : Int) : depthN many ≤ 2 := by unfold depthN; split <;> (try split) <;> omega
theorem ZaO {many : Int} (h : many ≤ 16) : many ≤ ((4 ^ depthN many : Nat) : Int) := by
 unfold depthN
 split
 ·simp; omega
 ·split
  ·simp; omega
  ·simp; omega
def ZgP (st : Za) (many : Int) (i : Nat) (p : PtrD) : Bool := bif p.hole then p.ar == 0 else XC st p && ((p.ar == 0) && decide ((i : Int) < many))
def Q0 (st : Za) (many : Int) : Nat → List PtrD → Bool
 | _, [] => true
 | i, p :: r => ZgP st many i p && Q0 st many (i + 1) r
def topB (st : Za) (t : Ze) : Bool := inB t.ah 0 16 && ((t.aw == (depthN t.ah : Int)) && (t.af.ok && decide (t.af.al ≤ st.av)))
noncomputable def leavesF (st : Za) (t : Ze) : Option (List PtrD) :=
 bif topB st t then (downL (kids st) (depthN t.ah) [t.af]).bind fun l => bif Q0 st t.ah 0 l then some (l.take t.ah.toNat) else none else none
noncomputable def VI (st : Za) (t : Ze) : Bool := (leavesF st t).isSome
theorem VJ {st : Za} {t : Ze} (h : topB st t = false) : leavesF st t = none := by unfold leavesF; rw [h]; rfl
theorem ZbA {st : Za} {t : Ze} (h : downL (kids st) (depthN t.ah) [t.af] = none) : leavesF st t = none := by
 unfold leavesF
 cases topB st t
 ·rfl
 ·rw [h]; rfl
theorem ZcL {st : Za} {t : Ze} {l : List PtrD} (h : downL (kids st) (depthN t.ah) [t.af] = some l) (hb : Q0 st t.ah 0 l = false) : leavesF st t = none := by
 unfold leavesF
 cases topB st t
 ·rfl
 ·rw [h]
  simp only [cond_true, cond_false, Option.bind_some, hb]
theorem VK {st : Za} {t : Ze} {l : List PtrD} (h0 : topB st t = true) (h : downL (kids st) (depthN t.ah) [t.af] = some l) (hb : Q0 st t.ah 0 l = true) : leavesF st t = some (l.take t.ah.toNat) := by
 unfold leavesF;rw [h0, h];simp only [cond_true, cond_false, Option.bind_some, hb]
theorem VL {st : Za} {p : PtrD} {n : Int} {k : List PtrD} (h : kids st p n = some k) : k.length = 4 := (QI h).1
theorem ZaP {st : Za} {t : Ze} {r : List PtrD} (h : leavesF st t = some r) : ∃ l, topB st t = true ∧ downL (kids st) (depthN t.ah) [t.af] = some l ∧ Q0 st t.ah 0 l = true ∧ r = l.take t.ah.toNat ∧ l.length = 4 ^ depthN t.ah ∧ r.length = t.ah.toNat := by
 cases h0 : topB st t with
 | false => rw [VJ h0] at h; cases h
 | true =>
  cases h1 : downL (kids st) (depthN t.ah) [t.af] with
  | none => rw [ZbA h1] at h; cases h
  | some l =>
   cases h2 : Q0 st t.ah 0 l with
   | false => rw [ZcL h1 h2] at h; cases h
   | true =>
    rw [VK h0 h1 h2] at h;obtain rfl := Option.some.inj h;have hl : l.length = 4 ^ depthN t.ah := by rw [Zcb (fun p n k => VL) h1]; simp
    refine ⟨l, rfl, rfl, h2, rfl, hl, ?_⟩;unfold topB at h0;rw [Bool.and_eq_true] at h0;have hi := Zs h0.1;have := ZaO hi.2;rw [length_take, hl]
    omega
theorem U6 {st : Za} : ∀ {n : Nat} {l : List PtrD}, (∀ p ∈ l, p.ok = true ∧ p.al ≤ st.av) → 0 ≤ st.av → downL (kidsS st) n l = downL (kids st) n l ∧ ∀ m, downL (kids st) n l = some m → ∀ p ∈ m, p.ok = true ∧ p.al ≤ st.av
 | 0, l, h, _ => ⟨rfl, fun m hm p hp => by obtain rfl : l = m := Option.some.inj hm; exact h p hp⟩
 | n + 1, l, h, h0 => by
  have e : YJ (fun p => kidsS st p ((n + 1 : Nat) : Int)) l = YJ (fun p => kids st p ((n + 1 : Nat) : Int)) l := ZcK fun p hp => JO (h p hp).1 (h p hp).2
  cases hn : YJ (fun p => kids st p ((n + 1 : Nat) : Int)) l with
  | none => rw [JP (e.trans hn), JP hn]; exact ⟨rfl, fun m hm => by cases hm⟩
  | some x =>
   rw [Jt (e.trans hn), Jt hn];refine U6 (fun q hq => ?_) h0;obtain ⟨p, hp, k, hk, hq⟩ := (Zca hn).2.1 q hq;obtain ⟨_, ok, hc⟩ := QI hk;refine ⟨ok q hq, ?_⟩;rcases hc with ⟨_, rfl⟩ | ⟨_, _, _, _, hb⟩
   ·simp only [YD, mem_cons, List.not_mem_nil, or_false, or_self] at hq
    rw [hq]; exact h0
   ·have := hb q hq; have := (h p hp).2; omega
def Zav (st : Za) (many : Int) (i : Nat) (p : PtrD) : Bool := bif p.hole then true else XC st p && ((p.ar == 0) && (decide (p.al ≤ st.av) && decide ((i : Int) < many)))
def XV (st : Za) (many : Int) : Nat → List PtrD → Bool
 | _, [] => true
 | i, p :: r => Zav st many i p && XV st many (i + 1) r
theorem Zdz {p : PtrD} (h : p.hole = true) : p.ar = 0 := by rw [YI h]; rfl
theorem ZdA {p : PtrD} (h : p.hole = true) : p.al = 0 := by rw [YI h]; rfl
theorem Zls {st : Za} {many : Int} {i : Nat} {p : PtrD} (h : p.al ≤ st.av) : Zav st many i p = ZgP st many i p := by
 unfold Zav ZgP
 cases hh : p.hole with
 | true => show true = (p.ar == 0); rw [Zdz hh]; rfl
 | false => rw [decide_eq_true h, Bool.true_and]; rfl
theorem ZdB {st : Za} {many : Int} : ∀ {i : Nat} {l : List PtrD}, (∀ p ∈ l, p.al ≤ st.av) → XV st many i l = Q0 st many i l
 | _, [], _ => rfl
 | i, p :: r, h => by
  show (_ && _) = (_ && _);rw [Zls (h p (mem_cons_self ..)), ZdB fun q hq => h q (mem_cons_of_mem _ hq)]
def ZaQ (t : Ze) : Bool := inB t.ah 0 16 && ((t.aw == (depthN t.ah : Int)) && t.af.ok)
noncomputable def okS (st : Za) (t : Ze) : Bool := ZaQ t && match downL (kidsS st) (depthN t.ah) [t.af] with | none => false | some l => XV st t.ah 0 l
theorem Zc8 {st : Za} {t : Ze} (h : ZaQ t = false) : okS st t = false := by unfold okS; rw [h]; rfl
theorem ZdC {st : Za} {t : Ze} (h : downL (kidsS st) (depthN t.ah) [t.af] = none) : okS st t = false := by unfold okS; rw [h, Bool.and_false]
theorem ZaR {st : Za} {t : Ze} {l : List PtrD} (h0 : ZaQ t = true) (h : downL (kidsS st) (depthN t.ah) [t.af] = some l) : okS st t = XV st t.ah 0 l := by unfold okS; rw [h0, h]; rfl
theorem Zlt {st : Za} {t : Ze} (h0 : 0 ≤ st.av) : okS st t = VI st t := by
 unfold VI
 cases ht : ZaQ t with
 | false =>
  rw [Zc8 ht, VJ (by unfold topB; unfold ZaQ at ht; rw [← Bool.and_assoc, ← Bool.and_assoc]; rw [← Bool.and_assoc] at ht; rw [ht]; rfl)]; rfl
 | true =>
  have hok : t.af.ok = true := by unfold ZaQ at ht; simp only [Bool.and_eq_true] at ht; exact ht.2.2
  by_cases hb : t.af.al ≤ st.av
  ·have htop : topB st t = true := by unfold topB; unfold ZaQ at ht; rw [decide_eq_true hb, Bool.and_true]; exact ht
   obtain ⟨e, hy⟩ := U6 (st := st) (n := depthN t.ah) (l := [t.af]) (fun p hp => by rw [mem_singleton.1 hp]; exact ⟨hok, hb⟩) h0
   cases hd : downL (kids st) (depthN t.ah) [t.af] with
   | none => rw [ZdC (e.trans hd), ZbA hd]; rfl
   | some l =>
    rw [ZaR ht (e.trans hd), ZdB fun p hp => (hy l hd p hp).2]
    cases hl : Q0 st t.ah 0 l with
    | true => rw [VK htop hd hl]; rfl
    | false => rw [ZcL hd hl]; rfl
  ·have htop : topB st t = false := by unfold topB; rw [decide_eq_false hb]; simp
   rw [VJ htop];have hh : t.af.hole = false := by
    cases hh : t.af.hole with
    | false => rfl
    | true => have := ZdA hh; omega
   cases hd : depthN t.ah with
   | zero =>
    rw [ZaR (l := [t.af]) ht (by rw [hd]; rfl)];show (Zav st t.ah 0 t.af && true) = false;unfold Zav;rw [hh, decide_eq_false hb]; simp
   | succ n =>
    rw [ZdC (by rw [hd]; exact JP (VH (VG hh (by rw [decide_eq_false hb]; simp))))]; rfl
noncomputable def allL (st : Za) : Nat → PtrD → List PtrD
 | 0, p => bif p.hole then [] else [p]
 | n + 1, p => bif p.hole then [] else p :: ((kids st p ((n + 1 : Nat) : Int)).getD []).flatMap (allL st n)
theorem ZS {st : Za} {p : PtrD} (h : p.hole = true) : ∀ n, allL st n p = []
 | 0 => by unfold allL; rw [h]; rfl
 | n + 1 => by unfold allL; rw [h]; rfl
theorem Qr {st : Za} {p : PtrD} (h : p.hole = false) : allL st 0 p = [p] := by unfold allL; rw [h]; rfl
theorem YR {st : Za} {p : PtrD} {n : Nat} {l : List PtrD} (h : p.hole = false) (hk : kids st p ((n + 1 : Nat) : Int) = some l) : allL st (n + 1) p = p :: l.flatMap (allL st n) := by
 show (bif p.hole then [] else p :: ((kids st p ((n + 1 : Nat) : Int)).getD []).flatMap (allL st n)) = _;rw [h, hk]; rfl
def Wf (st : Za) : Nat → PtrD → Prop
 | 0, p => p.ok = true ∧ p.al ≤ st.av ∧ p.ar = 0 ∧ XC st p = true
 | n + 1, p => p.ok = true ∧ p.al ≤ st.av ∧ ∃ l, kids st p ((n + 1 : Nat) : Int) = some l ∧ ∀ k ∈ l, Wf st n k
theorem Wf.ok {st : Za} : ∀ {n : Nat} {p : PtrD}, Wf st n p → p.ok = true ∧ p.al ≤ st.av
 | 0, _, h => ⟨h.1, h.2.1⟩
 | _ + 1, _, h => ⟨h.1, h.2.1⟩
theorem Wf.level {st : Za} : ∀ {n : Nat} {p : PtrD}, Wf st n p → p.hole = false → p.ar = (n : Int)
 | 0, _, h, _ => h.2.2.1
 | n + 1, p, ⟨_, _, l, hk, _⟩, hh => by
  rcases (QI hk).2.2 with ⟨e, _⟩ | ⟨_, e, _⟩
  ·rw [hh] at e; cases e
  ·exact e
theorem Wf.zero {st : Za} (h0 : 0 ≤ st.av) : ∀ n, Wf st n PtrD.zero
 | 0 => ⟨rfl, h0, rfl, rfl⟩
 | n + 1 => ⟨rfl, h0, YD, Js rfl, fun k hk => by
  simp only [YD, mem_cons, List.not_mem_nil, or_false, or_self] at hk;rw [hk]; exact Wf.zero h0 n⟩
open Go.RowKit Go.Lib
theorem ZfP : digitVal 58 = none := by decide
theorem Zi2 {s : ByteArray} {n k : Nat} (h : l1S s n k) (h0 : k ≠ 0) (hc : s.data.toList[k]? = some 58) : k < s.size ∧ Q4 (s.extract 0 k) = some n := by
 have hz := Zi s;have hk : k < s.data.toList.length := (List.getElem?_eq_some_iff.1 hc).1;refine ⟨by omega, ?_⟩;rcases h with ⟨h1, h2, h3, _, h5⟩ | ⟨rfl, rfl, _, b, d, h4, h6⟩
 ·have hsz : (s.extract 0 k).size = k := by rw [size_extract]; omega
  have hl : (s.extract 0 k).data.toList = s.data.toList.take k := by rw [Z9]; simp
  refine ZiW (k := k) (.inl ⟨h1, by omega, by rw [hl, List.take_take, Nat.min_self]; exact h3, .inl hsz.symm, fun hx => h5 ⟨hx.1, ?_⟩⟩) h0 hsz.symm;rw [hl] at hx
  match hx2 : s.data.toList, hk with
  | a :: r, _ =>
   rw [hx2] at hx
   match k, h0 with
   | k + 1, _ => exact hx.2
 ·rw [hc] at h4
  obtain rfl := Option.some.inj h4;rw [ZfP] at h6; cases h6
theorem ZfQ {l : List UInt8} {b : UInt8} (hb : b ∈ l) (hd : digitVal b = none) : ∀ acc, decFrom acc l = none := by
 induction l with
 | nil => cases hb
 | cons c r ih =>
  intro acc;unfold decFrom;rcases mem_cons.1 hb with rfl | hb
  ·rw [hd]
  ·cases digitVal c with
   | none => rfl
   | some d => exact ih hb _
theorem ZmQ {s : ByteArray} {n k m : Nat} {t : List UInt8} (h : l1S s n k) (hm : m ≤ 999999999) (hs : s.data.toList = (Zy m).data.toList ++ 58 :: t) : k = (Zy m).size ∧ n = m ∧ s.data.toList[k]? = some 58 := by
 have hz := Zi s;have hd9 := Uo hm;have hdp := Zdj m;have hdz := Zi (Zy m);have hall := JJ m;rw [← Yp] at hall;have hlen : s.data.toList.length = (Zy m).data.toList.length + (t.length + 1) := by rw [hs, length_append, length_cons]
 have hcol : s.data.toList[(Zy m).size]? = some 58 := by rw [hs, hdz, List.getElem?_append_right (Nat.le_refl _), Nat.sub_self]; rfl
 have hin : ∀ i, i < (Zy m).size → ∃ b d, s.data.toList[i]? = some b ∧ digitVal b = some d := fun i hi => by
  have hi2 : i < (Zy m).data.toList.length := by omega
  obtain ⟨d, hd⟩ := hall _ (List.getElem_mem hi2);exact ⟨_, d, by rw [hs, List.getElem?_append_left hi2, List.getElem?_eq_getElem hi2], hd⟩
 have hk : k = (Zy m).size := by
  rcases h with ⟨h1, h2, h3, h4, _⟩ | ⟨rfl, rfl, h3, b, d, h4, h6⟩
  ·rcases Nat.lt_trichotomy k (Zy m).size with hlt | he | hgt
   ·obtain ⟨b, d, hb, hd⟩ := hin k hlt
    rcases h4 with h4 | h4 | ⟨c, h4, h6⟩
    ·omega
    ·omega
    ·rw [hb] at h4
     obtain rfl := Option.some.inj h4;rw [hd] at h6; cases h6
   ·exact he
   ·have hmem : (58 : UInt8) ∈ s.data.toList.take k := by
     refine List.mem_of_getElem? (i := (Zy m).size) ?_;rw [List.getElem?_take, if_pos hgt]; exact hcol
    rw [ZfQ hmem ZfP] at h3; cases h3
  ·rcases Nat.lt_or_ge m 10 with hlt | hge
   ·have h1 : (Zy m).size = 1 := by rw [hdz, Yp, decDigits_one hlt]; rfl
    rw [h1] at hcol;rw [hcol] at h4;obtain rfl := Option.some.inj h4;rw [ZfP] at h6; cases h6
   ·obtain ⟨e, he, h1, h9⟩ := ZcH m hge
    rw [← Yp] at he;have : s.data.toList.head? = (Zy m).data.toList.head? := by
     rw [hs]
     match hq : (Zy m).data.toList, hdp, hdz with
     | a :: r, _, _ => rfl
     | [], hp, hq2 => have hz0 : ([] : List UInt8).length = 0 := rfl; omega
    rw [this, he] at h3;have hv := Option.some.inj h3;have : (UInt8.ofNat (48 + e)).toNat = 48 + e := by rw [UInt8.toNat_ofNat']; omega
    rw [hv] at this;have : (48 : UInt8).toNat = 48 := rfl
    omega
 refine ⟨hk, ?_, by rw [hk]; exact hcol⟩;have hnum := Zi2 h (by omega) (by rw [hk]; exact hcol);have he : s.extract 0 k = Zy m := YA (by rw [Z9, hs, hk, hdz]; simp);rw [he, Zbu hm] at hnum;exact (Option.some.inj hnum.2).symm
theorem XW {s : ByteArray} (i : Nat) : (s.extract i s.size).data.toList = s.data.toList.drop i := by
 rw [Z9, List.take_of_length_le (by rw [List.length_drop, ← Zi]; exact Nat.le_refl _)]
theorem Zlu {s : ByteArray} {xs : List ByteArray} {p k n : Nat} (h : Ux s xs (s.extract p s.size)) (hl : l1S (s.extract p s.size) n k) (h0 : k ≠ 0) (hk : p + k < s.size) (hc : s.get! (p + k) = 58) (hn : n ≤ s.size - (p + k + 1)) : Ux s (xs ++ [s.extract (p + k + 1) (p + k + 1 + n)]) (s.extract (p + k + 1 + n) s.size) := by
 have hz := Zi s;have hcol : (s.extract p s.size).data.toList[k]? = some 58 := by rw [XW, List.getElem?_drop, QR hk, hc]
 obtain ⟨hk2, hnum⟩ := Zi2 hl h0 hcol;have hcut : (s.extract p s.size).data.toList = ((s.extract p s.size).extract 0 k).data.toList ++ 58 :: (s.extract (p + k + 1) s.size).data.toList := by
  rw [Z9 (a := s.extract p s.size), XW, XW, List.drop_zero, Nat.sub_zero];have e : (s.data.toList.drop p).drop k = 58 :: s.data.toList.drop (p + k + 1) := by
   rw [List.drop_drop];have hlt : p + k < s.data.toList.length := by omega
   rw [List.drop_eq_getElem_cons hlt];have := QR hk;rw [List.getElem?_eq_getElem hlt] at this;rw [Option.some.inj this, hc]
  rw [← e, List.take_append_drop]
 have hsz : (s.extract (p + k + 1) s.size).size = s.size - (p + k + 1) := by rw [size_extract]; omega
 have := h.step hcut hnum (by omega);have e1 : (s.extract (p + k + 1) s.size).extract 0 n = s.extract (p + k + 1) (p + k + 1 + n) := YA (by
  rw [Z9, XW, Z9, List.drop_zero]
  congr 1; omega)
 have e2 : (s.extract (p + k + 1) s.size).extract n (s.extract (p + k + 1) s.size).size = s.extract (p + k + 1 + n) s.size := YA (by
  rw [XW, XW, XW, List.drop_drop])
 rw [e1, e2] at this;exact this
theorem ZfR {s : ByteArray} {xs l : List ByteArray} {p k n : Nat} (h : Ux s xs (s.extract p s.size)) (hl : l1S (s.extract p s.size) n k) (hr : IsRec s l) (hs : s.size ≤ 2048) (hp : p < s.size) : k ≠ 0 ∧ p + k < s.size ∧ s.get! (p + k) = 58 ∧ n ≤ s.size - (p + k + 1) := by
 have hz := Zi s;have hsz : (s.extract p s.size).size = s.size - p := by rw [size_extract]; omega
 have hne : ((s.extract p s.size).toList == (⟨#[]⟩ : ByteArray).toList) = false := by
  cases hq : ((s.extract p s.size).toList == (⟨#[]⟩ : ByteArray).toList) with
  | false => rfl
  | true =>
   have := ZW hq;rw [this] at hsz;have : (⟨#[]⟩ : ByteArray).size = 0 := rfl
   omega
 obtain ⟨y, ws, e1, e2, e3, e4⟩ := h.go hr.is hs hr.many hne;have hy := (XT e3).1;obtain ⟨k1, k2, k3⟩ := ZmQ hl hy e2;have hp1 := Zdj y.size;have hlen := congrArg List.length e2;rw [length_append, length_cons, length_append, ← Zi, ← Zi, ← Zi, hsz] at hlen;have hkl : p + k < s.size := by omega
 refine ⟨by omega, hkl, ?_, by omega⟩;rw [XW, List.getElem?_drop, QR hkl] at k3;exact Option.some.inj k3
theorem ZbB {s : ByteArray} {xs : List ByteArray} {p : Nat} (h : Ux s xs (s.extract p s.size)) (hp : ¬ p < s.size) : ZY xs = s := by
 refine h.done ?_;have : s.extract p s.size = (⟨#[]⟩ : ByteArray) := YA (by rw [XW, List.drop_eq_nil_of_le (by rw [← Zi]; omega)]);rw [this]; exact beq_self_eq_true _
open Go.RowKit
theorem ZbC {m n : Int} {y : ByteArray} (h : 0 ≤ m ∧ m ≤ 999999999 ∧ ZJ m = y) (k : 0 ≤ n ∧ n ≤ 999999999 ∧ ZJ n = y) : m = n := by
 have h1 := Yz ⟨h.1, h.2.1⟩;have h2 := Yz ⟨k.1, k.2.1⟩;rw [h.2.2] at h1;rw [k.2.2, h1] at h2;have := Option.some.inj h2
 omega
theorem Zlv (y : ByteArray) (ys : List ByteArray) : (ZY (y :: ys)).size = (Zy y.size).size + 1 + y.size + (ZY ys).size := by
 have h := congrArg List.length (Xg y ys);rw [← Zi, length_append, length_cons, length_append, ← Zi, ← Zi, ← Zi] at h
 omega
theorem ZaS {y : ByteArray} {ys : List ByteArray} {B : Nat} (h : y.size ≤ 100) (hb : (ZY ys).size ≤ B) : (ZY (y :: ys)).size ≤ B + 110 := by
 rw [Zlv];have := Uo (n := y.size) (by omega)
 omega
open Go.RowKit
structure Zb where
  ak : Int
  az : Int
  am : Int
  aj : Ze
abbrev nPL (k l s : Int) (t : Ze) : List Value := [.int .i64 k, .int .i64 l, .int .i64 s, .int .i64 t.af.aB, .int .i64 t.af.al, .int .i64 t.af.am, .int .i64 t.af.aC, .int .i64 t.af.ar, .int .i64 t.aw, .int .i64 t.ah]
abbrev nPV (k l s : Int) (t : Ze) : Value := .agg #[.int .i64 k, .int .i64 l, .int .i64 s, .int .i64 t.af.aB, .int .i64 t.af.al, .int .i64 t.af.am, .int .i64 t.af.aC, .int .i64 t.af.ar, .int .i64 t.aw, .int .i64 t.ah]
abbrev nL (n : Zb) : List Value := [.int .i64 n.ak, .int .i64 n.az, .int .i64 n.am, .int .i64 n.aj.af.aB, .int .i64 n.aj.af.al, .int .i64 n.aj.af.am, .int .i64 n.aj.af.aC, .int .i64 n.aj.af.ar, .int .i64 n.aj.aw, .int .i64 n.aj.ah]
abbrev nV (n : Zb) : Value := .agg #[.int .i64 n.ak, .int .i64 n.az, .int .i64 n.am, .int .i64 n.aj.af.aB, .int .i64 n.aj.af.al, .int .i64 n.aj.af.am, .int .i64 n.aj.af.aC, .int .i64 n.aj.af.ar, .int .i64 n.aj.aw, .int .i64 n.aj.ah]
def Yb (kind : Int) : Int := if kind = 1 then 12 else if kind = 2 then 128 else 0
theorem Zh4 : Yb 1 = 12 := rfl
theorem ZbD : Yb 2 = 128 := rfl
theorem ZaT {k : Int} (h1 : k ≠ 1) (h2 : k ≠ 2) : Yb k = 0 := by unfold Yb; rw [if_neg h1, if_neg h2]
def Z2 (kind size : Int) : Int := if Yb kind = 0 ∨ ¬ (0 ≤ size ∧ size ≤ 16 * Yb kind) then -1 else (size + Yb kind - 1) / Yb kind
theorem ZaU {k s : Int} (h : Yb k = 0) : Z2 k s = -1 := if_pos (.inl h)
theorem Ua {k s : Int} (h : ¬ (0 ≤ s ∧ s ≤ 16 * Yb k)) : Z2 k s = -1 := if_pos (.inr h)
theorem JQ {k s : Int} (h : Yb k ≠ 0) (h1 : 0 ≤ s) (h2 : s ≤ 16 * Yb k) : Z2 k s = (s + Yb k - 1) / Yb k := if_neg fun e => e.elim h fun e => e ⟨h1, h2⟩
structure ZaV (n : Zb) : Prop where
  many : 0 ≤ Z2 n.ak n.am
  links : 1 ≤ n.az ∧ n.az ≤ if n.ak = 2 then 1 else 9
  tmany : n.aj.ah = Z2 n.ak n.am
  depth : n.aj.aw = ((depthN (Z2 n.ak n.am) : Nat) : Int)
  root : n.aj.af.ok = true
  level : n.aj.af.hole = true ∨ n.aj.af.ar = n.aj.aw
instance (n : Zb) : Decidable (ZaV n) := decidable_of_iff (0 ≤ Z2 n.ak n.am ∧ (1 ≤ n.az ∧ n.az ≤ if n.ak = 2 then 1 else 9) ∧ n.aj.ah = Z2 n.ak n.am ∧ n.aj.aw = ((depthN (Z2 n.ak n.am) : Nat) : Int) ∧ n.aj.af.ok = true ∧ (n.aj.af.hole = true ∨ n.aj.af.ar = n.aj.aw)) ⟨fun ⟨a, b, c, d, e, f⟩ => ⟨a, b, c, d, e, f⟩, fun ⟨a, b, c, d, e, f⟩ => ⟨a, b, c, d, e, f⟩⟩
def Zb.ok (n : Zb) : Bool := decide (ZaV n)
theorem Zb.ok_yes {n : Zb} (h : ZaV n) : n.ok = true := decide_eq_true h
theorem Zb.ok_no {n : Zb} (h : ¬ ZaV n) : n.ok = false := decide_eq_false h
theorem Zb.ok_is {n : Zb} (h : n.ok = true) : ZaV n := of_decide_eq_true h
structure ZnK (n : Zb) : Prop where
  kind : n.ak = 1 ∨ n.ak = 2
  links : 1 ≤ n.az ∧ n.az ≤ 9
  size : 0 ≤ n.am ∧ n.am ≤ 16 * Yb n.ak
  is : Z2 n.ak n.am = (n.am + Yb n.ak - 1) / Yb n.ak
  many : 0 ≤ n.aj.ah ∧ n.aj.ah ≤ 16
  depth : 0 ≤ n.aj.aw ∧ n.aj.aw ≤ 2
theorem ZaV.small {n : Zb} (h : ZaV n) : ZnK n := by
 have hk : n.ak = 1 ∨ n.ak = 2 := by
  by_cases h1 : n.ak = 1
  ·exact .inl h1
  ·by_cases h2 : n.ak = 2
   ·exact .inr h2
   ·have := h.many
    rw [ZaU (ZaT h1 h2)] at this
    omega
 have he : 12 ≤ Yb n.ak ∧ Yb n.ak ≤ 128 := by rcases hk with e | e <;> rw [e] <;> decide
 have hs : 0 ≤ n.am ∧ n.am ≤ 16 * Yb n.ak := by
  by_cases hs : 0 ≤ n.am ∧ n.am ≤ 16 * Yb n.ak
  ·exact hs
  ·have := h.many
   rw [Ua hs] at this
   omega
 have hp := JQ (k := n.ak) (by omega) hs.1 hs.2;have hl := h.links;have hm : Z2 n.ak n.am ≤ 16 := by
  rw [hp];have : (n.am + Yb n.ak - 1) / Yb n.ak < 17 := Int.ediv_lt_of_lt_mul (by omega) (by omega)
  omega
 have hd := YK (Z2 n.ak n.am);have h1 := h.many;have h2 := h.tmany;have h3 := h.depth;refine ⟨hk, ⟨hl.1, ?_⟩, hs, hp, by omega, by omega⟩;have := hl.2
 split at this <;> omega
def Zlw : ByteArray := ⟨#[101, 110, 100]⟩
def X2 (n : Zb) : List ByteArray := [ZJ n.ak, ZJ n.az, ZJ n.am, Z5 n.aj.af, ZJ n.aj.aw, ZJ n.aj.ah, Zlw]
def Yn (n : Zb) : ByteArray := bif n.ok then (Yf (X2 n)).1 else ByteArray.empty
theorem QJ {n : Zb} (h : n.ok = false) : Yn n = ByteArray.empty := by unfold Yn; rw [h]; rfl
theorem Zcc {n : Zb} (h : n.ok = true) : Yn n = (Yf (X2 n)).1 := by unfold Yn; rw [h]; rfl
theorem ZgQ (n : Zb) : (ZY (X2 n)).size ≤ 1000 := by
 refine Nat.le_trans (ZaS (Nat.le_trans (Ym _) (by decide)) (ZaS (Nat.le_trans (Ym _) (by decide)) (ZaS (Nat.le_trans (Ym _) (by decide)) (ZaS (Nat.le_trans (Zbw _) (by decide)) (ZaS (Nat.le_trans (Ym _) (by decide)) (ZaS (Nat.le_trans (Ym _) (by decide)) (ZaS (y := Zlw) (by decide) (Nat.le_refl (ZY []).size)))))))) ?_;have h0 : (ZY []).size = 0 := rfl
 omega
theorem X6 {n : Zb} (h : n.ok = true) : IsRec (Yn n) (X2 n) := by
 rw [Zcc h, YQ (by simp only [X2, length_cons, length_nil]; omega) (Nat.le_trans (ZgQ n) (by decide))];exact ⟨rfl, by simp only [X2, length_cons, length_nil]; omega⟩
theorem U7 (n : Zb) : (Yn n).size ≤ 1000 := by
 cases h : n.ok with
 | false => rw [QJ h]; exact Nat.zero_le _
 | true => rw [← (X6 h).is]; exact ZgQ n
theorem ZjL {m n : Zb} (hm : m.ok = true) (hn : n.ok = true) (h : Yn m = Yn n) : m = n := by
 have h1 := X6 hm;have h2 := X6 hn;rw [h] at h1;have e := h1.one h2;simp only [X2, List.cons.injEq, and_true] at e;obtain ⟨e1, e2, e3, e4, e5, e6⟩ := e;have a := (Zb.ok_is hm);have b := (Zb.ok_is hn);have sa := a.small;have sb := b.small;have ea : Yb m.ak ≤ 128 := by rcases sa.kind with e | e <;> rw [e] <;> decide
 have eb : Yb n.ak ≤ 128 := by rcases sb.kind with e | e <;> rw [e] <;> decide
 have k1 := sa.links; have k2 := sa.size; have k3 := sa.many; have k4 := sa.depth; have k5 := sa.kind;have l1 := sb.links; have l2 := sb.size; have l3 := sb.many; have l4 := sb.depth; have l5 := sb.kind;have j1 : m.ak = n.ak := ZbC (y := ZJ n.ak) ⟨by omega, by omega, e1⟩ ⟨by omega, by omega, rfl⟩;have j2 : m.az = n.az := ZbC (y := ZJ n.az) ⟨by omega, by omega, e2⟩ ⟨by omega, by omega, rfl⟩;have j3 : m.am = n.am := ZbC (y := ZJ n.am) ⟨by omega, by omega, e3⟩ ⟨by omega, by omega, rfl⟩;have j4 := Zdv a.root b.root e4;have j5 : m.aj.aw = n.aj.aw := ZbC (y := ZJ n.aj.aw) ⟨by omega, by omega, e5⟩ ⟨by omega, by omega, rfl⟩;have j6 : m.aj.ah = n.aj.ah := ZbC (y := ZJ n.aj.ah) ⟨by omega, by omega, e6⟩ ⟨by omega, by omega, rfl⟩;obtain ⟨_, _, _, ⟨_, _, _⟩⟩ := m;obtain ⟨_, _, _, ⟨_, _, _⟩⟩ := n;simp only at j1 j2 j3 j4 j5 j6;rw [j1, j2, j3, j4, j5, j6]
open Classical in
noncomputable def JR (s : ByteArray) : Option Zb := if h : ∃ n : Zb, n.ok = true ∧ Yn n = s then some h.choose else none
theorem Zag {s : ByteArray} {n : Zb} (hn : n.ok = true) (h : Yn n = s) : JR s = some n := by
 have he : ∃ n : Zb, n.ok = true ∧ Yn n = s := ⟨n, hn, h⟩;unfold JR;rw [dif_pos he];have hc := he.choose_spec;rw [ZjL hc.1 hn (hc.2.trans h.symm)]
theorem ZgR {s : ByteArray} (h : ∀ n : Zb, n.ok = true → Yn n = s → False) : JR s = none := by
 unfold JR;rw [dif_neg fun ⟨n, hn, hs⟩ => h n hn hs]
theorem ZdD {s : ByteArray} {n : Zb} (h : JR s = some n) : n.ok = true ∧ Yn n = s := by
 unfold JR at h
 split at h
 ·next he => rw [← Option.some.inj h]; exact he.choose_spec
 ·cases h
theorem Zah {n : Zb} (h : n.ok = true) : ZnK n ∧ Q4 (ZJ n.ak) = some n.ak.toNat ∧ Q4 (ZJ n.az) = some n.az.toNat ∧ Q4 (ZJ n.am) = some n.am.toNat ∧ Q4 (ZJ n.aj.aw) = some n.aj.aw.toNat ∧ Q4 (ZJ n.aj.ah) = some n.aj.ah.toNat := by
 have sa := (Zb.ok_is h).small;have ea : Yb n.ak ≤ 128 := by rcases sa.kind with e | e <;> rw [e] <;> decide
 have k1 := sa.links; have k2 := sa.size; have k3 := sa.many; have k4 := sa.depth; have k5 := sa.kind;exact ⟨sa, Yz (by omega), Yz (by omega), Yz (by omega), Yz (by omega), Yz (by omega)⟩
open Go.RowKit
def Zq.give (s : Zq) (a : Nat) : Zq := { ag := s.ag.set a (s.ag.getD a 0 - 1), au := if s.ag.getD a 0 - 1 = 0 then s.au.set a 0 else s.au }
theorem Zq.give_refs (s : Zq) (a : Nat) : (s.give a).ag.length = s.ag.length := by simp [Zq.give]
theorem Zq.give_last (s : Zq) (a : Nat) : (s.give a).au.length = s.au.length := by unfold Zq.give; dsimp only; split <;> simp
open Go.RowKit
def Yr (rows : List ByteArray) (s : Zq) (a : Nat) : List ByteArray := if s.ag.getD a 0 - 1 = 0 then rows.set a ByteArray.empty else rows
theorem Xr (rows : List ByteArray) (s : Zq) (a : Nat) : (Yr rows s a).length = rows.length := by unfold Yr; split <;> simp
open Go.RowKit
def Up (x : List ByteArray × Zq) (p : PtrD) : List ByteArray × Zq := (Yr x.1 x.2 p.aB.toNat, x.2.give p.aB.toNat)
def Ys (x : List ByteArray × Zq) (ps : List PtrD) : List ByteArray × Zq := ps.foldl Up x
theorem ZfS (x : List ByteArray × Zq) (ps : List PtrD) (p : PtrD) : Ys x (ps ++ [p]) = Up (Ys x ps) p := by simp [Ys, List.foldl_append]
theorem ZgS (x : List ByteArray × Zq) (ps : List PtrD) : (Ys x ps).1.length = x.1.length ∧ (Ys x ps).2.ag.length = x.2.ag.length ∧ (Ys x ps).2.au.length = x.2.au.length := by
 unfold Ys
 induction ps generalizing x with
 | nil => exact ⟨rfl, rfl, rfl⟩
 | cons p r ih =>
  obtain ⟨h1, h2, h3⟩ := ih (Up x p);exact ⟨h1.trans (Xr _ _ _), h2.trans (Zq.give_refs _ _), h3.trans (Zq.give_last _ _)⟩
theorem ZjM (s : Zq) (a i : Nat) (hi : i < s.ag.length) : (s.give a).ag.getD i 0 = s.ag.getD i 0 - if a = i then 1 else 0 := by
 unfold Zq.give;simp only [List.getD, List.getElem?_set]
 by_cases h : a = i
 ·subst h
  simp [hi]
 ·simp [h]
theorem ZfT (x : List ByteArray × Zq) (ps : List PtrD) (hp : ∀ p ∈ ps, 0 ≤ p.aB) (i : Nat) (hi : i < x.2.ag.length) : (Ys x ps).2.ag.getD i 0 = x.2.ag.getD i 0 - (cnt ps i : Int) := by
 unfold Ys
 induction ps generalizing x with
 | nil => simp [cnt]
 | cons p r ih =>
  have h1 := ih (Up x p) (fun q hq => hp q (mem_cons_of_mem _ hq)) (by rw [show (Up x p).2.ag.length = x.2.ag.length from Zq.give_refs _ _]; exact hi);rw [List.foldl_cons, h1, show (Up x p).2 = x.2.give p.aB.toNat from rfl, ZjM _ _ _ hi];have h2 : cnt (p :: r) i = (if p.aB = (i : Int) then 1 else 0) + cnt r i := by
   have := Zj [p] r i;rw [List.singleton_append] at this;rw [this]
   congr 1
   by_cases h : p.aB = (i : Int) <;> simp [cnt, h]
  have h0 := hp p mem_cons_self;rw [h2]
  by_cases h : p.aB = (i : Int)
  ·rw [if_pos h, if_pos (by omega)]; push_cast; omega
  ·rw [if_neg h, if_neg (by omega)]; push_cast; omega
open Go.RowKit
def Za.nextOf (st : Za) : Za := { ac := (Ys (st.ac, st.aa) st.ai).1, aa := (Ys (st.ac, st.aa) st.ai).2, av := st.av + 1, ai := [], ax := st.ax, aq := st.aq, aA := st.aA }
end Go.Proofs.YtfhdmfcfcgbgeaaGreatDoor
