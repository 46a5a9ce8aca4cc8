/- A part of the proof in YtfhdmfcfcgbgeaaGreatSaX30. -/
import Derived.Shelf.Strconv.Clone
import Derived.Shelf.Strings.Cut
import Derived.Test.YtfhdmfcfcgbgeaaGreatSaX19
namespace Go.Proofs.YtfhdmfcfcgbgeaaGreat
open _root_.ByteArray (size_extract)
open List (drop_zero length_append length_cons length_nil length_take map_cons mem_append mem_append_left mem_append_right mem_cons mem_cons_of_mem mem_cons_self mem_singleton)
set_option linter.unusedVariables false
set_option linter.unusedSimpArgs false
set_option maxHeartbeats 1000000
set_option maxRecDepth 100000
open Go.RowKit
theorem ZlJ (n : Nat) : ∀ x ∈ (ZB n).data.toList, x ≠ 46 := by
 intro x hx e;subst e;rw [Yj] at hx;obtain ⟨d, hd⟩ := JP n 46 hx;obtain ⟨h1, h10⟩ := JM hd;have hn : (UInt8.ofNat (48 + d)).toNat = 48 + d := by rw [UInt8.toNat_ofNat']; omega
 rw [← h1] at hn;have : (46 : UInt8).toNat = 46 := rfl
 omega
theorem VM {n : Int} (h : 0 ≤ n ∧ n ≤ 999999999) : ∀ x ∈ (Yx n).data.toList, x ≠ 46 := by rw [Xc h.1 h.2]; exact ZlJ _
theorem ZbC {a : ByteArray} (h : ∀ x ∈ a.data.toList, x ≠ 46) (b : ByteArray) : Zd (a ++ (Zcm ++ b)) 46 = a :: Zd b 46 := by
 unfold Zd;rw [Z6, Z6, show Zcm.data.toList = [46] from rfl, List.singleton_append, QR 46 _ _ h, map_cons]
theorem Zgs {a : ByteArray} (h : ∀ x ∈ a.data.toList, x ≠ 46) : Zd a 46 = [a] := by
 unfold Zd;rw [Q8 46 _ h, map_cons, List.map_nil]
theorem Zfw (a b c : ByteArray) : a ++ b ++ c = a ++ (b ++ c) := Yz (by simp only [Z6, List.append_assoc])
theorem Qq {p : PtrD} (h : p.ok = true) (hh : p.hole = false) : Zd (YM p) 46 = [Yx p.aA, Yx p.al, Yx p.av, Yx p.aC, Yx p.ar] := by
 have hb := PtrD.ok_all h hh;rw [VI h hh];simp only [Zfw];rw [ZbC (VM (by omega)), ZbC (VM (by omega)), ZbC (VM (by omega)), ZbC (VM (by omega)), Zgs (VM (by omega))]
theorem Yt {n : Int} (h : 0 ≤ n ∧ n ≤ 999999999) : Q9 (Yx n) = some n.toNat := by rw [Xc h.1 h.2]; exact Zbx (by omega)
theorem ZlK {n : Int} {m : Nat} (h : 0 ≤ n ∧ n ≤ 999999999) (hg : Q9 (Yx n) = some m) : (m : Int) = n := by
 rw [Yt h] at hg;have := Option.some.inj hg
 omega
theorem YD {p : PtrD} (h : p.hole = true) : p = PtrD.zero := by
 unfold PtrD.hole at h;simp only [Bool.and_eq_true, beq_iff_eq] at h;obtain ⟨⟨⟨⟨h1, h2⟩, h3⟩, h4⟩, h5⟩ := h
 cases p
 simp only at h1 h2 h3 h4 h5;subst h1; subst h2; subst h3; subst h4; subst h5
 rfl
theorem Zhp {p : PtrD} {s : ByteArray} (h : p.ok = true) (hs : YM p = s) (hd : (s.toList == (⟨#[45]⟩ : ByteArray).toList) = false) : p.hole = false := by
 cases hh : p.hole with
 | false => rfl
 | true =>
  rw [QS h hh] at hs;rw [← hs, show ((⟨#[45]⟩ : ByteArray).toList == (⟨#[45]⟩ : ByteArray).toList) = true from beq_self_eq_true _] at hd
  cases hd
theorem ZoG {α : Type} {l : List α} (h : l.length = 5) : ∃ a b c d e, l = [a, b, c, d, e] := by
 match l, h with
 | [a, b, c, d, e], _ => exact ⟨a, b, c, d, e, rfl⟩
theorem ZdZ {p q : PtrD} (hp : p.ok = true) (hq : q.ok = true) (h : YM p = YM q) : p = q := by
 cases h1 : p.hole with
 | true =>
  cases h2 : q.hole with
  | true => rw [YD h1, YD h2]
  | false =>
   have := Qq hq h2;rw [← h, QS hp h1] at this;exact absurd (congrArg List.length this) (show ¬ (1 : Nat) = 5 by decide)
 | false =>
  cases h2 : q.hole with
  | true =>
   have := Qq hp h1;rw [h, QS hq h2] at this;exact absurd (congrArg List.length this) (show ¬ (1 : Nat) = 5 by decide)
  | false =>
   have e1 := Qq hp h1;have e2 := Qq hq h2;rw [h, e2] at e1;have hb := PtrD.ok_all hp h1;have hc := PtrD.ok_all hq h2;simp only [List.cons.injEq, and_true] at e1;obtain ⟨k1, k2, k3, k4, k5⟩ := e1;have num : ∀ {m n : Int}, 0 ≤ m ∧ m ≤ 999999999 → 0 ≤ n ∧ n ≤ 999999999 → Yx m = Yx n → n = m := fun hm hn e => by
    have := Yt hm;rw [e, Yt hn] at this;have := Option.some.inj this
    omega
   have j1 := num (by omega) (by omega) k1;have j2 := num (by omega) (by omega) k2;have j3 := num (by omega) (by omega) k3;have j4 := num (by omega) (by omega) k4;have j5 := num (by omega) (by omega) k5
   cases p; cases q
   simp only at j1 j2 j3 j4 j5;subst j1; subst j2; subst j3; subst j4; subst j5
   rfl
open Go.Lib
def ZlL : ByteArray := ⟨#[44]⟩
def fanB (l : List PtrD) : ByteArray := Q7 (l.map YM) ZlL
theorem ZbD (c : UInt8) : ∀ (x : List UInt8) (r : List (List UInt8)), (∀ y ∈ x :: r, ∀ b ∈ y, b ≠ c) → splitL c (Go.Lib.join (x :: r) [c]) = x :: r
 | x, [], h => by
  rw [show Go.Lib.join [x] [c] = x by simp [Go.Lib.join, Go.Lib.joinTail]];exact Q8 c x (h x (mem_cons_self ..))
 | x, y :: r, h => by
  have e : Go.Lib.join (x :: y :: r) [c] = x ++ c :: Go.Lib.join (y :: r) [c] := by simp [Go.Lib.join, Go.Lib.joinTail]
  rw [e, QR c _ x (h x (mem_cons_self ..)), ZbD c y r fun z hz => h z (mem_cons_of_mem _ hz)]
theorem Zhq {l : List ByteArray} {c : UInt8} (hne : l ≠ []) (h : ∀ y ∈ l, ∀ b ∈ y.data.toList, b ≠ c) : Zd (Q7 l ⟨#[c]⟩) c = l := by
 match l, hne with
 | x :: r, _ =>
  unfold Zd Q7;show (splitL c (Go.Lib.join ((x :: r).map (·.data.toList)) [c])).map _ = _;rw [map_cons, ZbD c _ _ (fun y hy b hb => by
   rcases mem_cons.1 hy with rfl | hy
   ·exact h x (mem_cons_self ..) b hb
   ·obtain ⟨z, hz, rfl⟩ := List.mem_map.1 hy
    exact h z (mem_cons_of_mem _ hz) b hb), ← map_cons (f := fun y : ByteArray => y.data.toList)]
  exact ZdR (x :: r)
theorem Zno (c : UInt8) (hc : digitVal c = none) (n : Nat) : ∀ x ∈ (ZB n).data.toList, x ≠ c := by
 intro x hx e;subst e;obtain ⟨d, hd⟩ := JP n x (by rw [← Yj]; exact hx);rw [hc] at hd
 cases hd
theorem Zgt (c : UInt8) (hc : digitVal c = none) (n : Int) : ∀ x ∈ (Yx n).data.toList, x ≠ c := by
 unfold Yx
 split
 ·exact Zno c hc _
 ·intro x hx; simp at hx
theorem ZlM (p : PtrD) : ∀ x ∈ (YM p).data.toList, x ≠ 44 := by
 cases h : p.ok with
 | false => rw [Zgq h]; intro x hx; simp at hx
 | true =>
  cases hh : p.hole with
  | true => rw [QS h hh]; intro x hx; rw [show x = 45 from by simpa using hx]; decide
  | false =>
   rw [VI h hh];intro x hx;have hn := fun n => Zgt 44 (by decide) n x
   simp only [Z6, mem_append, show Zcm.data.toList = [46] from rfl, mem_singleton] at hx;rcases hx with (((((((hx | hx) | hx) | hx) | hx) | hx) | hx) | hx) | hx
   all_goals first | exact hn _ hx | (rw [hx]; decide)
theorem ZaP {l : List PtrD} (hne : l ≠ []) : Zd (fanB l) 44 = l.map YM := by
 refine Zhq (by simpa using hne) fun y hy => ?_;obtain ⟨p, _, rfl⟩ := List.mem_map.1 hy;exact ZlM p
structure IsFan (s : ByteArray) (l : List PtrD) : Prop where
  n : l.length = 4
  ok : ∀ p ∈ l, p.ok = true
  some : l.all (fun p => p.hole) = false
  is : fanB l = s
theorem Zjz {l m : List PtrD} (hl : ∀ p ∈ l, p.ok = true) (hm : ∀ p ∈ m, p.ok = true) (h : l.map YM = m.map YM) : l = m := by
 induction l generalizing m with
 | nil => cases m with
  | nil => rfl
  | cons _ _ => simp at h
 | cons p l ih => cases m with
  | nil => simp at h
  | cons q m =>
   simp only [map_cons, List.cons.injEq] at h;rw [ZdZ (hl p (mem_cons_self ..)) (hm q (mem_cons_self ..)) h.1, ih (fun x hx => hl x (mem_cons_of_mem _ hx)) (fun x hx => hm x (mem_cons_of_mem _ hx)) h.2]
theorem IsFan.one {s : ByteArray} {l m : List PtrD} (h : IsFan s l) (k : IsFan s m) : l = m := by
 refine Zjz h.ok k.ok ?_;rw [← ZaP (l := l) (fun e => by have := h.n; rw [e] at this; cases this), ← ZaP (l := m) (fun e => by have := k.n; rw [e] at this; cases this), h.is, k.is]
theorem IsFan.pieces {s : ByteArray} {l : List PtrD} (h : IsFan s l) : Zd s 44 = l.map YM := by
 rw [← h.is];exact ZaP fun e => by have := h.n; rw [e] at this; cases this
open Classical in
noncomputable def ZlN (s : ByteArray) : Option (List PtrD) := if h : ∃ l, IsFan s l then some h.choose else none
theorem Zhr {s : ByteArray} {l : List PtrD} (h : IsFan s l) : ZlN s = some l := by
 have he : ∃ l, IsFan s l := ⟨l, h⟩;unfold ZlN;rw [dif_pos he, he.choose_spec.one h]
theorem Znp {s : ByteArray} (h : ∀ l, ¬ IsFan s l) : ZlN s = none := by
 unfold ZlN;rw [dif_neg fun ⟨l, hl⟩ => h l hl]
def XS (p : PtrD) (s : ByteArray) : Bool := p.ok && (!p.hole && ((p.av == (s.size : Int)) && (p.aC == QO s)))
def Yk (st : Za) (p : PtrD) : ByteArray := st.af.getD p.aA.toNat ByteArray.empty
def Zn (st : Za) (p : PtrD) : ByteArray := bif p.hole then ByteArray.empty else bif XS p (Yk st p) then Yk st p else ByteArray.empty
def XM (st : Za) (p : PtrD) : Bool := bif p.hole then true else XS p (Yk st p)
theorem Y5 {st : Za} {p : PtrD} (h : p.hole = true) : Zn st p = ByteArray.empty := by unfold Zn; rw [h]; rfl
theorem ZaQ {st : Za} {p : PtrD} (h : p.hole = true) : XM st p = true := by unfold XM; rw [h]; rfl
theorem Jx {st : Za} {p : PtrD} (h : p.hole = false) (hf : XS p (Yk st p) = true) : Zn st p = Yk st p := by unfold Zn; rw [h, hf]; rfl
theorem Zhs {st : Za} {p : PtrD} (h : p.hole = false) (hf : XS p (Yk st p) = false) : Zn st p = ByteArray.empty := by unfold Zn; rw [h, hf]; rfl
theorem QF {st : Za} {p : PtrD} (h : p.hole = false) : XM st p = XS p (Yk st p) := by unfold XM; rw [h]; rfl
def YB : List PtrD := [PtrD.zero, PtrD.zero, PtrD.zero, PtrD.zero]
theorem X2 : PtrD.zero.hole = true := rfl
noncomputable def kids (st : Za) (p : PtrD) (level : Int) : Option (List PtrD) :=
 bif p.hole then some YB else bif XM st p && (p.ar == level) then (ZlN (Zn st p)).bind fun l => bif l.any (fun k => decide (p.al < k.al)) then none else some l else none
noncomputable def kidsS (st : Za) (p : PtrD) (level : Int) : Option (List PtrD) :=
 bif p.hole then some YB else bif p.ok && ((p.ar == level) && decide (p.al ≤ st.ak)) then kids st p level else none
theorem Jy {st : Za} {p : PtrD} {n : Int} (h : p.hole = true) : kids st p n = some YB := by unfold kids; rw [h]; rfl
theorem JT {st : Za} {p : PtrD} {n : Int} (h : p.hole = true) : kidsS st p n = some YB := by unfold kidsS; rw [h]; rfl
theorem Zc6 {st : Za} {p : PtrD} {n : Int} (h : p.hole = false) (hr : XM st p = false) : kids st p n = none := by unfold kids; rw [h, hr]; rfl
theorem Zd0 {st : Za} {p : PtrD} {n : Int} (h : p.hole = false) (hr : (p.ar == n) = false) : kids st p n = none := by unfold kids; rw [h, hr, Bool.and_false]; rfl
theorem Zd1 {st : Za} {p : PtrD} {n : Int} (h : p.hole = false) (hf : ∀ l, ¬ IsFan (Zn st p) l) : kids st p n = none := by
 unfold kids;rw [h, Znp hf]
 cases (XM st p && (p.ar == n)) <;> rfl
theorem Zfx {st : Za} {p : PtrD} {n : Int} {l : List PtrD} (h : p.hole = false) (hf : IsFan (Zn st p) l) (hb : l.any (fun k => decide (p.al < k.al)) = true) : kids st p n = none := by
 unfold kids;rw [h, Zhr hf]
 cases (XM st p && (p.ar == n))
 ·rfl
 ·simp only [cond_true, cond_false, Option.bind_some, hb]
theorem Zd2 {st : Za} {p : PtrD} {n : Int} {l : List PtrD} (h : p.hole = false) (hr : XM st p = true) (hn : (p.ar == n) = true) (hf : IsFan (Zn st p) l) (hb : l.any (fun k => decide (p.al < k.al)) = false) : kids st p n = some l := by
 unfold kids;rw [h, Zhr hf, hr, hn];simp only [cond_true, cond_false, Option.bind_some, hb, Bool.and_self]
theorem QG {st : Za} {p : PtrD} {n : Int} {l : List PtrD} (h : kids st p n = some l) : l.length = 4 ∧ (∀ k ∈ l, k.ok = true) ∧ (p.hole = true ∧ l = YB ∨ p.hole = false ∧ p.ar = n ∧ XM st p = true ∧ IsFan (Zn st p) l ∧ ∀ k ∈ l, k.al ≤ p.al) := by
 cases hh : p.hole with
 | true =>
  rw [Jy hh] at h;obtain rfl := Option.some.inj h;exact ⟨rfl, fun k hk => by simp only [YB, mem_cons, List.not_mem_nil, or_false, or_self] at hk; rw [hk]; rfl, .inl ⟨rfl, rfl⟩⟩
 | false =>
  cases hr : XM st p with
  | false => rw [Zc6 hh hr] at h; cases h
  | true =>
   cases hn : (p.ar == n) with
   | false => rw [Zd0 hh hn] at h; cases h
   | true =>
    by_cases hf : ∃ m, IsFan (Zn st p) m
    ·obtain ⟨m, hm⟩ := hf
     cases hb : m.any (fun k => decide (p.al < k.al)) with
     | true => rw [Zfx hh hm hb] at h; cases h
     | false =>
      rw [Zd2 hh hr hn hm hb] at h;obtain rfl := Option.some.inj h;refine ⟨hm.n, hm.ok, .inr ⟨rfl, eq_of_beq hn, rfl, hm, fun k hk => ?_⟩⟩;have := (List.any_eq_false.1 hb) k hk;have := of_decide_eq_false (by simpa using this : decide (p.al < k.al) = false)
      omega
    ·rw [Zd1 hh fun l hl => hf ⟨l, hl⟩] at h; cases h
theorem JU {st : Za} {p : PtrD} {n : Int} (hp : p.ok = true) (hb : p.al ≤ st.ak) : kidsS st p n = kids st p n := by
 unfold kidsS;rw [hp, decide_eq_true hb, Bool.and_true, Bool.true_and]
 cases hh : p.hole with
 | true => rw [Jy hh]; rfl
 | false =>
  cases hn : (p.ar == n) with
  | false => rw [Zd0 hh hn]; rfl
  | true => rfl
theorem VN {st : Za} {p : PtrD} {n : Int} (h : p.hole = false) (hn : (p.ok && ((p.ar == n) && decide (p.al ≤ st.ak))) = false) : kidsS st p n = none := by unfold kidsS; rw [h, hn]; rfl
theorem UH {st : Za} {p : PtrD} {n : Int} {l : List PtrD} (h : kidsS st p n = some l) : kids st p n = some l ∧ (p.hole = false → p.ok = true ∧ p.al ≤ st.ak) := by
 cases hh : p.hole with
 | true => rw [JT hh] at h; rw [Jy hh]; exact ⟨h, fun e => by cases e⟩
 | false =>
  cases hc : (p.ok && ((p.ar == n) && decide (p.al ≤ st.ak))) with
  | false => rw [VN hh hc] at h; cases h
  | true =>
   unfold kidsS at h;rw [hh, hc] at h;simp only [Bool.and_eq_true, decide_eq_true_eq] at hc;exact ⟨h, fun _ => ⟨hc.1, hc.2.2⟩⟩
noncomputable def YE (f : PtrD → Option (List PtrD)) : List PtrD → Option (List PtrD)
 | [] => some []
 | p :: r => (f p).bind fun k => (YE f r).map (k ++ ·)
theorem VO {f : PtrD → Option (List PtrD)} {p : PtrD} {r : List PtrD} (h : f p = none) : YE f (p :: r) = none := by show Option.bind _ _ = _; rw [h]; rfl
theorem Zaj {f : PtrD → Option (List PtrD)} {p : PtrD} {r k : List PtrD} (h : f p = some k) : YE f (p :: r) = (YE f r).map (k ++ ·) := by show Option.bind _ _ = _; rw [h]; rfl
theorem Znq {o : Option (List PtrD)} (a b : List PtrD) : (o.map (b ++ ·)).map (a ++ ·) = o.map ((a ++ b) ++ ·) := by cases o <;> simp
theorem Zc7 {f g : PtrD → Option (List PtrD)} : ∀ {l : List PtrD}, (∀ p ∈ l, f p = g p) → YE f l = YE g l
 | [], _ => rfl
 | p :: r, h => by
  show Option.bind _ _ = Option.bind _ _;rw [h p (mem_cons_self ..), Zc7 fun q hq => h q (mem_cons_of_mem _ hq)]
theorem Zcn {f : PtrD → Option (List PtrD)} : ∀ {l m : List PtrD}, YE f l = some m → (∀ p ∈ l, ∃ k, f p = some k) ∧ (∀ q ∈ m, ∃ p ∈ l, ∃ k, f p = some k ∧ q ∈ k) ∧ (∀ p ∈ l, ∀ k, f p = some k → ∀ q ∈ k, q ∈ m)
 | [], m, h => by
  obtain rfl : [] = m := Option.some.inj h;exact ⟨fun p hp => (nomatch hp), fun p hp => (nomatch hp), fun p hp => (nomatch hp)⟩
 | p :: r, m, h => by
  cases hk : f p with
  | none => rw [VO hk] at h; cases h
  | some k =>
   rw [Zaj hk] at h
   cases hn : YE f r with
   | none => rw [hn] at h; cases h
   | some n =>
    rw [hn] at h;obtain rfl : k ++ n = m := Option.some.inj h;obtain ⟨i1, i2, i3⟩ := Zcn hn;refine ⟨fun q hq => ?_, fun q hq => ?_, fun q hq k2 hk2 x hx => ?_⟩
    ·rcases mem_cons.1 hq with rfl | hq
     ·exact ⟨k, hk⟩
     ·exact i1 q hq
    ·rcases mem_append.1 hq with hq | hq
     ·exact ⟨p, mem_cons_self .., k, hk, hq⟩
     ·obtain ⟨y, hy, z, hz, hq⟩ := i2 q hq
      exact ⟨y, mem_cons_of_mem _ hy, z, hz, hq⟩
    ·rcases mem_cons.1 hq with rfl | hq
     ·rw [hk] at hk2
      obtain rfl := Option.some.inj hk2;exact mem_append_left _ hx
     ·exact mem_append_right _ (i3 q hq k2 hk2 x hx)
theorem Zfy {f : PtrD → Option (List PtrD)} (hf : ∀ p k, f p = some k → k.length = 4) : ∀ {l m : List PtrD}, YE f l = some m → m.length = 4 * l.length
 | [], m, h => by obtain rfl : [] = m := Option.some.inj h; rfl
 | p :: r, m, h => by
  cases hk : f p with
  | none => rw [VO hk] at h; cases h
  | some k =>
   rw [Zaj hk] at h
   cases hn : YE f r with
   | none => rw [hn] at h; cases h
   | some n =>
    rw [hn] at h;obtain rfl : k ++ n = m := Option.some.inj h;have := Zfy hf hn;rw [length_append, hf p k hk, length_cons]; omega
noncomputable def downL (f : PtrD → Int → Option (List PtrD)) : Nat → List PtrD → Option (List PtrD)
 | 0, l => some l
 | n + 1, l => (YE (fun p => f p ((n + 1 : Nat) : Int)) l).bind (downL f n)
theorem JV {f : PtrD → Int → Option (List PtrD)} {n : Nat} {l : List PtrD} (h : YE (fun p => f p ((n + 1 : Nat) : Int)) l = none) : downL f (n + 1) l = none := by show Option.bind _ _ = _; rw [h]; rfl
theorem Jz {f : PtrD → Int → Option (List PtrD)} {n : Nat} {l m : List PtrD} (h : YE (fun p => f p ((n + 1 : Nat) : Int)) l = some m) : downL f (n + 1) l = downL f n m := by show Option.bind _ _ = _; rw [h]; rfl
theorem Zco {f : PtrD → Int → Option (List PtrD)} (hf : ∀ p n k, f p n = some k → k.length = 4) : ∀ {n : Nat} {l m : List PtrD}, downL f n l = some m → m.length = 4 ^ n * l.length
 | 0, l, m, h => by obtain rfl : l = m := Option.some.inj h; omega
 | n + 1, l, m, h => by
  cases hn : YE (fun p => f p ((n + 1 : Nat) : Int)) l with
  | none => rw [JV hn] at h; cases h
  | some x =>
   rw [Jz hn] at h;rw [Zco hf h, Zfy (fun p k => hf p _ k) hn, Nat.pow_succ, Nat.mul_assoc]
def depthN (many : Int) : Nat := if many ≤ 1 then 0 else if many ≤ 4 then 1 else 2
theorem YG (many : Int) : depthN many ≤ 2 := by unfold depthN; split <;> (try split) <;> omega
theorem ZaR {many : Int} (h : many ≤ 16) : many ≤ ((4 ^ depthN many : Nat) : Int) := by
 unfold depthN
 split
 ·simp; omega
 ·split
  ·simp; omega
  ·simp; omega
def Zht (st : Za) (many : Int) (i : Nat) (p : PtrD) : Bool := bif p.hole then p.ar == 0 else XM st p && ((p.ar == 0) && decide ((i : Int) < many))
def QZ (st : Za) (many : Int) : Nat → List PtrD → Bool
 | _, [] => true
 | i, p :: r => Zht st many i p && QZ st many (i + 1) r
def topB (st : Za) (t : Ze) : Bool := inB t.am 0 16 && ((t.az == (depthN t.am : Int)) && (t.ai.ok && decide (t.ai.al ≤ st.ak)))
noncomputable def leavesF (st : Za) (t : Ze) : Option (List PtrD) :=
 bif topB st t then (downL (kids st) (depthN t.am) [t.ai]).bind fun l => bif QZ st t.am 0 l then some (l.take t.am.toNat) else none else none
noncomputable def VP (st : Za) (t : Ze) : Bool := (leavesF st t).isSome
theorem VQ {st : Za} {t : Ze} (h : topB st t = false) : leavesF st t = none := by unfold leavesF; rw [h]; rfl
theorem ZbE {st : Za} {t : Ze} (h : downL (kids st) (depthN t.am) [t.ai] = none) : leavesF st t = none := by
 unfold leavesF
 cases topB st t
 ·rfl
 ·rw [h]; rfl
theorem Zc8 {st : Za} {t : Ze} {l : List PtrD} (h : downL (kids st) (depthN t.am) [t.ai] = some l) (hb : QZ st t.am 0 l = false) : leavesF st t = none := by
 unfold leavesF
 cases topB st t
 ·rfl
 ·rw [h]
  simp only [cond_true, cond_false, Option.bind_some, hb]
theorem VR {st : Za} {t : Ze} {l : List PtrD} (h0 : topB st t = true) (h : downL (kids st) (depthN t.am) [t.ai] = some l) (hb : QZ st t.am 0 l = true) : leavesF st t = some (l.take t.am.toNat) := by
 unfold leavesF;rw [h0, h];simp only [cond_true, cond_false, Option.bind_some, hb]
theorem VS {st : Za} {p : PtrD} {n : Int} {k : List PtrD} (h : kids st p n = some k) : k.length = 4 := (QG h).1
theorem ZaS {st : Za} {t : Ze} {r : List PtrD} (h : leavesF st t = some r) : ∃ l, topB st t = true ∧ downL (kids st) (depthN t.am) [t.ai] = some l ∧ QZ st t.am 0 l = true ∧ r = l.take t.am.toNat ∧ l.length = 4 ^ depthN t.am ∧ r.length = t.am.toNat := by
 cases h0 : topB st t with
 | false => rw [VQ h0] at h; cases h
 | true =>
  cases h1 : downL (kids st) (depthN t.am) [t.ai] with
  | none => rw [ZbE h1] at h; cases h
  | some l =>
   cases h2 : QZ st t.am 0 l with
   | false => rw [Zc8 h1 h2] at h; cases h
   | true =>
    rw [VR h0 h1 h2] at h;obtain rfl := Option.some.inj h;have hl : l.length = 4 ^ depthN t.am := by rw [Zco (fun p n k => VS) h1]; simp
    refine ⟨l, rfl, rfl, h2, rfl, hl, ?_⟩;unfold topB at h0;rw [Bool.and_eq_true] at h0;have hi := Zw h0.1;have := ZaR hi.2;rw [length_take, hl]
    omega
theorem Vc {st : Za} : ∀ {n : Nat} {l : List PtrD}, (∀ p ∈ l, p.ok = true ∧ p.al ≤ st.ak) → 0 ≤ st.ak → downL (kidsS st) n l = downL (kids st) n l ∧ ∀ m, downL (kids st) n l = some m → ∀ p ∈ m, p.ok = true ∧ p.al ≤ st.ak
 | 0, l, h, _ => ⟨rfl, fun m hm p hp => by obtain rfl : l = m := Option.some.inj hm; exact h p hp⟩
 | n + 1, l, h, h0 => by
  have e : YE (fun p => kidsS st p ((n + 1 : Nat) : Int)) l = YE (fun p => kids st p ((n + 1 : Nat) : Int)) l := Zc7 fun p hp => JU (h p hp).1 (h p hp).2
  cases hn : YE (fun p => kids st p ((n + 1 : Nat) : Int)) l with
  | none => rw [JV (e.trans hn), JV hn]; exact ⟨rfl, fun m hm => by cases hm⟩
  | some x =>
   rw [Jz (e.trans hn), Jz hn];refine Vc (fun q hq => ?_) h0;obtain ⟨p, hp, k, hk, hq⟩ := (Zcn hn).2.1 q hq;obtain ⟨_, ok, hc⟩ := QG hk;refine ⟨ok q hq, ?_⟩;rcases hc with ⟨_, rfl⟩ | ⟨_, _, _, _, hb⟩
   ·simp only [YB, mem_cons, List.not_mem_nil, or_false, or_self] at hq
    rw [hq]; exact h0
   ·have := hb q hq; have := (h p hp).2; omega
def Zay (st : Za) (many : Int) (i : Nat) (p : PtrD) : Bool := bif p.hole then true else XM st p && ((p.ar == 0) && (decide (p.al ≤ st.ak) && decide ((i : Int) < many)))
def X3 (st : Za) (many : Int) : Nat → List PtrD → Bool
 | _, [] => true
 | i, p :: r => Zay st many i p && X3 st many (i + 1) r
theorem Zd3 {p : PtrD} (h : p.hole = true) : p.ar = 0 := by rw [YD h]; rfl
theorem Zd4 {p : PtrD} (h : p.hole = true) : p.al = 0 := by rw [YD h]; rfl
theorem ZlO {st : Za} {many : Int} {i : Nat} {p : PtrD} (h : p.al ≤ st.ak) : Zay st many i p = Zht st many i p := by
 unfold Zay Zht
 cases hh : p.hole with
 | true => show true = (p.ar == 0); rw [Zd3 hh]; rfl
 | false => rw [decide_eq_true h, Bool.true_and]; rfl
theorem Zd5 {st : Za} {many : Int} : ∀ {i : Nat} {l : List PtrD}, (∀ p ∈ l, p.al ≤ st.ak) → X3 st many i l = QZ st many i l
 | _, [], _ => rfl
 | i, p :: r, h => by
  show (_ && _) = (_ && _);rw [ZlO (h p (mem_cons_self ..)), Zd5 fun q hq => h q (mem_cons_of_mem _ hq)]
def ZaT (t : Ze) : Bool := inB t.am 0 16 && ((t.az == (depthN t.am : Int)) && t.ai.ok)
noncomputable def okS (st : Za) (t : Ze) : Bool := ZaT t && match downL (kidsS st) (depthN t.am) [t.ai] with | none => false | some l => X3 st t.am 0 l
theorem Zdy {st : Za} {t : Ze} (h : ZaT t = false) : okS st t = false := by unfold okS; rw [h]; rfl
theorem Zd6 {st : Za} {t : Ze} (h : downL (kidsS st) (depthN t.am) [t.ai] = none) : okS st t = false := by unfold okS; rw [h, Bool.and_false]
theorem ZaU {st : Za} {t : Ze} {l : List PtrD} (h0 : ZaT t = true) (h : downL (kidsS st) (depthN t.am) [t.ai] = some l) : okS st t = X3 st t.am 0 l := by unfold okS; rw [h0, h]; rfl
theorem ZlP {st : Za} {t : Ze} (h0 : 0 ≤ st.ak) : okS st t = VP st t := by
 unfold VP
 cases ht : ZaT t with
 | false =>
  rw [Zdy ht, VQ (by unfold topB; unfold ZaT at ht; rw [← Bool.and_assoc, ← Bool.and_assoc]; rw [← Bool.and_assoc] at ht; rw [ht]; rfl)]; rfl
 | true =>
  have hok : t.ai.ok = true := by unfold ZaT at ht; simp only [Bool.and_eq_true] at ht; exact ht.2.2
  by_cases hb : t.ai.al ≤ st.ak
  ·have htop : topB st t = true := by unfold topB; unfold ZaT at ht; rw [decide_eq_true hb, Bool.and_true]; exact ht
   obtain ⟨e, hy⟩ := Vc (st := st) (n := depthN t.am) (l := [t.ai]) (fun p hp => by rw [mem_singleton.1 hp]; exact ⟨hok, hb⟩) h0
   cases hd : downL (kids st) (depthN t.am) [t.ai] with
   | none => rw [Zd6 (e.trans hd), ZbE hd]; rfl
   | some l =>
    rw [ZaU ht (e.trans hd), Zd5 fun p hp => (hy l hd p hp).2]
    cases hl : QZ st t.am 0 l with
    | true => rw [VR htop hd hl]; rfl
    | false => rw [Zc8 hd hl]; rfl
  ·have htop : topB st t = false := by unfold topB; rw [decide_eq_false hb]; simp
   rw [VQ htop];have hh : t.ai.hole = false := by
    cases hh : t.ai.hole with
    | false => rfl
    | true => have := Zd4 hh; omega
   cases hd : depthN t.am with
   | zero =>
    rw [ZaU (l := [t.ai]) ht (by rw [hd]; rfl)];show (Zay st t.am 0 t.ai && true) = false;unfold Zay;rw [hh, decide_eq_false hb]; simp
   | succ n =>
    rw [Zd6 (by rw [hd]; exact JV (VO (VN hh (by rw [decide_eq_false hb]; simp))))]; rfl
noncomputable def allL (st : Za) : Nat → PtrD → List PtrD
 | 0, p => bif p.hole then [] else [p]
 | n + 1, p => bif p.hole then [] else p :: ((kids st p ((n + 1 : Nat) : Int)).getD []).flatMap (allL st n)
theorem ZU {st : Za} {p : PtrD} (h : p.hole = true) : ∀ n, allL st n p = []
 | 0 => by unfold allL; rw [h]; rfl
 | n + 1 => by unfold allL; rw [h]; rfl
theorem Qy {st : Za} {p : PtrD} (h : p.hole = false) : allL st 0 p = [p] := by unfold allL; rw [h]; rfl
theorem YP {st : Za} {p : PtrD} {n : Nat} {l : List PtrD} (h : p.hole = false) (hk : kids st p ((n + 1 : Nat) : Int) = some l) : allL st (n + 1) p = p :: l.flatMap (allL st n) := by
 show (bif p.hole then [] else p :: ((kids st p ((n + 1 : Nat) : Int)).getD []).flatMap (allL st n)) = _;rw [h, hk]; rfl
def Wf (st : Za) : Nat → PtrD → Prop
 | 0, p => p.ok = true ∧ p.al ≤ st.ak ∧ p.ar = 0 ∧ XM st p = true
 | n + 1, p => p.ok = true ∧ p.al ≤ st.ak ∧ ∃ l, kids st p ((n + 1 : Nat) : Int) = some l ∧ ∀ k ∈ l, Wf st n k
theorem Wf.ok {st : Za} : ∀ {n : Nat} {p : PtrD}, Wf st n p → p.ok = true ∧ p.al ≤ st.ak
 | 0, _, h => ⟨h.1, h.2.1⟩
 | _ + 1, _, h => ⟨h.1, h.2.1⟩
theorem Wf.level {st : Za} : ∀ {n : Nat} {p : PtrD}, Wf st n p → p.hole = false → p.ar = (n : Int)
 | 0, _, h, _ => h.2.2.1
 | n + 1, p, ⟨_, _, l, hk, _⟩, hh => by
  rcases (QG hk).2.2 with ⟨e, _⟩ | ⟨_, e, _⟩
  ·rw [hh] at e; cases e
  ·exact e
theorem Wf.zero {st : Za} (h0 : 0 ≤ st.ak) : ∀ n, Wf st n PtrD.zero
 | 0 => ⟨rfl, h0, rfl, rfl⟩
 | n + 1 => ⟨rfl, h0, YB, Jy rfl, fun k hk => by
  simp only [YB, mem_cons, List.not_mem_nil, or_false, or_self] at hk;rw [hk]; exact Wf.zero h0 n⟩
theorem Zgu : digitVal 58 = none := by decide
theorem ZjA {s : ByteArray} {n k : Nat} (h : l1S s n k) (h0 : k ≠ 0) (hc : s.data.toList[k]? = some 58) : k < s.size ∧ Q9 (s.extract 0 k) = some n := by
 have hz := Zi s;have hk : k < s.data.toList.length := (List.getElem?_eq_some_iff.1 hc).1;refine ⟨by omega, ?_⟩;rcases h with ⟨h1, h2, h3, _, h5⟩ | ⟨rfl, rfl, _, b, d, h4, h6⟩
 ·have hsz : (s.extract 0 k).size = k := by rw [size_extract]; omega
  have hl : (s.extract 0 k).data.toList = s.data.toList.take k := by rw [Z8]; simp
  refine Zjv (k := k) (.inl ⟨h1, by omega, by rw [hl, List.take_take, Nat.min_self]; exact h3, .inl hsz.symm, fun hx => h5 ⟨hx.1, ?_⟩⟩) h0 hsz.symm;rw [hl] at hx
  match hx2 : s.data.toList, hk with
  | a :: r, _ =>
   rw [hx2] at hx
   match k, h0 with
   | k + 1, _ => exact hx.2
 ·rw [hc] at h4
  obtain rfl := Option.some.inj h4;rw [Zgu] at h6; cases h6
theorem Zgv {l : List UInt8} {b : UInt8} (hb : b ∈ l) (hd : digitVal b = none) : ∀ acc, decFrom acc l = none := by
 induction l with
 | nil => cases hb
 | cons c r ih =>
  intro acc;unfold decFrom;rcases mem_cons.1 hb with rfl | hb
  ·rw [hd]
  ·cases digitVal c with
   | none => rfl
   | some d => exact ih hb _
theorem Znr {s : ByteArray} {n k m : Nat} {t : List UInt8} (h : l1S s n k) (hm : m ≤ 999999999) (hs : s.data.toList = (ZB m).data.toList ++ 58 :: t) : k = (ZB m).size ∧ n = m ∧ s.data.toList[k]? = some 58 := by
 have hz := Zi s;have hd9 := Uy hm;have hdp := Zbs m;have hdz := Zi (ZB m);have hall := JP m;rw [← Yj] at hall;have hlen : s.data.toList.length = (ZB m).data.toList.length + (t.length + 1) := by rw [hs, length_append, length_cons]
 have hcol : s.data.toList[(ZB m).size]? = some 58 := by rw [hs, hdz, List.getElem?_append_right (Nat.le_refl _), Nat.sub_self]; rfl
 have hin : ∀ i, i < (ZB m).size → ∃ b d, s.data.toList[i]? = some b ∧ digitVal b = some d := fun i hi => by
  have hi2 : i < (ZB m).data.toList.length := by omega
  obtain ⟨d, hd⟩ := hall _ (List.getElem_mem hi2);exact ⟨_, d, by rw [hs, List.getElem?_append_left hi2, List.getElem?_eq_getElem hi2], hd⟩
 have hk : k = (ZB m).size := by
  rcases h with ⟨h1, h2, h3, h4, _⟩ | ⟨rfl, rfl, h3, b, d, h4, h6⟩
  ·rcases Nat.lt_trichotomy k (ZB m).size with hlt | he | hgt
   ·obtain ⟨b, d, hb, hd⟩ := hin k hlt
    rcases h4 with h4 | h4 | ⟨c, h4, h6⟩
    ·omega
    ·omega
    ·rw [hb] at h4
     obtain rfl := Option.some.inj h4;rw [hd] at h6; cases h6
   ·exact he
   ·have hmem : (58 : UInt8) ∈ s.data.toList.take k := by
     refine List.mem_of_getElem? (i := (ZB m).size) ?_;rw [List.getElem?_take, if_pos hgt]; exact hcol
    rw [Zgv hmem Zgu] at h3; cases h3
  ·rcases Nat.lt_or_ge m 10 with hlt | hge
   ·have h1 : (ZB m).size = 1 := by rw [hdz, Yj, decDigits_one hlt]; rfl
    rw [h1] at hcol;rw [hcol] at h4;obtain rfl := Option.some.inj h4;rw [Zgu] at h6; cases h6
   ·obtain ⟨e, he, h1, h9⟩ := Zc3 m hge
    rw [← Yj] at he;have : s.data.toList.head? = (ZB m).data.toList.head? := by
     rw [hs]
     match hq : (ZB m).data.toList, hdp, hdz with
     | a :: r, _, _ => rfl
     | [], hp, hq2 => have hz0 : ([] : List UInt8).length = 0 := rfl; omega
    rw [this, he] at h3;have hv := Option.some.inj h3;have : (UInt8.ofNat (48 + e)).toNat = 48 + e := by rw [UInt8.toNat_ofNat']; omega
    rw [hv] at this;have : (48 : UInt8).toNat = 48 := rfl
    omega
 refine ⟨hk, ?_, by rw [hk]; exact hcol⟩;have hnum := ZjA h (by omega) (by rw [hk]; exact hcol);have he : s.extract 0 k = ZB m := Yz (by rw [Z8, hs, hk, hdz]; simp);rw [he, Zbx hm] at hnum;exact (Option.some.inj hnum.2).symm
theorem X4 {s : ByteArray} (i : Nat) : (s.extract i s.size).data.toList = s.data.toList.drop i := by
 rw [Z8, List.take_of_length_le (by rw [List.length_drop, ← Zi]; exact Nat.le_refl _)]
theorem ZlQ {s : ByteArray} {xs : List ByteArray} {p k n : Nat} (h : UG s xs (s.extract p s.size)) (hl : l1S (s.extract p s.size) n k) (h0 : k ≠ 0) (hk : p + k < s.size) (hc : s.get! (p + k) = 58) (hn : n ≤ s.size - (p + k + 1)) : UG s (xs ++ [s.extract (p + k + 1) (p + k + 1 + n)]) (s.extract (p + k + 1 + n) s.size) := by
 have hz := Zi s;have hcol : (s.extract p s.size).data.toList[k]? = some 58 := by rw [X4, List.getElem?_drop, QP hk, hc]
 obtain ⟨hk2, hnum⟩ := ZjA hl h0 hcol;have hcut : (s.extract p s.size).data.toList = ((s.extract p s.size).extract 0 k).data.toList ++ 58 :: (s.extract (p + k + 1) s.size).data.toList := by
  rw [Z8 (a := s.extract p s.size), X4, X4, drop_zero, Nat.sub_zero];have e : (s.data.toList.drop p).drop k = 58 :: s.data.toList.drop (p + k + 1) := by
   rw [List.drop_drop];have hlt : p + k < s.data.toList.length := by omega
   rw [List.drop_eq_getElem_cons hlt];have := QP hk;rw [List.getElem?_eq_getElem hlt] at this;rw [Option.some.inj this, hc]
  rw [← e, List.take_append_drop]
 have hsz : (s.extract (p + k + 1) s.size).size = s.size - (p + k + 1) := by rw [size_extract]; omega
 have := h.step hcut hnum (by omega);have e1 : (s.extract (p + k + 1) s.size).extract 0 n = s.extract (p + k + 1) (p + k + 1 + n) := Yz (by
  rw [Z8, X4, Z8, drop_zero]
  congr 1; omega)
 have e2 : (s.extract (p + k + 1) s.size).extract n (s.extract (p + k + 1) s.size).size = s.extract (p + k + 1 + n) s.size := Yz (by
  rw [X4, X4, X4, List.drop_drop])
 rw [e1, e2] at this;exact this
theorem Zgw {s : ByteArray} {xs l : List ByteArray} {p k n : Nat} (h : UG s xs (s.extract p s.size)) (hl : l1S (s.extract p s.size) n k) (hr : IsRec s l) (hs : s.size ≤ 2048) (hp : p < s.size) : k ≠ 0 ∧ p + k < s.size ∧ s.get! (p + k) = 58 ∧ n ≤ s.size - (p + k + 1) := by
 have hz := Zi s;have hsz : (s.extract p s.size).size = s.size - p := by rw [size_extract]; omega
 have hne : ((s.extract p s.size).toList == (⟨#[]⟩ : ByteArray).toList) = false := by
  cases hq : ((s.extract p s.size).toList == (⟨#[]⟩ : ByteArray).toList) with
  | false => rfl
  | true =>
   have := ZV hq;rw [this] at hsz;have : (⟨#[]⟩ : ByteArray).size = 0 := rfl
   omega
 obtain ⟨y, ws, e1, e2, e3, e4⟩ := h.go hr.is hs hr.many hne;have hy := (X1 e3).1;obtain ⟨k1, k2, k3⟩ := Znr hl hy e2;have hp1 := Zbs y.size;have hlen := congrArg List.length e2;rw [length_append, length_cons, length_append, ← Zi, ← Zi, ← Zi, hsz] at hlen;have hkl : p + k < s.size := by omega
 refine ⟨by omega, hkl, ?_, by omega⟩;rw [X4, List.getElem?_drop, QP hkl] at k3;exact Option.some.inj k3
theorem ZbF {s : ByteArray} {xs : List ByteArray} {p : Nat} (h : UG s xs (s.extract p s.size)) (hp : ¬ p < s.size) : Ye xs = s := by
 refine h.done ?_;have : s.extract p s.size = (⟨#[]⟩ : ByteArray) := Yz (by rw [X4, List.drop_eq_nil_of_le (by rw [← Zi]; omega)]);rw [this]; exact beq_self_eq_true _
theorem ZbG {m n : Int} {y : ByteArray} (h : 0 ≤ m ∧ m ≤ 999999999 ∧ Yx m = y) (k : 0 ≤ n ∧ n ≤ 999999999 ∧ Yx n = y) : m = n := by
 have h1 := Yt ⟨h.1, h.2.1⟩;have h2 := Yt ⟨k.1, k.2.1⟩;rw [h.2.2] at h1;rw [k.2.2, h1] at h2;have := Option.some.inj h2
 omega
theorem ZlR (y : ByteArray) (ys : List ByteArray) : (Ye (y :: ys)).size = (ZB y.size).size + 1 + y.size + (Ye ys).size := by
 have h := congrArg List.length (Xi y ys);rw [← Zi, length_append, length_cons, length_append, ← Zi, ← Zi, ← Zi] at h
 omega
theorem ZaV {y : ByteArray} {ys : List ByteArray} {B : Nat} (h : y.size ≤ 100) (hb : (Ye ys).size ≤ B) : (Ye (y :: ys)).size ≤ B + 110 := by
 rw [ZlR];have := Uy (n := y.size) (by omega)
 omega
structure Zc where
  aq : Int
  aB : Int
  av : Int
  au : Ze
abbrev nPL (k l s : Int) (t : Ze) : List Value := [.int .i64 k, .int .i64 l, .int .i64 s, .int .i64 t.ai.aA, .int .i64 t.ai.al, .int .i64 t.ai.av, .int .i64 t.ai.aC, .int .i64 t.ai.ar, .int .i64 t.az, .int .i64 t.am]
abbrev nPV (k l s : Int) (t : Ze) : Value := .agg #[.int .i64 k, .int .i64 l, .int .i64 s, .int .i64 t.ai.aA, .int .i64 t.ai.al, .int .i64 t.ai.av, .int .i64 t.ai.aC, .int .i64 t.ai.ar, .int .i64 t.az, .int .i64 t.am]
abbrev nL (n : Zc) : List Value := [.int .i64 n.aq, .int .i64 n.aB, .int .i64 n.av, .int .i64 n.au.ai.aA, .int .i64 n.au.ai.al, .int .i64 n.au.ai.av, .int .i64 n.au.ai.aC, .int .i64 n.au.ai.ar, .int .i64 n.au.az, .int .i64 n.au.am]
abbrev nV (n : Zc) : Value := .agg #[.int .i64 n.aq, .int .i64 n.aB, .int .i64 n.av, .int .i64 n.au.ai.aA, .int .i64 n.au.ai.al, .int .i64 n.au.ai.av, .int .i64 n.au.ai.aC, .int .i64 n.au.ai.ar, .int .i64 n.au.az, .int .i64 n.au.am]
def Yn (kind : Int) : Int := if kind = 1 then 12 else if kind = 2 then 128 else 0
theorem ZiF : Yn 1 = 12 := rfl
theorem ZbH : Yn 2 = 128 := rfl
theorem Zd7 {k : Int} (h1 : k ≠ 1) (h2 : k ≠ 2) : Yn k = 0 := by unfold Yn; rw [if_neg h1, if_neg h2]
def Yy (kind size : Int) : Int := if Yn kind = 0 ∨ ¬ (0 ≤ size ∧ size ≤ 16 * Yn kind) then -1 else (size + Yn kind - 1) / Yn kind
theorem Zd8 {k s : Int} (h : Yn k = 0) : Yy k s = -1 := if_pos (.inl h)
theorem Zc9 {k s : Int} (h : ¬ (0 ≤ s ∧ s ≤ 16 * Yn k)) : Yy k s = -1 := if_pos (.inr h)
theorem ZaW {k s : Int} (h : Yn k ≠ 0) (h1 : 0 ≤ s) (h2 : s ≤ 16 * Yn k) : Yy k s = (s + Yn k - 1) / Yn k := if_neg fun e => e.elim h fun e => e ⟨h1, h2⟩
structure ZaX (n : Zc) : Prop where
  many : 0 ≤ Yy n.aq n.av
  links : 1 ≤ n.aB ∧ n.aB ≤ if n.aq = 2 then 1 else 9
  tmany : n.au.am = Yy n.aq n.av
  depth : n.au.az = ((depthN (Yy n.aq n.av) : Nat) : Int)
  root : n.au.ai.ok = true
  level : n.au.ai.hole = true ∨ n.au.ai.ar = n.au.az
instance (n : Zc) : Decidable (ZaX n) := decidable_of_iff (0 ≤ Yy n.aq n.av ∧ (1 ≤ n.aB ∧ n.aB ≤ if n.aq = 2 then 1 else 9) ∧ n.au.am = Yy n.aq n.av ∧ n.au.az = ((depthN (Yy n.aq n.av) : Nat) : Int) ∧ n.au.ai.ok = true ∧ (n.au.ai.hole = true ∨ n.au.ai.ar = n.au.az)) ⟨fun ⟨a, b, c, d, e, f⟩ => ⟨a, b, c, d, e, f⟩, fun ⟨a, b, c, d, e, f⟩ => ⟨a, b, c, d, e, f⟩⟩
def Zc.ok (n : Zc) : Bool := decide (ZaX n)
theorem Zc.ok_yes {n : Zc} (h : ZaX n) : n.ok = true := decide_eq_true h
theorem Zc.ok_no {n : Zc} (h : ¬ ZaX n) : n.ok = false := decide_eq_false h
theorem Zc.ok_is {n : Zc} (h : n.ok = true) : ZaX n := of_decide_eq_true h
structure Zn1 (n : Zc) : Prop where
  kind : n.aq = 1 ∨ n.aq = 2
  links : 1 ≤ n.aB ∧ n.aB ≤ 9
  size : 0 ≤ n.av ∧ n.av ≤ 16 * Yn n.aq
  is : Yy n.aq n.av = (n.av + Yn n.aq - 1) / Yn n.aq
  many : 0 ≤ n.au.am ∧ n.au.am ≤ 16
  depth : 0 ≤ n.au.az ∧ n.au.az ≤ 2
theorem ZaX.small {n : Zc} (h : ZaX n) : Zn1 n := by
 have hk : n.aq = 1 ∨ n.aq = 2 := by
  by_cases h1 : n.aq = 1
  ·exact .inl h1
  ·by_cases h2 : n.aq = 2
   ·exact .inr h2
   ·have := h.many
    rw [Zd8 (Zd7 h1 h2)] at this
    omega
 have he : 12 ≤ Yn n.aq ∧ Yn n.aq ≤ 128 := by rcases hk with e | e <;> rw [e] <;> decide
 have hs : 0 ≤ n.av ∧ n.av ≤ 16 * Yn n.aq := by
  by_cases hs : 0 ≤ n.av ∧ n.av ≤ 16 * Yn n.aq
  ·exact hs
  ·have := h.many
   rw [Zc9 hs] at this
   omega
 have hp := ZaW (k := n.aq) (by omega) hs.1 hs.2;have hl := h.links;have hm : Yy n.aq n.av ≤ 16 := by
  rw [hp];have : (n.av + Yn n.aq - 1) / Yn n.aq < 17 := Int.ediv_lt_of_lt_mul (by omega) (by omega)
  omega
 have hd := YG (Yy n.aq n.av);have h1 := h.many;have h2 := h.tmany;have h3 := h.depth;refine ⟨hk, ⟨hl.1, ?_⟩, hs, hp, by omega, by omega⟩;have := hl.2
 split at this <;> omega
def ZlS : ByteArray := ⟨#[101, 110, 100]⟩
def Uk (n : Zc) : List ByteArray := [Yx n.aq, Yx n.aB, Yx n.av, YM n.au.ai, Yx n.au.az, Yx n.au.am, ZlS]
def Ym (n : Zc) : ByteArray := bif n.ok then (Yv (Uk n)).1 else ByteArray.empty
theorem JW {n : Zc} (h : n.ok = false) : Ym n = ByteArray.empty := by unfold Ym; rw [h]; rfl
theorem Zfz {n : Zc} (h : n.ok = true) : Ym n = (Yv (Uk n)).1 := by unfold Ym; rw [h]; rfl
theorem Zhu (n : Zc) : (Ye (Uk n)).size ≤ 1000 := by
 refine Nat.le_trans (ZaV (Nat.le_trans (Xs _) (by decide)) (ZaV (Nat.le_trans (Xs _) (by decide)) (ZaV (Nat.le_trans (Xs _) (by decide)) (ZaV (Nat.le_trans (Zdx _) (by decide)) (ZaV (Nat.le_trans (Xs _) (by decide)) (ZaV (Nat.le_trans (Xs _) (by decide)) (ZaV (y := ZlS) (by decide) (Nat.le_refl (Ye []).size)))))))) ?_;have h0 : (Ye []).size = 0 := rfl
 omega
theorem Qe {n : Zc} (h : n.ok = true) : IsRec (Ym n) (Uk n) := by
 rw [Zfz h, Y4 (by simp only [Uk, length_cons, length_nil]; omega) (Nat.le_trans (Zhu n) (by decide))];exact ⟨rfl, by simp only [Uk, length_cons, length_nil]; omega⟩
theorem Vd (n : Zc) : (Ym n).size ≤ 1000 := by
 cases h : n.ok with
 | false => rw [JW h]; exact Nat.zero_le _
 | true => rw [← (Qe h).is]; exact Zhu n
theorem Zkf {m n : Zc} (hm : m.ok = true) (hn : n.ok = true) (h : Ym m = Ym n) : m = n := by
 have h1 := Qe hm;have h2 := Qe hn;rw [h] at h1;have e := h1.one h2;simp only [Uk, List.cons.injEq, and_true] at e;obtain ⟨e1, e2, e3, e4, e5, e6⟩ := e;have a := (Zc.ok_is hm);have b := (Zc.ok_is hn);have sa := a.small;have sb := b.small;have ea : Yn m.aq ≤ 128 := by rcases sa.kind with e | e <;> rw [e] <;> decide
 have eb : Yn n.aq ≤ 128 := by rcases sb.kind with e | e <;> rw [e] <;> decide
 have k1 := sa.links; have k2 := sa.size; have k3 := sa.many; have k4 := sa.depth; have k5 := sa.kind;have l1 := sb.links; have l2 := sb.size; have l3 := sb.many; have l4 := sb.depth; have l5 := sb.kind;have j1 : m.aq = n.aq := ZbG (y := Yx n.aq) ⟨by omega, by omega, e1⟩ ⟨by omega, by omega, rfl⟩;have j2 : m.aB = n.aB := ZbG (y := Yx n.aB) ⟨by omega, by omega, e2⟩ ⟨by omega, by omega, rfl⟩;have j3 : m.av = n.av := ZbG (y := Yx n.av) ⟨by omega, by omega, e3⟩ ⟨by omega, by omega, rfl⟩;have j4 := ZdZ a.root b.root e4;have j5 : m.au.az = n.au.az := ZbG (y := Yx n.au.az) ⟨by omega, by omega, e5⟩ ⟨by omega, by omega, rfl⟩;have j6 : m.au.am = n.au.am := ZbG (y := Yx n.au.am) ⟨by omega, by omega, e6⟩ ⟨by omega, by omega, rfl⟩;obtain ⟨_, _, _, ⟨_, _, _⟩⟩ := m;obtain ⟨_, _, _, ⟨_, _, _⟩⟩ := n;simp only at j1 j2 j3 j4 j5 j6;rw [j1, j2, j3, j4, j5, j6]
open Classical in
noncomputable def JX (s : ByteArray) : Option Zc := if h : ∃ n : Zc, n.ok = true ∧ Ym n = s then some h.choose else none
theorem Zak {s : ByteArray} {n : Zc} (hn : n.ok = true) (h : Ym n = s) : JX s = some n := by
 have he : ∃ n : Zc, n.ok = true ∧ Ym n = s := ⟨n, hn, h⟩;unfold JX;rw [dif_pos he];have hc := he.choose_spec;rw [Zkf hc.1 hn (hc.2.trans h.symm)]
theorem Zhv {s : ByteArray} (h : ∀ n : Zc, n.ok = true → Ym n = s → False) : JX s = none := by
 unfold JX;rw [dif_neg fun ⟨n, hn, hs⟩ => h n hn hs]
theorem Zd9 {s : ByteArray} {n : Zc} (h : JX s = some n) : n.ok = true ∧ Ym n = s := by
 unfold JX at h
 split at h
 ·next he => rw [← Option.some.inj h]; exact he.choose_spec
 ·cases h
theorem Zal {n : Zc} (h : n.ok = true) : Zn1 n ∧ Q9 (Yx n.aq) = some n.aq.toNat ∧ Q9 (Yx n.aB) = some n.aB.toNat ∧ Q9 (Yx n.av) = some n.av.toNat ∧ Q9 (Yx n.au.az) = some n.au.az.toNat ∧ Q9 (Yx n.au.am) = some n.au.am.toNat := by
 have sa := (Zc.ok_is h).small;have ea : Yn n.aq ≤ 128 := by rcases sa.kind with e | e <;> rw [e] <;> decide
 have k1 := sa.links; have k2 := sa.size; have k3 := sa.many; have k4 := sa.depth; have k5 := sa.kind;exact ⟨sa, Yt (by omega), Yt (by omega), Yt (by omega), Yt (by omega), Yt (by omega)⟩
def Zp.give (s : Zp) (a : Nat) : Zp := { ac := s.ac.set a (s.ac.getD a 0 - 1), ah := if s.ac.getD a 0 - 1 = 0 then s.ah.set a 0 else s.ah }
theorem Zp.give_refs (s : Zp) (a : Nat) : (s.give a).ac.length = s.ac.length := by simp [Zp.give]
theorem Zp.give_last (s : Zp) (a : Nat) : (s.give a).ah.length = s.ah.length := by unfold Zp.give; dsimp only; split <;> simp
def ZX (rows : List ByteArray) (s : Zp) (a : Nat) : List ByteArray := if s.ac.getD a 0 - 1 = 0 then rows.set a ByteArray.empty else rows
theorem Xt (rows : List ByteArray) (s : Zp) (a : Nat) : (ZX rows s a).length = rows.length := by unfold ZX; split <;> simp
def Ji (x : List ByteArray × Zp) (p : PtrD) : List ByteArray × Zp := (ZX x.1 x.2 p.aA.toNat, x.2.give p.aA.toNat)
def Z2 (x : List ByteArray × Zp) (ps : List PtrD) : List ByteArray × Zp := ps.foldl Ji x
theorem Zgx (x : List ByteArray × Zp) (ps : List PtrD) (p : PtrD) : Z2 x (ps ++ [p]) = Ji (Z2 x ps) p := by simp [Z2, List.foldl_append]
theorem Ul (x : List ByteArray × Zp) (ps : List PtrD) : (Z2 x ps).1.length = x.1.length ∧ (Z2 x ps).2.ac.length = x.2.ac.length ∧ (Z2 x ps).2.ah.length = x.2.ah.length := by
 unfold Z2
 induction ps generalizing x with
 | nil => exact ⟨rfl, rfl, rfl⟩
 | cons p r ih =>
  obtain ⟨h1, h2, h3⟩ := ih (Ji x p);exact ⟨h1.trans (Xt _ _ _), h2.trans (Zp.give_refs _ _), h3.trans (Zp.give_last _ _)⟩
theorem Zkg (s : Zp) (a i : Nat) (hi : i < s.ac.length) : (s.give a).ac.getD i 0 = s.ac.getD i 0 - if a = i then 1 else 0 := by
 unfold Zp.give;simp only [List.getD, List.getElem?_set]
 by_cases h : a = i
 ·subst h
  simp [hi]
 ·simp [h]
theorem ZbI (x : List ByteArray × Zp) (ps : List PtrD) (hp : ∀ p ∈ ps, 0 ≤ p.aA) (i : Nat) (hi : i < x.2.ac.length) : (Z2 x ps).2.ac.getD i 0 = x.2.ac.getD i 0 - (cnt ps i : Int) := by
 unfold Z2
 induction ps generalizing x with
 | nil => simp [cnt]
 | cons p r ih =>
  have h1 := ih (Ji x p) (fun q hq => hp q (mem_cons_of_mem _ hq)) (by rw [show (Ji x p).2.ac.length = x.2.ac.length from Zp.give_refs _ _]; exact hi);rw [List.foldl_cons, h1, show (Ji x p).2 = x.2.give p.aA.toNat from rfl, Zkg _ _ _ hi];have h2 : cnt (p :: r) i = (if p.aA = (i : Int) then 1 else 0) + cnt r i := by
   have := Zk [p] r i;rw [List.singleton_append] at this;rw [this]
   congr 1
   by_cases h : p.aA = (i : Int) <;> simp [cnt, h]
  have h0 := hp p mem_cons_self;rw [h2]
  by_cases h : p.aA = (i : Int)
  ·rw [if_pos h, if_pos (by omega)]; push_cast; omega
  ·rw [if_neg h, if_neg (by omega)]; push_cast; omega
def Za.nextOf (st : Za) : Za := { af := (Z2 (st.af, st.aa) st.ag).1, aa := (Z2 (st.af, st.aa) st.ag).2, ak := st.ak + 1, ag := [], aw := st.aw, aj := st.aj, ax := st.ax }
def Za.mayNext (st : Za) : Bool := st.ok && !(st.ak == 900)
def Za.stepped (st : Za) : Za := if st.mayNext then st.nextOf else Za.zero
end Go.Proofs.YtfhdmfcfcgbgeaaGreat
