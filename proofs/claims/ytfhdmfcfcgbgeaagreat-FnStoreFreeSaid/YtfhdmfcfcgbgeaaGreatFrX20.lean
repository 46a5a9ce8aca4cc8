/- A part of the proof in YtfhdmfcfcgbgeaaGreatFrX30. -/
import Derived.Shelf.Strconv.Clone
import Derived.Shelf.Strings.Cut
import Derived.Test.YtfhdmfcfcgbgeaaGreatFrX19
namespace Go.Proofs.YtfhdmfcfcgbgeaaGreat
open _root_.ByteArray (size_extract)
open List (length_append length_cons length_nil length_take map_cons mem_append mem_append_left mem_append_right mem_cons mem_cons_of_mem mem_cons_self mem_singleton)
set_option linter.unusedVariables false
set_option linter.unusedSimpArgs false
set_option maxHeartbeats 1000000
set_option maxRecDepth 100000
open Go.RowKit
theorem Zlk (n : Nat) : ∀ x ∈ (ZA n).data.toList, x ≠ 46 := by
 intro x hx e;subst e;rw [Yg] at hx;obtain ⟨d, hd⟩ := JJ n 46 hx;obtain ⟨h1, h10⟩ := JG hd;have hn : (UInt8.ofNat (48 + d)).toNat = 48 + d := by rw [UInt8.toNat_ofNat']; omega
 rw [← h1] at hn;have : (46 : UInt8).toNat = 46 := rfl
 omega
theorem VE {n : Int} (h : 0 ≤ n ∧ n ≤ 999999999) : ∀ x ∈ (Yy n).data.toList, x ≠ 46 := by rw [Xe h.1 h.2]; exact Zlk _
theorem Zbt {a : ByteArray} (h : ∀ x ∈ a.data.toList, x ≠ 46) (b : ByteArray) : Zd (a ++ (Zb8 ++ b)) 46 = a :: Zd b 46 := by
 unfold Zd;rw [Z4, Z4, show Zb8.data.toList = [46] from rfl, List.singleton_append, QT 46 _ _ h, map_cons]
theorem ZfX {a : ByteArray} (h : ∀ x ∈ a.data.toList, x ≠ 46) : Zd a 46 = [a] := by
 unfold Zd;rw [Q6 46 _ h, map_cons, List.map_nil]
theorem Ze1 (a b c : ByteArray) : a ++ b ++ c = a ++ (b ++ c) := YA (by simp only [Z4, List.append_assoc])
theorem Qq {p : PtrD} (h : p.ok = true) (hh : p.hole = false) : Zd (YL p) 46 = [Yy p.aA, Yy p.ak, Yy p.av, Yy p.aC, Yy p.ar] := by
 have hb := PtrD.ok_all h hh;rw [VA h hh];simp only [Ze1];rw [Zbt (VE (by omega)), Zbt (VE (by omega)), Zbt (VE (by omega)), Zbt (VE (by omega)), ZfX (VE (by omega))]
theorem Yt {n : Int} (h : 0 ≤ n ∧ n ≤ 999999999) : Q7 (Yy n) = some n.toNat := by rw [Xe h.1 h.2]; exact Zbp (by omega)
theorem Zll {n : Int} {m : Nat} (h : 0 ≤ n ∧ n ≤ 999999999) (hg : Q7 (Yy n) = some m) : (m : Int) = n := by
 rw [Yt h] at hg;have := Option.some.inj hg
 omega
theorem Yw {p : PtrD} (h : p.hole = true) : p = PtrD.zero := by
 unfold PtrD.hole at h;simp only [Bool.and_eq_true, beq_iff_eq] at h;obtain ⟨⟨⟨⟨h1, h2⟩, h3⟩, h4⟩, h5⟩ := h
 cases p
 simp only at h1 h2 h3 h4 h5;subst h1; subst h2; subst h3; subst h4; subst h5
 rfl
theorem ZgW {p : PtrD} {s : ByteArray} (h : p.ok = true) (hs : YL p = s) (hd : (s.toList == (⟨#[45]⟩ : ByteArray).toList) = false) : p.hole = false := by
 cases hh : p.hole with
 | false => rfl
 | true =>
  rw [QU h hh] at hs;rw [← hs, show ((⟨#[45]⟩ : ByteArray).toList == (⟨#[45]⟩ : ByteArray).toList) = true from beq_self_eq_true _] at hd
  cases hd
theorem Zoa {α : Type} {l : List α} (h : l.length = 5) : ∃ a b c d e, l = [a, b, c, d, e] := by
 match l, h with
 | [a, b, c, d, e], _ => exact ⟨a, b, c, d, e, rfl⟩
theorem Zdy {p q : PtrD} (hp : p.ok = true) (hq : q.ok = true) (h : YL p = YL q) : p = q := by
 cases h1 : p.hole with
 | true =>
  cases h2 : q.hole with
  | true => rw [Yw h1, Yw h2]
  | false =>
   have := Qq hq h2;rw [← h, QU hp h1] at this;exact absurd (congrArg List.length this) (show ¬ (1 : Nat) = 5 by decide)
 | false =>
  cases h2 : q.hole with
  | true =>
   have := Qq hp h1;rw [h, QU hq h2] at this;exact absurd (congrArg List.length this) (show ¬ (1 : Nat) = 5 by decide)
  | false =>
   have e1 := Qq hp h1;have e2 := Qq hq h2;rw [h, e2] at e1;have hb := PtrD.ok_all hp h1;have hc := PtrD.ok_all hq h2;simp only [List.cons.injEq, and_true] at e1;obtain ⟨k1, k2, k3, k4, k5⟩ := e1;have num : ∀ {m n : Int}, 0 ≤ m ∧ m ≤ 999999999 → 0 ≤ n ∧ n ≤ 999999999 → Yy m = Yy n → n = m := fun hm hn e => by
    have := Yt hm;rw [e, Yt hn] at this;have := Option.some.inj this
    omega
   have j1 := num (by omega) (by omega) k1;have j2 := num (by omega) (by omega) k2;have j3 := num (by omega) (by omega) k3;have j4 := num (by omega) (by omega) k4;have j5 := num (by omega) (by omega) k5
   cases p; cases q
   simp only at j1 j2 j3 j4 j5;subst j1; subst j2; subst j3; subst j4; subst j5
   rfl
open Go.RowKit Go.Lib
def Zlm : ByteArray := ⟨#[44]⟩
def fanB (l : List PtrD) : ByteArray := Q5 (l.map YL) Zlm
theorem Zbu (c : UInt8) : ∀ (x : List UInt8) (r : List (List UInt8)), (∀ y ∈ x :: r, ∀ b ∈ y, b ≠ c) → splitL c (Go.Lib.join (x :: r) [c]) = x :: r
 | x, [], h => by
  rw [show Go.Lib.join [x] [c] = x by simp [Go.Lib.join, Go.Lib.joinTail]];exact Q6 c x (h x (mem_cons_self ..))
 | x, y :: r, h => by
  have e : Go.Lib.join (x :: y :: r) [c] = x ++ c :: Go.Lib.join (y :: r) [c] := by simp [Go.Lib.join, Go.Lib.joinTail]
  rw [e, QT c _ x (h x (mem_cons_self ..)), Zbu c y r fun z hz => h z (mem_cons_of_mem _ hz)]
theorem ZgX {l : List ByteArray} {c : UInt8} (hne : l ≠ []) (h : ∀ y ∈ l, ∀ b ∈ y.data.toList, b ≠ c) : Zd (Q5 l ⟨#[c]⟩) c = l := by
 match l, hne with
 | x :: r, _ =>
  unfold Zd Q5;show (splitL c (Go.Lib.join ((x :: r).map (·.data.toList)) [c])).map _ = _;rw [map_cons, Zbu c _ _ (fun y hy b hb => by
   rcases mem_cons.1 hy with rfl | hy
   ·exact h x (mem_cons_self ..) b hb
   ·obtain ⟨z, hz, rfl⟩ := List.mem_map.1 hy
    exact h z (mem_cons_of_mem _ hz) b hb), ← map_cons (f := fun y : ByteArray => y.data.toList)]
  exact Zdr (x :: r)
theorem ZmV (c : UInt8) (hc : digitVal c = none) (n : Nat) : ∀ x ∈ (ZA n).data.toList, x ≠ c := by
 intro x hx e;subst e;obtain ⟨d, hd⟩ := JJ n x (by rw [← Yg]; exact hx);rw [hc] at hd
 cases hd
theorem ZfY (c : UInt8) (hc : digitVal c = none) (n : Int) : ∀ x ∈ (Yy n).data.toList, x ≠ c := by
 unfold Yy
 split
 ·exact ZmV c hc _
 ·intro x hx; simp at hx
theorem Zln (p : PtrD) : ∀ x ∈ (YL p).data.toList, x ≠ 44 := by
 cases h : p.ok with
 | false => rw [ZfV h]; intro x hx; simp at hx
 | true =>
  cases hh : p.hole with
  | true => rw [QU h hh]; intro x hx; rw [show x = 45 from by simpa using hx]; decide
  | false =>
   rw [VA h hh];intro x hx;have hn := fun n => ZfY 44 (by decide) n x
   simp only [Z4, mem_append, show Zb8.data.toList = [46] from rfl, mem_singleton] at hx;rcases hx with (((((((hx | hx) | hx) | hx) | hx) | hx) | hx) | hx) | hx
   all_goals first | exact hn _ hx | (rw [hx]; decide)
theorem ZaJ {l : List PtrD} (hne : l ≠ []) : Zd (fanB l) 44 = l.map YL := by
 refine ZgX (by simpa using hne) fun y hy => ?_;obtain ⟨p, _, rfl⟩ := List.mem_map.1 hy;exact Zln p
structure IsFan (s : ByteArray) (l : List PtrD) : Prop where
  n : l.length = 4
  ok : ∀ p ∈ l, p.ok = true
  some : l.all (fun p => p.hole) = false
  is : fanB l = s
theorem Zi8 {l m : List PtrD} (hl : ∀ p ∈ l, p.ok = true) (hm : ∀ p ∈ m, p.ok = true) (h : l.map YL = m.map YL) : l = m := by
 induction l generalizing m with
 | nil => cases m with
  | nil => rfl
  | cons _ _ => simp at h
 | cons p l ih => cases m with
  | nil => simp at h
  | cons q m =>
   simp only [map_cons, List.cons.injEq] at h;rw [Zdy (hl p (mem_cons_self ..)) (hm q (mem_cons_self ..)) h.1, ih (fun x hx => hl x (mem_cons_of_mem _ hx)) (fun x hx => hm x (mem_cons_of_mem _ hx)) h.2]
theorem IsFan.one {s : ByteArray} {l m : List PtrD} (h : IsFan s l) (k : IsFan s m) : l = m := by
 refine Zi8 h.ok k.ok ?_;rw [← ZaJ (l := l) (fun e => by have := h.n; rw [e] at this; cases this), ← ZaJ (l := m) (fun e => by have := k.n; rw [e] at this; cases this), h.is, k.is]
theorem IsFan.pieces {s : ByteArray} {l : List PtrD} (h : IsFan s l) : Zd s 44 = l.map YL := by
 rw [← h.is];exact ZaJ fun e => by have := h.n; rw [e] at this; cases this
open Classical in
noncomputable def Zlo (s : ByteArray) : Option (List PtrD) := if h : ∃ l, IsFan s l then some h.choose else none
theorem ZgY {s : ByteArray} {l : List PtrD} (h : IsFan s l) : Zlo s = some l := by
 have he : ∃ l, IsFan s l := ⟨l, h⟩;unfold Zlo;rw [dif_pos he, he.choose_spec.one h]
theorem ZmW {s : ByteArray} (h : ∀ l, ¬ IsFan s l) : Zlo s = none := by
 unfold Zlo;rw [dif_neg fun ⟨l, hl⟩ => h l hl]
open Go.RowKit
def Qe (p : PtrD) (s : ByteArray) : Bool := p.ok && (!p.hole && ((p.av == (s.size : Int)) && (p.aC == UE s)))
def Yh (st : Za) (p : PtrD) : ByteArray := st.ac.getD p.aA.toNat ByteArray.empty
def Zm (st : Za) (p : PtrD) : ByteArray := bif p.hole then ByteArray.empty else bif Qe p (Yh st p) then Yh st p else ByteArray.empty
def XP (st : Za) (p : PtrD) : Bool := bif p.hole then true else Qe p (Yh st p)
theorem Y8 {st : Za} {p : PtrD} (h : p.hole = true) : Zm st p = ByteArray.empty := by unfold Zm; rw [h]; rfl
theorem ZaK {st : Za} {p : PtrD} (h : p.hole = true) : XP st p = true := by unfold XP; rw [h]; rfl
theorem Jq {st : Za} {p : PtrD} (h : p.hole = false) (hf : Qe p (Yh st p) = true) : Zm st p = Yh st p := by unfold Zm; rw [h, hf]; rfl
theorem ZgZ {st : Za} {p : PtrD} (h : p.hole = false) (hf : Qe p (Yh st p) = false) : Zm st p = ByteArray.empty := by unfold Zm; rw [h, hf]; rfl
theorem QH {st : Za} {p : PtrD} (h : p.hole = false) : XP st p = Qe p (Yh st p) := by unfold XP; rw [h]; rfl
def YB : List PtrD := [PtrD.zero, PtrD.zero, PtrD.zero, PtrD.zero]
theorem X3 : PtrD.zero.hole = true := rfl
noncomputable def kids (st : Za) (p : PtrD) (level : Int) : Option (List PtrD) :=
 bif p.hole then some YB else bif XP st p && (p.ar == level) then (Zlo (Zm st p)).bind fun l => bif l.any (fun k => decide (p.ak < k.ak)) then none else some l else none
noncomputable def kidsS (st : Za) (p : PtrD) (level : Int) : Option (List PtrD) :=
 bif p.hole then some YB else bif p.ok && ((p.ar == level) && decide (p.ak ≤ st.am)) then kids st p level else none
theorem Jr {st : Za} {p : PtrD} {n : Int} (h : p.hole = true) : kids st p n = some YB := by unfold kids; rw [h]; rfl
theorem JM {st : Za} {p : PtrD} {n : Int} (h : p.hole = true) : kidsS st p n = some YB := by unfold kidsS; rw [h]; rfl
theorem ZcL {st : Za} {p : PtrD} {n : Int} (h : p.hole = false) (hr : XP st p = false) : kids st p n = none := by unfold kids; rw [h, hr]; rfl
theorem Zdz {st : Za} {p : PtrD} {n : Int} (h : p.hole = false) (hr : (p.ar == n) = false) : kids st p n = none := by unfold kids; rw [h, hr, Bool.and_false]; rfl
theorem ZdA {st : Za} {p : PtrD} {n : Int} (h : p.hole = false) (hf : ∀ l, ¬ IsFan (Zm st p) l) : kids st p n = none := by
 unfold kids;rw [h, ZmW hf]
 cases (XP st p && (p.ar == n)) <;> rfl
theorem Ze2 {st : Za} {p : PtrD} {n : Int} {l : List PtrD} (h : p.hole = false) (hf : IsFan (Zm st p) l) (hb : l.any (fun k => decide (p.ak < k.ak)) = true) : kids st p n = none := by
 unfold kids;rw [h, ZgY hf]
 cases (XP st p && (p.ar == n))
 ·rfl
 ·simp only [cond_true, cond_false, Option.bind_some, hb]
theorem ZdB {st : Za} {p : PtrD} {n : Int} {l : List PtrD} (h : p.hole = false) (hr : XP st p = true) (hn : (p.ar == n) = true) (hf : IsFan (Zm st p) l) (hb : l.any (fun k => decide (p.ak < k.ak)) = false) : kids st p n = some l := by
 unfold kids;rw [h, ZgY hf, hr, hn];simp only [cond_true, cond_false, Option.bind_some, hb, Bool.and_self]
theorem QI {st : Za} {p : PtrD} {n : Int} {l : List PtrD} (h : kids st p n = some l) : l.length = 4 ∧ (∀ k ∈ l, k.ok = true) ∧ (p.hole = true ∧ l = YB ∨ p.hole = false ∧ p.ar = n ∧ XP st p = true ∧ IsFan (Zm st p) l ∧ ∀ k ∈ l, k.ak ≤ p.ak) := by
 cases hh : p.hole with
 | true =>
  rw [Jr hh] at h;obtain rfl := Option.some.inj h;exact ⟨rfl, fun k hk => by simp only [YB, mem_cons, List.not_mem_nil, or_false, or_self] at hk; rw [hk]; rfl, .inl ⟨rfl, rfl⟩⟩
 | false =>
  cases hr : XP st p with
  | false => rw [ZcL hh hr] at h; cases h
  | true =>
   cases hn : (p.ar == n) with
   | false => rw [Zdz hh hn] at h; cases h
   | true =>
    by_cases hf : ∃ m, IsFan (Zm st p) m
    ·obtain ⟨m, hm⟩ := hf
     cases hb : m.any (fun k => decide (p.ak < k.ak)) with
     | true => rw [Ze2 hh hm hb] at h; cases h
     | false =>
      rw [ZdB hh hr hn hm hb] at h;obtain rfl := Option.some.inj h;refine ⟨hm.n, hm.ok, .inr ⟨rfl, eq_of_beq hn, rfl, hm, fun k hk => ?_⟩⟩;have := (List.any_eq_false.1 hb) k hk;have := of_decide_eq_false (by simpa using this : decide (p.ak < k.ak) = false)
      omega
    ·rw [ZdA hh fun l hl => hf ⟨l, hl⟩] at h; cases h
theorem JN {st : Za} {p : PtrD} {n : Int} (hp : p.ok = true) (hb : p.ak ≤ st.am) : kidsS st p n = kids st p n := by
 unfold kidsS;rw [hp, decide_eq_true hb, Bool.and_true, Bool.true_and]
 cases hh : p.hole with
 | true => rw [Jr hh]; rfl
 | false =>
  cases hn : (p.ar == n) with
  | false => rw [Zdz hh hn]; rfl
  | true => rfl
theorem VF {st : Za} {p : PtrD} {n : Int} (h : p.hole = false) (hn : (p.ok && ((p.ar == n) && decide (p.ak ≤ st.am))) = false) : kidsS st p n = none := by unfold kidsS; rw [h, hn]; rfl
theorem UH {st : Za} {p : PtrD} {n : Int} {l : List PtrD} (h : kidsS st p n = some l) : kids st p n = some l ∧ (p.hole = false → p.ok = true ∧ p.ak ≤ st.am) := by
 cases hh : p.hole with
 | true => rw [JM hh] at h; rw [Jr hh]; exact ⟨h, fun e => by cases e⟩
 | false =>
  cases hc : (p.ok && ((p.ar == n) && decide (p.ak ≤ st.am))) with
  | false => rw [VF hh hc] at h; cases h
  | true =>
   unfold kidsS at h;rw [hh, hc] at h;simp only [Bool.and_eq_true, decide_eq_true_eq] at hc;exact ⟨h, fun _ => ⟨hc.1, hc.2.2⟩⟩
noncomputable def YG (f : PtrD → Option (List PtrD)) : List PtrD → Option (List PtrD)
 | [] => some []
 | p :: r => (f p).bind fun k => (YG f r).map (k ++ ·)
theorem VG {f : PtrD → Option (List PtrD)} {p : PtrD} {r : List PtrD} (h : f p = none) : YG f (p :: r) = none := by show Option.bind _ _ = _; rw [h]; rfl
theorem Zad {f : PtrD → Option (List PtrD)} {p : PtrD} {r k : List PtrD} (h : f p = some k) : YG f (p :: r) = (YG f r).map (k ++ ·) := by show Option.bind _ _ = _; rw [h]; rfl
theorem ZmX {o : Option (List PtrD)} (a b : List PtrD) : (o.map (b ++ ·)).map (a ++ ·) = o.map ((a ++ b) ++ ·) := by cases o <;> simp
theorem ZcM {f g : PtrD → Option (List PtrD)} : ∀ {l : List PtrD}, (∀ p ∈ l, f p = g p) → YG f l = YG g l
 | [], _ => rfl
 | p :: r, h => by
  show Option.bind _ _ = Option.bind _ _;rw [h p (mem_cons_self ..), ZcM fun q hq => h q (mem_cons_of_mem _ hq)]
theorem Zb9 {f : PtrD → Option (List PtrD)} : ∀ {l m : List PtrD}, YG f l = some m → (∀ p ∈ l, ∃ k, f p = some k) ∧ (∀ q ∈ m, ∃ p ∈ l, ∃ k, f p = some k ∧ q ∈ k) ∧ (∀ p ∈ l, ∀ k, f p = some k → ∀ q ∈ k, q ∈ m)
 | [], m, h => by
  obtain rfl : [] = m := Option.some.inj h;exact ⟨fun p hp => (nomatch hp), fun p hp => (nomatch hp), fun p hp => (nomatch hp)⟩
 | p :: r, m, h => by
  cases hk : f p with
  | none => rw [VG hk] at h; cases h
  | some k =>
   rw [Zad hk] at h
   cases hn : YG f r with
   | none => rw [hn] at h; cases h
   | some n =>
    rw [hn] at h;obtain rfl : k ++ n = m := Option.some.inj h;obtain ⟨i1, i2, i3⟩ := Zb9 hn;refine ⟨fun q hq => ?_, fun q hq => ?_, fun q hq k2 hk2 x hx => ?_⟩
    ·rcases mem_cons.1 hq with rfl | hq
     ·exact ⟨k, hk⟩
     ·exact i1 q hq
    ·rcases mem_append.1 hq with hq | hq
     ·exact ⟨p, mem_cons_self .., k, hk, hq⟩
     ·obtain ⟨y, hy, z, hz, hq⟩ := i2 q hq
      exact ⟨y, mem_cons_of_mem _ hy, z, hz, hq⟩
    ·rcases mem_cons.1 hq with rfl | hq
     ·rw [hk] at hk2
      obtain rfl := Option.some.inj hk2;exact mem_append_left _ hx
     ·exact mem_append_right _ (i3 q hq k2 hk2 x hx)
theorem Ze3 {f : PtrD → Option (List PtrD)} (hf : ∀ p k, f p = some k → k.length = 4) : ∀ {l m : List PtrD}, YG f l = some m → m.length = 4 * l.length
 | [], m, h => by obtain rfl : [] = m := Option.some.inj h; rfl
 | p :: r, m, h => by
  cases hk : f p with
  | none => rw [VG hk] at h; cases h
  | some k =>
   rw [Zad hk] at h
   cases hn : YG f r with
   | none => rw [hn] at h; cases h
   | some n =>
    rw [hn] at h;obtain rfl : k ++ n = m := Option.some.inj h;have := Ze3 hf hn;rw [length_append, hf p k hk, length_cons]; omega
noncomputable def downL (f : PtrD → Int → Option (List PtrD)) : Nat → List PtrD → Option (List PtrD)
 | 0, l => some l
 | n + 1, l => (YG (fun p => f p ((n + 1 : Nat) : Int)) l).bind (downL f n)
theorem JO {f : PtrD → Int → Option (List PtrD)} {n : Nat} {l : List PtrD} (h : YG (fun p => f p ((n + 1 : Nat) : Int)) l = none) : downL f (n + 1) l = none := by show Option.bind _ _ = _; rw [h]; rfl
theorem Js {f : PtrD → Int → Option (List PtrD)} {n : Nat} {l m : List PtrD} (h : YG (fun p => f p ((n + 1 : Nat) : Int)) l = some m) : downL f (n + 1) l = downL f n m := by show Option.bind _ _ = _; rw [h]; rfl
theorem Zca {f : PtrD → Int → Option (List PtrD)} (hf : ∀ p n k, f p n = some k → k.length = 4) : ∀ {n : Nat} {l m : List PtrD}, downL f n l = some m → m.length = 4 ^ n * l.length
 | 0, l, m, h => by obtain rfl : l = m := Option.some.inj h; omega
 | n + 1, l, m, h => by
  cases hn : YG (fun p => f p ((n + 1 : Nat) : Int)) l with
  | none => rw [JO hn] at h; cases h
  | some x =>
   rw [Js hn] at h;rw [Zca hf h, Ze3 (fun p k => hf p _ k) hn, Nat.pow_succ, Nat.mul_assoc]
def depthN (many : Int) : Nat := if many ≤ 1 then 0 else if many ≤ 4 then 1 else 2
theorem YH (many : Int) : depthN many ≤ 2 := by unfold depthN; split <;> (try split) <;> omega
theorem ZaL {many : Int} (h : many ≤ 16) : many ≤ ((4 ^ depthN many : Nat) : Int) := by
 unfold depthN
 split
 ·simp; omega
 ·split
  ·simp; omega
  ·simp; omega
def Zg0 (st : Za) (many : Int) (i : Nat) (p : PtrD) : Bool := bif p.hole then p.ar == 0 else XP st p && ((p.ar == 0) && decide ((i : Int) < many))
def QZ (st : Za) (many : Int) : Nat → List PtrD → Bool
 | _, [] => true
 | i, p :: r => Zg0 st many i p && QZ st many (i + 1) r
def topB (st : Za) (t : Ze) : Bool := inB t.al 0 16 && ((t.az == (depthN t.al : Int)) && (t.ai.ok && decide (t.ai.ak ≤ st.am)))
noncomputable def leavesF (st : Za) (t : Ze) : Option (List PtrD) :=
 bif topB st t then (downL (kids st) (depthN t.al) [t.ai]).bind fun l => bif QZ st t.al 0 l then some (l.take t.al.toNat) else none else none
noncomputable def VH (st : Za) (t : Ze) : Bool := (leavesF st t).isSome
theorem VI {st : Za} {t : Ze} (h : topB st t = false) : leavesF st t = none := by unfold leavesF; rw [h]; rfl
theorem Zbv {st : Za} {t : Ze} (h : downL (kids st) (depthN t.al) [t.ai] = none) : leavesF st t = none := by
 unfold leavesF
 cases topB st t
 ·rfl
 ·rw [h]; rfl
theorem ZcN {st : Za} {t : Ze} {l : List PtrD} (h : downL (kids st) (depthN t.al) [t.ai] = some l) (hb : QZ st t.al 0 l = false) : leavesF st t = none := by
 unfold leavesF
 cases topB st t
 ·rfl
 ·rw [h]
  simp only [cond_true, cond_false, Option.bind_some, hb]
theorem VJ {st : Za} {t : Ze} {l : List PtrD} (h0 : topB st t = true) (h : downL (kids st) (depthN t.al) [t.ai] = some l) (hb : QZ st t.al 0 l = true) : leavesF st t = some (l.take t.al.toNat) := by
 unfold leavesF;rw [h0, h];simp only [cond_true, cond_false, Option.bind_some, hb]
theorem VK {st : Za} {p : PtrD} {n : Int} {k : List PtrD} (h : kids st p n = some k) : k.length = 4 := (QI h).1
theorem ZaM {st : Za} {t : Ze} {r : List PtrD} (h : leavesF st t = some r) : ∃ l, topB st t = true ∧ downL (kids st) (depthN t.al) [t.ai] = some l ∧ QZ st t.al 0 l = true ∧ r = l.take t.al.toNat ∧ l.length = 4 ^ depthN t.al ∧ r.length = t.al.toNat := by
 cases h0 : topB st t with
 | false => rw [VI h0] at h; cases h
 | true =>
  cases h1 : downL (kids st) (depthN t.al) [t.ai] with
  | none => rw [Zbv h1] at h; cases h
  | some l =>
   cases h2 : QZ st t.al 0 l with
   | false => rw [ZcN h1 h2] at h; cases h
   | true =>
    rw [VJ h0 h1 h2] at h;obtain rfl := Option.some.inj h;have hl : l.length = 4 ^ depthN t.al := by rw [Zca (fun p n k => VK) h1]; simp
    refine ⟨l, rfl, rfl, h2, rfl, hl, ?_⟩;unfold topB at h0;rw [Bool.and_eq_true] at h0;have hi := Zu h0.1;have := ZaL hi.2;rw [length_take, hl]
    omega
theorem Va {st : Za} : ∀ {n : Nat} {l : List PtrD}, (∀ p ∈ l, p.ok = true ∧ p.ak ≤ st.am) → 0 ≤ st.am → downL (kidsS st) n l = downL (kids st) n l ∧ ∀ m, downL (kids st) n l = some m → ∀ p ∈ m, p.ok = true ∧ p.ak ≤ st.am
 | 0, l, h, _ => ⟨rfl, fun m hm p hp => by obtain rfl : l = m := Option.some.inj hm; exact h p hp⟩
 | n + 1, l, h, h0 => by
  have e : YG (fun p => kidsS st p ((n + 1 : Nat) : Int)) l = YG (fun p => kids st p ((n + 1 : Nat) : Int)) l := ZcM fun p hp => JN (h p hp).1 (h p hp).2
  cases hn : YG (fun p => kids st p ((n + 1 : Nat) : Int)) l with
  | none => rw [JO (e.trans hn), JO hn]; exact ⟨rfl, fun m hm => by cases hm⟩
  | some x =>
   rw [Js (e.trans hn), Js hn];refine Va (fun q hq => ?_) h0;obtain ⟨p, hp, k, hk, hq⟩ := (Zb9 hn).2.1 q hq;obtain ⟨_, ok, hc⟩ := QI hk;refine ⟨ok q hq, ?_⟩;rcases hc with ⟨_, rfl⟩ | ⟨_, _, _, _, hb⟩
   ·simp only [YB, mem_cons, List.not_mem_nil, or_false, or_self] at hq
    rw [hq]; exact h0
   ·have := hb q hq; have := (h p hp).2; omega
def Zas (st : Za) (many : Int) (i : Nat) (p : PtrD) : Bool := bif p.hole then true else XP st p && ((p.ar == 0) && (decide (p.ak ≤ st.am) && decide ((i : Int) < many)))
def X4 (st : Za) (many : Int) : Nat → List PtrD → Bool
 | _, [] => true
 | i, p :: r => Zas st many i p && X4 st many (i + 1) r
theorem ZdC {p : PtrD} (h : p.hole = true) : p.ar = 0 := by rw [Yw h]; rfl
theorem ZdD {p : PtrD} (h : p.hole = true) : p.ak = 0 := by rw [Yw h]; rfl
theorem Zlp {st : Za} {many : Int} {i : Nat} {p : PtrD} (h : p.ak ≤ st.am) : Zas st many i p = Zg0 st many i p := by
 unfold Zas Zg0
 cases hh : p.hole with
 | true => show true = (p.ar == 0); rw [ZdC hh]; rfl
 | false => rw [decide_eq_true h, Bool.true_and]; rfl
theorem ZdE {st : Za} {many : Int} : ∀ {i : Nat} {l : List PtrD}, (∀ p ∈ l, p.ak ≤ st.am) → X4 st many i l = QZ st many i l
 | _, [], _ => rfl
 | i, p :: r, h => by
  show (_ && _) = (_ && _);rw [Zlp (h p (mem_cons_self ..)), ZdE fun q hq => h q (mem_cons_of_mem _ hq)]
def ZaN (t : Ze) : Bool := inB t.al 0 16 && ((t.az == (depthN t.al : Int)) && t.ai.ok)
noncomputable def okS (st : Za) (t : Ze) : Bool := ZaN t && match downL (kidsS st) (depthN t.al) [t.ai] with | none => false | some l => X4 st t.al 0 l
theorem Zda {st : Za} {t : Ze} (h : ZaN t = false) : okS st t = false := by unfold okS; rw [h]; rfl
theorem ZdF {st : Za} {t : Ze} (h : downL (kidsS st) (depthN t.al) [t.ai] = none) : okS st t = false := by unfold okS; rw [h, Bool.and_false]
theorem ZaO {st : Za} {t : Ze} {l : List PtrD} (h0 : ZaN t = true) (h : downL (kidsS st) (depthN t.al) [t.ai] = some l) : okS st t = X4 st t.al 0 l := by unfold okS; rw [h0, h]; rfl
theorem Zlq {st : Za} {t : Ze} (h0 : 0 ≤ st.am) : okS st t = VH st t := by
 unfold VH
 cases ht : ZaN t with
 | false =>
  rw [Zda ht, VI (by unfold topB; unfold ZaN at ht; rw [← Bool.and_assoc, ← Bool.and_assoc]; rw [← Bool.and_assoc] at ht; rw [ht]; rfl)]; rfl
 | true =>
  have hok : t.ai.ok = true := by unfold ZaN at ht; simp only [Bool.and_eq_true] at ht; exact ht.2.2
  by_cases hb : t.ai.ak ≤ st.am
  ·have htop : topB st t = true := by unfold topB; unfold ZaN at ht; rw [decide_eq_true hb, Bool.and_true]; exact ht
   obtain ⟨e, hy⟩ := Va (st := st) (n := depthN t.al) (l := [t.ai]) (fun p hp => by rw [mem_singleton.1 hp]; exact ⟨hok, hb⟩) h0
   cases hd : downL (kids st) (depthN t.al) [t.ai] with
   | none => rw [ZdF (e.trans hd), Zbv hd]; rfl
   | some l =>
    rw [ZaO ht (e.trans hd), ZdE fun p hp => (hy l hd p hp).2]
    cases hl : QZ st t.al 0 l with
    | true => rw [VJ htop hd hl]; rfl
    | false => rw [ZcN hd hl]; rfl
  ·have htop : topB st t = false := by unfold topB; rw [decide_eq_false hb]; simp
   rw [VI htop];have hh : t.ai.hole = false := by
    cases hh : t.ai.hole with
    | false => rfl
    | true => have := ZdD hh; omega
   cases hd : depthN t.al with
   | zero =>
    rw [ZaO (l := [t.ai]) ht (by rw [hd]; rfl)];show (Zas st t.al 0 t.ai && true) = false;unfold Zas;rw [hh, decide_eq_false hb]; simp
   | succ n =>
    rw [ZdF (by rw [hd]; exact JO (VG (VF hh (by rw [decide_eq_false hb]; simp))))]; rfl
noncomputable def allL (st : Za) : Nat → PtrD → List PtrD
 | 0, p => bif p.hole then [] else [p]
 | n + 1, p => bif p.hole then [] else p :: ((kids st p ((n + 1 : Nat) : Int)).getD []).flatMap (allL st n)
theorem ZU {st : Za} {p : PtrD} (h : p.hole = true) : ∀ n, allL st n p = []
 | 0 => by unfold allL; rw [h]; rfl
 | n + 1 => by unfold allL; rw [h]; rfl
theorem Qx {st : Za} {p : PtrD} (h : p.hole = false) : allL st 0 p = [p] := by unfold allL; rw [h]; rfl
theorem YO {st : Za} {p : PtrD} {n : Nat} {l : List PtrD} (h : p.hole = false) (hk : kids st p ((n + 1 : Nat) : Int) = some l) : allL st (n + 1) p = p :: l.flatMap (allL st n) := by
 show (bif p.hole then [] else p :: ((kids st p ((n + 1 : Nat) : Int)).getD []).flatMap (allL st n)) = _;rw [h, hk]; rfl
def Wf (st : Za) : Nat → PtrD → Prop
 | 0, p => p.ok = true ∧ p.ak ≤ st.am ∧ p.ar = 0 ∧ XP st p = true
 | n + 1, p => p.ok = true ∧ p.ak ≤ st.am ∧ ∃ l, kids st p ((n + 1 : Nat) : Int) = some l ∧ ∀ k ∈ l, Wf st n k
theorem Wf.ok {st : Za} : ∀ {n : Nat} {p : PtrD}, Wf st n p → p.ok = true ∧ p.ak ≤ st.am
 | 0, _, h => ⟨h.1, h.2.1⟩
 | _ + 1, _, h => ⟨h.1, h.2.1⟩
theorem Wf.level {st : Za} : ∀ {n : Nat} {p : PtrD}, Wf st n p → p.hole = false → p.ar = (n : Int)
 | 0, _, h, _ => h.2.2.1
 | n + 1, p, ⟨_, _, l, hk, _⟩, hh => by
  rcases (QI hk).2.2 with ⟨e, _⟩ | ⟨_, e, _⟩
  ·rw [hh] at e; cases e
  ·exact e
theorem Wf.zero {st : Za} (h0 : 0 ≤ st.am) : ∀ n, Wf st n PtrD.zero
 | 0 => ⟨rfl, h0, rfl, rfl⟩
 | n + 1 => ⟨rfl, h0, YB, Jr rfl, fun k hk => by
  simp only [YB, mem_cons, List.not_mem_nil, or_false, or_self] at hk;rw [hk]; exact Wf.zero h0 n⟩
open Go.RowKit Go.Lib
theorem ZfZ : digitVal 58 = none := by decide
theorem Zi9 {s : ByteArray} {n k : Nat} (h : l1S s n k) (h0 : k ≠ 0) (hc : s.data.toList[k]? = some 58) : k < s.size ∧ Q7 (s.extract 0 k) = some n := by
 have hz := Zi s;have hk : k < s.data.toList.length := (List.getElem?_eq_some_iff.1 hc).1;refine ⟨by omega, ?_⟩;rcases h with ⟨h1, h2, h3, _, h5⟩ | ⟨rfl, rfl, _, b, d, h4, h6⟩
 ·have hsz : (s.extract 0 k).size = k := by rw [size_extract]; omega
  have hl : (s.extract 0 k).data.toList = s.data.toList.take k := by rw [Z7]; simp
  refine Zi4 (k := k) (.inl ⟨h1, by omega, by rw [hl, List.take_take, Nat.min_self]; exact h3, .inl hsz.symm, fun hx => h5 ⟨hx.1, ?_⟩⟩) h0 hsz.symm;rw [hl] at hx
  match hx2 : s.data.toList, hk with
  | a :: r, _ =>
   rw [hx2] at hx
   match k, h0 with
   | k + 1, _ => exact hx.2
 ·rw [hc] at h4
  obtain rfl := Option.some.inj h4;rw [ZfZ] at h6; cases h6
theorem Zf0 {l : List UInt8} {b : UInt8} (hb : b ∈ l) (hd : digitVal b = none) : ∀ acc, decFrom acc l = none := by
 induction l with
 | nil => cases hb
 | cons c r ih =>
  intro acc;unfold decFrom;rcases mem_cons.1 hb with rfl | hb
  ·rw [hd]
  ·cases digitVal c with
   | none => rfl
   | some d => exact ih hb _
theorem ZmY {s : ByteArray} {n k m : Nat} {t : List UInt8} (h : l1S s n k) (hm : m ≤ 999999999) (hs : s.data.toList = (ZA m).data.toList ++ 58 :: t) : k = (ZA m).size ∧ n = m ∧ s.data.toList[k]? = some 58 := by
 have hz := Zi s;have hd9 := Uv hm;have hdp := Zbk m;have hdz := Zi (ZA m);have hall := JJ m;rw [← Yg] at hall;have hlen : s.data.toList.length = (ZA m).data.toList.length + (t.length + 1) := by rw [hs, length_append, length_cons]
 have hcol : s.data.toList[(ZA m).size]? = some 58 := by rw [hs, hdz, List.getElem?_append_right (Nat.le_refl _), Nat.sub_self]; rfl
 have hin : ∀ i, i < (ZA m).size → ∃ b d, s.data.toList[i]? = some b ∧ digitVal b = some d := fun i hi => by
  have hi2 : i < (ZA m).data.toList.length := by omega
  obtain ⟨d, hd⟩ := hall _ (List.getElem_mem hi2);exact ⟨_, d, by rw [hs, List.getElem?_append_left hi2, List.getElem?_eq_getElem hi2], hd⟩
 have hk : k = (ZA m).size := by
  rcases h with ⟨h1, h2, h3, h4, _⟩ | ⟨rfl, rfl, h3, b, d, h4, h6⟩
  ·rcases Nat.lt_trichotomy k (ZA m).size with hlt | he | hgt
   ·obtain ⟨b, d, hb, hd⟩ := hin k hlt
    rcases h4 with h4 | h4 | ⟨c, h4, h6⟩
    ·omega
    ·omega
    ·rw [hb] at h4
     obtain rfl := Option.some.inj h4;rw [hd] at h6; cases h6
   ·exact he
   ·have hmem : (58 : UInt8) ∈ s.data.toList.take k := by
     refine List.mem_of_getElem? (i := (ZA m).size) ?_;rw [List.getElem?_take, if_pos hgt]; exact hcol
    rw [Zf0 hmem ZfZ] at h3; cases h3
  ·rcases Nat.lt_or_ge m 10 with hlt | hge
   ·have h1 : (ZA m).size = 1 := by rw [hdz, Yg, decDigits_one hlt]; rfl
    rw [h1] at hcol;rw [hcol] at h4;obtain rfl := Option.some.inj h4;rw [ZfZ] at h6; cases h6
   ·obtain ⟨e, he, h1, h9⟩ := ZcK m hge
    rw [← Yg] at he;have : s.data.toList.head? = (ZA m).data.toList.head? := by
     rw [hs]
     match hq : (ZA m).data.toList, hdp, hdz with
     | a :: r, _, _ => rfl
     | [], hp, hq2 => have hz0 : ([] : List UInt8).length = 0 := rfl; omega
    rw [this, he] at h3;have hv := Option.some.inj h3;have : (UInt8.ofNat (48 + e)).toNat = 48 + e := by rw [UInt8.toNat_ofNat']; omega
    rw [hv] at this;have : (48 : UInt8).toNat = 48 := rfl
    omega
 refine ⟨hk, ?_, by rw [hk]; exact hcol⟩;have hnum := Zi9 h (by omega) (by rw [hk]; exact hcol);have he : s.extract 0 k = ZA m := YA (by rw [Z7, hs, hk, hdz]; simp);rw [he, Zbp hm] at hnum;exact (Option.some.inj hnum.2).symm
theorem X5 {s : ByteArray} (i : Nat) : (s.extract i s.size).data.toList = s.data.toList.drop i := by
 rw [Z7, List.take_of_length_le (by rw [List.length_drop, ← Zi]; exact Nat.le_refl _)]
theorem Zlr {s : ByteArray} {xs : List ByteArray} {p k n : Nat} (h : UG s xs (s.extract p s.size)) (hl : l1S (s.extract p s.size) n k) (h0 : k ≠ 0) (hk : p + k < s.size) (hc : s.get! (p + k) = 58) (hn : n ≤ s.size - (p + k + 1)) : UG s (xs ++ [s.extract (p + k + 1) (p + k + 1 + n)]) (s.extract (p + k + 1 + n) s.size) := by
 have hz := Zi s;have hcol : (s.extract p s.size).data.toList[k]? = some 58 := by rw [X5, List.getElem?_drop, QR hk, hc]
 obtain ⟨hk2, hnum⟩ := Zi9 hl h0 hcol;have hcut : (s.extract p s.size).data.toList = ((s.extract p s.size).extract 0 k).data.toList ++ 58 :: (s.extract (p + k + 1) s.size).data.toList := by
  rw [Z7 (a := s.extract p s.size), X5, X5, List.drop_zero, Nat.sub_zero];have e : (s.data.toList.drop p).drop k = 58 :: s.data.toList.drop (p + k + 1) := by
   rw [List.drop_drop];have hlt : p + k < s.data.toList.length := by omega
   rw [List.drop_eq_getElem_cons hlt];have := QR hk;rw [List.getElem?_eq_getElem hlt] at this;rw [Option.some.inj this, hc]
  rw [← e, List.take_append_drop]
 have hsz : (s.extract (p + k + 1) s.size).size = s.size - (p + k + 1) := by rw [size_extract]; omega
 have := h.step hcut hnum (by omega);have e1 : (s.extract (p + k + 1) s.size).extract 0 n = s.extract (p + k + 1) (p + k + 1 + n) := YA (by
  rw [Z7, X5, Z7, List.drop_zero]
  congr 1; omega)
 have e2 : (s.extract (p + k + 1) s.size).extract n (s.extract (p + k + 1) s.size).size = s.extract (p + k + 1 + n) s.size := YA (by
  rw [X5, X5, X5, List.drop_drop])
 rw [e1, e2] at this;exact this
theorem Zf1 {s : ByteArray} {xs l : List ByteArray} {p k n : Nat} (h : UG s xs (s.extract p s.size)) (hl : l1S (s.extract p s.size) n k) (hr : IsRec s l) (hs : s.size ≤ 2048) (hp : p < s.size) : k ≠ 0 ∧ p + k < s.size ∧ s.get! (p + k) = 58 ∧ n ≤ s.size - (p + k + 1) := by
 have hz := Zi s;have hsz : (s.extract p s.size).size = s.size - p := by rw [size_extract]; omega
 have hne : ((s.extract p s.size).toList == (⟨#[]⟩ : ByteArray).toList) = false := by
  cases hq : ((s.extract p s.size).toList == (⟨#[]⟩ : ByteArray).toList) with
  | false => rfl
  | true =>
   have := ZW hq;rw [this] at hsz;have : (⟨#[]⟩ : ByteArray).size = 0 := rfl
   omega
 obtain ⟨y, ws, e1, e2, e3, e4⟩ := h.go hr.is hs hr.many hne;have hy := (X2 e3).1;obtain ⟨k1, k2, k3⟩ := ZmY hl hy e2;have hp1 := Zbk y.size;have hlen := congrArg List.length e2;rw [length_append, length_cons, length_append, ← Zi, ← Zi, ← Zi, hsz] at hlen;have hkl : p + k < s.size := by omega
 refine ⟨by omega, hkl, ?_, by omega⟩;rw [X5, List.getElem?_drop, QR hkl] at k3;exact Option.some.inj k3
theorem Zbw {s : ByteArray} {xs : List ByteArray} {p : Nat} (h : UG s xs (s.extract p s.size)) (hp : ¬ p < s.size) : Yd xs = s := by
 refine h.done ?_;have : s.extract p s.size = (⟨#[]⟩ : ByteArray) := YA (by rw [X5, List.drop_eq_nil_of_le (by rw [← Zi]; omega)]);rw [this]; exact beq_self_eq_true _
open Go.RowKit
theorem Zbx {m n : Int} {y : ByteArray} (h : 0 ≤ m ∧ m ≤ 999999999 ∧ Yy m = y) (k : 0 ≤ n ∧ n ≤ 999999999 ∧ Yy n = y) : m = n := by
 have h1 := Yt ⟨h.1, h.2.1⟩;have h2 := Yt ⟨k.1, k.2.1⟩;rw [h.2.2] at h1;rw [k.2.2, h1] at h2;have := Option.some.inj h2
 omega
theorem Zls (y : ByteArray) (ys : List ByteArray) : (Yd (y :: ys)).size = (ZA y.size).size + 1 + y.size + (Yd ys).size := by
 have h := congrArg List.length (Xj y ys);rw [← Zi, length_append, length_cons, length_append, ← Zi, ← Zi, ← Zi] at h
 omega
theorem ZaP {y : ByteArray} {ys : List ByteArray} {B : Nat} (h : y.size ≤ 100) (hb : (Yd ys).size ≤ B) : (Yd (y :: ys)).size ≤ B + 110 := by
 rw [Zls];have := Uv (n := y.size) (by omega)
 omega
open Go.RowKit
structure Zc where
  aq : Int
  aB : Int
  av : Int
  au : Ze
abbrev nPL (k l s : Int) (t : Ze) : List Value := [.int .i64 k, .int .i64 l, .int .i64 s, .int .i64 t.ai.aA, .int .i64 t.ai.ak, .int .i64 t.ai.av, .int .i64 t.ai.aC, .int .i64 t.ai.ar, .int .i64 t.az, .int .i64 t.al]
abbrev nPV (k l s : Int) (t : Ze) : Value := .agg #[.int .i64 k, .int .i64 l, .int .i64 s, .int .i64 t.ai.aA, .int .i64 t.ai.ak, .int .i64 t.ai.av, .int .i64 t.ai.aC, .int .i64 t.ai.ar, .int .i64 t.az, .int .i64 t.al]
abbrev nL (n : Zc) : List Value := [.int .i64 n.aq, .int .i64 n.aB, .int .i64 n.av, .int .i64 n.au.ai.aA, .int .i64 n.au.ai.ak, .int .i64 n.au.ai.av, .int .i64 n.au.ai.aC, .int .i64 n.au.ai.ar, .int .i64 n.au.az, .int .i64 n.au.al]
abbrev nV (n : Zc) : Value := .agg #[.int .i64 n.aq, .int .i64 n.aB, .int .i64 n.av, .int .i64 n.au.ai.aA, .int .i64 n.au.ai.ak, .int .i64 n.au.ai.av, .int .i64 n.au.ai.aC, .int .i64 n.au.ai.ar, .int .i64 n.au.az, .int .i64 n.au.al]
def Yk (kind : Int) : Int := if kind = 1 then 12 else if kind = 2 then 128 else 0
theorem Zh9 : Yk 1 = 12 := rfl
theorem Zby : Yk 2 = 128 := rfl
theorem ZdG {k : Int} (h1 : k ≠ 1) (h2 : k ≠ 2) : Yk k = 0 := by unfold Yk; rw [if_neg h1, if_neg h2]
def Yz (kind size : Int) : Int := if Yk kind = 0 ∨ ¬ (0 ≤ size ∧ size ≤ 16 * Yk kind) then -1 else (size + Yk kind - 1) / Yk kind
theorem ZdH {k s : Int} (h : Yk k = 0) : Yz k s = -1 := if_pos (.inl h)
theorem ZcO {k s : Int} (h : ¬ (0 ≤ s ∧ s ≤ 16 * Yk k)) : Yz k s = -1 := if_pos (.inr h)
theorem ZaQ {k s : Int} (h : Yk k ≠ 0) (h1 : 0 ≤ s) (h2 : s ≤ 16 * Yk k) : Yz k s = (s + Yk k - 1) / Yk k := if_neg fun e => e.elim h fun e => e ⟨h1, h2⟩
structure ZaR (n : Zc) : Prop where
  many : 0 ≤ Yz n.aq n.av
  links : 1 ≤ n.aB ∧ n.aB ≤ if n.aq = 2 then 1 else 9
  tmany : n.au.al = Yz n.aq n.av
  depth : n.au.az = ((depthN (Yz n.aq n.av) : Nat) : Int)
  root : n.au.ai.ok = true
  level : n.au.ai.hole = true ∨ n.au.ai.ar = n.au.az
instance (n : Zc) : Decidable (ZaR n) := decidable_of_iff (0 ≤ Yz n.aq n.av ∧ (1 ≤ n.aB ∧ n.aB ≤ if n.aq = 2 then 1 else 9) ∧ n.au.al = Yz n.aq n.av ∧ n.au.az = ((depthN (Yz n.aq n.av) : Nat) : Int) ∧ n.au.ai.ok = true ∧ (n.au.ai.hole = true ∨ n.au.ai.ar = n.au.az)) ⟨fun ⟨a, b, c, d, e, f⟩ => ⟨a, b, c, d, e, f⟩, fun ⟨a, b, c, d, e, f⟩ => ⟨a, b, c, d, e, f⟩⟩
def Zc.ok (n : Zc) : Bool := decide (ZaR n)
theorem Zc.ok_yes {n : Zc} (h : ZaR n) : n.ok = true := decide_eq_true h
theorem Zc.ok_no {n : Zc} (h : ¬ ZaR n) : n.ok = false := decide_eq_false h
theorem Zc.ok_is {n : Zc} (h : n.ok = true) : ZaR n := of_decide_eq_true h
structure Znx (n : Zc) : Prop where
  kind : n.aq = 1 ∨ n.aq = 2
  links : 1 ≤ n.aB ∧ n.aB ≤ 9
  size : 0 ≤ n.av ∧ n.av ≤ 16 * Yk n.aq
  is : Yz n.aq n.av = (n.av + Yk n.aq - 1) / Yk n.aq
  many : 0 ≤ n.au.al ∧ n.au.al ≤ 16
  depth : 0 ≤ n.au.az ∧ n.au.az ≤ 2
theorem ZaR.small {n : Zc} (h : ZaR n) : Znx n := by
 have hk : n.aq = 1 ∨ n.aq = 2 := by
  by_cases h1 : n.aq = 1
  ·exact .inl h1
  ·by_cases h2 : n.aq = 2
   ·exact .inr h2
   ·have := h.many
    rw [ZdH (ZdG h1 h2)] at this
    omega
 have he : 12 ≤ Yk n.aq ∧ Yk n.aq ≤ 128 := by rcases hk with e | e <;> rw [e] <;> decide
 have hs : 0 ≤ n.av ∧ n.av ≤ 16 * Yk n.aq := by
  by_cases hs : 0 ≤ n.av ∧ n.av ≤ 16 * Yk n.aq
  ·exact hs
  ·have := h.many
   rw [ZcO hs] at this
   omega
 have hp := ZaQ (k := n.aq) (by omega) hs.1 hs.2;have hl := h.links;have hm : Yz n.aq n.av ≤ 16 := by
  rw [hp];have : (n.av + Yk n.aq - 1) / Yk n.aq < 17 := Int.ediv_lt_of_lt_mul (by omega) (by omega)
  omega
 have hd := YH (Yz n.aq n.av);have h1 := h.many;have h2 := h.tmany;have h3 := h.depth;refine ⟨hk, ⟨hl.1, ?_⟩, hs, hp, by omega, by omega⟩;have := hl.2
 split at this <;> omega
def Zlt : ByteArray := ⟨#[101, 110, 100]⟩
def Ug (n : Zc) : List ByteArray := [Yy n.aq, Yy n.aB, Yy n.av, YL n.au.ai, Yy n.au.az, Yy n.au.al, Zlt]
def Yj (n : Zc) : ByteArray := bif n.ok then (Yv (Ug n)).1 else ByteArray.empty
theorem JP {n : Zc} (h : n.ok = false) : Yj n = ByteArray.empty := by unfold Yj; rw [h]; rfl
theorem Ze4 {n : Zc} (h : n.ok = true) : Yj n = (Yv (Ug n)).1 := by unfold Yj; rw [h]; rfl
theorem Zg1 (n : Zc) : (Yd (Ug n)).size ≤ 1000 := by
 refine Nat.le_trans (ZaP (Nat.le_trans (Xu _) (by decide)) (ZaP (Nat.le_trans (Xu _) (by decide)) (ZaP (Nat.le_trans (Xu _) (by decide)) (ZaP (Nat.le_trans (Zc9 _) (by decide)) (ZaP (Nat.le_trans (Xu _) (by decide)) (ZaP (Nat.le_trans (Xu _) (by decide)) (ZaP (y := Zlt) (by decide) (Nat.le_refl (Yd []).size)))))))) ?_;have h0 : (Yd []).size = 0 := rfl
 omega
theorem Qg {n : Zc} (h : n.ok = true) : IsRec (Yj n) (Ug n) := by
 rw [Ze4 h, Y7 (by simp only [Ug, length_cons, length_nil]; omega) (Nat.le_trans (Zg1 n) (by decide))];exact ⟨rfl, by simp only [Ug, length_cons, length_nil]; omega⟩
theorem Vb (n : Zc) : (Yj n).size ≤ 1000 := by
 cases h : n.ok with
 | false => rw [JP h]; exact Nat.zero_le _
 | true => rw [← (Qg h).is]; exact Zg1 n
theorem ZjS {m n : Zc} (hm : m.ok = true) (hn : n.ok = true) (h : Yj m = Yj n) : m = n := by
 have h1 := Qg hm;have h2 := Qg hn;rw [h] at h1;have e := h1.one h2;simp only [Ug, List.cons.injEq, and_true] at e;obtain ⟨e1, e2, e3, e4, e5, e6⟩ := e;have a := (Zc.ok_is hm);have b := (Zc.ok_is hn);have sa := a.small;have sb := b.small;have ea : Yk m.aq ≤ 128 := by rcases sa.kind with e | e <;> rw [e] <;> decide
 have eb : Yk n.aq ≤ 128 := by rcases sb.kind with e | e <;> rw [e] <;> decide
 have k1 := sa.links; have k2 := sa.size; have k3 := sa.many; have k4 := sa.depth; have k5 := sa.kind;have l1 := sb.links; have l2 := sb.size; have l3 := sb.many; have l4 := sb.depth; have l5 := sb.kind;have j1 : m.aq = n.aq := Zbx (y := Yy n.aq) ⟨by omega, by omega, e1⟩ ⟨by omega, by omega, rfl⟩;have j2 : m.aB = n.aB := Zbx (y := Yy n.aB) ⟨by omega, by omega, e2⟩ ⟨by omega, by omega, rfl⟩;have j3 : m.av = n.av := Zbx (y := Yy n.av) ⟨by omega, by omega, e3⟩ ⟨by omega, by omega, rfl⟩;have j4 := Zdy a.root b.root e4;have j5 : m.au.az = n.au.az := Zbx (y := Yy n.au.az) ⟨by omega, by omega, e5⟩ ⟨by omega, by omega, rfl⟩;have j6 : m.au.al = n.au.al := Zbx (y := Yy n.au.al) ⟨by omega, by omega, e6⟩ ⟨by omega, by omega, rfl⟩;obtain ⟨_, _, _, ⟨_, _, _⟩⟩ := m;obtain ⟨_, _, _, ⟨_, _, _⟩⟩ := n;simp only at j1 j2 j3 j4 j5 j6;rw [j1, j2, j3, j4, j5, j6]
open Classical in
noncomputable def JQ (s : ByteArray) : Option Zc := if h : ∃ n : Zc, n.ok = true ∧ Yj n = s then some h.choose else none
theorem Zae {s : ByteArray} {n : Zc} (hn : n.ok = true) (h : Yj n = s) : JQ s = some n := by
 have he : ∃ n : Zc, n.ok = true ∧ Yj n = s := ⟨n, hn, h⟩;unfold JQ;rw [dif_pos he];have hc := he.choose_spec;rw [ZjS hc.1 hn (hc.2.trans h.symm)]
theorem Zg2 {s : ByteArray} (h : ∀ n : Zc, n.ok = true → Yj n = s → False) : JQ s = none := by
 unfold JQ;rw [dif_neg fun ⟨n, hn, hs⟩ => h n hn hs]
theorem ZdI {s : ByteArray} {n : Zc} (h : JQ s = some n) : n.ok = true ∧ Yj n = s := by
 unfold JQ at h
 split at h
 ·next he => rw [← Option.some.inj h]; exact he.choose_spec
 ·cases h
theorem Zaf {n : Zc} (h : n.ok = true) : Znx n ∧ Q7 (Yy n.aq) = some n.aq.toNat ∧ Q7 (Yy n.aB) = some n.aB.toNat ∧ Q7 (Yy n.av) = some n.av.toNat ∧ Q7 (Yy n.au.az) = some n.au.az.toNat ∧ Q7 (Yy n.au.al) = some n.au.al.toNat := by
 have sa := (Zc.ok_is h).small;have ea : Yk n.aq ≤ 128 := by rcases sa.kind with e | e <;> rw [e] <;> decide
 have k1 := sa.links; have k2 := sa.size; have k3 := sa.many; have k4 := sa.depth; have k5 := sa.kind;exact ⟨sa, Yt (by omega), Yt (by omega), Yt (by omega), Yt (by omega), Yt (by omega)⟩
open Go.RowKit
def Zo.give (s : Zo) (a : Nat) : Zo := { af := s.af.set a (s.af.getD a 0 - 1), aj := if s.af.getD a 0 - 1 = 0 then s.aj.set a 0 else s.aj }
theorem Zo.give_refs (s : Zo) (a : Nat) : (s.give a).af.length = s.af.length := by simp [Zo.give]
theorem Zo.give_last (s : Zo) (a : Nat) : (s.give a).aj.length = s.aj.length := by unfold Zo.give; dsimp only; split <;> simp
open Go.RowKit
def ZQ (rows : List ByteArray) (s : Zo) (a : Nat) : List ByteArray := if s.af.getD a 0 - 1 = 0 then rows.set a ByteArray.empty else rows
theorem Ym (rows : List ByteArray) (s : Zo) (a : Nat) : (ZQ rows s a).length = rows.length := by unfold ZQ; split <;> simp
open Go.RowKit
def Uw (x : List ByteArray × Zo) (p : PtrD) : List ByteArray × Zo := (ZQ x.1 x.2 p.aA.toNat, x.2.give p.aA.toNat)
def Yi (x : List ByteArray × Zo) (ps : List PtrD) : List ByteArray × Zo := ps.foldl Uw x
theorem Zf2 (x : List ByteArray × Zo) (ps : List PtrD) (p : PtrD) : Yi x (ps ++ [p]) = Uw (Yi x ps) p := by simp [Yi, List.foldl_append]
theorem Zg3 (x : List ByteArray × Zo) (ps : List PtrD) : (Yi x ps).1.length = x.1.length ∧ (Yi x ps).2.af.length = x.2.af.length ∧ (Yi x ps).2.aj.length = x.2.aj.length := by
 unfold Yi
 induction ps generalizing x with
 | nil => exact ⟨rfl, rfl, rfl⟩
 | cons p r ih =>
  obtain ⟨h1, h2, h3⟩ := ih (Uw x p);exact ⟨h1.trans (Ym _ _ _), h2.trans (Zo.give_refs _ _), h3.trans (Zo.give_last _ _)⟩
theorem ZjT (s : Zo) (a i : Nat) (hi : i < s.af.length) : (s.give a).af.getD i 0 = s.af.getD i 0 - if a = i then 1 else 0 := by
 unfold Zo.give;simp only [List.getD, List.getElem?_set]
 by_cases h : a = i
 ·subst h
  simp [hi]
 ·simp [h]
theorem Zf3 (x : List ByteArray × Zo) (ps : List PtrD) (hp : ∀ p ∈ ps, 0 ≤ p.aA) (i : Nat) (hi : i < x.2.af.length) : (Yi x ps).2.af.getD i 0 = x.2.af.getD i 0 - (cnt ps i : Int) := by
 unfold Yi
 induction ps generalizing x with
 | nil => simp [cnt]
 | cons p r ih =>
  have h1 := ih (Uw x p) (fun q hq => hp q (mem_cons_of_mem _ hq)) (by rw [show (Uw x p).2.af.length = x.2.af.length from Zo.give_refs _ _]; exact hi);rw [List.foldl_cons, h1, show (Uw x p).2 = x.2.give p.aA.toNat from rfl, ZjT _ _ _ hi];have h2 : cnt (p :: r) i = (if p.aA = (i : Int) then 1 else 0) + cnt r i := by
   have := Zj [p] r i;rw [List.singleton_append] at this;rw [this]
   congr 1
   by_cases h : p.aA = (i : Int) <;> simp [cnt, h]
  have h0 := hp p mem_cons_self;rw [h2]
  by_cases h : p.aA = (i : Int)
  ·rw [if_pos h, if_pos (by omega)]; push_cast; omega
  ·rw [if_neg h, if_neg (by omega)]; push_cast; omega
open Go.RowKit
def Za.nextOf (st : Za) : Za := { ac := (Yi (st.ac, st.aa) st.ag).1, aa := (Yi (st.ac, st.aa) st.ag).2, am := st.am + 1, ag := [], aw := st.aw, ah := st.ah, ax := st.ax }
end Go.Proofs.YtfhdmfcfcgbgeaaGreat
