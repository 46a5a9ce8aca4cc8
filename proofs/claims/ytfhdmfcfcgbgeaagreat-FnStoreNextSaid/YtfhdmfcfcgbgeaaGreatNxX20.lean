/- A part of the proof in YtfhdmfcfcgbgeaaGreatNxX30. -/
import Derived.Shelf.Strconv.Clone
import Derived.Shelf.Strings.Cut
import Derived.Test.YtfhdmfcfcgbgeaaGreatNxX19
namespace Go.Proofs.YtfhdmfcfcgbgeaaGreat
open _root_.ByteArray (size_extract)
open List (length_append length_cons length_nil length_take map_cons mem_append mem_append_left mem_append_right mem_cons mem_cons_of_mem mem_cons_self mem_singleton)
set_option linter.unusedVariables false
set_option linter.unusedSimpArgs false
set_option maxHeartbeats 1000000
set_option maxRecDepth 100000
open Go.RowKit
theorem Zls (n : Nat) : ∀ x ∈ (ZA n).data.toList, x ≠ 46 := by
 intro x hx e;subst e;rw [Yf] at hx;obtain ⟨d, hd⟩ := Jz n 46 hx;obtain ⟨h1, h10⟩ := Jw hd;have hn : (UInt8.ofNat (48 + d)).toNat = 48 + d := by rw [UInt8.toNat_ofNat']; omega
 rw [← h1] at hn;have : (46 : UInt8).toNat = 46 := rfl
 omega
theorem Vy {n : Int} (h : 0 ≤ n ∧ n ≤ 999999999) : ∀ x ∈ (Yu n).data.toList, x ≠ 46 := by rw [Y6 h.1 h.2]; exact Zls _
theorem Zbo {a : ByteArray} (h : ∀ x ∈ a.data.toList, x ≠ 46) (b : ByteArray) : Zd (a ++ (Zb4 ++ b)) 46 = a :: Zd b 46 := by
 unfold Zd;rw [Z3, Z3, show Zb4.data.toList = [46] from rfl, List.singleton_append, QF 46 _ _ h, map_cons]
theorem Zf3 {a : ByteArray} (h : ∀ x ∈ a.data.toList, x ≠ 46) : Zd a 46 = [a] := by
 unfold Zd;rw [QW 46 _ h, map_cons, List.map_nil]
theorem Ze7 (a b c : ByteArray) : a ++ b ++ c = a ++ (b ++ c) := Yw (by simp only [Z3, List.append_assoc])
theorem Qg {p : PtrD} (h : p.ok = true) (hh : p.hole = false) : Zd (YI p) 46 = [Yu p.aB, Yu p.ak, Yu p.av, Yu p.aC, Yu p.ar] := by
 have hb := PtrD.ok_all h hh;rw [Vu h hh];simp only [Ze7];rw [Zbo (Vy (by omega)), Zbo (Vy (by omega)), Zbo (Vy (by omega)), Zbo (Vy (by omega)), Zf3 (Vy (by omega))]
theorem Yr {n : Int} (h : 0 ≤ n ∧ n ≤ 999999999) : QX (Yu n) = some n.toNat := by rw [Y6 h.1 h.2]; exact Zbk (by omega)
theorem Zlt {n : Int} {m : Nat} (h : 0 ≤ n ∧ n ≤ 999999999) (hg : QX (Yu n) = some m) : (m : Int) = n := by
 rw [Yr h] at hg;have := Option.some.inj hg
 omega
theorem YA {p : PtrD} (h : p.hole = true) : p = PtrD.zero := by
 unfold PtrD.hole at h;simp only [Bool.and_eq_true, beq_iff_eq] at h;obtain ⟨⟨⟨⟨h1, h2⟩, h3⟩, h4⟩, h5⟩ := h
 cases p
 simp only at h1 h2 h3 h4 h5;subst h1; subst h2; subst h3; subst h4; subst h5
 rfl
theorem Zg4 {p : PtrD} {s : ByteArray} (h : p.ok = true) (hs : YI p = s) (hd : (s.toList == (⟨#[45]⟩ : ByteArray).toList) = false) : p.hole = false := by
 cases hh : p.hole with
 | false => rfl
 | true =>
  rw [QG h hh] at hs;rw [← hs, show ((⟨#[45]⟩ : ByteArray).toList == (⟨#[45]⟩ : ByteArray).toList) = true from beq_self_eq_true _] at hd
  cases hd
theorem Zoq {α : Type} {l : List α} (h : l.length = 5) : ∃ a b c d e, l = [a, b, c, d, e] := by
 match l, h with
 | [a, b, c, d, e], _ => exact ⟨a, b, c, d, e, rfl⟩
theorem ZdC {p q : PtrD} (hp : p.ok = true) (hq : q.ok = true) (h : YI p = YI q) : p = q := by
 cases h1 : p.hole with
 | true =>
  cases h2 : q.hole with
  | true => rw [YA h1, YA h2]
  | false =>
   have := Qg hq h2;rw [← h, QG hp h1] at this;exact absurd (congrArg List.length this) (show ¬ (1 : Nat) = 5 by decide)
 | false =>
  cases h2 : q.hole with
  | true =>
   have := Qg hp h1;rw [h, QG hq h2] at this;exact absurd (congrArg List.length this) (show ¬ (1 : Nat) = 5 by decide)
  | false =>
   have e1 := Qg hp h1;have e2 := Qg hq h2;rw [h, e2] at e1;have hb := PtrD.ok_all hp h1;have hc := PtrD.ok_all hq h2;simp only [List.cons.injEq, and_true] at e1;obtain ⟨k1, k2, k3, k4, k5⟩ := e1;have num : ∀ {m n : Int}, 0 ≤ m ∧ m ≤ 999999999 → 0 ≤ n ∧ n ≤ 999999999 → Yu m = Yu n → n = m := fun hm hn e => by
    have := Yr hm;rw [e, Yr hn] at this;have := Option.some.inj this
    omega
   have j1 := num (by omega) (by omega) k1;have j2 := num (by omega) (by omega) k2;have j3 := num (by omega) (by omega) k3;have j4 := num (by omega) (by omega) k4;have j5 := num (by omega) (by omega) k5
   cases p; cases q
   simp only at j1 j2 j3 j4 j5;subst j1; subst j2; subst j3; subst j4; subst j5
   rfl
open Go.Lib
def Zlu : ByteArray := ⟨#[44]⟩
def fanB (l : List PtrD) : ByteArray := QV (l.map YI) Zlu
theorem Zbp (c : UInt8) : ∀ (x : List UInt8) (r : List (List UInt8)), (∀ y ∈ x :: r, ∀ b ∈ y, b ≠ c) → splitL c (Go.Lib.join (x :: r) [c]) = x :: r
 | x, [], h => by
  rw [show Go.Lib.join [x] [c] = x by simp [Go.Lib.join, Go.Lib.joinTail]];exact QW c x (h x (mem_cons_self ..))
 | x, y :: r, h => by
  have e : Go.Lib.join (x :: y :: r) [c] = x ++ c :: Go.Lib.join (y :: r) [c] := by simp [Go.Lib.join, Go.Lib.joinTail]
  rw [e, QF c _ x (h x (mem_cons_self ..)), Zbp c y r fun z hz => h z (mem_cons_of_mem _ hz)]
theorem Zg5 {l : List ByteArray} {c : UInt8} (hne : l ≠ []) (h : ∀ y ∈ l, ∀ b ∈ y.data.toList, b ≠ c) : Zd (QV l ⟨#[c]⟩) c = l := by
 match l, hne with
 | x :: r, _ =>
  unfold Zd QV;show (splitL c (Go.Lib.join ((x :: r).map (·.data.toList)) [c])).map _ = _;rw [map_cons, Zbp c _ _ (fun y hy b hb => by
   rcases mem_cons.1 hy with rfl | hy
   ·exact h x (mem_cons_self ..) b hb
   ·obtain ⟨z, hz, rfl⟩ := List.mem_map.1 hy
    exact h z (mem_cons_of_mem _ hz) b hb), ← map_cons (f := fun y : ByteArray => y.data.toList)]
  exact Zdw (x :: r)
theorem Zm9 (c : UInt8) (hc : digitVal c = none) (n : Nat) : ∀ x ∈ (ZA n).data.toList, x ≠ c := by
 intro x hx e;subst e;obtain ⟨d, hd⟩ := Jz n x (by rw [← Yf]; exact hx);rw [hc] at hd
 cases hd
theorem Zf4 (c : UInt8) (hc : digitVal c = none) (n : Int) : ∀ x ∈ (Yu n).data.toList, x ≠ c := by
 unfold Yu
 split
 ·exact Zm9 c hc _
 ·intro x hx; simp at hx
theorem Zlv (p : PtrD) : ∀ x ∈ (YI p).data.toList, x ≠ 44 := by
 cases h : p.ok with
 | false => rw [Zf1 h]; intro x hx; simp at hx
 | true =>
  cases hh : p.hole with
  | true => rw [QG h hh]; intro x hx; rw [show x = 45 from by simpa using hx]; decide
  | false =>
   rw [Vu h hh];intro x hx;have hn := fun n => Zf4 44 (by decide) n x
   simp only [Z3, mem_append, show Zb4.data.toList = [46] from rfl, mem_singleton] at hx;rcases hx with (((((((hx | hx) | hx) | hx) | hx) | hx) | hx) | hx) | hx
   all_goals first | exact hn _ hx | (rw [hx]; decide)
theorem ZaE {l : List PtrD} (hne : l ≠ []) : Zd (fanB l) 44 = l.map YI := by
 refine Zg5 (by simpa using hne) fun y hy => ?_;obtain ⟨p, _, rfl⟩ := List.mem_map.1 hy;exact Zlv p
structure IsFan (s : ByteArray) (l : List PtrD) : Prop where
  n : l.length = 4
  ok : ∀ p ∈ l, p.ok = true
  some : l.all (fun p => p.hole) = false
  is : fanB l = s
theorem Zjh {l m : List PtrD} (hl : ∀ p ∈ l, p.ok = true) (hm : ∀ p ∈ m, p.ok = true) (h : l.map YI = m.map YI) : l = m := by
 induction l generalizing m with
 | nil => cases m with
  | nil => rfl
  | cons _ _ => simp at h
 | cons p l ih => cases m with
  | nil => simp at h
  | cons q m =>
   simp only [map_cons, List.cons.injEq] at h;rw [ZdC (hl p (mem_cons_self ..)) (hm q (mem_cons_self ..)) h.1, ih (fun x hx => hl x (mem_cons_of_mem _ hx)) (fun x hx => hm x (mem_cons_of_mem _ hx)) h.2]
theorem IsFan.one {s : ByteArray} {l m : List PtrD} (h : IsFan s l) (k : IsFan s m) : l = m := by
 refine Zjh h.ok k.ok ?_;rw [← ZaE (l := l) (fun e => by have := h.n; rw [e] at this; cases this), ← ZaE (l := m) (fun e => by have := k.n; rw [e] at this; cases this), h.is, k.is]
theorem IsFan.pieces {s : ByteArray} {l : List PtrD} (h : IsFan s l) : Zd s 44 = l.map YI := by
 rw [← h.is];exact ZaE fun e => by have := h.n; rw [e] at this; cases this
open Classical in
noncomputable def Zlw (s : ByteArray) : Option (List PtrD) := if h : ∃ l, IsFan s l then some h.choose else none
theorem Zg6 {s : ByteArray} {l : List PtrD} (h : IsFan s l) : Zlw s = some l := by
 have he : ∃ l, IsFan s l := ⟨l, h⟩;unfold Zlw;rw [dif_pos he, he.choose_spec.one h]
theorem Zna {s : ByteArray} (h : ∀ l, ¬ IsFan s l) : Zlw s = none := by
 unfold Zlw;rw [dif_neg fun ⟨l, hl⟩ => h l hl]
def X7 (p : PtrD) (s : ByteArray) : Bool := p.ok && (!p.hole && ((p.av == (s.size : Int)) && (p.aC == Uv s)))
def Yg (st : Za) (p : PtrD) : ByteArray := st.af.getD p.aB.toNat ByteArray.empty
def Zm (st : Za) (p : PtrD) : ByteArray := bif p.hole then ByteArray.empty else bif X7 p (Yg st p) then Yg st p else ByteArray.empty
def XI (st : Za) (p : PtrD) : Bool := bif p.hole then true else X7 p (Yg st p)
theorem YY {st : Za} {p : PtrD} (h : p.hole = true) : Zm st p = ByteArray.empty := by unfold Zm; rw [h]; rfl
theorem ZaF {st : Za} {p : PtrD} (h : p.hole = true) : XI st p = true := by unfold XI; rw [h]; rfl
theorem Jh {st : Za} {p : PtrD} (h : p.hole = false) (hf : X7 p (Yg st p) = true) : Zm st p = Yg st p := by unfold Zm; rw [h, hf]; rfl
theorem Zg7 {st : Za} {p : PtrD} (h : p.hole = false) (hf : X7 p (Yg st p) = false) : Zm st p = ByteArray.empty := by unfold Zm; rw [h, hf]; rfl
theorem Qu {st : Za} {p : PtrD} (h : p.hole = false) : XI st p = X7 p (Yg st p) := by unfold XI; rw [h]; rfl
def Yx : List PtrD := [PtrD.zero, PtrD.zero, PtrD.zero, PtrD.zero]
theorem XW : PtrD.zero.hole = true := rfl
noncomputable def kids (st : Za) (p : PtrD) (level : Int) : Option (List PtrD) :=
 bif p.hole then some Yx else bif XI st p && (p.ar == level) then (Zlw (Zm st p)).bind fun l => bif l.any (fun k => decide (p.ak < k.ak)) then none else some l else none
noncomputable def kidsS (st : Za) (p : PtrD) (level : Int) : Option (List PtrD) :=
 bif p.hole then some Yx else bif p.ok && ((p.ar == level) && decide (p.ak ≤ st.al)) then kids st p level else none
theorem Ji {st : Za} {p : PtrD} {n : Int} (h : p.hole = true) : kids st p n = some Yx := by unfold kids; rw [h]; rfl
theorem JD {st : Za} {p : PtrD} {n : Int} (h : p.hole = true) : kidsS st p n = some Yx := by unfold kidsS; rw [h]; rfl
theorem ZcL {st : Za} {p : PtrD} {n : Int} (h : p.hole = false) (hr : XI st p = false) : kids st p n = none := by unfold kids; rw [h, hr]; rfl
theorem ZdD {st : Za} {p : PtrD} {n : Int} (h : p.hole = false) (hr : (p.ar == n) = false) : kids st p n = none := by unfold kids; rw [h, hr, Bool.and_false]; rfl
theorem ZdE {st : Za} {p : PtrD} {n : Int} (h : p.hole = false) (hf : ∀ l, ¬ IsFan (Zm st p) l) : kids st p n = none := by
 unfold kids;rw [h, Zna hf]
 cases (XI st p && (p.ar == n)) <;> rfl
theorem Ze8 {st : Za} {p : PtrD} {n : Int} {l : List PtrD} (h : p.hole = false) (hf : IsFan (Zm st p) l) (hb : l.any (fun k => decide (p.ak < k.ak)) = true) : kids st p n = none := by
 unfold kids;rw [h, Zg6 hf]
 cases (XI st p && (p.ar == n))
 ·rfl
 ·simp only [cond_true, cond_false, Option.bind_some, hb]
theorem ZdF {st : Za} {p : PtrD} {n : Int} {l : List PtrD} (h : p.hole = false) (hr : XI st p = true) (hn : (p.ar == n) = true) (hf : IsFan (Zm st p) l) (hb : l.any (fun k => decide (p.ak < k.ak)) = false) : kids st p n = some l := by
 unfold kids;rw [h, Zg6 hf, hr, hn];simp only [cond_true, cond_false, Option.bind_some, hb, Bool.and_self]
theorem Qv {st : Za} {p : PtrD} {n : Int} {l : List PtrD} (h : kids st p n = some l) : l.length = 4 ∧ (∀ k ∈ l, k.ok = true) ∧ (p.hole = true ∧ l = Yx ∨ p.hole = false ∧ p.ar = n ∧ XI st p = true ∧ IsFan (Zm st p) l ∧ ∀ k ∈ l, k.ak ≤ p.ak) := by
 cases hh : p.hole with
 | true =>
  rw [Ji hh] at h;obtain rfl := Option.some.inj h;exact ⟨rfl, fun k hk => by simp only [Yx, mem_cons, List.not_mem_nil, or_false, or_self] at hk; rw [hk]; rfl, .inl ⟨rfl, rfl⟩⟩
 | false =>
  cases hr : XI st p with
  | false => rw [ZcL hh hr] at h; cases h
  | true =>
   cases hn : (p.ar == n) with
   | false => rw [ZdD hh hn] at h; cases h
   | true =>
    by_cases hf : ∃ m, IsFan (Zm st p) m
    ·obtain ⟨m, hm⟩ := hf
     cases hb : m.any (fun k => decide (p.ak < k.ak)) with
     | true => rw [Ze8 hh hm hb] at h; cases h
     | false =>
      rw [ZdF hh hr hn hm hb] at h;obtain rfl := Option.some.inj h;refine ⟨hm.n, hm.ok, .inr ⟨rfl, eq_of_beq hn, rfl, hm, fun k hk => ?_⟩⟩;have := (List.any_eq_false.1 hb) k hk;have := of_decide_eq_false (by simpa using this : decide (p.ak < k.ak) = false)
      omega
    ·rw [ZdE hh fun l hl => hf ⟨l, hl⟩] at h; cases h
theorem JE {st : Za} {p : PtrD} {n : Int} (hp : p.ok = true) (hb : p.ak ≤ st.al) : kidsS st p n = kids st p n := by
 unfold kidsS;rw [hp, decide_eq_true hb, Bool.and_true, Bool.true_and]
 cases hh : p.hole with
 | true => rw [Ji hh]; rfl
 | false =>
  cases hn : (p.ar == n) with
  | false => rw [ZdD hh hn]; rfl
  | true => rfl
theorem Vz {st : Za} {p : PtrD} {n : Int} (h : p.hole = false) (hn : (p.ok && ((p.ar == n) && decide (p.ak ≤ st.al))) = false) : kidsS st p n = none := by unfold kidsS; rw [h, hn]; rfl
theorem Uy {st : Za} {p : PtrD} {n : Int} {l : List PtrD} (h : kidsS st p n = some l) : kids st p n = some l ∧ (p.hole = false → p.ok = true ∧ p.ak ≤ st.al) := by
 cases hh : p.hole with
 | true => rw [JD hh] at h; rw [Ji hh]; exact ⟨h, fun e => by cases e⟩
 | false =>
  cases hc : (p.ok && ((p.ar == n) && decide (p.ak ≤ st.al))) with
  | false => rw [Vz hh hc] at h; cases h
  | true =>
   unfold kidsS at h;rw [hh, hc] at h;simp only [Bool.and_eq_true, decide_eq_true_eq] at hc;exact ⟨h, fun _ => ⟨hc.1, hc.2.2⟩⟩
noncomputable def YB (f : PtrD → Option (List PtrD)) : List PtrD → Option (List PtrD)
 | [] => some []
 | p :: r => (f p).bind fun k => (YB f r).map (k ++ ·)
theorem VA {f : PtrD → Option (List PtrD)} {p : PtrD} {r : List PtrD} (h : f p = none) : YB f (p :: r) = none := by show Option.bind _ _ = _; rw [h]; rfl
theorem V5 {f : PtrD → Option (List PtrD)} {p : PtrD} {r k : List PtrD} (h : f p = some k) : YB f (p :: r) = (YB f r).map (k ++ ·) := by show Option.bind _ _ = _; rw [h]; rfl
theorem Znb {o : Option (List PtrD)} (a b : List PtrD) : (o.map (b ++ ·)).map (a ++ ·) = o.map ((a ++ b) ++ ·) := by cases o <;> simp
theorem ZcM {f g : PtrD → Option (List PtrD)} : ∀ {l : List PtrD}, (∀ p ∈ l, f p = g p) → YB f l = YB g l
 | [], _ => rfl
 | p :: r, h => by
  show Option.bind _ _ = Option.bind _ _;rw [h p (mem_cons_self ..), ZcM fun q hq => h q (mem_cons_of_mem _ hq)]
theorem Zb5 {f : PtrD → Option (List PtrD)} : ∀ {l m : List PtrD}, YB f l = some m → (∀ p ∈ l, ∃ k, f p = some k) ∧ (∀ q ∈ m, ∃ p ∈ l, ∃ k, f p = some k ∧ q ∈ k) ∧ (∀ p ∈ l, ∀ k, f p = some k → ∀ q ∈ k, q ∈ m)
 | [], m, h => by
  obtain rfl : [] = m := Option.some.inj h;exact ⟨fun p hp => (nomatch hp), fun p hp => (nomatch hp), fun p hp => (nomatch hp)⟩
 | p :: r, m, h => by
  cases hk : f p with
  | none => rw [VA hk] at h; cases h
  | some k =>
   rw [V5 hk] at h
   cases hn : YB f r with
   | none => rw [hn] at h; cases h
   | some n =>
    rw [hn] at h;obtain rfl : k ++ n = m := Option.some.inj h;obtain ⟨i1, i2, i3⟩ := Zb5 hn;refine ⟨fun q hq => ?_, fun q hq => ?_, fun q hq k2 hk2 x hx => ?_⟩
    ·rcases mem_cons.1 hq with rfl | hq
     ·exact ⟨k, hk⟩
     ·exact i1 q hq
    ·rcases mem_append.1 hq with hq | hq
     ·exact ⟨p, mem_cons_self .., k, hk, hq⟩
     ·obtain ⟨y, hy, z, hz, hq⟩ := i2 q hq
      exact ⟨y, mem_cons_of_mem _ hy, z, hz, hq⟩
    ·rcases mem_cons.1 hq with rfl | hq
     ·rw [hk] at hk2
      obtain rfl := Option.some.inj hk2;exact mem_append_left _ hx
     ·exact mem_append_right _ (i3 q hq k2 hk2 x hx)
theorem Ze9 {f : PtrD → Option (List PtrD)} (hf : ∀ p k, f p = some k → k.length = 4) : ∀ {l m : List PtrD}, YB f l = some m → m.length = 4 * l.length
 | [], m, h => by obtain rfl : [] = m := Option.some.inj h; rfl
 | p :: r, m, h => by
  cases hk : f p with
  | none => rw [VA hk] at h; cases h
  | some k =>
   rw [V5 hk] at h
   cases hn : YB f r with
   | none => rw [hn] at h; cases h
   | some n =>
    rw [hn] at h;obtain rfl : k ++ n = m := Option.some.inj h;have := Ze9 hf hn;rw [length_append, hf p k hk, length_cons]; omega
noncomputable def downL (f : PtrD → Int → Option (List PtrD)) : Nat → List PtrD → Option (List PtrD)
 | 0, l => some l
 | n + 1, l => (YB (fun p => f p ((n + 1 : Nat) : Int)) l).bind (downL f n)
theorem JF {f : PtrD → Int → Option (List PtrD)} {n : Nat} {l : List PtrD} (h : YB (fun p => f p ((n + 1 : Nat) : Int)) l = none) : downL f (n + 1) l = none := by show Option.bind _ _ = _; rw [h]; rfl
theorem Jj {f : PtrD → Int → Option (List PtrD)} {n : Nat} {l m : List PtrD} (h : YB (fun p => f p ((n + 1 : Nat) : Int)) l = some m) : downL f (n + 1) l = downL f n m := by show Option.bind _ _ = _; rw [h]; rfl
theorem Zb6 {f : PtrD → Int → Option (List PtrD)} (hf : ∀ p n k, f p n = some k → k.length = 4) : ∀ {n : Nat} {l m : List PtrD}, downL f n l = some m → m.length = 4 ^ n * l.length
 | 0, l, m, h => by obtain rfl : l = m := Option.some.inj h; omega
 | n + 1, l, m, h => by
  cases hn : YB (fun p => f p ((n + 1 : Nat) : Int)) l with
  | none => rw [JF hn] at h; cases h
  | some x =>
   rw [Jj hn] at h;rw [Zb6 hf h, Ze9 (fun p k => hf p _ k) hn, Nat.pow_succ, Nat.mul_assoc]
def depthN (many : Int) : Nat := if many ≤ 1 then 0 else if many ≤ 4 then 1 else 2
theorem YC (many : Int) : depthN many ≤ 2 := by unfold depthN; split <;> (try split) <;> omega
theorem ZaG {many : Int} (h : many ≤ 16) : many ≤ ((4 ^ depthN many : Nat) : Int) := by
 unfold depthN
 split
 ·simp; omega
 ·split
  ·simp; omega
  ·simp; omega
def Zg8 (st : Za) (many : Int) (i : Nat) (p : PtrD) : Bool := bif p.hole then p.ar == 0 else XI st p && ((p.ar == 0) && decide ((i : Int) < many))
def QQ (st : Za) (many : Int) : Nat → List PtrD → Bool
 | _, [] => true
 | i, p :: r => Zg8 st many i p && QQ st many (i + 1) r
def topB (st : Za) (t : Ze) : Bool := inB t.aj 0 16 && ((t.az == (depthN t.aj : Int)) && (t.ah.ok && decide (t.ah.ak ≤ st.al)))
noncomputable def leavesF (st : Za) (t : Ze) : Option (List PtrD) :=
 bif topB st t then (downL (kids st) (depthN t.aj) [t.ah]).bind fun l => bif QQ st t.aj 0 l then some (l.take t.aj.toNat) else none else none
noncomputable def VB (st : Za) (t : Ze) : Bool := (leavesF st t).isSome
theorem VC {st : Za} {t : Ze} (h : topB st t = false) : leavesF st t = none := by unfold leavesF; rw [h]; rfl
theorem Zbq {st : Za} {t : Ze} (h : downL (kids st) (depthN t.aj) [t.ah] = none) : leavesF st t = none := by
 unfold leavesF
 cases topB st t
 ·rfl
 ·rw [h]; rfl
theorem ZcN {st : Za} {t : Ze} {l : List PtrD} (h : downL (kids st) (depthN t.aj) [t.ah] = some l) (hb : QQ st t.aj 0 l = false) : leavesF st t = none := by
 unfold leavesF
 cases topB st t
 ·rfl
 ·rw [h]
  simp only [cond_true, cond_false, Option.bind_some, hb]
theorem VD {st : Za} {t : Ze} {l : List PtrD} (h0 : topB st t = true) (h : downL (kids st) (depthN t.aj) [t.ah] = some l) (hb : QQ st t.aj 0 l = true) : leavesF st t = some (l.take t.aj.toNat) := by
 unfold leavesF;rw [h0, h];simp only [cond_true, cond_false, Option.bind_some, hb]
theorem VE {st : Za} {p : PtrD} {n : Int} {k : List PtrD} (h : kids st p n = some k) : k.length = 4 := (Qv h).1
theorem ZaH {st : Za} {t : Ze} {r : List PtrD} (h : leavesF st t = some r) : ∃ l, topB st t = true ∧ downL (kids st) (depthN t.aj) [t.ah] = some l ∧ QQ st t.aj 0 l = true ∧ r = l.take t.aj.toNat ∧ l.length = 4 ^ depthN t.aj ∧ r.length = t.aj.toNat := by
 cases h0 : topB st t with
 | false => rw [VC h0] at h; cases h
 | true =>
  cases h1 : downL (kids st) (depthN t.aj) [t.ah] with
  | none => rw [Zbq h1] at h; cases h
  | some l =>
   cases h2 : QQ st t.aj 0 l with
   | false => rw [ZcN h1 h2] at h; cases h
   | true =>
    rw [VD h0 h1 h2] at h;obtain rfl := Option.some.inj h;have hl : l.length = 4 ^ depthN t.aj := by rw [Zb6 (fun p n k => VE) h1]; simp
    refine ⟨l, rfl, rfl, h2, rfl, hl, ?_⟩;unfold topB at h0;rw [Bool.and_eq_true] at h0;have hi := Zu h0.1;have := ZaG hi.2;rw [length_take, hl]
    omega
theorem U0 {st : Za} : ∀ {n : Nat} {l : List PtrD}, (∀ p ∈ l, p.ok = true ∧ p.ak ≤ st.al) → 0 ≤ st.al → downL (kidsS st) n l = downL (kids st) n l ∧ ∀ m, downL (kids st) n l = some m → ∀ p ∈ m, p.ok = true ∧ p.ak ≤ st.al
 | 0, l, h, _ => ⟨rfl, fun m hm p hp => by obtain rfl : l = m := Option.some.inj hm; exact h p hp⟩
 | n + 1, l, h, h0 => by
  have e : YB (fun p => kidsS st p ((n + 1 : Nat) : Int)) l = YB (fun p => kids st p ((n + 1 : Nat) : Int)) l := ZcM fun p hp => JE (h p hp).1 (h p hp).2
  cases hn : YB (fun p => kids st p ((n + 1 : Nat) : Int)) l with
  | none => rw [JF (e.trans hn), JF hn]; exact ⟨rfl, fun m hm => by cases hm⟩
  | some x =>
   rw [Jj (e.trans hn), Jj hn];refine U0 (fun q hq => ?_) h0;obtain ⟨p, hp, k, hk, hq⟩ := (Zb5 hn).2.1 q hq;obtain ⟨_, ok, hc⟩ := Qv hk;refine ⟨ok q hq, ?_⟩;rcases hc with ⟨_, rfl⟩ | ⟨_, _, _, _, hb⟩
   ·simp only [Yx, mem_cons, List.not_mem_nil, or_false, or_self] at hq
    rw [hq]; exact h0
   ·have := hb q hq; have := (h p hp).2; omega
def Zam (st : Za) (many : Int) (i : Nat) (p : PtrD) : Bool := bif p.hole then true else XI st p && ((p.ar == 0) && (decide (p.ak ≤ st.al) && decide ((i : Int) < many)))
def XX (st : Za) (many : Int) : Nat → List PtrD → Bool
 | _, [] => true
 | i, p :: r => Zam st many i p && XX st many (i + 1) r
theorem ZdG {p : PtrD} (h : p.hole = true) : p.ar = 0 := by rw [YA h]; rfl
theorem ZdH {p : PtrD} (h : p.hole = true) : p.ak = 0 := by rw [YA h]; rfl
theorem Zlx {st : Za} {many : Int} {i : Nat} {p : PtrD} (h : p.ak ≤ st.al) : Zam st many i p = Zg8 st many i p := by
 unfold Zam Zg8
 cases hh : p.hole with
 | true => show true = (p.ar == 0); rw [ZdG hh]; rfl
 | false => rw [decide_eq_true h, Bool.true_and]; rfl
theorem ZdI {st : Za} {many : Int} : ∀ {i : Nat} {l : List PtrD}, (∀ p ∈ l, p.ak ≤ st.al) → XX st many i l = QQ st many i l
 | _, [], _ => rfl
 | i, p :: r, h => by
  show (_ && _) = (_ && _);rw [Zlx (h p (mem_cons_self ..)), ZdI fun q hq => h q (mem_cons_of_mem _ hq)]
def ZaI (t : Ze) : Bool := inB t.aj 0 16 && ((t.az == (depthN t.aj : Int)) && t.ah.ok)
noncomputable def okS (st : Za) (t : Ze) : Bool := ZaI t && match downL (kidsS st) (depthN t.aj) [t.ah] with | none => false | some l => XX st t.aj 0 l
theorem Zdc {st : Za} {t : Ze} (h : ZaI t = false) : okS st t = false := by unfold okS; rw [h]; rfl
theorem ZdJ {st : Za} {t : Ze} (h : downL (kidsS st) (depthN t.aj) [t.ah] = none) : okS st t = false := by unfold okS; rw [h, Bool.and_false]
theorem ZaJ {st : Za} {t : Ze} {l : List PtrD} (h0 : ZaI t = true) (h : downL (kidsS st) (depthN t.aj) [t.ah] = some l) : okS st t = XX st t.aj 0 l := by unfold okS; rw [h0, h]; rfl
theorem Zly {st : Za} {t : Ze} (h0 : 0 ≤ st.al) : okS st t = VB st t := by
 unfold VB
 cases ht : ZaI t with
 | false =>
  rw [Zdc ht, VC (by unfold topB; unfold ZaI at ht; rw [← Bool.and_assoc, ← Bool.and_assoc]; rw [← Bool.and_assoc] at ht; rw [ht]; rfl)]; rfl
 | true =>
  have hok : t.ah.ok = true := by unfold ZaI at ht; simp only [Bool.and_eq_true] at ht; exact ht.2.2
  by_cases hb : t.ah.ak ≤ st.al
  ·have htop : topB st t = true := by unfold topB; unfold ZaI at ht; rw [decide_eq_true hb, Bool.and_true]; exact ht
   obtain ⟨e, hy⟩ := U0 (st := st) (n := depthN t.aj) (l := [t.ah]) (fun p hp => by rw [mem_singleton.1 hp]; exact ⟨hok, hb⟩) h0
   cases hd : downL (kids st) (depthN t.aj) [t.ah] with
   | none => rw [ZdJ (e.trans hd), Zbq hd]; rfl
   | some l =>
    rw [ZaJ ht (e.trans hd), ZdI fun p hp => (hy l hd p hp).2]
    cases hl : QQ st t.aj 0 l with
    | true => rw [VD htop hd hl]; rfl
    | false => rw [ZcN hd hl]; rfl
  ·have htop : topB st t = false := by unfold topB; rw [decide_eq_false hb]; simp
   rw [VC htop];have hh : t.ah.hole = false := by
    cases hh : t.ah.hole with
    | false => rfl
    | true => have := ZdH hh; omega
   cases hd : depthN t.aj with
   | zero =>
    rw [ZaJ (l := [t.ah]) ht (by rw [hd]; rfl)];show (Zam st t.aj 0 t.ah && true) = false;unfold Zam;rw [hh, decide_eq_false hb]; simp
   | succ n =>
    rw [ZdJ (by rw [hd]; exact JF (VA (Vz hh (by rw [decide_eq_false hb]; simp))))]; rfl
noncomputable def allL (st : Za) : Nat → PtrD → List PtrD
 | 0, p => bif p.hole then [] else [p]
 | n + 1, p => bif p.hole then [] else p :: ((kids st p ((n + 1 : Nat) : Int)).getD []).flatMap (allL st n)
theorem ZR {st : Za} {p : PtrD} (h : p.hole = true) : ∀ n, allL st n p = []
 | 0 => by unfold allL; rw [h]; rfl
 | n + 1 => by unfold allL; rw [h]; rfl
theorem Qo {st : Za} {p : PtrD} (h : p.hole = false) : allL st 0 p = [p] := by unfold allL; rw [h]; rfl
theorem YL {st : Za} {p : PtrD} {n : Nat} {l : List PtrD} (h : p.hole = false) (hk : kids st p ((n + 1 : Nat) : Int) = some l) : allL st (n + 1) p = p :: l.flatMap (allL st n) := by
 show (bif p.hole then [] else p :: ((kids st p ((n + 1 : Nat) : Int)).getD []).flatMap (allL st n)) = _;rw [h, hk]; rfl
def Wf (st : Za) : Nat → PtrD → Prop
 | 0, p => p.ok = true ∧ p.ak ≤ st.al ∧ p.ar = 0 ∧ XI st p = true
 | n + 1, p => p.ok = true ∧ p.ak ≤ st.al ∧ ∃ l, kids st p ((n + 1 : Nat) : Int) = some l ∧ ∀ k ∈ l, Wf st n k
theorem Wf.ok {st : Za} : ∀ {n : Nat} {p : PtrD}, Wf st n p → p.ok = true ∧ p.ak ≤ st.al
 | 0, _, h => ⟨h.1, h.2.1⟩
 | _ + 1, _, h => ⟨h.1, h.2.1⟩
theorem Wf.level {st : Za} : ∀ {n : Nat} {p : PtrD}, Wf st n p → p.hole = false → p.ar = (n : Int)
 | 0, _, h, _ => h.2.2.1
 | n + 1, p, ⟨_, _, l, hk, _⟩, hh => by
  rcases (Qv hk).2.2 with ⟨e, _⟩ | ⟨_, e, _⟩
  ·rw [hh] at e; cases e
  ·exact e
theorem Wf.zero {st : Za} (h0 : 0 ≤ st.al) : ∀ n, Wf st n PtrD.zero
 | 0 => ⟨rfl, h0, rfl, rfl⟩
 | n + 1 => ⟨rfl, h0, Yx, Ji rfl, fun k hk => by
  simp only [Yx, mem_cons, List.not_mem_nil, or_false, or_self] at hk;rw [hk]; exact Wf.zero h0 n⟩
theorem Zf5 : digitVal 58 = none := by decide
theorem Zji {s : ByteArray} {n k : Nat} (h : l1S s n k) (h0 : k ≠ 0) (hc : s.data.toList[k]? = some 58) : k < s.size ∧ QX (s.extract 0 k) = some n := by
 have hz := Zi s;have hk : k < s.data.toList.length := (List.getElem?_eq_some_iff.1 hc).1;refine ⟨by omega, ?_⟩;rcases h with ⟨h1, h2, h3, _, h5⟩ | ⟨rfl, rfl, _, b, d, h4, h6⟩
 ·have hsz : (s.extract 0 k).size = k := by rw [size_extract]; omega
  have hl : (s.extract 0 k).data.toList = s.data.toList.take k := by rw [Z6]; simp
  refine Zjd (k := k) (.inl ⟨h1, by omega, by rw [hl, List.take_take, Nat.min_self]; exact h3, .inl hsz.symm, fun hx => h5 ⟨hx.1, ?_⟩⟩) h0 hsz.symm;rw [hl] at hx
  match hx2 : s.data.toList, hk with
  | a :: r, _ =>
   rw [hx2] at hx
   match k, h0 with
   | k + 1, _ => exact hx.2
 ·rw [hc] at h4
  obtain rfl := Option.some.inj h4;rw [Zf5] at h6; cases h6
theorem Zf6 {l : List UInt8} {b : UInt8} (hb : b ∈ l) (hd : digitVal b = none) : ∀ acc, decFrom acc l = none := by
 induction l with
 | nil => cases hb
 | cons c r ih =>
  intro acc;unfold decFrom;rcases mem_cons.1 hb with rfl | hb
  ·rw [hd]
  ·cases digitVal c with
   | none => rfl
   | some d => exact ih hb _
theorem Znc {s : ByteArray} {n k m : Nat} {t : List UInt8} (h : l1S s n k) (hm : m ≤ 999999999) (hs : s.data.toList = (ZA m).data.toList ++ 58 :: t) : k = (ZA m).size ∧ n = m ∧ s.data.toList[k]? = some 58 := by
 have hz := Zi s;have hd9 := Uo hm;have hdp := Zbf m;have hdz := Zi (ZA m);have hall := Jz m;rw [← Yf] at hall;have hlen : s.data.toList.length = (ZA m).data.toList.length + (t.length + 1) := by rw [hs, length_append, length_cons]
 have hcol : s.data.toList[(ZA m).size]? = some 58 := by rw [hs, hdz, List.getElem?_append_right (Nat.le_refl _), Nat.sub_self]; rfl
 have hin : ∀ i, i < (ZA m).size → ∃ b d, s.data.toList[i]? = some b ∧ digitVal b = some d := fun i hi => by
  have hi2 : i < (ZA m).data.toList.length := by omega
  obtain ⟨d, hd⟩ := hall _ (List.getElem_mem hi2);exact ⟨_, d, by rw [hs, List.getElem?_append_left hi2, List.getElem?_eq_getElem hi2], hd⟩
 have hk : k = (ZA m).size := by
  rcases h with ⟨h1, h2, h3, h4, _⟩ | ⟨rfl, rfl, h3, b, d, h4, h6⟩
  ·rcases Nat.lt_trichotomy k (ZA m).size with hlt | he | hgt
   ·obtain ⟨b, d, hb, hd⟩ := hin k hlt
    rcases h4 with h4 | h4 | ⟨c, h4, h6⟩
    ·omega
    ·omega
    ·rw [hb] at h4
     obtain rfl := Option.some.inj h4;rw [hd] at h6; cases h6
   ·exact he
   ·have hmem : (58 : UInt8) ∈ s.data.toList.take k := by
     refine List.mem_of_getElem? (i := (ZA m).size) ?_;rw [List.getElem?_take, if_pos hgt]; exact hcol
    rw [Zf6 hmem Zf5] at h3; cases h3
  ·rcases Nat.lt_or_ge m 10 with hlt | hge
   ·have h1 : (ZA m).size = 1 := by rw [hdz, Yf, decDigits_one hlt]; rfl
    rw [h1] at hcol;rw [hcol] at h4;obtain rfl := Option.some.inj h4;rw [Zf5] at h6; cases h6
   ·obtain ⟨e, he, h1, h9⟩ := ZcK m hge
    rw [← Yf] at he;have : s.data.toList.head? = (ZA m).data.toList.head? := by
     rw [hs]
     match hq : (ZA m).data.toList, hdp, hdz with
     | a :: r, _, _ => rfl
     | [], hp, hq2 => have hz0 : ([] : List UInt8).length = 0 := rfl; omega
    rw [this, he] at h3;have hv := Option.some.inj h3;have : (UInt8.ofNat (48 + e)).toNat = 48 + e := by rw [UInt8.toNat_ofNat']; omega
    rw [hv] at this;have : (48 : UInt8).toNat = 48 := rfl
    omega
 refine ⟨hk, ?_, by rw [hk]; exact hcol⟩;have hnum := Zji h (by omega) (by rw [hk]; exact hcol);have he : s.extract 0 k = ZA m := Yw (by rw [Z6, hs, hk, hdz]; simp);rw [he, Zbk hm] at hnum;exact (Option.some.inj hnum.2).symm
theorem XY {s : ByteArray} (i : Nat) : (s.extract i s.size).data.toList = s.data.toList.drop i := by
 rw [Z6, List.take_of_length_le (by rw [List.length_drop, ← Zi]; exact Nat.le_refl _)]
theorem Zlz {s : ByteArray} {xs : List ByteArray} {p k n : Nat} (h : Ux s xs (s.extract p s.size)) (hl : l1S (s.extract p s.size) n k) (h0 : k ≠ 0) (hk : p + k < s.size) (hc : s.get! (p + k) = 58) (hn : n ≤ s.size - (p + k + 1)) : Ux s (xs ++ [s.extract (p + k + 1) (p + k + 1 + n)]) (s.extract (p + k + 1 + n) s.size) := by
 have hz := Zi s;have hcol : (s.extract p s.size).data.toList[k]? = some 58 := by rw [XY, List.getElem?_drop, QD hk, hc]
 obtain ⟨hk2, hnum⟩ := Zji hl h0 hcol;have hcut : (s.extract p s.size).data.toList = ((s.extract p s.size).extract 0 k).data.toList ++ 58 :: (s.extract (p + k + 1) s.size).data.toList := by
  rw [Z6 (a := s.extract p s.size), XY, XY, List.drop_zero, Nat.sub_zero];have e : (s.data.toList.drop p).drop k = 58 :: s.data.toList.drop (p + k + 1) := by
   rw [List.drop_drop];have hlt : p + k < s.data.toList.length := by omega
   rw [List.drop_eq_getElem_cons hlt];have := QD hk;rw [List.getElem?_eq_getElem hlt] at this;rw [Option.some.inj this, hc]
  rw [← e, List.take_append_drop]
 have hsz : (s.extract (p + k + 1) s.size).size = s.size - (p + k + 1) := by rw [size_extract]; omega
 have := h.step hcut hnum (by omega);have e1 : (s.extract (p + k + 1) s.size).extract 0 n = s.extract (p + k + 1) (p + k + 1 + n) := Yw (by
  rw [Z6, XY, Z6, List.drop_zero]
  congr 1; omega)
 have e2 : (s.extract (p + k + 1) s.size).extract n (s.extract (p + k + 1) s.size).size = s.extract (p + k + 1 + n) s.size := Yw (by
  rw [XY, XY, XY, List.drop_drop])
 rw [e1, e2] at this;exact this
theorem Zf7 {s : ByteArray} {xs l : List ByteArray} {p k n : Nat} (h : Ux s xs (s.extract p s.size)) (hl : l1S (s.extract p s.size) n k) (hr : IsRec s l) (hs : s.size ≤ 2048) (hp : p < s.size) : k ≠ 0 ∧ p + k < s.size ∧ s.get! (p + k) = 58 ∧ n ≤ s.size - (p + k + 1) := by
 have hz := Zi s;have hsz : (s.extract p s.size).size = s.size - p := by rw [size_extract]; omega
 have hne : ((s.extract p s.size).toList == (⟨#[]⟩ : ByteArray).toList) = false := by
  cases hq : ((s.extract p s.size).toList == (⟨#[]⟩ : ByteArray).toList) with
  | false => rfl
  | true =>
   have := ZU hq;rw [this] at hsz;have : (⟨#[]⟩ : ByteArray).size = 0 := rfl
   omega
 obtain ⟨y, ws, e1, e2, e3, e4⟩ := h.go hr.is hs hr.many hne;have hy := (XV e3).1;obtain ⟨k1, k2, k3⟩ := Znc hl hy e2;have hp1 := Zbf y.size;have hlen := congrArg List.length e2;rw [length_append, length_cons, length_append, ← Zi, ← Zi, ← Zi, hsz] at hlen;have hkl : p + k < s.size := by omega
 refine ⟨by omega, hkl, ?_, by omega⟩;rw [XY, List.getElem?_drop, QD hkl] at k3;exact Option.some.inj k3
theorem Zbr {s : ByteArray} {xs : List ByteArray} {p : Nat} (h : Ux s xs (s.extract p s.size)) (hp : ¬ p < s.size) : Yc xs = s := by
 refine h.done ?_;have : s.extract p s.size = (⟨#[]⟩ : ByteArray) := Yw (by rw [XY, List.drop_eq_nil_of_le (by rw [← Zi]; omega)]);rw [this]; exact beq_self_eq_true _
theorem Zbs {m n : Int} {y : ByteArray} (h : 0 ≤ m ∧ m ≤ 999999999 ∧ Yu m = y) (k : 0 ≤ n ∧ n ≤ 999999999 ∧ Yu n = y) : m = n := by
 have h1 := Yr ⟨h.1, h.2.1⟩;have h2 := Yr ⟨k.1, k.2.1⟩;rw [h.2.2] at h1;rw [k.2.2, h1] at h2;have := Option.some.inj h2
 omega
theorem ZlA (y : ByteArray) (ys : List ByteArray) : (Yc (y :: ys)).size = (ZA y.size).size + 1 + y.size + (Yc ys).size := by
 have h := congrArg List.length (Xa y ys);rw [← Zi, length_append, length_cons, length_append, ← Zi, ← Zi, ← Zi] at h
 omega
theorem ZaK {y : ByteArray} {ys : List ByteArray} {B : Nat} (h : y.size ≤ 100) (hb : (Yc ys).size ≤ B) : (Yc (y :: ys)).size ≤ B + 110 := by
 rw [ZlA];have := Uo (n := y.size) (by omega)
 omega
structure Zc where
  aq : Int
  aA : Int
  av : Int
  au : Ze
abbrev nPL (k l s : Int) (t : Ze) : List Value := [.int .i64 k, .int .i64 l, .int .i64 s, .int .i64 t.ah.aB, .int .i64 t.ah.ak, .int .i64 t.ah.av, .int .i64 t.ah.aC, .int .i64 t.ah.ar, .int .i64 t.az, .int .i64 t.aj]
abbrev nPV (k l s : Int) (t : Ze) : Value := .agg #[.int .i64 k, .int .i64 l, .int .i64 s, .int .i64 t.ah.aB, .int .i64 t.ah.ak, .int .i64 t.ah.av, .int .i64 t.ah.aC, .int .i64 t.ah.ar, .int .i64 t.az, .int .i64 t.aj]
abbrev nL (n : Zc) : List Value := [.int .i64 n.aq, .int .i64 n.aA, .int .i64 n.av, .int .i64 n.au.ah.aB, .int .i64 n.au.ah.ak, .int .i64 n.au.ah.av, .int .i64 n.au.ah.aC, .int .i64 n.au.ah.ar, .int .i64 n.au.az, .int .i64 n.au.aj]
abbrev nV (n : Zc) : Value := .agg #[.int .i64 n.aq, .int .i64 n.aA, .int .i64 n.av, .int .i64 n.au.ah.aB, .int .i64 n.au.ah.ak, .int .i64 n.au.ah.av, .int .i64 n.au.ah.aC, .int .i64 n.au.ah.ar, .int .i64 n.au.az, .int .i64 n.au.aj]
def Yi (kind : Int) : Int := if kind = 1 then 12 else if kind = 2 then 128 else 0
theorem Zih : Yi 1 = 12 := rfl
theorem Zbt : Yi 2 = 128 := rfl
theorem ZdK {k : Int} (h1 : k ≠ 1) (h2 : k ≠ 2) : Yi k = 0 := by unfold Yi; rw [if_neg h1, if_neg h2]
def Yv (kind size : Int) : Int := if Yi kind = 0 ∨ ¬ (0 ≤ size ∧ size ≤ 16 * Yi kind) then -1 else (size + Yi kind - 1) / Yi kind
theorem ZdL {k s : Int} (h : Yi k = 0) : Yv k s = -1 := if_pos (.inl h)
theorem ZcO {k s : Int} (h : ¬ (0 ≤ s ∧ s ≤ 16 * Yi k)) : Yv k s = -1 := if_pos (.inr h)
theorem ZaL {k s : Int} (h : Yi k ≠ 0) (h1 : 0 ≤ s) (h2 : s ≤ 16 * Yi k) : Yv k s = (s + Yi k - 1) / Yi k := if_neg fun e => e.elim h fun e => e ⟨h1, h2⟩
structure ZaM (n : Zc) : Prop where
  many : 0 ≤ Yv n.aq n.av
  links : 1 ≤ n.aA ∧ n.aA ≤ if n.aq = 2 then 1 else 9
  tmany : n.au.aj = Yv n.aq n.av
  depth : n.au.az = ((depthN (Yv n.aq n.av) : Nat) : Int)
  root : n.au.ah.ok = true
  level : n.au.ah.hole = true ∨ n.au.ah.ar = n.au.az
instance (n : Zc) : Decidable (ZaM n) := decidable_of_iff (0 ≤ Yv n.aq n.av ∧ (1 ≤ n.aA ∧ n.aA ≤ if n.aq = 2 then 1 else 9) ∧ n.au.aj = Yv n.aq n.av ∧ n.au.az = ((depthN (Yv n.aq n.av) : Nat) : Int) ∧ n.au.ah.ok = true ∧ (n.au.ah.hole = true ∨ n.au.ah.ar = n.au.az)) ⟨fun ⟨a, b, c, d, e, f⟩ => ⟨a, b, c, d, e, f⟩, fun ⟨a, b, c, d, e, f⟩ => ⟨a, b, c, d, e, f⟩⟩
def Zc.ok (n : Zc) : Bool := decide (ZaM n)
theorem Zc.ok_yes {n : Zc} (h : ZaM n) : n.ok = true := decide_eq_true h
theorem Zc.ok_no {n : Zc} (h : ¬ ZaM n) : n.ok = false := decide_eq_false h
theorem Zc.ok_is {n : Zc} (h : n.ok = true) : ZaM n := of_decide_eq_true h
structure ZnM (n : Zc) : Prop where
  kind : n.aq = 1 ∨ n.aq = 2
  links : 1 ≤ n.aA ∧ n.aA ≤ 9
  size : 0 ≤ n.av ∧ n.av ≤ 16 * Yi n.aq
  is : Yv n.aq n.av = (n.av + Yi n.aq - 1) / Yi n.aq
  many : 0 ≤ n.au.aj ∧ n.au.aj ≤ 16
  depth : 0 ≤ n.au.az ∧ n.au.az ≤ 2
theorem ZaM.small {n : Zc} (h : ZaM n) : ZnM n := by
 have hk : n.aq = 1 ∨ n.aq = 2 := by
  by_cases h1 : n.aq = 1
  ·exact .inl h1
  ·by_cases h2 : n.aq = 2
   ·exact .inr h2
   ·have := h.many
    rw [ZdL (ZdK h1 h2)] at this
    omega
 have he : 12 ≤ Yi n.aq ∧ Yi n.aq ≤ 128 := by rcases hk with e | e <;> rw [e] <;> decide
 have hs : 0 ≤ n.av ∧ n.av ≤ 16 * Yi n.aq := by
  by_cases hs : 0 ≤ n.av ∧ n.av ≤ 16 * Yi n.aq
  ·exact hs
  ·have := h.many
   rw [ZcO hs] at this
   omega
 have hp := ZaL (k := n.aq) (by omega) hs.1 hs.2;have hl := h.links;have hm : Yv n.aq n.av ≤ 16 := by
  rw [hp];have : (n.av + Yi n.aq - 1) / Yi n.aq < 17 := Int.ediv_lt_of_lt_mul (by omega) (by omega)
  omega
 have hd := YC (Yv n.aq n.av);have h1 := h.many;have h2 := h.tmany;have h3 := h.depth;refine ⟨hk, ⟨hl.1, ?_⟩, hs, hp, by omega, by omega⟩;have := hl.2
 split at this <;> omega
def ZlB : ByteArray := ⟨#[101, 110, 100]⟩
def J7 (n : Zc) : List ByteArray := [Yu n.aq, Yu n.aA, Yu n.av, YI n.au.ah, Yu n.au.az, Yu n.au.aj, ZlB]
def Yh (n : Zc) : ByteArray := bif n.ok then (Ys (J7 n)).1 else ByteArray.empty
theorem JG {n : Zc} (h : n.ok = false) : Yh n = ByteArray.empty := by unfold Yh; rw [h]; rfl
theorem Zfa {n : Zc} (h : n.ok = true) : Yh n = (Ys (J7 n)).1 := by unfold Yh; rw [h]; rfl
theorem Zg9 (n : Zc) : (Yc (J7 n)).size ≤ 1000 := by
 refine Nat.le_trans (ZaK (Nat.le_trans (Xn _) (by decide)) (ZaK (Nat.le_trans (Xn _) (by decide)) (ZaK (Nat.le_trans (Xn _) (by decide)) (ZaK (Nat.le_trans (Zdb _) (by decide)) (ZaK (Nat.le_trans (Xn _) (by decide)) (ZaK (Nat.le_trans (Xn _) (by decide)) (ZaK (y := ZlB) (by decide) (Nat.le_refl (Yc []).size)))))))) ?_;have h0 : (Yc []).size = 0 := rfl
 omega
theorem X8 {n : Zc} (h : n.ok = true) : IsRec (Yh n) (J7 n) := by
 rw [Zfa h, YX (by simp only [J7, length_cons, length_nil]; omega) (Nat.le_trans (Zg9 n) (by decide))];exact ⟨rfl, by simp only [J7, length_cons, length_nil]; omega⟩
theorem U1 (n : Zc) : (Yh n).size ≤ 1000 := by
 cases h : n.ok with
 | false => rw [JG h]; exact Nat.zero_le _
 | true => rw [← (X8 h).is]; exact Zg9 n
theorem ZjZ {m n : Zc} (hm : m.ok = true) (hn : n.ok = true) (h : Yh m = Yh n) : m = n := by
 have h1 := X8 hm;have h2 := X8 hn;rw [h] at h1;have e := h1.one h2;simp only [J7, List.cons.injEq, and_true] at e;obtain ⟨e1, e2, e3, e4, e5, e6⟩ := e;have a := (Zc.ok_is hm);have b := (Zc.ok_is hn);have sa := a.small;have sb := b.small;have ea : Yi m.aq ≤ 128 := by rcases sa.kind with e | e <;> rw [e] <;> decide
 have eb : Yi n.aq ≤ 128 := by rcases sb.kind with e | e <;> rw [e] <;> decide
 have k1 := sa.links; have k2 := sa.size; have k3 := sa.many; have k4 := sa.depth; have k5 := sa.kind;have l1 := sb.links; have l2 := sb.size; have l3 := sb.many; have l4 := sb.depth; have l5 := sb.kind;have j1 : m.aq = n.aq := Zbs (y := Yu n.aq) ⟨by omega, by omega, e1⟩ ⟨by omega, by omega, rfl⟩;have j2 : m.aA = n.aA := Zbs (y := Yu n.aA) ⟨by omega, by omega, e2⟩ ⟨by omega, by omega, rfl⟩;have j3 : m.av = n.av := Zbs (y := Yu n.av) ⟨by omega, by omega, e3⟩ ⟨by omega, by omega, rfl⟩;have j4 := ZdC a.root b.root e4;have j5 : m.au.az = n.au.az := Zbs (y := Yu n.au.az) ⟨by omega, by omega, e5⟩ ⟨by omega, by omega, rfl⟩;have j6 : m.au.aj = n.au.aj := Zbs (y := Yu n.au.aj) ⟨by omega, by omega, e6⟩ ⟨by omega, by omega, rfl⟩;obtain ⟨_, _, _, ⟨_, _, _⟩⟩ := m;obtain ⟨_, _, _, ⟨_, _, _⟩⟩ := n;simp only at j1 j2 j3 j4 j5 j6;rw [j1, j2, j3, j4, j5, j6]
open Classical in
noncomputable def JH (s : ByteArray) : Option Zc := if h : ∃ n : Zc, n.ok = true ∧ Yh n = s then some h.choose else none
theorem V6 {s : ByteArray} {n : Zc} (hn : n.ok = true) (h : Yh n = s) : JH s = some n := by
 have he : ∃ n : Zc, n.ok = true ∧ Yh n = s := ⟨n, hn, h⟩;unfold JH;rw [dif_pos he];have hc := he.choose_spec;rw [ZjZ hc.1 hn (hc.2.trans h.symm)]
theorem Zha {s : ByteArray} (h : ∀ n : Zc, n.ok = true → Yh n = s → False) : JH s = none := by
 unfold JH;rw [dif_neg fun ⟨n, hn, hs⟩ => h n hn hs]
theorem ZdM {s : ByteArray} {n : Zc} (h : JH s = some n) : n.ok = true ∧ Yh n = s := by
 unfold JH at h
 split at h
 ·next he => rw [← Option.some.inj h]; exact he.choose_spec
 ·cases h
theorem V7 {n : Zc} (h : n.ok = true) : ZnM n ∧ QX (Yu n.aq) = some n.aq.toNat ∧ QX (Yu n.aA) = some n.aA.toNat ∧ QX (Yu n.av) = some n.av.toNat ∧ QX (Yu n.au.az) = some n.au.az.toNat ∧ QX (Yu n.au.aj) = some n.au.aj.toNat := by
 have sa := (Zc.ok_is h).small;have ea : Yi n.aq ≤ 128 := by rcases sa.kind with e | e <;> rw [e] <;> decide
 have k1 := sa.links; have k2 := sa.size; have k3 := sa.many; have k4 := sa.depth; have k5 := sa.kind;exact ⟨sa, Yr (by omega), Yr (by omega), Yr (by omega), Yr (by omega), Yr (by omega)⟩
def Zn.give (s : Zn) (a : Nat) : Zn := { ac := s.ac.set a (s.ac.getD a 0 - 1), am := if s.ac.getD a 0 - 1 = 0 then s.am.set a 0 else s.am }
theorem Zn.give_refs (s : Zn) (a : Nat) : (s.give a).ac.length = s.ac.length := by simp [Zn.give]
theorem Zn.give_last (s : Zn) (a : Nat) : (s.give a).am.length = s.am.length := by unfold Zn.give; dsimp only; split <;> simp
def ZO (rows : List ByteArray) (s : Zn) (a : Nat) : List ByteArray := if s.ac.getD a 0 - 1 = 0 then rows.set a ByteArray.empty else rows
theorem Xo (rows : List ByteArray) (s : Zn) (a : Nat) : (ZO rows s a).length = rows.length := by unfold ZO; split <;> simp
def Qh (x : List ByteArray × Zn) (p : PtrD) : List ByteArray × Zn := (ZO x.1 x.2 p.aB.toNat, x.2.give p.aB.toNat)
def ZS (x : List ByteArray × Zn) (ps : List PtrD) : List ByteArray × Zn := ps.foldl Qh x
theorem Zf8 (x : List ByteArray × Zn) (ps : List PtrD) (p : PtrD) : ZS x (ps ++ [p]) = Qh (ZS x ps) p := by simp [ZS, List.foldl_append]
theorem J8 (x : List ByteArray × Zn) (ps : List PtrD) : (ZS x ps).1.length = x.1.length ∧ (ZS x ps).2.ac.length = x.2.ac.length ∧ (ZS x ps).2.am.length = x.2.am.length := by
 unfold ZS
 induction ps generalizing x with
 | nil => exact ⟨rfl, rfl, rfl⟩
 | cons p r ih =>
  obtain ⟨h1, h2, h3⟩ := ih (Qh x p);exact ⟨h1.trans (Xo _ _ _), h2.trans (Zn.give_refs _ _), h3.trans (Zn.give_last _ _)⟩
theorem Zj0 (s : Zn) (a i : Nat) (hi : i < s.ac.length) : (s.give a).ac.getD i 0 = s.ac.getD i 0 - if a = i then 1 else 0 := by
 unfold Zn.give;simp only [List.getD, List.getElem?_set]
 by_cases h : a = i
 ·subst h
  simp [hi]
 ·simp [h]
theorem Zbu (x : List ByteArray × Zn) (ps : List PtrD) (hp : ∀ p ∈ ps, 0 ≤ p.aB) (i : Nat) (hi : i < x.2.ac.length) : (ZS x ps).2.ac.getD i 0 = x.2.ac.getD i 0 - (cnt ps i : Int) := by
 unfold ZS
 induction ps generalizing x with
 | nil => simp [cnt]
 | cons p r ih =>
  have h1 := ih (Qh x p) (fun q hq => hp q (mem_cons_of_mem _ hq)) (by rw [show (Qh x p).2.ac.length = x.2.ac.length from Zn.give_refs _ _]; exact hi);rw [List.foldl_cons, h1, show (Qh x p).2 = x.2.give p.aB.toNat from rfl, Zj0 _ _ _ hi];have h2 : cnt (p :: r) i = (if p.aB = (i : Int) then 1 else 0) + cnt r i := by
   have := Zj [p] r i;rw [List.singleton_append] at this;rw [this]
   congr 1
   by_cases h : p.aB = (i : Int) <;> simp [cnt, h]
  have h0 := hp p mem_cons_self;rw [h2]
  by_cases h : p.aB = (i : Int)
  ·rw [if_pos h, if_pos (by omega)]; push_cast; omega
  ·rw [if_neg h, if_neg (by omega)]; push_cast; omega
def Za.nextOf (st : Za) : Za := { af := (ZS (st.af, st.aa) st.ag).1, aa := (ZS (st.af, st.aa) st.ag).2, al := st.al + 1, ag := [], aw := st.aw, ai := st.ai, ax := st.ax }
def Za.mayNext (st : Za) : Bool := st.ok && !(st.al == 900)
def Za.stepped (st : Za) : Za := if st.mayNext then st.nextOf else Za.zero
end Go.Proofs.YtfhdmfcfcgbgeaaGreat
