/- A part of the proof in YtfhdmfcfcgbgeaaGreatSoX29. -/
import Derived.Shelf.Strconv.Clone
import Derived.Shelf.Strings.Cut
import Derived.Test.YtfhdmfcfcgbgeaaGreatSoX19
namespace Go.Proofs.YtfhdmfcfcgbgeaaGreat
open _root_.ByteArray (size_extract)
open List (length_append length_cons length_nil length_take map_cons mem_append mem_append_left mem_append_right mem_cons mem_cons_of_mem mem_cons_self mem_singleton)
set_option linter.unusedVariables false
set_option linter.unusedSimpArgs false
set_option maxHeartbeats 1000000
set_option maxRecDepth 100000
open Go.RowKit
theorem Zk4 (n : Nat) : ∀ x ∈ (Zy n).data.toList, x ≠ 46 := by
 intro x hx e;subst e;rw [Ye] at hx;obtain ⟨d, hd⟩ := Jy n 46 hx;obtain ⟨h1, h10⟩ := Jv hd;have hn : (UInt8.ofNat (48 + d)).toNat = 48 + d := by rw [UInt8.toNat_ofNat']; omega
 rw [← h1] at hn;have : (46 : UInt8).toNat = 46 := rfl
 omega
theorem Vv {n : Int} (h : 0 ≤ n ∧ n ≤ 999999999) : ∀ x ∈ (Yu n).data.toList, x ≠ 46 := by rw [Y4 h.1 h.2]; exact Zk4 _
theorem Zbl {a : ByteArray} (h : ∀ x ∈ a.data.toList, x ≠ 46) (b : ByteArray) : Zd (a ++ (Zb1 ++ b)) 46 = a :: Zd b 46 := by
 unfold Zd;rw [Z0, Z0, show Zb1.data.toList = [46] from rfl, List.singleton_append, QE 46 _ _ h, map_cons]
theorem ZfV {a : ByteArray} (h : ∀ x ∈ a.data.toList, x ≠ 46) : Zd a 46 = [a] := by
 unfold Zd;rw [QV 46 _ h, map_cons, List.map_nil]
theorem Ze1 (a b c : ByteArray) : a ++ b ++ c = a ++ (b ++ c) := Yw (by simp only [Z0, List.append_assoc])
theorem Qe {p : PtrD} (h : p.ok = true) (hh : p.hole = false) : Zd (YH p) 46 = [Yu p.aB, Yu p.ak, Yu p.av, Yu p.aC, Yu p.ar] := by
 have hb := PtrD.ok_all h hh;rw [Vr h hh];simp only [Ze1];rw [Zbl (Vv (by omega)), Zbl (Vv (by omega)), Zbl (Vv (by omega)), Zbl (Vv (by omega)), ZfV (Vv (by omega))]
theorem Yq {n : Int} (h : 0 ≤ n ∧ n ≤ 999999999) : QW (Yu n) = some n.toNat := by rw [Y4 h.1 h.2]; exact Zbg (by omega)
theorem Zk5 {n : Int} {m : Nat} (h : 0 ≤ n ∧ n ≤ 999999999) (hg : QW (Yu n) = some m) : (m : Int) = n := by
 rw [Yq h] at hg;have := Option.some.inj hg
 omega
theorem YA {p : PtrD} (h : p.hole = true) : p = PtrD.zero := by
 unfold PtrD.hole at h;simp only [Bool.and_eq_true, beq_iff_eq] at h;obtain ⟨⟨⟨⟨h1, h2⟩, h3⟩, h4⟩, h5⟩ := h
 cases p
 simp only at h1 h2 h3 h4 h5;subst h1; subst h2; subst h3; subst h4; subst h5
 rfl
theorem ZgS {p : PtrD} {s : ByteArray} (h : p.ok = true) (hs : YH p = s) (hd : (s.toList == (⟨#[45]⟩ : ByteArray).toList) = false) : p.hole = false := by
 cases hh : p.hole with
 | false => rfl
 | true =>
  rw [QF h hh] at hs;rw [← hs, show ((⟨#[45]⟩ : ByteArray).toList == (⟨#[45]⟩ : ByteArray).toList) = true from beq_self_eq_true _] at hd
  cases hd
theorem ZnW {α : Type} {l : List α} (h : l.length = 5) : ∃ a b c d e, l = [a, b, c, d, e] := by
 match l, h with
 | [a, b, c, d, e], _ => exact ⟨a, b, c, d, e, rfl⟩
theorem Zdt {p q : PtrD} (hp : p.ok = true) (hq : q.ok = true) (h : YH p = YH q) : p = q := by
 cases h1 : p.hole with
 | true =>
  cases h2 : q.hole with
  | true => rw [YA h1, YA h2]
  | false =>
   have := Qe hq h2;rw [← h, QF hp h1] at this;exact absurd (congrArg List.length this) (show ¬ (1 : Nat) = 5 by decide)
 | false =>
  cases h2 : q.hole with
  | true =>
   have := Qe hp h1;rw [h, QF hq h2] at this;exact absurd (congrArg List.length this) (show ¬ (1 : Nat) = 5 by decide)
  | false =>
   have e1 := Qe hp h1;have e2 := Qe hq h2;rw [h, e2] at e1;have hb := PtrD.ok_all hp h1;have hc := PtrD.ok_all hq h2;simp only [List.cons.injEq, and_true] at e1;obtain ⟨k1, k2, k3, k4, k5⟩ := e1;have num : ∀ {m n : Int}, 0 ≤ m ∧ m ≤ 999999999 → 0 ≤ n ∧ n ≤ 999999999 → Yu m = Yu n → n = m := fun hm hn e => by
    have := Yq hm;rw [e, Yq hn] at this;have := Option.some.inj this
    omega
   have j1 := num (by omega) (by omega) k1;have j2 := num (by omega) (by omega) k2;have j3 := num (by omega) (by omega) k3;have j4 := num (by omega) (by omega) k4;have j5 := num (by omega) (by omega) k5
   cases p; cases q
   simp only at j1 j2 j3 j4 j5;subst j1; subst j2; subst j3; subst j4; subst j5
   rfl
open Go.RowKit Go.Lib
def Zk6 : ByteArray := ⟨#[44]⟩
def fanB (l : List PtrD) : ByteArray := QU (l.map YH) Zk6
theorem Zbm (c : UInt8) : ∀ (x : List UInt8) (r : List (List UInt8)), (∀ y ∈ x :: r, ∀ b ∈ y, b ≠ c) → splitL c (Go.Lib.join (x :: r) [c]) = x :: r
 | x, [], h => by
  rw [show Go.Lib.join [x] [c] = x by simp [Go.Lib.join, Go.Lib.joinTail]];exact QV c x (h x (mem_cons_self ..))
 | x, y :: r, h => by
  have e : Go.Lib.join (x :: y :: r) [c] = x ++ c :: Go.Lib.join (y :: r) [c] := by simp [Go.Lib.join, Go.Lib.joinTail]
  rw [e, QE c _ x (h x (mem_cons_self ..)), Zbm c y r fun z hz => h z (mem_cons_of_mem _ hz)]
theorem ZgT {l : List ByteArray} {c : UInt8} (hne : l ≠ []) (h : ∀ y ∈ l, ∀ b ∈ y.data.toList, b ≠ c) : Zd (QU l ⟨#[c]⟩) c = l := by
 match l, hne with
 | x :: r, _ =>
  unfold Zd QU;show (splitL c (Go.Lib.join ((x :: r).map (·.data.toList)) [c])).map _ = _;rw [map_cons, Zbm c _ _ (fun y hy b hb => by
   rcases mem_cons.1 hy with rfl | hy
   ·exact h x (mem_cons_self ..) b hb
   ·obtain ⟨z, hz, rfl⟩ := List.mem_map.1 hy
    exact h z (mem_cons_of_mem _ hz) b hb), ← map_cons (f := fun y : ByteArray => y.data.toList)]
  exact Zdn (x :: r)
theorem ZmD (c : UInt8) (hc : digitVal c = none) (n : Nat) : ∀ x ∈ (Zy n).data.toList, x ≠ c := by
 intro x hx e;subst e;obtain ⟨d, hd⟩ := Jy n x (by rw [← Ye]; exact hx);rw [hc] at hd
 cases hd
theorem ZfW (c : UInt8) (hc : digitVal c = none) (n : Int) : ∀ x ∈ (Yu n).data.toList, x ≠ c := by
 unfold Yu
 split
 ·exact ZmD c hc _
 ·intro x hx; simp at hx
theorem Zk7 (p : PtrD) : ∀ x ∈ (YH p).data.toList, x ≠ 44 := by
 cases h : p.ok with
 | false => rw [ZfT h]; intro x hx; simp at hx
 | true =>
  cases hh : p.hole with
  | true => rw [QF h hh]; intro x hx; rw [show x = 45 from by simpa using hx]; decide
  | false =>
   rw [Vr h hh];intro x hx;have hn := fun n => ZfW 44 (by decide) n x
   simp only [Z0, mem_append, show Zb1.data.toList = [46] from rfl, mem_singleton] at hx;rcases hx with (((((((hx | hx) | hx) | hx) | hx) | hx) | hx) | hx) | hx
   all_goals first | exact hn _ hx | (rw [hx]; decide)
theorem ZaB {l : List PtrD} (hne : l ≠ []) : Zd (fanB l) 44 = l.map YH := by
 refine ZgT (by simpa using hne) fun y hy => ?_;obtain ⟨p, _, rfl⟩ := List.mem_map.1 hy;exact Zk7 p
structure IsFan (s : ByteArray) (l : List PtrD) : Prop where
  n : l.length = 4
  ok : ∀ p ∈ l, p.ok = true
  some : l.all (fun p => p.hole) = false
  is : fanB l = s
theorem ZiU {l m : List PtrD} (hl : ∀ p ∈ l, p.ok = true) (hm : ∀ p ∈ m, p.ok = true) (h : l.map YH = m.map YH) : l = m := by
 induction l generalizing m with
 | nil => cases m with
  | nil => rfl
  | cons _ _ => simp at h
 | cons p l ih => cases m with
  | nil => simp at h
  | cons q m =>
   simp only [map_cons, List.cons.injEq] at h;rw [Zdt (hl p (mem_cons_self ..)) (hm q (mem_cons_self ..)) h.1, ih (fun x hx => hl x (mem_cons_of_mem _ hx)) (fun x hx => hm x (mem_cons_of_mem _ hx)) h.2]
theorem IsFan.one {s : ByteArray} {l m : List PtrD} (h : IsFan s l) (k : IsFan s m) : l = m := by
 refine ZiU h.ok k.ok ?_;rw [← ZaB (l := l) (fun e => by have := h.n; rw [e] at this; cases this), ← ZaB (l := m) (fun e => by have := k.n; rw [e] at this; cases this), h.is, k.is]
theorem IsFan.pieces {s : ByteArray} {l : List PtrD} (h : IsFan s l) : Zd s 44 = l.map YH := by
 rw [← h.is];exact ZaB fun e => by have := h.n; rw [e] at this; cases this
open Classical in
noncomputable def Zk8 (s : ByteArray) : Option (List PtrD) := if h : ∃ l, IsFan s l then some h.choose else none
theorem ZgU {s : ByteArray} {l : List PtrD} (h : IsFan s l) : Zk8 s = some l := by
 have he : ∃ l, IsFan s l := ⟨l, h⟩;unfold Zk8;rw [dif_pos he, he.choose_spec.one h]
theorem ZmE {s : ByteArray} (h : ∀ l, ¬ IsFan s l) : Zk8 s = none := by
 unfold Zk8;rw [dif_neg fun ⟨l, hl⟩ => h l hl]
open Go.RowKit
def X5 (p : PtrD) (s : ByteArray) : Bool := p.ok && (!p.hole && ((p.av == (s.size : Int)) && (p.aC == Us s)))
def Yf (st : Za) (p : PtrD) : ByteArray := st.af.getD p.aB.toNat ByteArray.empty
def Zm (st : Za) (p : PtrD) : ByteArray := bif p.hole then ByteArray.empty else bif X5 p (Yf st p) then Yf st p else ByteArray.empty
def XF (st : Za) (p : PtrD) : Bool := bif p.hole then true else X5 p (Yf st p)
theorem YX {st : Za} {p : PtrD} (h : p.hole = true) : Zm st p = ByteArray.empty := by unfold Zm; rw [h]; rfl
theorem ZaC {st : Za} {p : PtrD} (h : p.hole = true) : XF st p = true := by unfold XF; rw [h]; rfl
theorem Jg {st : Za} {p : PtrD} (h : p.hole = false) (hf : X5 p (Yf st p) = true) : Zm st p = Yf st p := by unfold Zm; rw [h, hf]; rfl
theorem ZgV {st : Za} {p : PtrD} (h : p.hole = false) (hf : X5 p (Yf st p) = false) : Zm st p = ByteArray.empty := by unfold Zm; rw [h, hf]; rfl
theorem Qt {st : Za} {p : PtrD} (h : p.hole = false) : XF st p = X5 p (Yf st p) := by unfold XF; rw [h]; rfl
def Yx : List PtrD := [PtrD.zero, PtrD.zero, PtrD.zero, PtrD.zero]
theorem XU : PtrD.zero.hole = true := rfl
noncomputable def kids (st : Za) (p : PtrD) (level : Int) : Option (List PtrD) :=
 bif p.hole then some Yx else bif XF st p && (p.ar == level) then (Zk8 (Zm st p)).bind fun l => bif l.any (fun k => decide (p.ak < k.ak)) then none else some l else none
noncomputable def kidsS (st : Za) (p : PtrD) (level : Int) : Option (List PtrD) :=
 bif p.hole then some Yx else bif p.ok && ((p.ar == level) && decide (p.ak ≤ st.am)) then kids st p level else none
theorem Jh {st : Za} {p : PtrD} {n : Int} (h : p.hole = true) : kids st p n = some Yx := by unfold kids; rw [h]; rfl
theorem JC {st : Za} {p : PtrD} {n : Int} (h : p.hole = true) : kidsS st p n = some Yx := by unfold kidsS; rw [h]; rfl
theorem ZcE {st : Za} {p : PtrD} {n : Int} (h : p.hole = false) (hr : XF st p = false) : kids st p n = none := by unfold kids; rw [h, hr]; rfl
theorem Zdu {st : Za} {p : PtrD} {n : Int} (h : p.hole = false) (hr : (p.ar == n) = false) : kids st p n = none := by unfold kids; rw [h, hr, Bool.and_false]; rfl
theorem Zdv {st : Za} {p : PtrD} {n : Int} (h : p.hole = false) (hf : ∀ l, ¬ IsFan (Zm st p) l) : kids st p n = none := by
 unfold kids;rw [h, ZmE hf]
 cases (XF st p && (p.ar == n)) <;> rfl
theorem Ze2 {st : Za} {p : PtrD} {n : Int} {l : List PtrD} (h : p.hole = false) (hf : IsFan (Zm st p) l) (hb : l.any (fun k => decide (p.ak < k.ak)) = true) : kids st p n = none := by
 unfold kids;rw [h, ZgU hf]
 cases (XF st p && (p.ar == n))
 ·rfl
 ·simp only [cond_true, cond_false, Option.bind_some, hb]
theorem Zdw {st : Za} {p : PtrD} {n : Int} {l : List PtrD} (h : p.hole = false) (hr : XF st p = true) (hn : (p.ar == n) = true) (hf : IsFan (Zm st p) l) (hb : l.any (fun k => decide (p.ak < k.ak)) = false) : kids st p n = some l := by
 unfold kids;rw [h, ZgU hf, hr, hn];simp only [cond_true, cond_false, Option.bind_some, hb, Bool.and_self]
theorem Qu {st : Za} {p : PtrD} {n : Int} {l : List PtrD} (h : kids st p n = some l) : l.length = 4 ∧ (∀ k ∈ l, k.ok = true) ∧ (p.hole = true ∧ l = Yx ∨ p.hole = false ∧ p.ar = n ∧ XF st p = true ∧ IsFan (Zm st p) l ∧ ∀ k ∈ l, k.ak ≤ p.ak) := by
 cases hh : p.hole with
 | true =>
  rw [Jh hh] at h;obtain rfl := Option.some.inj h;exact ⟨rfl, fun k hk => by simp only [Yx, mem_cons, List.not_mem_nil, or_false, or_self] at hk; rw [hk]; rfl, .inl ⟨rfl, rfl⟩⟩
 | false =>
  cases hr : XF st p with
  | false => rw [ZcE hh hr] at h; cases h
  | true =>
   cases hn : (p.ar == n) with
   | false => rw [Zdu hh hn] at h; cases h
   | true =>
    by_cases hf : ∃ m, IsFan (Zm st p) m
    ·obtain ⟨m, hm⟩ := hf
     cases hb : m.any (fun k => decide (p.ak < k.ak)) with
     | true => rw [Ze2 hh hm hb] at h; cases h
     | false =>
      rw [Zdw hh hr hn hm hb] at h;obtain rfl := Option.some.inj h;refine ⟨hm.n, hm.ok, .inr ⟨rfl, eq_of_beq hn, rfl, hm, fun k hk => ?_⟩⟩;have := (List.any_eq_false.1 hb) k hk;have := of_decide_eq_false (by simpa using this : decide (p.ak < k.ak) = false)
      omega
    ·rw [Zdv hh fun l hl => hf ⟨l, hl⟩] at h; cases h
theorem JD {st : Za} {p : PtrD} {n : Int} (hp : p.ok = true) (hb : p.ak ≤ st.am) : kidsS st p n = kids st p n := by
 unfold kidsS;rw [hp, decide_eq_true hb, Bool.and_true, Bool.true_and]
 cases hh : p.hole with
 | true => rw [Jh hh]; rfl
 | false =>
  cases hn : (p.ar == n) with
  | false => rw [Zdu hh hn]; rfl
  | true => rfl
theorem Vw {st : Za} {p : PtrD} {n : Int} (h : p.hole = false) (hn : (p.ok && ((p.ar == n) && decide (p.ak ≤ st.am))) = false) : kidsS st p n = none := by unfold kidsS; rw [h, hn]; rfl
theorem Uv {st : Za} {p : PtrD} {n : Int} {l : List PtrD} (h : kidsS st p n = some l) : kids st p n = some l ∧ (p.hole = false → p.ok = true ∧ p.ak ≤ st.am) := by
 cases hh : p.hole with
 | true => rw [JC hh] at h; rw [Jh hh]; exact ⟨h, fun e => by cases e⟩
 | false =>
  cases hc : (p.ok && ((p.ar == n) && decide (p.ak ≤ st.am))) with
  | false => rw [Vw hh hc] at h; cases h
  | true =>
   unfold kidsS at h;rw [hh, hc] at h;simp only [Bool.and_eq_true, decide_eq_true_eq] at hc;exact ⟨h, fun _ => ⟨hc.1, hc.2.2⟩⟩
noncomputable def YB (f : PtrD → Option (List PtrD)) : List PtrD → Option (List PtrD)
 | [] => some []
 | p :: r => (f p).bind fun k => (YB f r).map (k ++ ·)
theorem Vx {f : PtrD → Option (List PtrD)} {p : PtrD} {r : List PtrD} (h : f p = none) : YB f (p :: r) = none := by show Option.bind _ _ = _; rw [h]; rfl
theorem V3 {f : PtrD → Option (List PtrD)} {p : PtrD} {r k : List PtrD} (h : f p = some k) : YB f (p :: r) = (YB f r).map (k ++ ·) := by show Option.bind _ _ = _; rw [h]; rfl
theorem ZmF {o : Option (List PtrD)} (a b : List PtrD) : (o.map (b ++ ·)).map (a ++ ·) = o.map ((a ++ b) ++ ·) := by cases o <;> simp
theorem ZcF {f g : PtrD → Option (List PtrD)} : ∀ {l : List PtrD}, (∀ p ∈ l, f p = g p) → YB f l = YB g l
 | [], _ => rfl
 | p :: r, h => by
  show Option.bind _ _ = Option.bind _ _;rw [h p (mem_cons_self ..), ZcF fun q hq => h q (mem_cons_of_mem _ hq)]
theorem Zb2 {f : PtrD → Option (List PtrD)} : ∀ {l m : List PtrD}, YB f l = some m → (∀ p ∈ l, ∃ k, f p = some k) ∧ (∀ q ∈ m, ∃ p ∈ l, ∃ k, f p = some k ∧ q ∈ k) ∧ (∀ p ∈ l, ∀ k, f p = some k → ∀ q ∈ k, q ∈ m)
 | [], m, h => by
  obtain rfl : [] = m := Option.some.inj h;exact ⟨fun p hp => (nomatch hp), fun p hp => (nomatch hp), fun p hp => (nomatch hp)⟩
 | p :: r, m, h => by
  cases hk : f p with
  | none => rw [Vx hk] at h; cases h
  | some k =>
   rw [V3 hk] at h
   cases hn : YB f r with
   | none => rw [hn] at h; cases h
   | some n =>
    rw [hn] at h;obtain rfl : k ++ n = m := Option.some.inj h;obtain ⟨i1, i2, i3⟩ := Zb2 hn;refine ⟨fun q hq => ?_, fun q hq => ?_, fun q hq k2 hk2 x hx => ?_⟩
    ·rcases mem_cons.1 hq with rfl | hq
     ·exact ⟨k, hk⟩
     ·exact i1 q hq
    ·rcases mem_append.1 hq with hq | hq
     ·exact ⟨p, mem_cons_self .., k, hk, hq⟩
     ·obtain ⟨y, hy, z, hz, hq⟩ := i2 q hq
      exact ⟨y, mem_cons_of_mem _ hy, z, hz, hq⟩
    ·rcases mem_cons.1 hq with rfl | hq
     ·rw [hk] at hk2
      obtain rfl := Option.some.inj hk2;exact mem_append_left _ hx
     ·exact mem_append_right _ (i3 q hq k2 hk2 x hx)
theorem Ze3 {f : PtrD → Option (List PtrD)} (hf : ∀ p k, f p = some k → k.length = 4) : ∀ {l m : List PtrD}, YB f l = some m → m.length = 4 * l.length
 | [], m, h => by obtain rfl : [] = m := Option.some.inj h; rfl
 | p :: r, m, h => by
  cases hk : f p with
  | none => rw [Vx hk] at h; cases h
  | some k =>
   rw [V3 hk] at h
   cases hn : YB f r with
   | none => rw [hn] at h; cases h
   | some n =>
    rw [hn] at h;obtain rfl : k ++ n = m := Option.some.inj h;have := Ze3 hf hn;rw [length_append, hf p k hk, length_cons]; omega
noncomputable def downL (f : PtrD → Int → Option (List PtrD)) : Nat → List PtrD → Option (List PtrD)
 | 0, l => some l
 | n + 1, l => (YB (fun p => f p ((n + 1 : Nat) : Int)) l).bind (downL f n)
theorem JE {f : PtrD → Int → Option (List PtrD)} {n : Nat} {l : List PtrD} (h : YB (fun p => f p ((n + 1 : Nat) : Int)) l = none) : downL f (n + 1) l = none := by show Option.bind _ _ = _; rw [h]; rfl
theorem Ji {f : PtrD → Int → Option (List PtrD)} {n : Nat} {l m : List PtrD} (h : YB (fun p => f p ((n + 1 : Nat) : Int)) l = some m) : downL f (n + 1) l = downL f n m := by show Option.bind _ _ = _; rw [h]; rfl
theorem Zb3 {f : PtrD → Int → Option (List PtrD)} (hf : ∀ p n k, f p n = some k → k.length = 4) : ∀ {n : Nat} {l m : List PtrD}, downL f n l = some m → m.length = 4 ^ n * l.length
 | 0, l, m, h => by obtain rfl : l = m := Option.some.inj h; omega
 | n + 1, l, m, h => by
  cases hn : YB (fun p => f p ((n + 1 : Nat) : Int)) l with
  | none => rw [JE hn] at h; cases h
  | some x =>
   rw [Ji hn] at h;rw [Zb3 hf h, Ze3 (fun p k => hf p _ k) hn, Nat.pow_succ, Nat.mul_assoc]
def depthN (many : Int) : Nat := if many ≤ 1 then 0 else if many ≤ 4 then 1 else 2
theorem YC (many : Int) : depthN many ≤ 2 := by unfold depthN; split <;> (try split) <;> omega
theorem ZaD {many : Int} (h : many ≤ 16) : many ≤ ((4 ^ depthN many : Nat) : Int) := by
 unfold depthN
 split
 ·simp; omega
 ·split
  ·simp; omega
  ·simp; omega
def ZgW (st : Za) (many : Int) (i : Nat) (p : PtrD) : Bool := bif p.hole then p.ar == 0 else XF st p && ((p.ar == 0) && decide ((i : Int) < many))
def QO (st : Za) (many : Int) : Nat → List PtrD → Bool
 | _, [] => true
 | i, p :: r => ZgW st many i p && QO st many (i + 1) r
def topB (st : Za) (t : Ze) : Bool := inB t.aj 0 16 && ((t.az == (depthN t.aj : Int)) && (t.ah.ok && decide (t.ah.ak ≤ st.am)))
noncomputable def leavesF (st : Za) (t : Ze) : Option (List PtrD) :=
 bif topB st t then (downL (kids st) (depthN t.aj) [t.ah]).bind fun l => bif QO st t.aj 0 l then some (l.take t.aj.toNat) else none else none
noncomputable def Vy (st : Za) (t : Ze) : Bool := (leavesF st t).isSome
theorem Vz {st : Za} {t : Ze} (h : topB st t = false) : leavesF st t = none := by unfold leavesF; rw [h]; rfl
theorem Zbn {st : Za} {t : Ze} (h : downL (kids st) (depthN t.aj) [t.ah] = none) : leavesF st t = none := by
 unfold leavesF
 cases topB st t
 ·rfl
 ·rw [h]; rfl
theorem ZcG {st : Za} {t : Ze} {l : List PtrD} (h : downL (kids st) (depthN t.aj) [t.ah] = some l) (hb : QO st t.aj 0 l = false) : leavesF st t = none := by
 unfold leavesF
 cases topB st t
 ·rfl
 ·rw [h]
  simp only [cond_true, cond_false, Option.bind_some, hb]
theorem VA {st : Za} {t : Ze} {l : List PtrD} (h0 : topB st t = true) (h : downL (kids st) (depthN t.aj) [t.ah] = some l) (hb : QO st t.aj 0 l = true) : leavesF st t = some (l.take t.aj.toNat) := by
 unfold leavesF;rw [h0, h];simp only [cond_true, cond_false, Option.bind_some, hb]
theorem VB {st : Za} {p : PtrD} {n : Int} {k : List PtrD} (h : kids st p n = some k) : k.length = 4 := (Qu h).1
theorem ZaE {st : Za} {t : Ze} {r : List PtrD} (h : leavesF st t = some r) : ∃ l, topB st t = true ∧ downL (kids st) (depthN t.aj) [t.ah] = some l ∧ QO st t.aj 0 l = true ∧ r = l.take t.aj.toNat ∧ l.length = 4 ^ depthN t.aj ∧ r.length = t.aj.toNat := by
 cases h0 : topB st t with
 | false => rw [Vz h0] at h; cases h
 | true =>
  cases h1 : downL (kids st) (depthN t.aj) [t.ah] with
  | none => rw [Zbn h1] at h; cases h
  | some l =>
   cases h2 : QO st t.aj 0 l with
   | false => rw [ZcG h1 h2] at h; cases h
   | true =>
    rw [VA h0 h1 h2] at h;obtain rfl := Option.some.inj h;have hl : l.length = 4 ^ depthN t.aj := by rw [Zb3 (fun p n k => VB) h1]; simp
    refine ⟨l, rfl, rfl, h2, rfl, hl, ?_⟩;unfold topB at h0;rw [Bool.and_eq_true] at h0;have hi := Zt h0.1;have := ZaD hi.2;rw [length_take, hl]
    omega
theorem UX {st : Za} : ∀ {n : Nat} {l : List PtrD}, (∀ p ∈ l, p.ok = true ∧ p.ak ≤ st.am) → 0 ≤ st.am → downL (kidsS st) n l = downL (kids st) n l ∧ ∀ m, downL (kids st) n l = some m → ∀ p ∈ m, p.ok = true ∧ p.ak ≤ st.am
 | 0, l, h, _ => ⟨rfl, fun m hm p hp => by obtain rfl : l = m := Option.some.inj hm; exact h p hp⟩
 | n + 1, l, h, h0 => by
  have e : YB (fun p => kidsS st p ((n + 1 : Nat) : Int)) l = YB (fun p => kids st p ((n + 1 : Nat) : Int)) l := ZcF fun p hp => JD (h p hp).1 (h p hp).2
  cases hn : YB (fun p => kids st p ((n + 1 : Nat) : Int)) l with
  | none => rw [JE (e.trans hn), JE hn]; exact ⟨rfl, fun m hm => by cases hm⟩
  | some x =>
   rw [Ji (e.trans hn), Ji hn];refine UX (fun q hq => ?_) h0;obtain ⟨p, hp, k, hk, hq⟩ := (Zb2 hn).2.1 q hq;obtain ⟨_, ok, hc⟩ := Qu hk;refine ⟨ok q hq, ?_⟩;rcases hc with ⟨_, rfl⟩ | ⟨_, _, _, _, hb⟩
   ·simp only [Yx, mem_cons, List.not_mem_nil, or_false, or_self] at hq
    rw [hq]; exact h0
   ·have := hb q hq; have := (h p hp).2; omega
def Zaj (st : Za) (many : Int) (i : Nat) (p : PtrD) : Bool := bif p.hole then true else XF st p && ((p.ar == 0) && (decide (p.ak ≤ st.am) && decide ((i : Int) < many)))
def XV (st : Za) (many : Int) : Nat → List PtrD → Bool
 | _, [] => true
 | i, p :: r => Zaj st many i p && XV st many (i + 1) r
theorem Zdx {p : PtrD} (h : p.hole = true) : p.ar = 0 := by rw [YA h]; rfl
theorem Zdy {p : PtrD} (h : p.hole = true) : p.ak = 0 := by rw [YA h]; rfl
theorem Zk9 {st : Za} {many : Int} {i : Nat} {p : PtrD} (h : p.ak ≤ st.am) : Zaj st many i p = ZgW st many i p := by
 unfold Zaj ZgW
 cases hh : p.hole with
 | true => show true = (p.ar == 0); rw [Zdx hh]; rfl
 | false => rw [decide_eq_true h, Bool.true_and]; rfl
theorem Zdz {st : Za} {many : Int} : ∀ {i : Nat} {l : List PtrD}, (∀ p ∈ l, p.ak ≤ st.am) → XV st many i l = QO st many i l
 | _, [], _ => rfl
 | i, p :: r, h => by
  show (_ && _) = (_ && _);rw [Zk9 (h p (mem_cons_self ..)), Zdz fun q hq => h q (mem_cons_of_mem _ hq)]
def ZaF (t : Ze) : Bool := inB t.aj 0 16 && ((t.az == (depthN t.aj : Int)) && t.ah.ok)
noncomputable def okS (st : Za) (t : Ze) : Bool := ZaF t && match downL (kidsS st) (depthN t.aj) [t.ah] with | none => false | some l => XV st t.aj 0 l
theorem Zc5 {st : Za} {t : Ze} (h : ZaF t = false) : okS st t = false := by unfold okS; rw [h]; rfl
theorem ZdA {st : Za} {t : Ze} (h : downL (kidsS st) (depthN t.aj) [t.ah] = none) : okS st t = false := by unfold okS; rw [h, Bool.and_false]
theorem ZaG {st : Za} {t : Ze} {l : List PtrD} (h0 : ZaF t = true) (h : downL (kidsS st) (depthN t.aj) [t.ah] = some l) : okS st t = XV st t.aj 0 l := by unfold okS; rw [h0, h]; rfl
theorem Zla {st : Za} {t : Ze} (h0 : 0 ≤ st.am) : okS st t = Vy st t := by
 unfold Vy
 cases ht : ZaF t with
 | false =>
  rw [Zc5 ht, Vz (by unfold topB; unfold ZaF at ht; rw [← Bool.and_assoc, ← Bool.and_assoc]; rw [← Bool.and_assoc] at ht; rw [ht]; rfl)]; rfl
 | true =>
  have hok : t.ah.ok = true := by unfold ZaF at ht; simp only [Bool.and_eq_true] at ht; exact ht.2.2
  by_cases hb : t.ah.ak ≤ st.am
  ·have htop : topB st t = true := by unfold topB; unfold ZaF at ht; rw [decide_eq_true hb, Bool.and_true]; exact ht
   obtain ⟨e, hy⟩ := UX (st := st) (n := depthN t.aj) (l := [t.ah]) (fun p hp => by rw [mem_singleton.1 hp]; exact ⟨hok, hb⟩) h0
   cases hd : downL (kids st) (depthN t.aj) [t.ah] with
   | none => rw [ZdA (e.trans hd), Zbn hd]; rfl
   | some l =>
    rw [ZaG ht (e.trans hd), Zdz fun p hp => (hy l hd p hp).2]
    cases hl : QO st t.aj 0 l with
    | true => rw [VA htop hd hl]; rfl
    | false => rw [ZcG hd hl]; rfl
  ·have htop : topB st t = false := by unfold topB; rw [decide_eq_false hb]; simp
   rw [Vz htop];have hh : t.ah.hole = false := by
    cases hh : t.ah.hole with
    | false => rfl
    | true => have := Zdy hh; omega
   cases hd : depthN t.aj with
   | zero =>
    rw [ZaG (l := [t.ah]) ht (by rw [hd]; rfl)];show (Zaj st t.aj 0 t.ah && true) = false;unfold Zaj;rw [hh, decide_eq_false hb]; simp
   | succ n =>
    rw [ZdA (by rw [hd]; exact JE (Vx (Vw hh (by rw [decide_eq_false hb]; simp))))]; rfl
noncomputable def allL (st : Za) : Nat → PtrD → List PtrD
 | 0, p => bif p.hole then [] else [p]
 | n + 1, p => bif p.hole then [] else p :: ((kids st p ((n + 1 : Nat) : Int)).getD []).flatMap (allL st n)
theorem ZQ {st : Za} {p : PtrD} (h : p.hole = true) : ∀ n, allL st n p = []
 | 0 => by unfold allL; rw [h]; rfl
 | n + 1 => by unfold allL; rw [h]; rfl
theorem Qm {st : Za} {p : PtrD} (h : p.hole = false) : allL st 0 p = [p] := by unfold allL; rw [h]; rfl
theorem YK {st : Za} {p : PtrD} {n : Nat} {l : List PtrD} (h : p.hole = false) (hk : kids st p ((n + 1 : Nat) : Int) = some l) : allL st (n + 1) p = p :: l.flatMap (allL st n) := by
 show (bif p.hole then [] else p :: ((kids st p ((n + 1 : Nat) : Int)).getD []).flatMap (allL st n)) = _;rw [h, hk]; rfl
def Wf (st : Za) : Nat → PtrD → Prop
 | 0, p => p.ok = true ∧ p.ak ≤ st.am ∧ p.ar = 0 ∧ XF st p = true
 | n + 1, p => p.ok = true ∧ p.ak ≤ st.am ∧ ∃ l, kids st p ((n + 1 : Nat) : Int) = some l ∧ ∀ k ∈ l, Wf st n k
theorem Wf.ok {st : Za} : ∀ {n : Nat} {p : PtrD}, Wf st n p → p.ok = true ∧ p.ak ≤ st.am
 | 0, _, h => ⟨h.1, h.2.1⟩
 | _ + 1, _, h => ⟨h.1, h.2.1⟩
theorem Wf.level {st : Za} : ∀ {n : Nat} {p : PtrD}, Wf st n p → p.hole = false → p.ar = (n : Int)
 | 0, _, h, _ => h.2.2.1
 | n + 1, p, ⟨_, _, l, hk, _⟩, hh => by
  rcases (Qu hk).2.2 with ⟨e, _⟩ | ⟨_, e, _⟩
  ·rw [hh] at e; cases e
  ·exact e
theorem Wf.zero {st : Za} (h0 : 0 ≤ st.am) : ∀ n, Wf st n PtrD.zero
 | 0 => ⟨rfl, h0, rfl, rfl⟩
 | n + 1 => ⟨rfl, h0, Yx, Jh rfl, fun k hk => by
  simp only [Yx, mem_cons, List.not_mem_nil, or_false, or_self] at hk;rw [hk]; exact Wf.zero h0 n⟩
open Go.RowKit Go.Lib
theorem ZfX : digitVal 58 = none := by decide
theorem ZiV {s : ByteArray} {n k : Nat} (h : l1S s n k) (h0 : k ≠ 0) (hc : s.data.toList[k]? = some 58) : k < s.size ∧ QW (s.extract 0 k) = some n := by
 have hz := Zi s;have hk : k < s.data.toList.length := (List.getElem?_eq_some_iff.1 hc).1;refine ⟨by omega, ?_⟩;rcases h with ⟨h1, h2, h3, _, h5⟩ | ⟨rfl, rfl, _, b, d, h4, h6⟩
 ·have hsz : (s.extract 0 k).size = k := by rw [size_extract]; omega
  have hl : (s.extract 0 k).data.toList = s.data.toList.take k := by rw [Z3]; simp
  refine ZiQ (k := k) (.inl ⟨h1, by omega, by rw [hl, List.take_take, Nat.min_self]; exact h3, .inl hsz.symm, fun hx => h5 ⟨hx.1, ?_⟩⟩) h0 hsz.symm;rw [hl] at hx
  match hx2 : s.data.toList, hk with
  | a :: r, _ =>
   rw [hx2] at hx
   match k, h0 with
   | k + 1, _ => exact hx.2
 ·rw [hc] at h4
  obtain rfl := Option.some.inj h4;rw [ZfX] at h6; cases h6
theorem ZfY {l : List UInt8} {b : UInt8} (hb : b ∈ l) (hd : digitVal b = none) : ∀ acc, decFrom acc l = none := by
 induction l with
 | nil => cases hb
 | cons c r ih =>
  intro acc;unfold decFrom;rcases mem_cons.1 hb with rfl | hb
  ·rw [hd]
  ·cases digitVal c with
   | none => rfl
   | some d => exact ih hb _
theorem ZmG {s : ByteArray} {n k m : Nat} {t : List UInt8} (h : l1S s n k) (hm : m ≤ 999999999) (hs : s.data.toList = (Zy m).data.toList ++ 58 :: t) : k = (Zy m).size ∧ n = m ∧ s.data.toList[k]? = some 58 := by
 have hz := Zi s;have hd9 := Uk hm;have hdp := Zbb m;have hdz := Zi (Zy m);have hall := Jy m;rw [← Ye] at hall;have hlen : s.data.toList.length = (Zy m).data.toList.length + (t.length + 1) := by rw [hs, length_append, length_cons]
 have hcol : s.data.toList[(Zy m).size]? = some 58 := by rw [hs, hdz, List.getElem?_append_right (Nat.le_refl _), Nat.sub_self]; rfl
 have hin : ∀ i, i < (Zy m).size → ∃ b d, s.data.toList[i]? = some b ∧ digitVal b = some d := fun i hi => by
  have hi2 : i < (Zy m).data.toList.length := by omega
  obtain ⟨d, hd⟩ := hall _ (List.getElem_mem hi2);exact ⟨_, d, by rw [hs, List.getElem?_append_left hi2, List.getElem?_eq_getElem hi2], hd⟩
 have hk : k = (Zy m).size := by
  rcases h with ⟨h1, h2, h3, h4, _⟩ | ⟨rfl, rfl, h3, b, d, h4, h6⟩
  ·rcases Nat.lt_trichotomy k (Zy m).size with hlt | he | hgt
   ·obtain ⟨b, d, hb, hd⟩ := hin k hlt
    rcases h4 with h4 | h4 | ⟨c, h4, h6⟩
    ·omega
    ·omega
    ·rw [hb] at h4
     obtain rfl := Option.some.inj h4;rw [hd] at h6; cases h6
   ·exact he
   ·have hmem : (58 : UInt8) ∈ s.data.toList.take k := by
     refine List.mem_of_getElem? (i := (Zy m).size) ?_;rw [List.getElem?_take, if_pos hgt]; exact hcol
    rw [ZfY hmem ZfX] at h3; cases h3
  ·rcases Nat.lt_or_ge m 10 with hlt | hge
   ·have h1 : (Zy m).size = 1 := by rw [hdz, Ye, decDigits_one hlt]; rfl
    rw [h1] at hcol;rw [hcol] at h4;obtain rfl := Option.some.inj h4;rw [ZfX] at h6; cases h6
   ·obtain ⟨e, he, h1, h9⟩ := ZcD m hge
    rw [← Ye] at he;have : s.data.toList.head? = (Zy m).data.toList.head? := by
     rw [hs]
     match hq : (Zy m).data.toList, hdp, hdz with
     | a :: r, _, _ => rfl
     | [], hp, hq2 => have hz0 : ([] : List UInt8).length = 0 := rfl; omega
    rw [this, he] at h3;have hv := Option.some.inj h3;have : (UInt8.ofNat (48 + e)).toNat = 48 + e := by rw [UInt8.toNat_ofNat']; omega
    rw [hv] at this;have : (48 : UInt8).toNat = 48 := rfl
    omega
 refine ⟨hk, ?_, by rw [hk]; exact hcol⟩;have hnum := ZiV h (by omega) (by rw [hk]; exact hcol);have he : s.extract 0 k = Zy m := Yw (by rw [Z3, hs, hk, hdz]; simp);rw [he, Zbg hm] at hnum;exact (Option.some.inj hnum.2).symm
theorem XW {s : ByteArray} (i : Nat) : (s.extract i s.size).data.toList = s.data.toList.drop i := by
 rw [Z3, List.take_of_length_le (by rw [List.length_drop, ← Zi]; exact Nat.le_refl _)]
theorem Zlb {s : ByteArray} {xs : List ByteArray} {p k n : Nat} (h : Uu s xs (s.extract p s.size)) (hl : l1S (s.extract p s.size) n k) (h0 : k ≠ 0) (hk : p + k < s.size) (hc : s.get! (p + k) = 58) (hn : n ≤ s.size - (p + k + 1)) : Uu s (xs ++ [s.extract (p + k + 1) (p + k + 1 + n)]) (s.extract (p + k + 1 + n) s.size) := by
 have hz := Zi s;have hcol : (s.extract p s.size).data.toList[k]? = some 58 := by rw [XW, List.getElem?_drop, QC hk, hc]
 obtain ⟨hk2, hnum⟩ := ZiV hl h0 hcol;have hcut : (s.extract p s.size).data.toList = ((s.extract p s.size).extract 0 k).data.toList ++ 58 :: (s.extract (p + k + 1) s.size).data.toList := by
  rw [Z3 (a := s.extract p s.size), XW, XW, List.drop_zero, Nat.sub_zero];have e : (s.data.toList.drop p).drop k = 58 :: s.data.toList.drop (p + k + 1) := by
   rw [List.drop_drop];have hlt : p + k < s.data.toList.length := by omega
   rw [List.drop_eq_getElem_cons hlt];have := QC hk;rw [List.getElem?_eq_getElem hlt] at this;rw [Option.some.inj this, hc]
  rw [← e, List.take_append_drop]
 have hsz : (s.extract (p + k + 1) s.size).size = s.size - (p + k + 1) := by rw [size_extract]; omega
 have := h.step hcut hnum (by omega);have e1 : (s.extract (p + k + 1) s.size).extract 0 n = s.extract (p + k + 1) (p + k + 1 + n) := Yw (by
  rw [Z3, XW, Z3, List.drop_zero]
  congr 1; omega)
 have e2 : (s.extract (p + k + 1) s.size).extract n (s.extract (p + k + 1) s.size).size = s.extract (p + k + 1 + n) s.size := Yw (by
  rw [XW, XW, XW, List.drop_drop])
 rw [e1, e2] at this;exact this
theorem ZfZ {s : ByteArray} {xs l : List ByteArray} {p k n : Nat} (h : Uu s xs (s.extract p s.size)) (hl : l1S (s.extract p s.size) n k) (hr : IsRec s l) (hs : s.size ≤ 2048) (hp : p < s.size) : k ≠ 0 ∧ p + k < s.size ∧ s.get! (p + k) = 58 ∧ n ≤ s.size - (p + k + 1) := by
 have hz := Zi s;have hsz : (s.extract p s.size).size = s.size - p := by rw [size_extract]; omega
 have hne : ((s.extract p s.size).toList == (⟨#[]⟩ : ByteArray).toList) = false := by
  cases hq : ((s.extract p s.size).toList == (⟨#[]⟩ : ByteArray).toList) with
  | false => rfl
  | true =>
   have := ZS hq;rw [this] at hsz;have : (⟨#[]⟩ : ByteArray).size = 0 := rfl
   omega
 obtain ⟨y, ws, e1, e2, e3, e4⟩ := h.go hr.is hs hr.many hne;have hy := (XT e3).1;obtain ⟨k1, k2, k3⟩ := ZmG hl hy e2;have hp1 := Zbb y.size;have hlen := congrArg List.length e2;rw [length_append, length_cons, length_append, ← Zi, ← Zi, ← Zi, hsz] at hlen;have hkl : p + k < s.size := by omega
 refine ⟨by omega, hkl, ?_, by omega⟩;rw [XW, List.getElem?_drop, QC hkl] at k3;exact Option.some.inj k3
theorem Zbo {s : ByteArray} {xs : List ByteArray} {p : Nat} (h : Uu s xs (s.extract p s.size)) (hp : ¬ p < s.size) : Ya xs = s := by
 refine h.done ?_;have : s.extract p s.size = (⟨#[]⟩ : ByteArray) := Yw (by rw [XW, List.drop_eq_nil_of_le (by rw [← Zi]; omega)]);rw [this]; exact beq_self_eq_true _
open Go.RowKit
theorem Zbp {m n : Int} {y : ByteArray} (h : 0 ≤ m ∧ m ≤ 999999999 ∧ Yu m = y) (k : 0 ≤ n ∧ n ≤ 999999999 ∧ Yu n = y) : m = n := by
 have h1 := Yq ⟨h.1, h.2.1⟩;have h2 := Yq ⟨k.1, k.2.1⟩;rw [h.2.2] at h1;rw [k.2.2, h1] at h2;have := Option.some.inj h2
 omega
theorem Zlc (y : ByteArray) (ys : List ByteArray) : (Ya (y :: ys)).size = (Zy y.size).size + 1 + y.size + (Ya ys).size := by
 have h := congrArg List.length (Y8 y ys);rw [← Zi, length_append, length_cons, length_append, ← Zi, ← Zi, ← Zi] at h
 omega
theorem ZaH {y : ByteArray} {ys : List ByteArray} {B : Nat} (h : y.size ≤ 100) (hb : (Ya ys).size ≤ B) : (Ya (y :: ys)).size ≤ B + 110 := by
 rw [Zlc];have := Uk (n := y.size) (by omega)
 omega
open Go.RowKit
structure Zc where
  aq : Int
  aA : Int
  av : Int
  au : Ze
abbrev nPL (k l s : Int) (t : Ze) : List Value := [.int .i64 k, .int .i64 l, .int .i64 s, .int .i64 t.ah.aB, .int .i64 t.ah.ak, .int .i64 t.ah.av, .int .i64 t.ah.aC, .int .i64 t.ah.ar, .int .i64 t.az, .int .i64 t.aj]
abbrev nPV (k l s : Int) (t : Ze) : Value := .agg #[.int .i64 k, .int .i64 l, .int .i64 s, .int .i64 t.ah.aB, .int .i64 t.ah.ak, .int .i64 t.ah.av, .int .i64 t.ah.aC, .int .i64 t.ah.ar, .int .i64 t.az, .int .i64 t.aj]
abbrev nL (n : Zc) : List Value := [.int .i64 n.aq, .int .i64 n.aA, .int .i64 n.av, .int .i64 n.au.ah.aB, .int .i64 n.au.ah.ak, .int .i64 n.au.ah.av, .int .i64 n.au.ah.aC, .int .i64 n.au.ah.ar, .int .i64 n.au.az, .int .i64 n.au.aj]
abbrev nV (n : Zc) : Value := .agg #[.int .i64 n.aq, .int .i64 n.aA, .int .i64 n.av, .int .i64 n.au.ah.aB, .int .i64 n.au.ah.ak, .int .i64 n.au.ah.av, .int .i64 n.au.ah.aC, .int .i64 n.au.ah.ar, .int .i64 n.au.az, .int .i64 n.au.aj]
def Yh (kind : Int) : Int := if kind = 1 then 12 else if kind = 2 then 128 else 0
theorem Zh2 : Yh 1 = 12 := rfl
theorem Zbq : Yh 2 = 128 := rfl
theorem ZdB {k : Int} (h1 : k ≠ 1) (h2 : k ≠ 2) : Yh k = 0 := by unfold Yh; rw [if_neg h1, if_neg h2]
def Yv (kind size : Int) : Int := if Yh kind = 0 ∨ ¬ (0 ≤ size ∧ size ≤ 16 * Yh kind) then -1 else (size + Yh kind - 1) / Yh kind
theorem ZdC {k s : Int} (h : Yh k = 0) : Yv k s = -1 := if_pos (.inl h)
theorem ZcH {k s : Int} (h : ¬ (0 ≤ s ∧ s ≤ 16 * Yh k)) : Yv k s = -1 := if_pos (.inr h)
theorem ZaI {k s : Int} (h : Yh k ≠ 0) (h1 : 0 ≤ s) (h2 : s ≤ 16 * Yh k) : Yv k s = (s + Yh k - 1) / Yh k := if_neg fun e => e.elim h fun e => e ⟨h1, h2⟩
structure ZaJ (n : Zc) : Prop where
  many : 0 ≤ Yv n.aq n.av
  links : 1 ≤ n.aA ∧ n.aA ≤ if n.aq = 2 then 1 else 9
  tmany : n.au.aj = Yv n.aq n.av
  depth : n.au.az = ((depthN (Yv n.aq n.av) : Nat) : Int)
  root : n.au.ah.ok = true
  level : n.au.ah.hole = true ∨ n.au.ah.ar = n.au.az
instance (n : Zc) : Decidable (ZaJ n) := decidable_of_iff (0 ≤ Yv n.aq n.av ∧ (1 ≤ n.aA ∧ n.aA ≤ if n.aq = 2 then 1 else 9) ∧ n.au.aj = Yv n.aq n.av ∧ n.au.az = ((depthN (Yv n.aq n.av) : Nat) : Int) ∧ n.au.ah.ok = true ∧ (n.au.ah.hole = true ∨ n.au.ah.ar = n.au.az)) ⟨fun ⟨a, b, c, d, e, f⟩ => ⟨a, b, c, d, e, f⟩, fun ⟨a, b, c, d, e, f⟩ => ⟨a, b, c, d, e, f⟩⟩
def Zc.ok (n : Zc) : Bool := decide (ZaJ n)
theorem Zc.ok_yes {n : Zc} (h : ZaJ n) : n.ok = true := decide_eq_true h
theorem Zc.ok_no {n : Zc} (h : ¬ ZaJ n) : n.ok = false := decide_eq_false h
theorem Zc.ok_is {n : Zc} (h : n.ok = true) : ZaJ n := of_decide_eq_true h
structure Zni (n : Zc) : Prop where
  kind : n.aq = 1 ∨ n.aq = 2
  links : 1 ≤ n.aA ∧ n.aA ≤ 9
  size : 0 ≤ n.av ∧ n.av ≤ 16 * Yh n.aq
  is : Yv n.aq n.av = (n.av + Yh n.aq - 1) / Yh n.aq
  many : 0 ≤ n.au.aj ∧ n.au.aj ≤ 16
  depth : 0 ≤ n.au.az ∧ n.au.az ≤ 2
theorem ZaJ.small {n : Zc} (h : ZaJ n) : Zni n := by
 have hk : n.aq = 1 ∨ n.aq = 2 := by
  by_cases h1 : n.aq = 1
  ·exact .inl h1
  ·by_cases h2 : n.aq = 2
   ·exact .inr h2
   ·have := h.many
    rw [ZdC (ZdB h1 h2)] at this
    omega
 have he : 12 ≤ Yh n.aq ∧ Yh n.aq ≤ 128 := by rcases hk with e | e <;> rw [e] <;> decide
 have hs : 0 ≤ n.av ∧ n.av ≤ 16 * Yh n.aq := by
  by_cases hs : 0 ≤ n.av ∧ n.av ≤ 16 * Yh n.aq
  ·exact hs
  ·have := h.many
   rw [ZcH hs] at this
   omega
 have hp := ZaI (k := n.aq) (by omega) hs.1 hs.2;have hl := h.links;have hm : Yv n.aq n.av ≤ 16 := by
  rw [hp];have : (n.av + Yh n.aq - 1) / Yh n.aq < 17 := Int.ediv_lt_of_lt_mul (by omega) (by omega)
  omega
 have hd := YC (Yv n.aq n.av);have h1 := h.many;have h2 := h.tmany;have h3 := h.depth;refine ⟨hk, ⟨hl.1, ?_⟩, hs, hp, by omega, by omega⟩;have := hl.2
 split at this <;> omega
def Zld : ByteArray := ⟨#[101, 110, 100]⟩
def J5 (n : Zc) : List ByteArray := [Yu n.aq, Yu n.aA, Yu n.av, YH n.au.ah, Yu n.au.az, Yu n.au.aj, Zld]
def Yg (n : Zc) : ByteArray := bif n.ok then (Yr (J5 n)).1 else ByteArray.empty
theorem JF {n : Zc} (h : n.ok = false) : Yg n = ByteArray.empty := by unfold Yg; rw [h]; rfl
theorem Ze4 {n : Zc} (h : n.ok = true) : Yg n = (Yr (J5 n)).1 := by unfold Yg; rw [h]; rfl
theorem ZgX (n : Zc) : (Ya (J5 n)).size ≤ 1000 := by
 refine Nat.le_trans (ZaH (Nat.le_trans (Xk _) (by decide)) (ZaH (Nat.le_trans (Xk _) (by decide)) (ZaH (Nat.le_trans (Xk _) (by decide)) (ZaH (Nat.le_trans (Zc4 _) (by decide)) (ZaH (Nat.le_trans (Xk _) (by decide)) (ZaH (Nat.le_trans (Xk _) (by decide)) (ZaH (y := Zld) (by decide) (Nat.le_refl (Ya []).size)))))))) ?_;have h0 : (Ya []).size = 0 := rfl
 omega
theorem X6 {n : Zc} (h : n.ok = true) : IsRec (Yg n) (J5 n) := by
 rw [Ze4 h, YW (by simp only [J5, length_cons, length_nil]; omega) (Nat.le_trans (ZgX n) (by decide))];exact ⟨rfl, by simp only [J5, length_cons, length_nil]; omega⟩
theorem UY (n : Zc) : (Yg n).size ≤ 1000 := by
 cases h : n.ok with
 | false => rw [JF h]; exact Nat.zero_le _
 | true => rw [← (X6 h).is]; exact ZgX n
theorem ZjB {m n : Zc} (hm : m.ok = true) (hn : n.ok = true) (h : Yg m = Yg n) : m = n := by
 have h1 := X6 hm;have h2 := X6 hn;rw [h] at h1;have e := h1.one h2;simp only [J5, List.cons.injEq, and_true] at e;obtain ⟨e1, e2, e3, e4, e5, e6⟩ := e;have a := (Zc.ok_is hm);have b := (Zc.ok_is hn);have sa := a.small;have sb := b.small;have ea : Yh m.aq ≤ 128 := by rcases sa.kind with e | e <;> rw [e] <;> decide
 have eb : Yh n.aq ≤ 128 := by rcases sb.kind with e | e <;> rw [e] <;> decide
 have k1 := sa.links; have k2 := sa.size; have k3 := sa.many; have k4 := sa.depth; have k5 := sa.kind;have l1 := sb.links; have l2 := sb.size; have l3 := sb.many; have l4 := sb.depth; have l5 := sb.kind;have j1 : m.aq = n.aq := Zbp (y := Yu n.aq) ⟨by omega, by omega, e1⟩ ⟨by omega, by omega, rfl⟩;have j2 : m.aA = n.aA := Zbp (y := Yu n.aA) ⟨by omega, by omega, e2⟩ ⟨by omega, by omega, rfl⟩;have j3 : m.av = n.av := Zbp (y := Yu n.av) ⟨by omega, by omega, e3⟩ ⟨by omega, by omega, rfl⟩;have j4 := Zdt a.root b.root e4;have j5 : m.au.az = n.au.az := Zbp (y := Yu n.au.az) ⟨by omega, by omega, e5⟩ ⟨by omega, by omega, rfl⟩;have j6 : m.au.aj = n.au.aj := Zbp (y := Yu n.au.aj) ⟨by omega, by omega, e6⟩ ⟨by omega, by omega, rfl⟩;obtain ⟨_, _, _, ⟨_, _, _⟩⟩ := m;obtain ⟨_, _, _, ⟨_, _, _⟩⟩ := n;simp only at j1 j2 j3 j4 j5 j6;rw [j1, j2, j3, j4, j5, j6]
open Classical in
noncomputable def JG (s : ByteArray) : Option Zc := if h : ∃ n : Zc, n.ok = true ∧ Yg n = s then some h.choose else none
theorem V4 {s : ByteArray} {n : Zc} (hn : n.ok = true) (h : Yg n = s) : JG s = some n := by
 have he : ∃ n : Zc, n.ok = true ∧ Yg n = s := ⟨n, hn, h⟩;unfold JG;rw [dif_pos he];have hc := he.choose_spec;rw [ZjB hc.1 hn (hc.2.trans h.symm)]
theorem ZgY {s : ByteArray} (h : ∀ n : Zc, n.ok = true → Yg n = s → False) : JG s = none := by
 unfold JG;rw [dif_neg fun ⟨n, hn, hs⟩ => h n hn hs]
theorem ZdD {s : ByteArray} {n : Zc} (h : JG s = some n) : n.ok = true ∧ Yg n = s := by
 unfold JG at h
 split at h
 ·next he => rw [← Option.some.inj h]; exact he.choose_spec
 ·cases h
theorem V5 {n : Zc} (h : n.ok = true) : Zni n ∧ QW (Yu n.aq) = some n.aq.toNat ∧ QW (Yu n.aA) = some n.aA.toNat ∧ QW (Yu n.av) = some n.av.toNat ∧ QW (Yu n.au.az) = some n.au.az.toNat ∧ QW (Yu n.au.aj) = some n.au.aj.toNat := by
 have sa := (Zc.ok_is h).small;have ea : Yh n.aq ≤ 128 := by rcases sa.kind with e | e <;> rw [e] <;> decide
 have k1 := sa.links; have k2 := sa.size; have k3 := sa.many; have k4 := sa.depth; have k5 := sa.kind;exact ⟨sa, Yq (by omega), Yq (by omega), Yq (by omega), Yq (by omega), Yq (by omega)⟩
open Go.RowKit
def Zo.give (s : Zo) (a : Nat) : Zo := { ac := s.ac.set a (s.ac.getD a 0 - 1), al := if s.ac.getD a 0 - 1 = 0 then s.al.set a 0 else s.al }
theorem Zo.give_refs (s : Zo) (a : Nat) : (s.give a).ac.length = s.ac.length := by simp [Zo.give]
theorem Zo.give_last (s : Zo) (a : Nat) : (s.give a).al.length = s.al.length := by unfold Zo.give; dsimp only; split <;> simp
open Go.RowKit
def ZT (rows : List ByteArray) (s : Zo) (a : Nat) : List ByteArray := if s.ac.getD a 0 - 1 = 0 then rows.set a ByteArray.empty else rows
theorem Xm (rows : List ByteArray) (s : Zo) (a : Nat) : (ZT rows s a).length = rows.length := by unfold ZT; split <;> simp
open Go.RowKit
def Ul (x : List ByteArray × Zo) (p : PtrD) : List ByteArray × Zo := (ZT x.1 x.2 p.aB.toNat, x.2.give p.aB.toNat)
def Z8 (x : List ByteArray × Zo) (ps : List PtrD) : List ByteArray × Zo := ps.foldl Ul x
theorem Zf0 (x : List ByteArray × Zo) (ps : List PtrD) (p : PtrD) : Z8 x (ps ++ [p]) = Ul (Z8 x ps) p := by simp [Z8, List.foldl_append]
theorem VC (x : List ByteArray × Zo) (ps : List PtrD) : (Z8 x ps).1.length = x.1.length ∧ (Z8 x ps).2.ac.length = x.2.ac.length ∧ (Z8 x ps).2.al.length = x.2.al.length := by
 unfold Z8
 induction ps generalizing x with
 | nil => exact ⟨rfl, rfl, rfl⟩
 | cons p r ih =>
  obtain ⟨h1, h2, h3⟩ := ih (Ul x p);exact ⟨h1.trans (Xm _ _ _), h2.trans (Zo.give_refs _ _), h3.trans (Zo.give_last _ _)⟩
theorem ZjC (s : Zo) (a i : Nat) (hi : i < s.ac.length) : (s.give a).ac.getD i 0 = s.ac.getD i 0 - if a = i then 1 else 0 := by
 unfold Zo.give;simp only [List.getD, List.getElem?_set]
 by_cases h : a = i
 ·subst h
  simp [hi]
 ·simp [h]
theorem UZ (x : List ByteArray × Zo) (ps : List PtrD) (hp : ∀ p ∈ ps, 0 ≤ p.aB) (i : Nat) (hi : i < x.2.ac.length) : (Z8 x ps).2.ac.getD i 0 = x.2.ac.getD i 0 - (cnt ps i : Int) := by
 unfold Z8
 induction ps generalizing x with
 | nil => simp [cnt]
 | cons p r ih =>
  have h1 := ih (Ul x p) (fun q hq => hp q (mem_cons_of_mem _ hq)) (by rw [show (Ul x p).2.ac.length = x.2.ac.length from Zo.give_refs _ _]; exact hi);rw [List.foldl_cons, h1, show (Ul x p).2 = x.2.give p.aB.toNat from rfl, ZjC _ _ _ hi];have h2 : cnt (p :: r) i = (if p.aB = (i : Int) then 1 else 0) + cnt r i := by
   have := Zj [p] r i;rw [List.singleton_append] at this;rw [this]
   congr 1
   by_cases h : p.aB = (i : Int) <;> simp [cnt, h]
  have h0 := hp p mem_cons_self;rw [h2]
  by_cases h : p.aB = (i : Int)
  ·rw [if_pos h, if_pos (by omega)]; push_cast; omega
  ·rw [if_neg h, if_neg (by omega)]; push_cast; omega
open Go.RowKit
def Za.nextOf (st : Za) : Za := { af := (Z8 (st.af, st.aa) st.ag).1, aa := (Z8 (st.af, st.aa) st.ag).2, am := st.am + 1, ag := [], aw := st.aw, ai := st.ai, ax := st.ax }
end Go.Proofs.YtfhdmfcfcgbgeaaGreat
