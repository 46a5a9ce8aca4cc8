/- A part of the proof in YtfhdmfcfcgbgeaaGreatSaX30. -/
import Derived.ArgAppend
import Derived.BigRegion
import Derived.Lib.LazyBuf
import Derived.Test.YtfhdmfcfcgbgeaaGreatSaX2
namespace Go.Proofs.YtfhdmfcfcgbgeaaGreat
open Go.Proofs.Tryz
open List (flatMap_cons length_cons mem_cons mem_singleton)
set_option linter.unusedVariables false
set_option linter.unusedSimpArgs false
set_option maxHeartbeats 1000000
set_option maxRecDepth 100000
open Go.RowKit
structure Bx (p : Prop) : Type where
  out : p
theorem Bx.o {p : Prop} (h : Bx p) : p := h.out
theorem Zk6 (b off j : Nat) : (⟨b, off, none⟩ : Addr).add j = ⟨b, off + j, none⟩ := by unfold Addr.add; split <;> simp_all
theorem Rd.news {α : Type} {enc : α → List Value} {size : Nat} (he : ∀ x, (enc x).length = size) (hs : 0 < size) {w : World} {a : Addr} {n : Nat} {xs : List α} (h : Rd enc size w (some a) n xs) :
  ∀ j u, (xs.flatMap enc)[j]? = some u → w.cell? (a.add j) = some u := by
 intro j u hu;have hj := (List.getElem?_eq_some_iff.1 hu).1;rw [Q4 enc size he] at hj;have hi : j / size < xs.length := (Nat.div_lt_iff_lt_mul hs).2 hj;obtain ⟨b, off, x, hx, e, _, hr⟩ := h.at_ (j / size) hi;obtain rfl := Option.some.inj e;have hm := Nat.div_add_mod j size;have hlt := Nat.mod_lt j hs;rw [Zk6];have hd : (xs.flatMap enc)[j / size * size + j % size]? = some u := by rw [Nat.mul_comm, hm]; exact hu
 rw [← List.getElem?_drop, Zch enc size he, List.drop_eq_getElem_cons hi, flatMap_cons, List.getElem?_append_left (by rw [he]; exact hlt)] at hd;have hxe : xs[j / size] = x := by rw [List.getElem?_eq_getElem hi] at hx; exact Option.some.inj hx
 rw [hxe] at hd;have := hr (j % size) u hd;rw [Nat.add_assoc, Nat.mul_comm (j / size), hm] at this;exact this
theorem ZdH {α : Type} {enc : α → List Value} {size : Nat} {w : World} {n : Nat} {xs : List α} (h : Rd enc size w none n xs) : xs = [] := by
 cases xs with
 | nil => rfl
 | cons x r =>
  obtain ⟨_, _, _, _, e, _⟩ := h.at_ 0 (by simp)
  cases e
theorem Zci (w : World) (e : TypeId) (size : Nat) : (w.alloc (.cells #[] e)).ownsRow w.heap.size e size (.slice (some ⟨w.heap.size, 0, none⟩) 0 0) 0 [] :=
 ⟨by simp, .inr ⟨w.heap.size, 0, #[], rfl, Nat.le_refl _, YO w _ _ rfl, Nat.le_refl _, Nat.zero_le _, by simp, by simp⟩⟩
theorem Uc (xs : List Int) : ∀ u ∈ xs.flatMap Zv, u.oneCell' = true := by
 intro u hu;obtain ⟨x, _, hx⟩ := List.mem_flatMap.1 hu;simp only [Zv, mem_singleton] at hx;subst hx; rfl
theorem Y0 (xs : List ByteArray) : ∀ u ∈ xs.flatMap Zx, u.oneCell' = true := by
 intro u hu;obtain ⟨x, _, hx⟩ := List.mem_flatMap.1 hu;simp only [Zx, mem_singleton] at hx;subst hx; rfl
theorem Zg7 (xs : List PtrD) : ∀ u ∈ xs.flatMap PtrD.cells, u.oneCell' = true := by
 intro u hu;obtain ⟨x, _, hx⟩ := List.mem_flatMap.1 hu;simp only [PtrD.cells, mem_cons, List.not_mem_nil, or_false] at hx;rcases hx with rfl | rfl | rfl | rfl | rfl <;> rfl
theorem ZdI (ao : Option Addr) (cap : Nat) (xs : List Int) (w : World) (hlen : xs.length ≤ 1048576) (hr : Rd Zv 1 w ao xs.length xs) :
  Calls prog 104 #[.slice ao xs.length cap] w fun e w' => (∃ ao' cap', e = .returned (.slice ao' xs.length cap') ∧ RowO Zv 1 3 w' w.heap.size w'.heap.size (.slice ao' xs.length cap') xs) ∧ Below w.heap.size w w' := by
 have hb1 : Below w.heap.size w (w.alloc (.cells #[] 3)) := (Below.refl _ _).alloc (Nat.le_refl _) _;have H1 := Bx.mk hb1;have HN := Bx.mk (hr.below hb1);clear hb1
 cases ao with
 | none =>
  obtain rfl := ZdH hr;clear hr;have hq := fun (w : World) => run_eql_slice_nil (P := prog) w 24 3 none 0 cap Tryz.underlying24
  go_enter func104, ntmps104
  go_wp2
  go_ret
  exact ⟨⟨_, _, rfl, RowO.empty _ _ _ _ _ _ _⟩, Below.refl _ _⟩
 | some a =>
  obtain ⟨i0, hi, hz0, hz1, hz2⟩ := info_parts Tryz.infoIntS;clear hr;have hq := fun (w : World) => run_eql_slice_nil (P := prog) w 24 3 (some a) xs.length cap Tryz.underlying24
  go_enter func104, ntmps104
  go_wp2_with (at_builtin; refine wpList_append_own _ rfl (.tmp 5) (.tmp 6) 24 rfl w.heap.size 3 i0 _ 1 8 Tryz.underlying24 hi hz0 hz1 hz2 rfl (by decide) _ 0 [] rfl (Zci w 3 1) a xs.length cap (xs.flatMap Zv) rfl (Q4 _ _ Zj xs) (HN.out.news Zj (by decide)) (Uc xs) ?b1 ?b2 ?b3 ?_)
  case b1 => unfold maxLen; omega
  case b2 => omega
  case b3 => simp
  intro v w2 hown hg _;obtain ⟨ao', cap', rfl, _⟩ := YQ hown
  go_wp2
  go_ret
  exact ⟨⟨_, _, rfl, RowO.mk hown (fun g h => (hown.lt g h).2)⟩, H1.out.grown hg H1.out.size (by simp [Value.ownBlock])⟩
theorem Zio (ao : Option Addr) (cap : Nat) (xs : List ByteArray) (w : World) (hlen : xs.length ≤ 1048576) (hr : Rd Zx 1 w ao xs.length xs) :
  Calls prog 81 #[.slice ao xs.length cap] w fun e w' => (∃ ao' cap', e = .returned (.slice ao' xs.length cap') ∧ RowO Zx 1 9 w' w.heap.size w'.heap.size (.slice ao' xs.length cap') xs) ∧ Below w.heap.size w w' := by
 have hb1 : Below w.heap.size w (w.alloc (.cells #[] 9)) := (Below.refl _ _).alloc (Nat.le_refl _) _;have H1 := Bx.mk hb1;have HN := Bx.mk (hr.below hb1);clear hb1
 cases ao with
 | none =>
  obtain rfl := ZdH hr;clear hr;have hq := fun (w : World) => run_eql_slice_nil (P := prog) w 23 9 none 0 cap Tryz.underlying23
  go_enter func81, ntmps81
  go_wp2
  go_ret
  exact ⟨⟨_, _, rfl, RowO.empty _ _ _ _ _ _ _⟩, Below.refl _ _⟩
 | some a =>
  obtain ⟨i0, hi, hz0, hz1, hz2⟩ := info_parts Tryz.infoStringS;clear hr;have hq := fun (w : World) => run_eql_slice_nil (P := prog) w 23 9 (some a) xs.length cap Tryz.underlying23
  go_enter func81, ntmps81
  go_wp2_with (at_builtin; refine wpList_append_own _ rfl (.tmp 5) (.tmp 6) 23 rfl w.heap.size 9 i0 _ 1 16 Tryz.underlying23 hi hz0 hz1 hz2 rfl (by decide) _ 0 [] rfl (Zci w 9 1) a xs.length cap (xs.flatMap Zx) rfl (Q4 _ _ Zo xs) (HN.out.news Zo (by decide)) (Y0 xs) ?b1 ?b2 ?b3 ?_)
  case b1 => unfold maxLen; omega
  case b2 => omega
  case b3 => simp
  intro v w2 hown hg _;obtain ⟨ao', cap', rfl, _⟩ := YQ hown
  go_wp2
  go_ret
  exact ⟨⟨_, _, rfl, RowO.mk hown (fun g h => (hown.lt g h).2)⟩, H1.out.grown hg H1.out.size (by simp [Value.ownBlock])⟩
theorem ZdJ (ao : Option Addr) (cap : Nat) (xs : List PtrD) (w : World) (hlen : xs.length ≤ 1048576) (hr : Rd PtrD.cells 5 w ao xs.length xs) :
  Calls prog 83 #[.slice ao xs.length cap] w fun e w' => (∃ ao' cap', e = .returned (.slice ao' xs.length cap') ∧ RowO PtrD.cells 5 31 w' w.heap.size w'.heap.size (.slice ao' xs.length cap') xs) ∧ Below w.heap.size w w' := by
 have hb1 : Below w.heap.size w (w.alloc (.cells #[] 31)) := (Below.refl _ _).alloc (Nat.le_refl _) _;have H1 := Bx.mk hb1;have HN := Bx.mk (hr.below hb1);clear hb1
 cases ao with
 | none =>
  obtain rfl := ZdH hr;clear hr;have hq := fun (w : World) => run_eql_slice_nil (P := prog) w 27 31 none 0 cap Tryz.underlying27
  go_enter func83, ntmps83
  go_wp2
  go_ret
  exact ⟨⟨_, _, rfl, RowO.empty _ _ _ _ _ _ _⟩, Below.refl _ _⟩
 | some a =>
  obtain ⟨i0, hi, hz0, hz1, hz2⟩ := info_parts Tryz.infoPtrS;clear hr;have hq := fun (w : World) => run_eql_slice_nil (P := prog) w 27 31 (some a) xs.length cap Tryz.underlying27
  go_enter func83, ntmps83
  go_wp2_with (at_builtin; refine wpList_append_own _ rfl (.tmp 5) (.tmp 6) 27 rfl w.heap.size 31 i0 _ 5 40 Tryz.underlying27 hi hz0 hz1 hz2 rfl (by decide) _ 0 [] rfl (Zci w 31 5) a xs.length cap (xs.flatMap PtrD.cells) rfl (Q4 _ _ PtrD.cells_len xs) (HN.out.news PtrD.cells_len (by decide)) (Zg7 xs) ?b1 ?b2 ?b3 ?_)
  case b1 => unfold maxLen; omega
  case b2 => omega
  case b3 => simp
  intro v w2 hown hg _;obtain ⟨ao', cap', rfl, _⟩ := YQ hown
  go_wp2
  go_ret
  exact ⟨⟨_, _, rfl, RowO.mk hown (fun g h => (hown.lt g h).2)⟩, H1.out.grown hg H1.out.size (by simp [Value.ownBlock])⟩
theorem YV.set {B B1 : Nat} {w w' : World} (h : YV B B1 w w') {p : Addr} (hp : B ≤ p.block ∧ p.block < B1) (u : Value) : YV B B1 w (w'.setCell p u) :=
 h.trans ⟨rfl, rfl, rfl, by rw [Zk4]; exact Nat.le_refl _, fun k _ ho => Below.heap_setCell w' p u k (by omega)⟩
structure Box (w : World) (b n : Nat) (t : TypeId) (v : Value) : Prop where
  ex : ∃ cs : List Value, v = .agg cs.toArray ∧ cs.length = n ∧ (∀ u ∈ cs, u.oneCell' = true) ∧ w.heap[b]? = some (.cells cs.toArray t (0, 0))
structure Cells (n : Nat) (v : Value) : Prop where
  ex : ∃ cs : List Value, v = .agg cs.toArray ∧ cs.length = n ∧ (∀ u ∈ cs, u.oneCell' = true)
theorem Box.below {w w' : World} {C b n : Nat} {t : TypeId} {v : Value} (h : Box w b n t v) (hb : Below C w w') (hC : w.heap.size ≤ C) : Box w' b n t v := by
 obtain ⟨cs, e, hl, h1, hh⟩ := h;exact ⟨cs, e, hl, h1, ZG hh hb hC⟩
theorem Box.new (w : World) (cs : List Value) (t : TypeId) (h1 : (cs.all fun u => u.oneCell') = true) {b : Nat} (hb : b = w.heap.size) : Box (w.alloc (.cells cs.toArray t)) b cs.length t (.agg cs.toArray) :=
 ⟨cs, rfl, rfl, fun u hu => List.all_eq_true.1 h1 u hu, YO w _ b hb⟩
theorem Box.range {w : World} {b n : Nat} {t : TypeId} {v : Value} (h : Box w b n t v) : ∃ cs : List Value, v = .agg cs.toArray ∧ cs.length = n ∧ w.rangeAt b 0 cs := by
 obtain ⟨cs, e, hl, h1, hh⟩ := h;exact ⟨cs, e, hl, fun j u hu => by rw [Zh hh]; simpa using hu⟩
theorem Box.cell {w : World} {b n : Nat} {t : TypeId} {l : Array Value} (h : Box w b n t (.agg l)) (i : Nat) : w.cell? ⟨b, i, none⟩ = l[i]? := by
 obtain ⟨cs, e, hl, h1, hh⟩ := h;obtain rfl : l = cs.toArray := by simpa using e
 exact Zh hh i
theorem Box.frozen {w : World} {b n : Nat} {t : TypeId} {v : Value} (h : Box w b n t v) (i : Nat) : w.frozen? ⟨b, i, none⟩ = false := by
 obtain ⟨cs, e, hl, h1, hh⟩ := h;exact ZaF hh i
theorem U0 {b : Nat} {t : TypeId} : ∀ (vs : List Value) (o : Nat) (w : World) (cs : List Value), w.heap[b]? = some (.cells cs.toArray t (0, 0)) → o + vs.length ≤ cs.length →
  (w.setCells b o vs).heap[b]? = some (.cells (XE cs o vs).toArray t (0, 0)) ∧ YV b (b + 1) w (w.setCells b o vs) ∧ (w.setCells b o vs).heap.size = w.heap.size
 | [], o, w, cs, h, _ => by
  refine ⟨?_, YV.refl _ _ _, rfl⟩;have : XE cs o [] = cs := by unfold XE; simp
  rw [this]; exact h
 | v :: vs, o, w, cs, h, hl => by
  simp only [length_cons] at hl;have h0 : (w.setCell ⟨b, o, none⟩ v).heap[b]? = some (.cells (cs.set o v).toArray t (0, 0)) := by
   have := Zjj (i := o) h v
   simpa using this
  obtain ⟨h1, h2, h3⟩ := U0 vs (o + 1) _ (cs.set o v) h0 (by simp; omega);rw [ZcR cs o v vs hl] at h1;exact ⟨h1, ((YV.refl b (b + 1) w).set ⟨Nat.le_refl _, Nat.lt_succ_self _⟩ v).trans h2, h3.trans (Zk4 _ _ _)⟩
theorem Box.put {w : World} {b n : Nat} {t : TypeId} {u v : Value} (h : Box w b n t u) (hv : Cells n v) : ∃ cells : Array Value, v = .agg cells ∧ cells.size = n ∧ cells.all (·.oneCell') = true ∧ w.there b 0 n ∧
  Box (w.setCells b 0 cells.toList) b n t v ∧ YV b (b + 1) w (w.setCells b 0 cells.toList) ∧ (w.setCells b 0 cells.toList).heap.size = w.heap.size := by
 obtain ⟨cs, rfl, hl, h1, hh⟩ := h;obtain ⟨ds, rfl, hd, g1⟩ := hv;obtain ⟨k1, k2, k3⟩ := U0 ds 0 w cs hh (by omega);have hs : XE cs 0 ds = ds := by
  unfold XE;rw [List.drop_of_length_le (by omega)]
  simp
 rw [hs] at k1;refine ⟨ds.toArray, rfl, by simpa using hd, all_oneCell_toArray g1, fun j hj => ⟨by rw [Zh hh]; simp; omega, ZaF hh _⟩, ⟨ds, rfl, hd, g1, k1⟩, k2, k3⟩
theorem Box.putField {w : World} {b n : Nat} {t : TypeId} {l : Array Value} (h : Box w b n t (.agg l)) (i : Nat) {u : Value} (hu : u.oneCell' = true) : Box (w.setCell ⟨b, i, none⟩ u) b n t (.agg (l.setIfInBounds i u)) := by
 obtain ⟨cs, e, hl, h1, hh⟩ := h;obtain rfl : l = cs.toArray := by simpa using e
 refine ⟨cs.set i u, by simp, by simp [hl], fun x hx => ?_, by have := Zjj (i := i) hh u; simpa using this⟩;rcases List.mem_or_eq_of_mem_set hx with h | h
 ·exact h1 x h
 ·rw [h]; exact hu
section
variable {P : Program}
theorem Zdm {w : World} {b n : Nat} {t : TypeId} {v : Value} (hb : Box w b n t v) (ty : TypeId) (d : TypeDesc) (hu : P.underlying ty = some d) (hd : d.isRow = true) (hi : (P.info? ty).map (·.size) = some n) : (loadVar ty ⟨b, 0, none⟩).run P w = .ok v w := by
 obtain ⟨cs, rfl, rfl, hr⟩ := hb.range;exact run_loadVar_mid w b 0 ty cs d hr hu hd hi
end
end Go.Proofs.YtfhdmfcfcgbgeaaGreat
