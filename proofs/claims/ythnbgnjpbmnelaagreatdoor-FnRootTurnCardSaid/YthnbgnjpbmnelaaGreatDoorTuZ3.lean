/- A part of the proof in YthnbgnjpbmnelaaGreatDoorTuZ31. -/
import Derived.ArgAppend
import Derived.BigRegion
import Derived.Lib.LazyBuf
import Derived.Test.YthnbgnjpbmnelaaGreatDoorTuZ2
/- Copies of slices: slices.Clone, and append onto an empty literal. -/
namespace Go.Proofs.YthnbgnjpbmnelaaGreatDoor
set_option linter.unusedVariables false
set_option linter.unusedSimpArgs false
set_option maxHeartbeats 1000000
set_option maxRecDepth 100000
open Go.RowKit

/-- A fact kept as data: no walk looks at it. -/
structure Bx (p : Prop) : Type where
  out : p

theorem Zc2 (b off j : Nat) : (⟨b, off, none⟩ : Addr).add j = ⟨b, off + j, none⟩ := by unfold Addr.add; split <;> simp_all
/-- The cells of a slice, to be appended. -/
theorem Rd.news {α : Type} {enc : α → List Value} {size : Nat} (he : ∀ x, (enc x).length = size) (hs : 0 < size) {w : World} {a : Addr} {n : Nat} {xs : List α} (h : Rd enc size w (some a) n xs) :
    ∀ j u, (xs.flatMap enc)[j]? = some u → w.cell? (a.add j) = some u := by
  intro j u hu;have hj := (List.getElem?_eq_some_iff.1 hu).1;rw [XE enc size he] at hj;have hi : j / size < xs.length := (Nat.div_lt_iff_lt_mul hs).2 hj;obtain ⟨b, off, x, hx, e, _, hr⟩ := h.at_ (j / size) hi;obtain rfl := Option.some.inj e;have hm := Nat.div_add_mod j size;have hlt := Nat.mod_lt j hs;rw [Zc2];have hd : (xs.flatMap enc)[j / size * size + j % size]? = some u := by rw [Nat.mul_comm, hm]; exact hu
  rw [← List.getElem?_drop, Uf enc size he, List.drop_eq_getElem_cons hi, List.flatMap_cons, List.getElem?_append_left (by rw [he]; exact hlt)] at hd;have hxe : xs[j / size] = x := by rw [List.getElem?_eq_getElem hi] at hx; exact Option.some.inj hx
  rw [hxe] at hd;have := hr (j % size) u hd;rw [Nat.add_assoc, Nat.mul_comm (j / size), hm] at this;exact this
theorem V4 {α : Type} {enc : α → List Value} {size : Nat} {w : World} {n : Nat} {xs : List α} (h : Rd enc size w none n xs) : xs = [] := by
  cases xs with
  | nil => rfl
  | cons x r =>
    obtain ⟨_, _, _, _, e, _⟩ := h.at_ 0 (by simp)
    cases e
theorem VD (w : World) (e : TypeId) (size : Nat) : (w.alloc (.cells #[] e)).ownsRow w.heap.size e size (.slice (some ⟨w.heap.size, 0, none⟩) 0 0) 0 [] :=
  ⟨by simp, .inr ⟨w.heap.size, 0, #[], rfl, Nat.le_refl _, JK w _ _ rfl, Nat.le_refl _, Nat.zero_le _, by simp, by simp⟩⟩
theorem Z5 (xs : List ByteArray) : ∀ u ∈ xs.flatMap Zs, u.oneCell' = true := by
  intro u hu;obtain ⟨x, _, hx⟩ := List.mem_flatMap.1 hu;simp only [Zs, List.mem_singleton] at hx;subst hx; rfl
theorem Jr (ao : Option Addr) (cap : Nat) (xs : List ByteArray) (w : World) (hlen : xs.length ≤ 1048576) (hr : Rd Zs 1 w ao xs.length xs) :
    Calls Tryz.prog 179 #[.slice ao xs.length cap] w fun e w' => (∃ ao' cap', e = .returned (.slice ao' xs.length cap') ∧ RowO Zs 1 9 w' w.heap.size w'.heap.size (.slice ao' xs.length cap') xs) ∧ Below w.heap.size w w' := by
  have hb1 : Below w.heap.size w (w.alloc (.cells #[] 9)) := (Below.refl _ _).alloc (Nat.le_refl _) _;have H1 := Bx.mk hb1;have HN := Bx.mk (hr.below hb1);clear hb1
  cases ao with
  | none =>
    obtain rfl := V4 hr;clear hr;have hq := fun (w : World) => run_eql_slice_nil (P := Tryz.prog) w 22 9 none 0 cap Tryz.underlying22
    go_enter Tryz.func179, Tryz.ntmps179
    go_wp2
    go_ret
    exact ⟨⟨_, _, rfl, RowO.empty _ _ _ _ _ _ _⟩, Below.refl _ _⟩
  | some a =>
    obtain ⟨i0, hi, hz0, hz1, hz2⟩ := info_parts Tryz.infoStringS;clear hr;have hq := fun (w : World) => run_eql_slice_nil (P := Tryz.prog) w 22 9 (some a) xs.length cap Tryz.underlying22
    go_enter Tryz.func179, Tryz.ntmps179
    go_wp2_with (at_builtin; refine wpList_append_own _ rfl (.tmp 5) (.tmp 6) 22 rfl w.heap.size 9 i0 _ 1 16 Tryz.underlying22 hi hz0 hz1 hz2 rfl (by decide) _ 0 [] rfl (VD w 9 1) a xs.length cap (xs.flatMap Zs) rfl (XE _ _ ZI xs) (HN.out.news ZI (by decide)) (Z5 xs) ?b1 ?b2 ?b3 ?_)
    case b1 => unfold maxLen; omega
    case b2 => omega
    case b3 => simp
    intro v w2 hown hg _;obtain ⟨ao', cap', rfl, _⟩ := YV hown
    go_wp2
    go_ret
    exact ⟨⟨_, _, rfl, RowO.mk hown (fun g h => (hown.lt g h).2)⟩, H1.out.grown hg H1.out.size (by simp [Value.ownBlock])⟩

end Go.Proofs.YthnbgnjpbmnelaaGreatDoor

/- A call's own boxes: blocks that are known whole, by the value that they hold. No program in sight. -/
namespace Go.Proofs.YthnbgnjpbmnelaaGreatDoor
set_option linter.unusedVariables false
set_option linter.unusedSimpArgs false
set_option maxHeartbeats 1000000
set_option maxRecDepth 100000
open Go.RowKit

theorem YO.set {B B1 : Nat} {w w' : World} (h : YO B B1 w w') {p : Addr} (hp : B ≤ p.block ∧ p.block < B1) (u : Value) : YO B B1 w (w'.setCell p u) :=
  h.trans ⟨rfl, rfl, rfl, by rw [Zc1]; exact Nat.le_refl _, fun k _ ho => Below.heap_setCell w' p u k (by omega)⟩

/-- Block b is a box of type t that holds the value, of n cells. -/
structure Box (w : World) (b n : Nat) (t : TypeId) (v : Value) : Prop where
  ex : ∃ cs : List Value, v = .agg cs.toArray ∧ cs.length = n ∧ (∀ u ∈ cs, u.oneCell' = true) ∧ w.heap[b]? = some (.cells cs.toArray t (0, 0))
/-- A value of n cells. -/
structure Zav (n : Nat) (v : Value) : Prop where
  ex : ∃ cs : List Value, v = .agg cs.toArray ∧ cs.length = n ∧ (∀ u ∈ cs, u.oneCell' = true)
theorem Box.new (w : World) (cs : List Value) (t : TypeId) (h1 : (cs.all fun u => u.oneCell') = true) {b : Nat} (hb : b = w.heap.size) : Box (w.alloc (.cells cs.toArray t)) b cs.length t (.agg cs.toArray) :=
  ⟨cs, rfl, rfl, fun u hu => List.all_eq_true.1 h1 u hu, JK w _ b hb⟩
theorem Box.range {w : World} {b n : Nat} {t : TypeId} {v : Value} (h : Box w b n t v) : ∃ cs : List Value, v = .agg cs.toArray ∧ cs.length = n ∧ w.rangeAt b 0 cs := by
  obtain ⟨cs, e, hl, h1, hh⟩ := h;exact ⟨cs, e, hl, fun j u hu => by rw [UR hh]; simpa using hu⟩
/-- One cell of a box. -/
theorem Box.cell {w : World} {b n : Nat} {t : TypeId} {l : Array Value} (h : Box w b n t (.agg l)) (i : Nat) : w.cell? ⟨b, i, none⟩ = l[i]? := by
  obtain ⟨cs, e, hl, h1, hh⟩ := h;obtain rfl : l = cs.toArray := by simpa using e
  exact UR hh i
theorem Box.frozen {w : World} {b n : Nat} {t : TypeId} {v : Value} (h : Box w b n t v) (i : Nat) : w.frozen? ⟨b, i, none⟩ = false := by
  obtain ⟨cs, e, hl, h1, hh⟩ := h;exact US hh i
/-! ### A whole value stored into a box -/
theorem JN {b : Nat} {t : TypeId} : ∀ (vs : List Value) (o : Nat) (w : World) (cs : List Value), w.heap[b]? = some (.cells cs.toArray t (0, 0)) → o + vs.length ≤ cs.length →
    (w.setCells b o vs).heap[b]? = some (.cells (Xz cs o vs).toArray t (0, 0)) ∧ YO b (b + 1) w (w.setCells b o vs) ∧ (w.setCells b o vs).heap.size = w.heap.size
  | [], o, w, cs, h, _ => by
    refine ⟨?_, YO.refl _ _ _, rfl⟩;have : Xz cs o [] = cs := by unfold Xz; simp
    rw [this]; exact h
  | v :: vs, o, w, cs, h, hl => by
    simp only [List.length_cons] at hl;have h0 : (w.setCell ⟨b, o, none⟩ v).heap[b]? = some (.cells (cs.set o v).toArray t (0, 0)) := by
      have := ZbR (i := o) h v
      simpa using this
    obtain ⟨h1, h2, h3⟩ := JN vs (o + 1) _ (cs.set o v) h0 (by simp; omega);rw [Up cs o v vs hl] at h1;exact ⟨h1, ((YO.refl b (b + 1) w).set ⟨Nat.le_refl _, Nat.lt_succ_self _⟩ v).trans h2, h3.trans (Zc1 _ _ _)⟩
theorem Box.put {w : World} {b n : Nat} {t : TypeId} {u v : Value} (h : Box w b n t u) (hv : Zav n v) : ∃ cells : Array Value, v = .agg cells ∧ cells.size = n ∧ cells.all (·.oneCell') = true ∧ w.there b 0 n ∧
    Box (w.setCells b 0 cells.toList) b n t v ∧ YO b (b + 1) w (w.setCells b 0 cells.toList) ∧ (w.setCells b 0 cells.toList).heap.size = w.heap.size := by
  obtain ⟨cs, rfl, hl, h1, hh⟩ := h;obtain ⟨ds, rfl, hd, g1⟩ := hv;obtain ⟨k1, k2, k3⟩ := JN ds 0 w cs hh (by omega);have hs : Xz cs 0 ds = ds := by
    unfold Xz;rw [List.drop_of_length_le (by omega)]
    simp
  rw [hs] at k1;refine ⟨ds.toArray, rfl, by simpa using hd, all_oneCell_toArray g1, fun j hj => ⟨by rw [UR hh]; simp; omega, US hh _⟩, ⟨ds, rfl, hd, g1, k1⟩, k2, k3⟩

theorem Box.putField {w : World} {b n : Nat} {t : TypeId} {l : Array Value} (h : Box w b n t (.agg l)) (i : Nat) {u : Value} (hu : u.oneCell' = true) : Box (w.setCell ⟨b, i, none⟩ u) b n t (.agg (l.setIfInBounds i u)) := by
  obtain ⟨cs, e, hl, h1, hh⟩ := h;obtain rfl : l = cs.toArray := by simpa using e
  refine ⟨cs.set i u, by simp, by simp [hl], fun x hx => ?_, by have := ZbR (i := i) hh u; simpa using this⟩;rcases List.mem_or_eq_of_mem_set hx with h | h
  · exact h1 x h
  · rw [h]; exact hu

section
variable {P : Program}
theorem UC {w : World} {b n : Nat} {t : TypeId} {v : Value} (hb : Box w b n t v) (ty : TypeId) (d : TypeDesc) (hu : P.underlying ty = some d) (hd : d.isRow = true) (hi : (P.info? ty).map (·.size) = some n) : (loadVar ty ⟨b, 0, none⟩).run P w = .ok v w := by
  obtain ⟨cs, rfl, rfl, hr⟩ := hb.range;exact run_loadVar_mid w b 0 ty cs d hr hu hd hi
end
end Go.Proofs.YthnbgnjpbmnelaaGreatDoor
