/- The laws' helpers over lists of what is told. -/
import Derived.Test.YtkgmilobmbeplaaToldT
import Derived.Test.YtkgmilobmbeplaaBox
namespace Go.Proofs.Ytkgmilobmbeplaa
open Go.RowKit

/-- A slice of what is told, that reads. -/
structure ToldRd (w : World) (ao : Option Addr) (len : Nat) (xs : List ToldD) : Prop where
  len : xs.length = len
  at_ : ∀ i (_ : i < xs.length), ∃ b off x cs, xs[i]? = some x ∧ ao = some ⟨b, off, none⟩ ∧ b < w.heap.size ∧ w.rangeAt b (off + i * 5) cs ∧ ToldD.Reads w (.agg cs.toArray) x
theorem ToldRd.below {w w' : World} {ao : Option Addr} {len : Nat} {xs : List ToldD} (h : ToldRd w ao len xs) (hb : Below w.heap.size w w') : ToldRd w' ao len xs :=
  ⟨h.len, fun i hi => by
    obtain ⟨b, off, x, cs, hx, e, hlt, hr, hd⟩ := h.at_ i hi
    exact ⟨b, off, x, cs, hx, e, Nat.lt_of_lt_of_le hlt hb.size, rangeAt_below hr hb hlt, hd.below hb⟩⟩
theorem ToldRd.cells {w : World} {ao : Option Addr} {len : Nat} {xs : List ToldD} (h : ToldRd w ao len xs) (i : Nat) (hi : i < xs.length) : ∃ b off x a3 c3 a4 c4, xs[i]? = some x ∧ ao = some ⟨b, off, none⟩ ∧ b < w.heap.size ∧
    w.cell? ⟨b, off + i * 5, none⟩ = some (.string x.fName) ∧ w.cell? ⟨b, off + i * 5 + 1, none⟩ = some (.string x.fPrev) ∧ w.cell? ⟨b, off + i * 5 + 2, none⟩ = some (.int .i64 x.fQuota) ∧
    w.cell? ⟨b, off + i * 5 + 3, none⟩ = some (.slice a3 x.fFlat.fNames.length c3) ∧ w.cell? ⟨b, off + i * 5 + 4, none⟩ = some (.slice a4 x.fFlat.fThings.length c4) ∧
    Rd FoundD.cells 2 w a3 x.fFlat.fNames.length x.fFlat.fNames ∧ Rd ThingD.cells 3 w a4 x.fFlat.fThings.length x.fFlat.fThings := by
  obtain ⟨b, off, x, cs, hx, e, hlt, hr, a3, c3, a4, c4, hv, r3, r4⟩ := h.at_ i hi
  have hcs : cs = [.string x.fName, .string x.fPrev, .int .i64 x.fQuota, .slice a3 x.fFlat.fNames.length c3, .slice a4 x.fFlat.fThings.length c4] := by simpa using hv
  subst hcs
  exact ⟨b, off, x, a3, c3, a4, c4, hx, e, hlt, hr 0 _ rfl, hr 1 _ rfl, hr 2 _ rfl, hr 3 _ rfl, hr 4 _ rfl, r3, r4⟩

/-- A row of what is told that is the call's own. -/
structure ToldO (w : World) (B B1 g len : Nat) (xs : List ToldD) : Prop where
  len : xs.length = len
  lo : B ≤ g
  hi : g < B1
  lt : g < w.heap.size
  at_ : ∀ i (_ : i < xs.length), ∃ x cs, xs[i]? = some x ∧ w.rangeAt g (0 + i * 5) cs ∧ ToldD.Own w B B1 (.agg cs.toArray) x
theorem ToldO.rd {w : World} {B B1 g len : Nat} {xs : List ToldD} (h : ToldO w B B1 g len xs) : ToldRd w (some ⟨g, 0, none⟩) len xs :=
  ⟨h.len, fun i hi => by
    obtain ⟨x, cs, hx, hr, ho⟩ := h.at_ i hi
    exact ⟨g, 0, x, cs, hx, rfl, h.lt, hr, ho.rd⟩⟩
theorem ToldO.below {w w' : World} {B B1 g len C : Nat} {xs : List ToldD} (h : ToldO w B B1 g len xs) (hb : Below C w w') (hC : w.heap.size ≤ C) : ToldO w' B B1 g len xs :=
  ⟨h.len, h.lo, h.hi, Nat.lt_of_lt_of_le h.lt hb.size, fun i hi => by
    obtain ⟨x, cs, hx, hr, ho⟩ := h.at_ i hi
    exact ⟨x, cs, hx, rangeAt_below hr hb (Nat.lt_of_lt_of_le h.lt hC), ho.below hb hC⟩⟩
theorem ToldO.set {w : World} {B B1 g len : Nat} {xs : List ToldD} (h : ToldO w B B1 g len xs) {p : Addr} (hp : p.block < B) (u : Value) : ToldO (w.setCell p u) B B1 g len xs :=
  ⟨h.len, h.lo, h.hi, by simpa using h.lt, fun i hi => by
    obtain ⟨x, cs, hx, hr, ho⟩ := h.at_ i hi
    refine ⟨x, cs, hx, fun j v hv => ?_, ho.set hp u⟩
    rw [← hr j v hv]
    unfold World.cell?
    rw [Below.heap_setCell w p u g (by have := h.lo; omega)]⟩

/-- A row that is filled from its head, by elements that come one by one. -/
def FillP {α : Type} (enc : α → List Value) (size : Nat) (B : Nat) (e : TypeId) (w : World) (g n : Nat) (ys : List α) : Prop :=
  ∃ rest : List Value, rest.length = (n - ys.length) * size ∧ w.ownsRow B e size (.slice (some ⟨g, 0, none⟩) n n) n (ys.flatMap enc ++ rest)
theorem FillP.start {α : Type} {enc : α → List Value} {size B : Nat} {e : TypeId} {w : World} {g n : Nat} {cs : List Value} (h : w.ownsRow B e size (.slice (some ⟨g, 0, none⟩) n n) n cs) : FillP enc size B e w g n ([] : List α) :=
  ⟨cs, by rw [h.1]; simp, by simpa using h⟩
theorem FillP.there {α : Type} {enc : α → List Value} {size B : Nat} {e : TypeId} {w : World} {g n : Nat} {ys : List α} (he : ∀ x, (enc x).length = size) (h : FillP enc size B e w g n ys) (hk : ys.length < n) : w.there g (ys.length * size) size := by
  obtain ⟨rest, hr, ho⟩ := h
  refine owns_there ho _ _ ?_
  have : (n - ys.length) * size = size + (n - ys.length - 1) * size := by rw [show n - ys.length = (n - ys.length - 1) + 1 by omega, Nat.add_mul]; simp; omega
  rw [List.length_append, flat_len enc size he, hr]; omega
theorem FillP.step {α : Type} {enc : α → List Value} {size B : Nat} {e : TypeId} {w : World} {g n : Nat} {ys : List α} (he : ∀ x, (enc x).length = size) (h : FillP enc size B e w g n ys) (hk : ys.length < n) (y : α) :
    FillP enc size B e (w.setCells g (ys.length * size) (enc y)) g n (ys ++ [y]) ∧ w.grownBy (w.setCells g (ys.length * size) (enc y)) (some g) := by
  obtain ⟨rest, hr, ho⟩ := h
  have hl : (ys.flatMap enc).length = ys.length * size := flat_len enc size he ys
  have hd : (n - ys.length) * size = size + (n - ys.length - 1) * size := by rw [show n - ys.length = (n - ys.length - 1) + 1 by omega, Nat.add_mul]; simp; omega
  obtain ⟨h1, h2⟩ := owns_setCells (enc y) (ys.length * size) w _ ho (by rw [he, List.length_append, hl, hr]; omega)
  refine ⟨⟨rest.drop size, by rw [List.length_drop, hr]; simp; rw [show n - (ys.length + 1) = n - ys.length - 1 by omega]; omega, ?_⟩, h2⟩
  have : splice (ys.flatMap enc ++ rest) (ys.length * size) (enc y) = (ys ++ [y]).flatMap enc ++ rest.drop size := by
    unfold splice
    rw [List.flatMap_append, List.take_append, hl, List.take_of_length_le (by omega), Nat.sub_self, List.take_zero, List.append_nil, he, List.drop_append, hl]
    rw [List.drop_of_length_le (by omega), show ys.length * size + size - ys.length * size = size by omega]
    simp
  rw [this] at h1
  exact h1
theorem FillP.done {α : Type} {enc : α → List Value} {size B : Nat} {e : TypeId} {w : World} {g n : Nat} {ys : List α} (h : FillP enc size B e w g n ys) (hn : ys.length = n) : w.ownsRow B e size (.slice (some ⟨g, 0, none⟩) n n) ys.length (ys.flatMap enc) := by
  obtain ⟨rest, hr, ho⟩ := h
  rw [hn, Nat.sub_self, Nat.zero_mul] at hr
  rw [List.length_eq_zero_iff.1 hr, List.append_nil] at ho
  rw [hn]; exact ho
theorem FillP.below {α : Type} {enc : α → List Value} {size B C : Nat} {e : TypeId} {w w' : World} {g n : Nat} {ys : List α} (h : FillP enc size B e w g n ys) (hb : Below C w w') (hC : w.heap.size ≤ C) : FillP enc size B e w' g n ys := by
  obtain ⟨rest, hr, ho⟩ := h
  exact ⟨rest, hr, owns_below ho hb hC⟩
/-- Five cells. -/
structure C5 where
  enc : List Value
  len : enc.length = 5

set_option maxHeartbeats 400000 in
set_option maxRecDepth 100000 in
theorem szTold_any (v : Value) (x : ToldD) (l : Int) (w : World) (hl0 : 0 ≤ l) (hl1 : l ≤ 1048576) (hr : ToldD.Reads w v x) (hs : x.Small) :
    Calls Try.prog 98 #[v, .int .i64 l] w fun e w' => e = .returned (.int .i64 (leftOf l x.bulk)) ∧ Below w.heap.size w w' := by
  obtain ⟨a3, c3, a4, c4, rfl, r3, r4⟩ := hr
  have hbA : Below w.heap.size w (w.alloc (.cells #[.string x.fName, .string x.fPrev, .int .i64 x.fQuota, .slice a3 x.fFlat.fNames.length c3, .slice a4 x.fFlat.fThings.length c4] 135)) := (Below.refl _ _).alloc (Nat.le_refl _) _
  have HB : Hid (x.bulk = x.fName.size + x.fPrev.size + x.fFlat.bulk) := by show x.bulk = _; unfold ToldD.bulk FlatD.bulk; omega
  have hn := hs.s0_0
  have hp := hs.s1_0
  by_cases g0 : l < (x.fName.size : Int)
  · have HL : Hid (leftOf l x.bulk = -1) := by show _ = _; rw [leftOf_no (by rw [HB.out]; omega)]
    clear r3 r4
    go_enter Try.func98, Try.ntmps98
    go_wp2
    go_ret
    exact ⟨ret_int HL.out.symm, hbA⟩
  · by_cases g1 : l - x.fName.size < (x.fPrev.size : Int)
    · have HL : Hid (leftOf l x.bulk = -1) := by show _ = _; rw [leftOf_no (by rw [HB.out]; omega)]
      clear r3 r4
      go_enter Try.func98, Try.ntmps98
      go_wp2
      go_ret
      exact ⟨ret_int HL.out.symm, hbA⟩
    · have HC := szFlat_any _ x.fFlat (l - x.fName.size - x.fPrev.size) (w.alloc (.cells #[.string x.fName, .string x.fPrev, .int .i64 x.fQuota, .slice a3 x.fFlat.fNames.length c3, .slice a4 x.fFlat.fThings.length c4] 135)) (by omega) (by omega) ⟨a3, c3, a4, c4, rfl, r3.below hbA, r4.below hbA⟩ ⟨hs.s3_0, hs.s3_1, hs.s4_0, hs.s4_1⟩
      clear r3 r4
      by_cases g2 : l - x.fName.size - x.fPrev.size < (x.fFlat.bulk : Int)
      · rw [leftOf_no g2] at HC
        have HC := Lib.hid HC
        have HL : Hid (leftOf l x.bulk = -1) := by show _ = _; rw [leftOf_no (by rw [HB.out]; omega)]
        go_enter Try.func98, Try.ntmps98
        go_wp2_with fail
        refine HC.out.mono ?_
        rintro e w1 ⟨rfl, b⟩
        go_wp2
        go_ret
        exact ⟨ret_int HL.out.symm, hbA.trans (b.mono hbA.size)⟩
      · rw [leftOf_yes (by omega)] at HC
        have HC := Lib.hid HC
        have HL : Hid (leftOf l x.bulk = l - x.fName.size - x.fPrev.size - x.fFlat.bulk) := by show _ = _; rw [leftOf_yes (by rw [HB.out]; omega), HB.out]; omega
        go_enter Try.func98, Try.ntmps98
        go_wp2_with fail
        refine HC.out.mono ?_
        rintro e w1 ⟨rfl, b⟩
        go_wp2
        go_ret
        exact ⟨ret_int HL.out.symm, hbA.trans (b.mono hbA.size)⟩

set_option maxHeartbeats 400000 in
set_option maxRecDepth 100000 in
theorem szToldS_any (ao : Option Addr) (len cap : Nat) (xs : List ToldD) (l : Int) (w : World) (hl0 : 0 ≤ l) (hl1 : l ≤ 1048576) (hlen : len ≤ 9223372036854775807) (hr : ToldRd w ao len xs) (hs : ∀ x ∈ xs, x.Small) :
    Calls Try.prog 50 #[.slice ao len cap, .int .i64 l] w fun e w' => e = .returned (.int .i64 (leftOf l (len + tot ToldD.bulk xs))) ∧ Below w.heap.size w w' := by
  by_cases hln : l < len
  · rw [leftOf_no (by omega)]
    go_enter Try.func50, Try.ntmps50
    go_wp2
    go_ret
    exact ⟨rfl, Below.refl _ _⟩
  · go_enter Try.func50, Try.ntmps50
    go_wp2
    go_loopw [1,5] (fun l' i wr => ∃ k : Nat, k ≤ len ∧ i = .int .i64 k ∧ (len + tot ToldD.bulk (xs.take k) : Nat) ≤ l ∧ l' = .int .i64 (l - (len + tot ToldD.bulk (xs.take k) : Nat)) ∧ Below w.heap.size w wr) (fun _ i _ => len - (intOf i).toNat)
    case atStart => exact ⟨0, Nat.zero_le _, rfl, by simp [tot]; omega, by simp [tot], Below.refl _ _⟩
    case round =>
      obtain ⟨k, hk, rfl, hle, rfl, hb⟩ := hrel
      by_cases hlt : k < len
      · have hkx : k < xs.length := by rw [hr.len]; exact hlt
        obtain ⟨b, off, x, a3, c3, a4, c4, hx0, rfl, hbl, k0, k1, k2, k3, k4, r3, r4⟩ := (hr.below hb).cells k hkx
        have hsm := Bx.mk (hs _ (List.mem_of_getElem? hx0))
        have H1 := Lib.hid (tot_take ToldD.bulk xs k hx0)
        clear hx0
        have hle2 := tot_take_le ToldD.bulk xs (k + 1)
        have hcall := szTold_any _ x (l - (len + tot ToldD.bulk (xs.take k) : Nat)) wr (by omega) (by omega) ⟨a3, c3, a4, c4, rfl, r3, r4⟩ hsm.out
        have HR := Bx.mk hr
        clear r3 r4
        by_cases hc : l - (len + tot ToldD.bulk (xs.take k) : Nat) < (x.bulk : Nat)
        · rw [leftOf_no hc] at hcall
          have HC := Lib.hid hcall
          clear hcall
          go_wp2_with fail
          refine HC.out.mono ?_
          rintro e w' ⟨rfl, hb'⟩
          go_wp2
          go_ret
          exact ⟨ret_int (by rw [leftOf_no (by have := H1.out; omega)]), hb.trans (hb'.mono hb.size)⟩
        · rw [leftOf_yes (by omega)] at hcall
          have HC := Lib.hid hcall
          clear hcall
          go_wp2_with fail
          refine HC.out.mono ?_
          rintro e w' ⟨rfl, hb'⟩
          go_wp2
          go_roundw
          case rel => exact ⟨k + 1, by omega, by go_num, by rw [H1.out]; omega, by rw [H1.out]; congr 1; omega, hb.trans (hb'.mono hb.size)⟩
          case measure => simp [intOf]; omega
      · have hk' : k = len := by omega
        subst hk'
        have ht := Lib.hid (List.take_of_length_le (l := xs) (i := k) (by rw [hr.len]; exact Nat.le_refl _))
        rw [ht.out] at hle
        go_wp2
        go_ret
        rw [ht.out]
        exact ⟨ret_int (by rw [leftOf_yes hle]), hb⟩

theorem Try.infoToldS : (Try.prog.info? 99).map (fun i => (i.zero, i.size, i.bytes)) = some (some (.agg #[.string ByteArray.empty, .string ByteArray.empty, .int .i64 0, .slice none 0 0, .slice none 0 0]), 5, 88) := by kernel_rfl

set_option maxHeartbeats 1000000 in
set_option maxRecDepth 100000 in
theorem toToldS_any (ao : Option Addr) (len cap : Nat) (xs : List ToldD) (w : World) (hlen : len ≤ 1048576) (hr : ToldRd w ao len xs) (hf : ∀ x ∈ xs, x.Fit) :
    Calls Try.prog 52 #[.slice ao len cap] w fun e w' => e = .returned (.slice (some ⟨w.heap.size, 0, none⟩) len len) ∧ ToldO w' w.heap.size w'.heap.size w.heap.size len xs ∧ Below w.heap.size w w' := by
  obtain ⟨i0, hi, hz0, hz1, hz2⟩ := info_parts Try.infoToldS
  go_enter Try.func52, Try.ntmps52
  go_wp2_with (refine wpList_make_full _ rfl (.tmp 6) (.tmp 6) 39 rfl w.heap.size 99 i0 _ 5 Try.underlying39 hi hz0 hz1 .i64 .i64 _ _ len rfl rfl rfl rfl ?b2 ?b3 ?b4 ?_)
  case b2 => rw [hz2]; omega
  case b3 => unfold maxLen; omega
  case b4 => exact Nat.le_refl _
  intro w1 hown hg
  have hb0 : Below w.heap.size w w1 := (Below.refl _ _).grown hg (Nat.le_refl _) (by simp)
  have hs1 : w.heap.size + 1 ≤ w1.heap.size := (hown.lt w.heap.size (by simp [Value.ownBlock])).2
  have hfill := FillP.start (α := C5) (enc := C5.enc) hown
  have HR := Bx.mk hr
  have HF := Bx.mk hf
  clear hown hr hf
  go_wp2
  go_loopw [4] (fun i wr => ∃ ys : List C5, ys.length ≤ len ∧ i = .int .i64 ys.length ∧ FillP C5.enc 5 w.heap.size 99 wr w.heap.size len ys ∧ (∀ (j : Nat) (y : C5), ys[j]? = some y → ∃ x, xs[j]? = some x ∧ ToldD.Own wr (w.heap.size + 1) wr.heap.size (.agg y.1.toArray) x) ∧ Below w.heap.size w wr ∧ w.heap.size + 1 ≤ wr.heap.size) (fun i _ => len - (intOf i).toNat)
  case atStart => exact ⟨[], Nat.zero_le _, rfl, hfill, fun j y h => by simp at h, hb0, hs1⟩
  case round =>
    obtain ⟨ys, hk, rfl, hf, hel, hb, hsz⟩ := hrel
    have HEL := Bx.mk hel
    clear hel
    by_cases hlt : ys.length < len
    · have hkx : ys.length < xs.length := by rw [HR.out.len]; exact hlt
      obtain ⟨b, off, x, a3, c3, a4, c4, hx0, rfl, hbl, k0, k1, k2, k3, k4, r3, r4⟩ := (HR.out.below hb).cells ys.length hkx
      have HX0 := Bx.mk hx0
      have HC := Bx.mk (toTold_any _ x wr (HF.out x (List.mem_of_getElem? hx0)) ⟨a3, c3, a4, c4, rfl, r3, r4⟩)
      clear hx0 r3 r4
      go_wp2_with fail
      refine HC.out.mono ?_
      rintro e w2 ⟨_, rfl, ho, hb2⟩
      have HO := Bx.mk ho
      obtain ⟨p3, d3, p4, d4, rfl, _⟩ := ho
      have hf2 := hf.below hb2 (Nat.le_refl _)
      have ht2 := FillP.there C5.len hf2 hlt
      obtain ⟨hf3, hg3⟩ := FillP.step C5.len hf2 hlt ⟨[.string x.fName, .string x.fPrev, .int .i64 x.fQuota, .slice p3 x.fFlat.fNames.length d3, .slice p4 x.fFlat.fThings.length d4], rfl⟩
      have HF3 := Bx.mk (And.intro hf3 hg3)
      clear hf3 hg3 hf2
      go_wp2_with (refine wpList_store_mid rfl 99 (.tmp 21) (.tmp 20) rfl w.heap.size (ys.length * 5) _ rfl rfl ?c0 ?c1 ?c2 ?_)
      case c0 => exact ht2
      case c1 => kernel_rfl
      case c2 => simp [Value.oneCell']
      go_roundw
      case rel =>
        have hO : Outside w.heap.size (w.heap.size + 1) w2 (w2.setCells w.heap.size (ys.length * 5) [.string x.fName, .string x.fPrev, .int .i64 x.fQuota, .slice p3 x.fFlat.fNames.length d3, .slice p4 x.fFlat.fThings.length d4]) := ⟨HF3.out.2.os, HF3.out.2.tape, HF3.out.2.output, HF3.out.2.size, fun k hk hne => HF3.out.2.block k hk (fun e => by have := Option.some.inj e; omega)⟩
        have hs2 := hb2.size
        have hs3 := hO.size
        refine ⟨ys ++ [⟨[.string x.fName, .string x.fPrev, .int .i64 x.fQuota, .slice p3 x.fFlat.fNames.length d3, .slice p4 x.fFlat.fThings.length d4], rfl⟩], by simp; omega, by simp, HF3.out.1, ?_, (hb.trans (hb2.mono hb.size)).trans (hO.below (by omega)), by omega⟩
        intro j y hj
        by_cases hjl : j < ys.length
        · rw [List.getElem?_append_left hjl] at hj
          obtain ⟨x', hx', hown⟩ := HEL.out j y hj
          exact ⟨x', hx', ((hown.below hb2 (Nat.le_refl _)).outside hO (.inr (Nat.le_refl _))).mono (Nat.le_refl _) (by omega)⟩
        · rw [List.getElem?_append_right (by omega)] at hj
          obtain ⟨hj1, hj2⟩ := List.getElem?_eq_some_iff.1 hj
          simp only [List.length_singleton] at hj1
          obtain rfl : j = ys.length := by omega
          simp only [Nat.sub_self, List.getElem_cons_zero] at hj2
          subst hj2
          exact ⟨x, HX0.out, (HO.out.outside hO (.inr (by omega))).mono (by omega) hs3⟩
      case measure => simp [intOf]; omega
    · have hk' : ys.length = len := by omega
      go_wp2
      go_ret
      refine ⟨rfl, ⟨HR.out.len, Nat.le_refl _, by omega, by omega, fun j hj => ?_⟩, hb⟩
      have ho := FillP.done hf hk'
      rw [← hk'] at ho
      obtain ⟨_, hrd⟩ := owns_rd C5.len ho
      have hjy : j < ys.length := by rw [hk', ← HR.out.len]; exact hj
      obtain ⟨b, off, y, hy, e, hbl, hrg⟩ := hrd.at_ j hjy
      obtain ⟨x, hx, hown⟩ := HEL.out j y hy
      obtain ⟨rfl, rfl⟩ : b = w.heap.size ∧ off = 0 := by simp at e; omega
      exact ⟨x, y.1, hx, hrg, hown.mono (by omega) (Nat.le_refl _)⟩

set_option maxHeartbeats 400000 in
set_option maxRecDepth 100000 in
theorem eqToldS_yes (ao bo : Option Addr) (len cap cap2 : Nat) (xs : List ToldD) (w : World) (hlen : len ≤ 1048576) (hr : ToldRd w ao len xs) (hr2 : ToldRd w bo len xs) (hf : ∀ x ∈ xs, x.Fit) :
    Calls Try.prog 55 #[.slice ao len cap, .slice bo len cap2] w fun e w' => e = .returned (.bool true) ∧ Below w.heap.size w w' := by
  have HR := Bx.mk hr
  have HR2 := Bx.mk hr2
  have HF := Bx.mk hf
  clear hr hr2 hf
  go_enter Try.func55, Try.ntmps55
  go_wp2
  go_loopw [5] (fun i wr => ∃ k : Nat, k ≤ len ∧ i = .int .i64 k ∧ Below w.heap.size w wr) (fun i _ => len - (intOf i).toNat)
  case atStart => exact ⟨0, Nat.zero_le _, rfl, Below.refl _ _⟩
  case round =>
    obtain ⟨k, hk, rfl, hb⟩ := hrel
    by_cases hlt : k < len
    · have hkx : k < xs.length := by rw [HR.out.len]; exact hlt
      obtain ⟨b, off, x, a3, c3, a4, c4, hx0, rfl, hbl, k0, k1, k2, k3, k4, r3, r4⟩ := (HR.out.below hb).cells k hkx
      obtain ⟨b2, off2, x2, p3, q3, p4, q4, hx2, rfl, hbl2, j0, j1, j2, j3, j4, s3, s4⟩ := (HR2.out.below hb).cells k hkx
      obtain rfl : x = x2 := Option.some.inj (hx0.symm.trans hx2)
      have hfx := HF.out x (List.mem_of_getElem? hx0)
      have hbd : Below wr.heap.size wr wr.drew := (Below.refl _ _).drew
      have HC := Bx.mk (eqTold_yes _ _ x wr.drew hfx ⟨a3, c3, a4, c4, rfl, r3.below hbd, r4.below hbd⟩ ⟨p3, q3, p4, q4, rfl, s3.below hbd, s4.below hbd⟩)
      clear hx0 hx2 r3 r4 s3 s4 hfx hbd
      go_wp2_with fail
      go_still_tail 8, (by kernel_rfl)
      change wpList _ _ _ _ _ wr.drew
      have hb1 := hb.drew
      have hsz := hb1.size
      clear k0 k1 k2 k3 k4 j0 j1 j2 j3 j4
      generalize wr.drew = w1 at hb1 hsz HC ⊢
      go_wp2_with fail
      refine HC.out.mono ?_
      rintro e w2 ⟨rfl, hb2⟩
      go_wp2
      go_roundw
      case rel => exact ⟨k + 1, by omega, by go_num, hb1.trans (hb2.mono hsz)⟩
      case measure => simp [intOf]; omega
    · go_wp2
      go_ret
      exact ⟨rfl, hb⟩
end Go.Proofs.Ytkgmilobmbeplaa
