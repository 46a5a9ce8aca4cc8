/- A part of the proof in YtnikdicehddehaaGreatDoorSoLZ30. -/
import Derived.ArgAppend
import Derived.BigQuiet
import Derived.BigRegion
import Derived.Deep.AppendLies
import Derived.Deep.MidRow
import Derived.Deep.Quiet
import Derived.Deep.QuietTactic
import Derived.Deep.RegionHeld3
import Derived.Deep.RegionWith
import Derived.IntWalk
import Derived.Laws.BytesArg
import Derived.Laws.IdiomRangeMap
import Derived.Laws.RangeAny
import Derived.Lib.AppendIntMem
import Derived.Lib.Atoi
import Derived.Lib.Hide
import Derived.Lib.IndexAny
import Derived.Lib.IndexBytes
import Derived.Lib.IndexLaws
import Derived.Lib.ItoaNum
import Derived.Lib.Join
import Derived.Lib.LazyBuf
import Derived.Lib.SlBytesConst
import Derived.Lib.Split
import Derived.Lib.SplitLaws
import Derived.LoopIn
import Derived.LoopN
import Derived.LoopNIn
import Derived.Orders
import Derived.OrdersHeld
import Derived.OwnWalkIn
import Derived.RangeFuncLeaves
import Derived.RangeFuncNested
import Derived.Scope
import Derived.Shelf.Abstract
import Derived.Shelf.GgClosure.StringsIndexFunc
import Derived.Shelf.Small.Strs
import Derived.Shelf.Small.Utf8
import Derived.Shelf.Small.Wraps
import Derived.Shelf.Strconv.Atoi
import Derived.Shelf.Strconv.AtoiErr
import Derived.Shelf.Strconv.Itoa3
import Derived.Shelf.Strings.BuilderF
import Derived.Shelf.Strings.BuilderK
import Derived.Shelf.Strings.FuncGrows
import Derived.Shelf.Strings.IndexAnyAll
import Derived.Shelf.Strings.OnBuilder
import Derived.Shelf.Strings.Split
import Derived.Shelf.Strings.SplitShaped
import Derived.Shelf.Vars
import Derived.Still
import Derived.StillTail
import Derived.StillTailTactics
import Derived.StringKeys
import Derived.TacticsInMore
import Derived.Test.YtnikdicehddehaaGreatDoorRows
import Derived.WalkKit
import Derived.WalkLawsBesides
import Derived.WalkSpells
import Derived.WideKeyMaps2
import Derived.Test.YtnikdicehddehaaGreatDoorSoLZ23
/- Operations said as lines: plain. -/
namespace Go.Proofs.YtnikdicehddehaaGreatDoor
set_option linter.unusedVariables false
set_option linter.unusedSimpArgs false
set_option maxHeartbeats 1000000
set_option maxRecDepth 100000
open Go.RowKit Go.WideMaps

theorem mem_split (c : UInt8) : ∀ (l : List UInt8) (x : UInt8), x ∈ l → x = c ∨ ∃ p ∈ splitL c l, x ∈ p
  | b :: t, x, hx => by
    by_cases hb : b = c
    · subst hb
      rw [splitL_eq]
      rcases List.mem_cons.1 hx with rfl | hx
      · exact .inl rfl
      · rcases mem_split b t x hx with h | ⟨p, hp, h⟩
        · exact .inl h
        · exact .inr ⟨p, List.mem_cons_of_mem _ hp, h⟩
    · obtain ⟨y, r, hs⟩ := splitL_ne c t
      rw [splitL_cons t hb hs]
      rcases List.mem_cons.1 hx with rfl | hx
      · exact .inr ⟨_, List.mem_cons_self .., List.mem_cons_self ..⟩
      · rcases mem_split c t x hx with h | ⟨p, hp, h⟩
        · exact .inl h
        · rw [hs] at hp
          rcases List.mem_cons.1 hp with rfl | hp
          · exact .inr ⟨_, List.mem_cons_self .., List.mem_cons_of_mem _ h⟩
          · exact .inr ⟨p, List.mem_cons_of_mem _ hp, h⟩
/-- Neither a space nor an end of line. -/
def clean (s : ByteArray) : Prop := ∀ x ∈ s.data.toList, x ≠ 32 ∧ x ≠ 10
theorem clean_good {x : UInt8} (h : goodC x = true) : x ≠ 32 ∧ x ≠ 10 := by
  unfold goodC at h
  rw [Bool.and_eq_true, decide_eq_true_eq, decide_eq_true_eq] at h
  exact ⟨fun e => by subst e; exact absurd h.1 (by decide), fun e => by subst e; exact absurd h.1 (by decide)⟩
theorem clean_path {p : ByteArray} (h : pathB p = true) : clean p := by
  intro x hx
  cases hs : (p.toList == (⟨#[47]⟩ : ByteArray).toList) with
  | true =>
    obtain rfl := bytes_toList hs
    obtain rfl : x = 47 := by simpa using hx
    decide
  | false =>
    cases hh : (p.data.toList.head? == some 47) with
    | false => rw [pathB_no hs hh] at h; cases h
    | true =>
      rw [pathB_rest hs hh] at h
      unfold restB at h
      rw [Bool.and_eq_true] at h
      have hall := List.all_eq_true.1 h.2
      have hb := head_back hh
      rw [← hb, list_append] at hx
      rcases List.mem_append.1 hx with hx | hx
      · obtain rfl : x = 47 := by simpa [slB] using hx
        decide
      · rcases mem_split 47 _ x hx with rfl | ⟨q, hq, hxq⟩
        · decide
        · have hn := hall ⟨q.toArray⟩ (List.mem_map.2 ⟨q, hq, rfl⟩)
          unfold nameB at hn
          rw [Bool.and_eq_true] at hn
          exact clean_good (List.all_eq_true.1 hn.2 x hxq)
theorem clean_dec (n : Nat) : clean (decB n) := by
  intro x hx
  rw [decB_list] at hx
  obtain ⟨d, hd⟩ := digits_all n x hx
  obtain ⟨rfl, h10⟩ := digit_back hd
  have hn : (UInt8.ofNat (48 + d)).toNat = 48 + d := by rw [UInt8.toNat_ofNat']; omega
  exact ⟨fun e => by rw [e] at hn; exact absurd hn (by show ¬ 32 = 48 + d; omega), fun e => by rw [e] at hn; exact absurd hn (by show ¬ 10 = 48 + d; omega)⟩
/-- The word of a kind. -/
def wordK (k : Int) : ByteArray := wordsL.getD k.toNat ByteArray.empty
theorem kinds7 {k : Int} (h : 1 ≤ k ∧ k ≤ 7) : k = 1 ∨ k = 2 ∨ k = 3 ∨ k = 4 ∨ k = 5 ∨ k = 6 ∨ k = 7 := by omega
theorem opK_word {k : Int} (h : 1 ≤ k ∧ k ≤ 7) : opK (wordK k) = k := by
  rcases kinds7 h with rfl | rfl | rfl | rfl | rfl | rfl | rfl <;> (rw [opK_eq]; rfl)
theorem clean_word {k : Int} (h : 1 ≤ k ∧ k ≤ 7) : clean (wordK k) := by
  rcases kinds7 h with rfl | rfl | rfl | rfl | rfl | rfl | rfl <;> (unfold clean; decide)
theorem word_size {k : Int} (h : 1 ≤ k ∧ k ≤ 7) : (wordK k).size ≤ 6 := by
  rcases kinds7 h with rfl | rfl | rfl | rfl | rfl | rfl | rfl <;> decide
theorem word_of {s : ByteArray} {k : Int} (h : 1 ≤ k ∧ k ≤ 7) (hs : opK s = k) : s = wordK k := by
  rw [opK_eq] at hs
  have hx : ∀ l : List UInt8, s.data.toList = l → s = ⟨l.toArray⟩ := fun l e => ba_ext (by rw [e])
  split at hs
  · rename_i e; subst hs; exact hx _ e
  split at hs
  · rename_i e; subst hs; exact hx _ e
  split at hs
  · rename_i e; subst hs; exact hx _ e
  split at hs
  · rename_i e; subst hs; exact hx _ e
  split at hs
  · rename_i e; subst hs; exact hx _ e
  split at hs
  · rename_i e; subst hs; exact hx _ e
  split at hs
  · rename_i e; subst hs; exact hx _ e
  omega
def spB : ByteArray := ⟨#[32]⟩
theorem ba_assoc (a b c : ByteArray) : a ++ b ++ c = a ++ (b ++ c) := ba_ext (by simp only [list_append, List.append_assoc])
theorem pieces_app {a : ByteArray} (h : clean a) (b : ByteArray) : piecesB (a ++ (spB ++ b)) 32 = a :: piecesB b 32 := by
  unfold piecesB
  rw [list_append, list_append, show spB.data.toList = [32] from rfl, List.singleton_append, splitL_app 32 _ _ fun x hx => (h x hx).1, List.map_cons]
theorem pieces_one {a : ByteArray} (h : ∀ x ∈ a.data.toList, x ≠ 32) : piecesB a 32 = [a] := by
  unfold piecesB
  rw [splitL_none 32 _ h, List.map_cons, List.map_nil]
/-- No end of line. -/
def oneL (s : ByteArray) : Prop := ∀ x ∈ s.data.toList, x ≠ 10
theorem oneL_app {a b : ByteArray} : oneL (a ++ (spB ++ b)) ↔ oneL a ∧ oneL b := by
  unfold oneL
  simp only [list_append, List.mem_append]
  constructor
  · exact fun h => ⟨fun x hx => h x (.inl hx), fun x hx => h x (.inr (.inr hx))⟩
  · rintro ⟨h1, h2⟩ x (hx | hx | hx)
    · exact h1 x hx
    · obtain rfl : x = 32 := by simpa [spB] using hx
      decide
    · exact h2 x hx
theorem clean.oneL {s : ByteArray} (h : clean s) : oneL s := fun x hx => (h x hx).2
theorem many10 (s : ByteArray) : 1 < (piecesB s 10).length ↔ ¬ oneL s := by
  rw [pieces_len]
  unfold oneL
  constructor
  · intro h hall
    have : s.data.toList.count 10 = 0 := List.count_eq_zero.2 fun hm => hall 10 hm rfl
    omega
  · intro h
    have : 0 < s.data.toList.count 10 := by
      rcases Nat.eq_zero_or_pos (s.data.toList.count 10) with h0 | h0
      · exact absurd (fun x hx (e : x = 10) => List.count_eq_zero.1 h0 (e ▸ hx)) h
      · exact h0
    omega
theorem contains2 (l : List UInt8) : Go.Lib.containsAny l [32, 10] = true ↔ 32 ∈ l ∨ 10 ∈ l := by
  unfold Go.Lib.containsAny
  rw [decide_eq_true_eq]
  induction l with
  | nil => exact ⟨fun h => absurd h (by decide), fun h => by simp at h⟩
  | cons b t ih =>
    unfold Go.Lib.indexAny
    by_cases hc : ([32, 10] : List UInt8).contains b = true
    · rw [if_pos hc]
      have : b = 32 ∨ b = 10 := by simpa using hc
      refine ⟨fun _ => ?_, fun _ => Int.le_refl 0⟩
      rcases this with rfl | rfl
      · exact .inl (List.mem_cons_self ..)
      · exact .inr (List.mem_cons_self ..)
    · rw [if_neg hc]
      have hb : ¬ (b = 32 ∨ b = 10) := fun h => hc (by simpa using h)
      have hm : (32 ∈ b :: t ∨ 10 ∈ b :: t) ↔ (32 ∈ t ∨ 10 ∈ t) := by
        simp only [List.mem_cons]
        constructor
        · rintro ((h | h) | (h | h))
          · exact absurd (.inl h.symm) hb
          · exact .inl h
          · exact absurd (.inr h.symm) hb
          · exact .inr h
        · rintro (h | h)
          · exact .inl (.inr h)
          · exact .inr (.inr h)
      rw [hm, ← ih]
      have hge := Go.Lib.indexAny_ge [32, 10] t
      split
      · rename_i h1
        have h1 := beq_iff_eq.1 h1
        rw [h1]
      · rename_i h1
        have : Go.Lib.indexAny t [32, 10] ≠ -1 := fun e => h1 (beq_iff_eq.2 e)
        omega
/-- What a valid operation has. -/
structure OkD (o : OpD) : Prop where
  k : 1 ≤ o.fKind ∧ o.fKind ≤ 7
  p : clean o.fPath
  ps : o.fPath.size ≤ 20
  tt : (o.fKind = 6 ∨ o.fKind = 7) ∨ o.fTo = ByteArray.empty
  toc : clean o.fTo
  at0 : (o.fKind = 3 ∨ o.fKind = 4) ∨ o.fAt = 0
  at1 : 0 ≤ o.fAt ∧ o.fAt ≤ 192
  tx : o.fKind = 3 ∨ o.fText = ByteArray.empty
  ts : o.fText.size ≤ 24
  tos : o.fTo.size ≤ 20
theorem nil_of {t : ByteArray} (h : (t.toList == (⟨#[]⟩ : ByteArray).toList) = true) : t = ByteArray.empty := bytes_toList h
theorem path_size {p : ByteArray} (h : pathB p = true) : p.size ≤ 20 := by
  cases hs : (p.toList == (⟨#[47]⟩ : ByteArray).toList) with
  | true => obtain rfl := bytes_toList hs; decide
  | false =>
    cases hh : (p.data.toList.head? == some 47) with
    | false => rw [pathB_no hs hh] at h; cases h
    | true =>
      rw [pathB_rest hs hh] at h
      have h1 := restB_size h
      rw [ext1_size] at h1
      omega
theorem ok_of {o : OpD} (h : o.ok = true) : OkD o := by
  unfold OpD.ok at h
  rw [Bool.and_eq_true, Bool.and_eq_true, Bool.and_eq_true, Bool.and_eq_true] at h
  obtain ⟨⟨⟨⟨hk, hp⟩, ht⟩, ha⟩, hx⟩ := h
  have hk : 1 ≤ o.fKind ∧ o.fKind ≤ 7 := by unfold inB at hk; simpa using hk
  unfold OpD.toOk OpD.two at ht
  unfold OpD.atOk OpD.sized at ha
  unfold OpD.textOk at hx
  have hempty : clean ByteArray.empty := fun x hx => by cases hx
  have htt : (((o.fKind = 6 ∨ o.fKind = 7) ∨ o.fTo = ByteArray.empty) ∧ clean o.fTo) ∧ o.fTo.size ≤ 20 := by
    cases h2 : (o.fKind == (6 : Int) || o.fKind == (7 : Int)) with
    | true =>
      rw [h2] at ht
      exact ⟨⟨.inl (by simpa using h2), clean_path ht⟩, path_size ht⟩
    | false =>
      rw [h2] at ht
      have := nil_of ht
      rw [this]
      exact ⟨⟨.inr rfl, hempty⟩, by decide⟩
  have ha' : o.fAt = 0 ∨ ((o.fKind = 3 ∨ o.fKind = 4) ∧ 0 ≤ o.fAt ∧ o.fAt ≤ 192) := by
    unfold inB at ha
    simpa using ha
  have hx' : o.fText = ByteArray.empty ∨ (o.fKind = 3 ∧ o.fText.size ≤ 24) := by
    rw [Bool.or_eq_true] at hx
    rcases hx with h | h
    · exact .inl (nil_of h)
    · rw [Bool.and_eq_true] at h
      exact .inr ⟨by simpa using h.1, by have := of_decide_eq_true h.2; omega⟩
  refine ⟨hk, clean_path hp, path_size hp, htt.1.1, htt.1.2, ?_, ?_, ?_, ?_, htt.2⟩
  · rcases ha' with h | h
    · exact .inr h
    · exact .inl h.1
  · rcases ha' with h | h
    · omega
    · exact h.2
  · rcases hx' with h | h
    · exact .inr h
    · exact .inl h.1
  · rcases hx' with h | h
    · rw [h]; decide
    · exact h.2
/-- The line that says an operation. -/
def lineB (o : OpD) : ByteArray :=
  if o.fKind = 3 then wordK o.fKind ++ spB ++ o.fPath ++ spB ++ decB o.fAt.toNat ++ spB ++ o.fText
  else if o.fKind = 4 then wordK o.fKind ++ spB ++ o.fPath ++ spB ++ decB o.fAt.toNat
  else if o.fKind = 6 ∨ o.fKind = 7 then wordK o.fKind ++ spB ++ o.fPath ++ spB ++ o.fTo
  else wordK o.fKind ++ spB ++ o.fPath
/-- A text that no line can say. -/
def badB (o : OpD) : Bool := (o.fKind == 3) && ((o.fText.toList == (⟨#[]⟩ : ByteArray).toList) || Go.Lib.containsAny o.fText.data.toList [32, 10])
def sayF (o : OpD) : ByteArray := bif o.ok && !badB o then lineB o else ByteArray.empty
theorem op_eta {o : OpD} {k a : Int} {p t x : ByteArray} (h1 : o.fKind = k) (h2 : o.fPath = p) (h3 : o.fTo = t) (h4 : o.fAt = a) (h5 : o.fText = x) : (⟨k, p, t, a, x⟩ : OpD) = o := by
  cases o; simp only at h1 h2 h3 h4 h5; subst h1; subst h2; subst h3; subst h4; subst h5; rfl
theorem say_law {o : OpD} (ho : o.ok = true) : (shellF (piecesB (lineB o) 32) = none ∧ badB o = true) ∨ (shellF (piecesB (lineB o) 32) = some o ∧ (1 < (piecesB (lineB o) 10).length ↔ badB o = true)) := by
  have D := ok_of ho
  have hw := clean_word D.k
  have hop := opK_word D.k
  have hd := clean_dec o.fAt.toNat
  by_cases h3 : o.fKind = 3
  · have hl : lineB o = wordK o.fKind ++ (spB ++ (o.fPath ++ (spB ++ (decB o.fAt.toNat ++ (spB ++ o.fText))))) := by
      unfold lineB; rw [if_pos h3]; simp only [ba_assoc]
    rw [hl, pieces_app hw, pieces_app D.p, pieces_app hd, many10]
    rw [h3] at hop ⊢
    have hbad : badB o = ((o.fText.toList == (⟨#[]⟩ : ByteArray).toList) || Go.Lib.containsAny o.fText.data.toList [32, 10]) := by unfold badB; rw [h3]; rfl
    rw [hbad, oneL_app, oneL_app, oneL_app]
    by_cases hs : ∀ x ∈ o.fText.data.toList, x ≠ 32
    · rw [pieces_one hs]
      cases ht : (o.fText.toList == (⟨#[]⟩ : ByteArray).toList) with
      | true => exact .inl ⟨sh3t hop ht, rfl⟩
      | false =>
        refine .inr ⟨?_, ?_⟩
        · have hn := D.at1
          rw [sh3 (ws := [wordK 3, o.fPath, decB o.fAt.toNat, o.fText]) hop rfl ht (numG_dec (n := o.fAt.toNat) (by omega))]
          have e : (⟨3, o.fPath, ByteArray.empty, (o.fAt.toNat : Int), o.fText⟩ : OpD) = o := op_eta h3 rfl (D.tt.resolve_left (by omega)) (by omega) rfl
          exact (congrArg chk e).trans (chk_yes ho)
        · rw [Bool.false_or, contains2]
          have hh : ¬ 32 ∈ o.fText.data.toList := fun h => hs 32 h rfl
          have w3 := clean_word (k := 3) (by omega)
          constructor
          · intro h
            refine .inr ?_
            by_cases h10 : 10 ∈ o.fText.data.toList
            · exact h10
            · exact absurd ⟨w3.oneL, D.p.oneL, hd.oneL, fun x hx e => h10 (e ▸ hx)⟩ h
          · rintro (h | h)
            · exact absurd h hh
            · exact fun hx => hx.2.2.2 10 h rfl
    · refine .inl ⟨?_, ?_⟩
      · have hc : ∃ x ∈ o.fText.data.toList, x = 32 := by
          apply Classical.byContradiction
          intro h
          exact hs fun x hx e => h ⟨x, hx, e⟩
        obtain ⟨x, hx, rfl⟩ := hc
        have h2 : 2 ≤ (piecesB o.fText 32).length := by
          rw [pieces_len]
          have := List.count_pos_iff.2 hx
          omega
        exact sh3l hop (by simp only [List.length_cons]; omega)
      · rw [Bool.or_eq_true, contains2]
        refine .inr (.inl ?_)
        apply Classical.byContradiction
        intro h
        exact hs fun x hx e => h (e ▸ hx)
  have hb : badB o = false := by unfold badB; rw [show (o.fKind == 3) = false from beq_eq_false_iff_ne.2 h3]; rfl
  have htx := D.tx.resolve_left h3
  right
  rw [hb]
  by_cases h4 : o.fKind = 4
  · have hl : lineB o = wordK o.fKind ++ (spB ++ (o.fPath ++ (spB ++ decB o.fAt.toNat))) := by
      unfold lineB; rw [if_neg h3, if_pos h4]; simp only [ba_assoc]
    rw [hl, pieces_app hw, pieces_app D.p, pieces_one fun x hx => (hd x hx).1, many10, oneL_app, oneL_app]
    refine ⟨?_, fun h => absurd ⟨hw.oneL, D.p.oneL, hd.oneL⟩ h, fun h => by cases h⟩
    rw [h4] at hop ⊢
    have hn := D.at1
    rw [sh4 (ws := [wordK 4, o.fPath, decB o.fAt.toNat]) hop rfl (numG_dec (n := o.fAt.toNat) (by omega))]
    have e : (⟨4, o.fPath, ByteArray.empty, (o.fAt.toNat : Int), ByteArray.empty⟩ : OpD) = o := op_eta h4 rfl (D.tt.resolve_left (by omega)) (by omega) htx
    exact (congrArg chk e).trans (chk_yes ho)
  have hat := D.at0.resolve_left (by omega)
  by_cases h67 : o.fKind = 6 ∨ o.fKind = 7
  · have hl : lineB o = wordK o.fKind ++ (spB ++ (o.fPath ++ (spB ++ o.fTo))) := by
      unfold lineB; rw [if_neg h3, if_neg h4, if_pos h67]; simp only [ba_assoc]
    rw [hl, pieces_app hw, pieces_app D.p, pieces_one fun x hx => (D.toc x hx).1, many10, oneL_app, oneL_app]
    refine ⟨?_, fun h => absurd ⟨hw.oneL, D.p.oneL, D.toc.oneL⟩ h, fun h => by cases h⟩
    rw [sh6 (ws := [wordK o.fKind, o.fPath, o.fTo]) hop h67 rfl]
    have e : (⟨o.fKind, o.fPath, o.fTo, 0, ByteArray.empty⟩ : OpD) = o := op_eta rfl rfl rfl hat htx
    exact (congrArg chk e).trans (chk_yes ho)
  · have hl : lineB o = wordK o.fKind ++ (spB ++ o.fPath) := by
      unfold lineB; rw [if_neg h3, if_neg h4, if_neg h67]; simp only [ba_assoc]
    rw [hl, pieces_app hw, pieces_one fun x hx => (D.p x hx).1, many10, oneL_app]
    refine ⟨?_, fun h => absurd ⟨hw.oneL, D.p.oneL⟩ h, fun h => by cases h⟩
    have hk := D.k
    rw [sh1 (ws := [wordK o.fKind, o.fPath]) hop (by omega) rfl]
    have e : (⟨o.fKind, o.fPath, ByteArray.empty, 0, ByteArray.empty⟩ : OpD) = o := op_eta rfl rfl (D.tt.resolve_left h67) hat htx
    exact (congrArg chk e).trans (chk_yes ho)
/-- What an entry of the map is. -/
theorem MapQ.entry {bm : Nat} {es : Array MapEntry} {clock : Nat} {w : World} (h : MapQ bm es clock w) {x : MapEntry} (hx : x ∈ es.toList) : ∃ (s : ByteArray) (n : Int), x.key = .string s ∧ x.val = .int .i64 n ∧ opK s = n := by
  have F := h.fit
  obtain ⟨y, hy⟩ := F.reads x hx
  obtain ⟨n, hv, hd, _⟩ := rd_val hy
  obtain ⟨s, hk, hs, _⟩ := string_of_keyOf Tryz.underlying9 (rd_key hy)
  refine ⟨s, n, hk, hv, ?_⟩
  have hris : DataW.rising ((es.toList.map (rg Unit Tryz.prog 9 .i64)).foldr DataW.insert []) = true := Go.ChangeMaps.rising_of_pairwise _ (Go.ChangeMaps.sorted_sorted _ (F.strKeys strLaw) (F.apart strLaw))
  have hat := (Go.WideShapes.atKey_sorted (es.toList.map (rg Unit Tryz.prog 9 .i64)) hris (.string s.data.toList) trivial).2 (rg Unit Tryz.prog 9 .i64 x) (List.mem_map.2 ⟨x, hx, rfl⟩) (by rw [rg_of hy]; exact hs) (.lit (.int .i64 0))
  rw [rg_of hy, hd] at hat
  unfold opK
  rw [h.is, hat]
theorem MapQ.has {bm : Nat} {es : Array MapEntry} {clock : Nat} {w : World} (h : MapQ bm es clock w) {k : Int} (hk : 1 ≤ k ∧ k ≤ 7) : ∃ x ∈ es.toList, x.val = .int .i64 k := by
  have F := h.fit
  have hkey : keyOf Tryz.prog 9 (.string (wordK k)) = some (.string (wordK k).data.toList) := keyOf_string_mk Tryz.underlying9 (Nat.le_trans (word_size hk) (by decide))
  rcases strLaw.find w hkey es.toList F.keys with ⟨_, h2⟩ | ⟨j, e0, _, h2, h3⟩
  · exfalso
    have hris : DataW.rising ((es.toList.map (rg Unit Tryz.prog 9 .i64)).foldr DataW.insert []) = true := Go.ChangeMaps.rising_of_pairwise _ (Go.ChangeMaps.sorted_sorted _ (F.strKeys strLaw) (F.apart strLaw))
    have hat := (Go.WideShapes.atKey_sorted (es.toList.map (rg Unit Tryz.prog 9 .i64)) hris (.string (wordK k).data.toList) trivial).1 (fun p hp e1 => by
      obtain ⟨x, hx, rfl⟩ := List.mem_map.1 hp
      obtain ⟨y, hy⟩ := F.reads x hx
      have m1 := rd_key hy
      rw [rg_of hy] at e1
      rw [e1] at m1
      exact h2 x hx (strLaw.inj m1 hkey)) (.lit (.int .i64 0))
    have h0 : opK (wordK k) = 0 := by unfold opK; rw [h.is, hat]
    rw [opK_word hk] at h0
    omega
  · have hm := List.mem_of_getElem? h2
    obtain ⟨s, n, e1, e2, e3⟩ := h.entry hm
    rw [h3] at e1
    cases e1
    rw [opK_word hk] at e3
    exact ⟨e0, hm, by rw [e2, e3]⟩
/-- A round over the map so far: what came with the kind that is sought. -/
def WInv (es : Array MapEntry) (kd : Int) (seen : Array Nat) (v : ByteArray) : Prop := ∀ x ∈ es.toList, x.val = .int .i64 kd → seen.contains x.born = true → v = wordK kd
theorem WInv.zero (es : Array MapEntry) (kd : Int) (v : ByteArray) : WInv es kd #[] v := fun x _ _ h => by simp at h
theorem WInv.hit {es : Array MapEntry} {kd : Int} {seen : Array Nat} {s : ByteArray} {b : Nat} (h : s = wordK kd) : WInv es kd (seen.push b) s := fun _ _ _ _ => h
theorem WInv.miss {es : Array MapEntry} {kd n : Int} {seen : Array Nat} {v : ByteArray} {e : MapEntry} (h : WInv es kd seen v) (hn : (es.toList.map (·.born)).Nodup) (he : e ∈ es.toList) (hv : e.val = .int .i64 n) (hne : n ≠ kd) : WInv es kd (seen.push e.born) v := fun x hx hxv hc => by
  rw [Array.contains_iff_mem, Array.mem_push] at hc
  rcases hc with hc | hc
  · exact h x hx hxv (Array.contains_iff_mem.2 hc)
  · have := born_inj hn hx he hc
    subst this
    rw [hv] at hxv
    simp at hxv
    exact absurd hxv hne
theorem MapQ.done {bm : Nat} {es : Array MapEntry} {clock : Nat} {w : World} (h : MapQ bm es clock w) {kd : Int} (hk : 1 ≤ kd ∧ kd ≤ 7) {seen : Array Nat} {v : ByteArray} (hi : WInv es kd seen v) (h0 : (Go.leftOf es seen).size = 0) : v = wordK kd := by
  obtain ⟨x, hx, hv⟩ := h.has hk
  exact hi x hx hv (all_seen es seen h0 x hx)
end Go.Proofs.YtnikdicehddehaaGreatDoor

/- ShellSay of both: walked. -/
namespace Go.Proofs.YtnikdicehddehaaGreatDoor
set_option linter.unusedVariables false
set_option linter.unusedSimpArgs false
set_option maxHeartbeats 1000000
set_option maxRecDepth 100000
open Go.RowKit

theorem yl_entryM2 {P : Program} {w W : World} {s : List Asr} {o : Oper} {a : Act} {x : Operand} (ho : o.op = .entry x) {b bm since : Nat} {seen : Array Nat} {es : Array MapEntry} {e : MapEntry} (hx : a.eval x = .pointer (some ⟨b, 0, none⟩)) (hb : w.heap[bm]? = some (.map es since)) (he : e ∈ es.toList) (hn : (es.toList.map (·.born)).Nodup) (hS : St W s w) (i : Nat) (hi : s[i]? = some (objA b (.mapIter (some bm) since (seen.push e.born) since))) {kx vx : Value} (hk : e.key = kx) (hv : e.val = vx) :
    Yl P w o a (.tuple #[kx, vx]) := by
  subst hk; subst hv
  exact yl_entryM ho hx hb he hn hS i hi
theorem sp2_hb : ∀ j, j < 2 → ((⟨#[32, 10]⟩ : ByteArray).get! j).toNat < 128 := by decide
theorem sp2_low : ∀ b, b ∈ (⟨#[32, 10]⟩ : ByteArray).data.toList → b.toNat < 128 := by decide
theorem sayF_no {o : OpD} (h : o.ok = false) : sayF o = ByteArray.empty := by unfold sayF; rw [h]; rfl
theorem sayF_bad {o : OpD} (h : badB o = true) : sayF o = ByteArray.empty := by unfold sayF; rw [h, Bool.not_true, Bool.and_false]; rfl
theorem sayF_line {o : OpD} (h : o.ok = true) (hb : badB o = false) : sayF o = lineB o := by unfold sayF; rw [h, hb]; rfl
theorem bad_no {o : OpD} (h : o.fKind ≠ 3) : badB o = false := by unfold badB; rw [show (o.fKind == 3) = false from beq_eq_false_iff_ne.2 h]; rfl
theorem bad_3 {o : OpD} (h : o.fKind = 3) : badB o = ((o.fText.toList == (⟨#[]⟩ : ByteArray).toList) || Go.Lib.containsAny o.fText.data.toList [32, 10]) := by unfold badB; rw [h]; rfl
theorem line3 {o : OpD} (h : o.fKind = 3) : lineB o = wordK o.fKind ++ spB ++ o.fPath ++ spB ++ decB o.fAt.toNat ++ spB ++ o.fText := by unfold lineB; rw [if_pos h]
theorem line4 {o : OpD} (h : o.fKind = 4) : lineB o = wordK o.fKind ++ spB ++ o.fPath ++ spB ++ decB o.fAt.toNat := by unfold lineB; rw [if_neg (by omega), if_pos h]
theorem line6 {o : OpD} (h : o.fKind = 6 ∨ o.fKind = 7) : lineB o = wordK o.fKind ++ spB ++ o.fPath ++ spB ++ o.fTo := by unfold lineB; rw [if_neg (by omega), if_neg (by omega), if_pos h]
theorem line1 {o : OpD} (h : ¬ (o.fKind = 3 ∨ o.fKind = 4 ∨ o.fKind = 6 ∨ o.fKind = 7)) : lineB o = wordK o.fKind ++ spB ++ o.fPath := by unfold lineB; rw [if_neg (by omega), if_neg (by omega), if_neg (by omega)]
theorem line_size {o : OpD} (h : o.ok = true) : (lineB o).size ≤ 200 := by
  have D := ok_of h
  have h1 := word_size D.k
  have h2 := D.ps; have h3 := D.ts; have h4 := D.tos
  have h5 : (decB o.fAt.toNat).size ≤ 9 := decB_9 (by have := D.at1; omega)
  have h6 : spB.size = 1 := rfl
  unfold lineB
  split
  · simp only [app_size]; omega
  split
  · simp only [app_size]; omega
  split
  · simp only [app_size]; omega
  · simp only [app_size]; omega

theorem implShellSay_any (o : OpD) (bm : Nat) (es : Array MapEntry) (clock : Nat) (w0 : World) (hT : TabP w0) (hM : MaxP w0) (hQ : MapQ bm es clock w0) (h1 : o.fPath.size ≤ 1048576) (h2 : o.fTo.size ≤ 1048576) (h3 : o.fText.size ≤ 1048576) : Calls Tryz.prog 6 #[.agg #[.int .i64 o.fKind, .string o.fPath, .string o.fTo, .int .i64 o.fAt, .string o.fText]] w0 fun e w' => e = .returned (.string (sayF o)) ∧ Below w0.heap.size w0 w' := by
 have HT := Bx.mk hT; have HM := Bx.mk hM; have HQ := Bx.mk hQ; clear hT hM hQ
 have HS := Bx.mk (St.start w0)
 refine wc_enter Tryz.func6 rfl Tryz.ntmps6 [(0, .agg #[.int .i64 o.fKind, .string o.fPath, .string o.fTo, .int .i64 o.fAt, .string o.fText])] ⟨rfl, trivial⟩ rfl ?_; intro a HF
 refine wp_sr ?_
 refine wl_box rfl HF rfl (HF.ev rfl) (Z := [.int .i64 o.fKind, .string o.fPath, .string o.fTo, .int .i64 o.fAt, .string o.fText]) rfl rfl rfl rfl HS.out ?_; clear HF HS a; intro a w1 b1 HF HS; replace HS := Bx.mk HS
 refine wl_as HF rfl rfl rfl rfl rfl ?_; clear HF a; intro a HF
 refine wl_ne ?_
 refine wp_seq ?_
 refine wp_sr ?_
 refine wl_y rfl HF rfl rfl (yl_loadR (cs := [.int .i64 o.fKind, .string o.fPath, .string o.fTo, .int .i64 o.fAt, .string o.fText]) rfl (HF.ev rfl) ((HS.out.box 0 rfl).sub 0 5) (by kernel_rfl)) ?_; clear HF a; intro a HF
 refine wl_callB rfl HF rfl (enter_of Tryz.func11 (by kernel_rfl) rfl) (args := #[.agg #[.int .i64 o.fKind, .string o.fPath, .string o.fTo, .int .i64 o.fAt, .string o.fText]]) rfl (v := .bool o.ok) (implOpOk_any o _ (HM.out.below HS.out.bel) (by omega) (by omega) (by omega)) rfl rfl HS.out ?_; clear HF HS a; intro w2 a HS HF; replace HS := Bx.mk HS
 refine wl_y rfl HF rfl rfl (yl_not rfl (HF.ev rfl)) ?_; clear HF a; intro a HF
 refine wl_ne ?_
 refine HF.cases 9 rfl (fun cc1 HF1 => ?_) (fun cc1 HF1 => ?_)
 ·clear HF; have HF := HF1; clear HF1
  refine wc_true HF rfl ?_
  refine wp_sr ?_
  refine wl_as HF rfl rfl rfl rfl rfl ?_; clear HF a; intro a HF
  refine wl_ne ?_
  refine wp_ret ?_
  refine ex_then_ret ?_
  refine bp_ret1 HF Tryz.results6 (HF.res rfl) ?_
  exact ⟨by rw [sayF_no (by simpa using cc1)]; rfl, HS.out.bel⟩
 ·clear HF; have HF := HF1; clear HF1
  have hok := (show o.ok = true from by simpa using cc1); have D := ok_of hok; have hk := D.k; have hps := D.ps; have hts := D.ts; have htos := D.tos; have hat := D.at1; have hwz := word_size D.k; have h9n := numB_le o.fAt; have hwl : wordsL.length = 8 := rfl; have hwz2 : (wordsL.getD o.fKind.toNat ByteArray.empty).size ≤ 6 := hwz; have h9 : (decB o.fAt.toNat).size ≤ 9 := decB_9 (by omega)
  refine wc_false HF rfl ?_
  refine wp_skip ?_
  refine ex_then ?_
  refine wp_sr ?_
  refine wl_as HF rfl rfl rfl rfl rfl ?_; clear HF a; intro a HF
  refine wl_ne ?_
  refine wp_seq ?_
  refine wp_sr ?_
  refine wl_y rfl HF rfl rfl (yl_load (v := .map (some bm)) rfl rfl (HQ.out.below HS.out.bel).cell (by kernel_rfl)) ?_; clear HF a; intro a HF
  refine wl_rangeM rfl HF rfl (HF.ev rfl) Tryz.underlying35 (HQ.out.below HS.out.bel).map rfl rfl HS.out ?_; clear HF HS a; intro a w3 b2 HF HS; replace HS := Bx.mk HS
  refine wl_ne ?_
  refine wp_block ?_
  refine wc_loop (ι := Nat) (fun k a w => ∃ (seen : Array Nat) (v : ByteArray), (k = (Go.leftOf es seen).size ∧ WInv es o.fKind seen v) ∧ Fr 66 a [(1, .pointer (some ⟨b1, 0, none⟩)), (2, .string (⟨#[]⟩ : ByteArray)), (3, .string v), (11, .pointer (some ⟨b2, 0, none⟩))] ∧ St w0 ([objA b2 (.mapIter (some bm) clock seen clock), boxA b1 5 24 (.agg #[.int .i64 o.fKind, .string o.fPath, .string o.fTo, .int .i64 o.fAt, .string o.fText])]) w) (fun k => k) (Go.leftOf es #[]).size ⟨#[], (⟨#[]⟩ : ByteArray), ⟨rfl, WInv.zero _ _ _⟩, HF.less _ ⟨rfl, rfl, rfl, rfl, trivial⟩, HS.out⟩ ?_
  clear HF HS; clear a
  rintro k a w4 ⟨seen, v, ⟨hkl, hinv⟩, HF, HS⟩
  replace HS := Bx.mk HS
  refine wp_sr ?_
  refine wl_nextM rfl HF rfl (HF.ev rfl) (HQ.out.below HS.out.bel).map HQ.out.fit.stamped.1 rfl rfl HS.out 0 rfl (fun hleft a1 HF1 => ?_) (fun e he a1 w5 HF1 HS1 => ?_)
  ·skip
   clear HF; clear a; rename Act => a; have HF := HF1; clear HF1; have hv := (HQ.out.below HS.out.bel).done D.k hinv hleft; subst hv
   refine wl_y rfl HF rfl rfl (yl_extract rfl (HF.ev rfl) rfl) ?_; clear HF a; intro a HF
   refine wl_ne ?_
   refine wp_seq ?_
   refine wc_false HF rfl ?_
   refine wp_exit ?_
   refine ex_then_exit ?_
   refine ex_then_exit ?_
   refine ex_block_hit ?_
   refine ex_then ?_
   refine wp_sr ?_
   refine wl_mv HF rfl rfl rfl rfl rfl ?_; clear HF a; intro a HF
   refine wl_y rfl HF rfl rfl (yl_addS rfl (HF.ev rfl) (HF.ev rfl) (by (try simp only [size1, app_size]); omega)) ?_; clear HF a; intro a HF
   refine wl_y rfl HF rfl rfl (yl_fieldAddr (j := 1) rfl (HF.ev rfl) (by kernel_rfl)) ?_; clear HF a; intro a HF
   refine wl_y rfl HF rfl rfl (yl_load (v := .string o.fPath) rfl (HF.ev rfl) (((HS.out.box 1 rfl).cell 1).trans rfl) (by kernel_rfl)) ?_; clear HF a; intro a HF
   refine wl_y rfl HF rfl rfl (yl_addS rfl (HF.ev rfl) (HF.ev rfl) (by (try simp only [size1, app_size]); omega)) ?_; clear HF a; intro a HF
   refine wl_as HF rfl rfl rfl rfl rfl ?_; clear HF a; intro a HF
   refine wl_ne ?_
   refine wp_seq ?_
   refine wp_sr ?_
   refine wl_y rfl HF rfl rfl (yl_fieldAddr (j := 0) rfl (HF.ev rfl) (by kernel_rfl)) ?_; clear HF a; intro a HF
   refine wl_y rfl HF rfl rfl (yl_load (v := .int .i64 o.fKind) rfl (HF.ev rfl) (((HS.out.box 1 rfl).cell 0).trans rfl) (by kernel_rfl)) ?_; clear HF a; intro a HF
   refine wl_ne ?_
   refine wp_block ?_
   refine wp_sr ?_
   refine wl_y rfl HF rfl rfl (yl_eqlI rfl (HF.ev rfl) (HF.ev rfl)) ?_; clear HF a; intro a HF
   refine wl_as HF rfl rfl rfl rfl rfl ?_; clear HF a; intro a HF
   refine wl_ne ?_
   refine HF.cases 29 rfl (fun cc2 HF1 => ?_) (fun cc2 HF1 => ?_)
   ·clear HF; have HF := HF1; clear HF1
    have dcc2 := eq_of_beq cc2
    refine wc_true HF rfl ?_
    refine wp_seq ?_
    refine wp_sr ?_
    refine wl_y rfl HF rfl rfl (yl_fieldAddr (j := 4) rfl (HF.ev rfl) (by kernel_rfl)) ?_; clear HF a; intro a HF
    refine wl_y rfl HF rfl rfl (yl_load (v := .string o.fText) rfl (HF.ev rfl) (((HS.out.box 1 rfl).cell 4).trans rfl) (by kernel_rfl)) ?_; clear HF a; intro a HF
    refine wl_y rfl HF rfl rfl (yl_eqlS rfl (HF.ev rfl) (HF.ev rfl)) ?_; clear HF a; intro a HF
    refine wl_mv HF rfl rfl rfl rfl rfl ?_; clear HF a; intro a HF
    refine HF.cases 34 rfl (fun cc3 HF1 => ?_) (fun cc3 HF1 => ?_)
    ·clear HF; have HF := HF1; clear HF1
     refine wl_skip HF rfl rfl rfl rfl rfl rfl ?_; clear HF a; intro a HF
     refine wl_skip HF rfl rfl rfl rfl rfl rfl ?_; clear HF a; intro a HF
     refine wl_skip HF rfl rfl rfl rfl rfl rfl ?_; clear HF a; intro a HF
     refine wl_y rfl HF rfl rfl (yl_pick_t rfl (HF.ev rfl) (HF.ev rfl)) ?_; clear HF a; intro a HF
     refine wl_ne ?_
     refine wc_true HF rfl ?_
     refine wp_sr ?_
     refine wl_as HF rfl rfl rfl rfl rfl ?_; clear HF a; intro a HF
     refine wl_ne ?_
     refine wp_ret ?_
     refine ex_then_ret ?_
     refine ex_block_ret ?_
     refine ex_then_ret ?_
     refine bp_ret1 HF Tryz.results6 (HF.res rfl) ?_
     have hb : badB o = true := by rw [bad_3 (by omega), cc3]; rfl
     exact ⟨by rw [sayF_bad hb]; rfl, HS.out.bel⟩
    ·clear HF; have HF := HF1; clear HF1
     refine wl_yg HF rfl rfl rfl rfl rfl (yl_fieldAddr (j := 4) rfl (HF.ev rfl) (by kernel_rfl)) ?_; clear HF a; intro a HF
     refine wl_yg HF rfl rfl rfl rfl rfl (yl_load (v := .string o.fText) rfl (HF.ev rfl) (((HS.out.box 1 rfl).cell 4).trans rfl) (by kernel_rfl)) ?_; clear HF a; intro a HF
     refine wl_callBg HF rfl rfl rfl rfl (enter_of Tryz.func14 (by kernel_rfl) rfl) (args := #[.string o.fText, .string (⟨#[32, 10]⟩ : ByteArray)]) rfl (v := .bool (Go.Lib.containsAny o.fText.data.toList [32, 10])) (containsAny_any o.fText ⟨#[32, 10]⟩ _ (by omega) rfl sp2_hb sp2_low) rfl rfl HS.out ?_; clear HF HS a; intro w6 a HS HF; replace HS := Bx.mk HS
     refine wl_y rfl HF rfl rfl (yl_pick_f rfl (HF.ev rfl) (HF.ev rfl)) ?_; clear HF a; intro a HF
     refine wl_ne ?_
     refine HF.cases 38 rfl (fun cc4 HF1 => ?_) (fun cc4 HF1 => ?_)
     ·clear HF; have HF := HF1; clear HF1
      refine wc_true HF rfl ?_
      refine wp_sr ?_
      refine wl_as HF rfl rfl rfl rfl rfl ?_; clear HF a; intro a HF
      refine wl_ne ?_
      refine wp_ret ?_
      refine ex_then_ret ?_
      refine ex_block_ret ?_
      refine ex_then_ret ?_
      refine bp_ret1 HF Tryz.results6 (HF.res rfl) ?_
      have hb : badB o = true := by rw [bad_3 (by omega), cc3, cc4]; rfl
      exact ⟨by rw [sayF_bad hb]; rfl, HS.out.bel⟩
     ·clear HF; have HF := HF1; clear HF1
      refine wc_false HF rfl ?_
      refine wp_skip ?_
      refine ex_then ?_
      refine wr_quiet (by kernel_rfl) (by kernel_rfl) HS.out ?_
      refine wq_y rfl HF rfl rfl (fun _ HS => (yl_move rfl (HF.ev rfl))) ?_; clear HF a; intro a HF
      refine wq_y rfl HF rfl rfl (fun _ HS => (yl_fieldAddr (j := 3) rfl (HF.ev rfl) (by kernel_rfl))) ?_; clear HF a; intro a HF
      refine wq_y rfl HF rfl rfl (fun _ HS => (yl_load (v := .int .i64 o.fAt) rfl (HF.ev rfl) (((HS.box 1 rfl).cell 3).trans rfl) (by kernel_rfl))) ?_; clear HF a; intro a HF
      refine wq_call rfl HF rfl (enter_of Tryz.func15 (by kernel_rfl) rfl) (args := #[.int .i64 o.fAt]) rfl (v := .string (numB o.fAt)) (fun _ HS => numPutI_any o.fAt _ (HT.out.below HS.bel)) rfl rfl ?_; clear HF a; intro a HF
      refine wq_y rfl HF rfl rfl (fun _ HS => (yl_addS rfl (HF.ev rfl) (HF.ev rfl) (by (try simp only [size1, app_size]); omega))) ?_; clear HF a; intro a HF
      refine wq_y rfl HF rfl rfl (fun _ HS => (yl_addS rfl (HF.ev rfl) (HF.ev rfl) (by (try simp only [size1, app_size]); omega))) ?_; clear HF a; intro a HF
      refine wq_y rfl HF rfl rfl (fun _ HS => (yl_fieldAddr (j := 4) rfl (HF.ev rfl) (by kernel_rfl))) ?_; clear HF a; intro a HF
      refine wq_y rfl HF rfl rfl (fun _ HS => (yl_load (v := .string o.fText) rfl (HF.ev rfl) (((HS.box 1 rfl).cell 4).trans rfl) (by kernel_rfl))) ?_; clear HF a; intro a HF
      refine wq_y rfl HF rfl rfl (fun _ HS => (yl_addS rfl (HF.ev rfl) (HF.ev rfl) (by (try simp only [size1, app_size]); omega))) ?_; clear HF a; intro a HF
      refine wq_y rfl HF rfl rfl (fun _ HS => (yl_addS rfl (HF.ev rfl) (HF.ev rfl) (by (try simp only [size1, app_size]); omega))) ?_; clear HF a; intro a HF
      refine wq_y rfl HF rfl rfl (fun _ HS => (yl_assign rfl (HF.ev rfl))) ?_; clear HF a; intro a HF
      refine wpQuiet_nil ?_; intro w7 HS; replace HS := Bx.mk HS
      refine ex_block ?_
      refine ex_then ?_
      refine wp_sr ?_
      refine wl_mv HF rfl rfl rfl rfl rfl ?_; clear HF a; intro a HF
      refine wl_as HF rfl rfl rfl rfl rfl ?_; clear HF a; intro a HF
      refine wl_ne ?_
      refine wp_ret ?_
      refine bp_ret1 HF Tryz.results6 (HF.res rfl) ?_
      have hb : badB o = false := by rw [bad_3 (by omega), cc3, cc4]; rfl
      exact ⟨by rw [sayF_line hok hb, numB_in (n := o.fAt) (by omega) (by omega), line3 (by omega)]; simp only [spB, ba_assoc], HS.out.bel⟩
   ·clear HF; have HF := HF1; clear HF1
    have dcc2 := ne_of_beq_false cc2
    refine wc_false HF rfl ?_
    refine wp_sr ?_
    refine wl_y rfl HF rfl rfl (yl_eqlI rfl (HF.ev rfl) (HF.ev rfl)) ?_; clear HF a; intro a HF
    refine wl_as HF rfl rfl rfl rfl rfl ?_; clear HF a; intro a HF
    refine wl_ne ?_
    refine HF.cases 49 rfl (fun cc5 HF1 => ?_) (fun cc5 HF1 => ?_)
    ·clear HF; have HF := HF1; clear HF1
     have dcc5 := eq_of_beq cc5
     refine wc_true HF rfl ?_
     refine wp_region_lit ?_
     refine wl_mv HF rfl rfl rfl rfl rfl ?_; clear HF a; intro a HF
     refine wl_y rfl HF rfl rfl (yl_fieldAddr (j := 3) rfl (HF.ev rfl) (by kernel_rfl)) ?_; clear HF a; intro a HF
     refine wl_y rfl HF rfl rfl (yl_load (v := .int .i64 o.fAt) rfl (HF.ev rfl) (((HS.out.box 1 rfl).cell 3).trans rfl) (by kernel_rfl)) ?_; clear HF a; intro a HF
     refine wl_callB rfl HF rfl (enter_of Tryz.func15 (by kernel_rfl) rfl) (args := #[.int .i64 o.fAt]) rfl (v := .string (numB o.fAt)) (numPutI_any o.fAt _ (HT.out.below HS.out.bel)) rfl rfl HS.out ?_; clear HF HS a; intro w8 a HS HF; replace HS := Bx.mk HS
     refine wl_y rfl HF rfl rfl (yl_addS rfl (HF.ev rfl) (HF.ev rfl) (by (try simp only [size1, app_size]); omega)) ?_; clear HF a; intro a HF
     refine wl_y rfl HF rfl rfl (yl_addS rfl (HF.ev rfl) (HF.ev rfl) (by (try simp only [size1, app_size]); omega)) ?_; clear HF a; intro a HF
     refine wl_as HF rfl rfl rfl rfl rfl ?_; clear HF a; intro a HF
     refine wpList_nil ?_
     refine ex_block ?_
     refine ex_then ?_
     refine wp_sr ?_
     refine wl_mv HF rfl rfl rfl rfl rfl ?_; clear HF a; intro a HF
     refine wl_as HF rfl rfl rfl rfl rfl ?_; clear HF a; intro a HF
     refine wl_ne ?_
     refine wp_ret ?_
     refine bp_ret1 HF Tryz.results6 (HF.res rfl) ?_
     have hb := bad_no (o := o) (by omega)
     exact ⟨by rw [sayF_line hok hb, numB_in (n := o.fAt) (by omega) (by omega), line4 (by omega)]; simp only [spB, ba_assoc], HS.out.bel⟩
    ·clear HF; have HF := HF1; clear HF1
     have dcc5 := ne_of_beq_false cc5
     refine wc_false HF rfl ?_
     refine wp_seq ?_
     refine wp_sr ?_
     refine wl_y rfl HF rfl rfl (yl_eqlI rfl (HF.ev rfl) (HF.ev rfl)) ?_; clear HF a; intro a HF
     refine wl_as HF rfl rfl rfl rfl rfl ?_; clear HF a; intro a HF
     refine wl_ne ?_
     refine HF.cases 57 rfl (fun cc6 HF1 => ?_) (fun cc6 HF1 => ?_)
     ·clear HF; have HF := HF1; clear HF1
      have dcc6 := eq_of_beq cc6
      refine wc_true HF rfl ?_
      refine wp_skip ?_
      refine ex_then ?_
      refine wc_true HF rfl ?_
      refine wp_region_lit ?_
      refine wl_mv HF rfl rfl rfl rfl rfl ?_; clear HF a; intro a HF
      refine wl_y rfl HF rfl rfl (yl_fieldAddr (j := 2) rfl (HF.ev rfl) (by kernel_rfl)) ?_; clear HF a; intro a HF
      refine wl_y rfl HF rfl rfl (yl_load (v := .string o.fTo) rfl (HF.ev rfl) (((HS.out.box 1 rfl).cell 2).trans rfl) (by kernel_rfl)) ?_; clear HF a; intro a HF
      refine wl_y rfl HF rfl rfl (yl_addS rfl (HF.ev rfl) (HF.ev rfl) (by (try simp only [size1, app_size]); omega)) ?_; clear HF a; intro a HF
      refine wl_y rfl HF rfl rfl (yl_addS rfl (HF.ev rfl) (HF.ev rfl) (by (try simp only [size1, app_size]); omega)) ?_; clear HF a; intro a HF
      refine wl_as HF rfl rfl rfl rfl rfl ?_; clear HF a; intro a HF
      refine wpList_nil ?_
      refine ex_block ?_
      refine ex_then ?_
      refine wp_sr ?_
      refine wl_mv HF rfl rfl rfl rfl rfl ?_; clear HF a; intro a HF
      refine wl_as HF rfl rfl rfl rfl rfl ?_; clear HF a; intro a HF
      refine wl_ne ?_
      refine wp_ret ?_
      refine bp_ret1 HF Tryz.results6 (HF.res rfl) ?_
      have hb := bad_no (o := o) (by omega)
      exact ⟨by rw [sayF_line hok hb, line6 (by omega)]; simp only [spB, ba_assoc], HS.out.bel⟩
     ·clear HF; have HF := HF1; clear HF1
      have dcc6 := ne_of_beq_false cc6
      refine wc_false HF rfl ?_
      refine wp_region_lit ?_
      refine wl_y rfl HF rfl rfl (yl_eqlI rfl (HF.ev rfl) (HF.ev rfl)) ?_; clear HF a; intro a HF
      refine wl_as HF rfl rfl rfl rfl rfl ?_; clear HF a; intro a HF
      refine wl_ne ?_
      refine HF.cases 57 rfl (fun cc7 HF1 => ?_) (fun cc7 HF1 => ?_)
      ·clear HF; have HF := HF1; clear HF1
       have dcc7 := eq_of_beq cc7
       refine wc_true HF rfl ?_
       refine wp_region_lit ?_
       refine wl_mv HF rfl rfl rfl rfl rfl ?_; clear HF a; intro a HF
       refine wl_y rfl HF rfl rfl (yl_fieldAddr (j := 2) rfl (HF.ev rfl) (by kernel_rfl)) ?_; clear HF a; intro a HF
       refine wl_y rfl HF rfl rfl (yl_load (v := .string o.fTo) rfl (HF.ev rfl) (((HS.out.box 1 rfl).cell 2).trans rfl) (by kernel_rfl)) ?_; clear HF a; intro a HF
       refine wl_y rfl HF rfl rfl (yl_addS rfl (HF.ev rfl) (HF.ev rfl) (by (try simp only [size1, app_size]); omega)) ?_; clear HF a; intro a HF
       refine wl_y rfl HF rfl rfl (yl_addS rfl (HF.ev rfl) (HF.ev rfl) (by (try simp only [size1, app_size]); omega)) ?_; clear HF a; intro a HF
       refine wl_as HF rfl rfl rfl rfl rfl ?_; clear HF a; intro a HF
       refine wpList_nil ?_
       refine ex_block ?_
       refine ex_then ?_
       refine wp_sr ?_
       refine wl_mv HF rfl rfl rfl rfl rfl ?_; clear HF a; intro a HF
       refine wl_as HF rfl rfl rfl rfl rfl ?_; clear HF a; intro a HF
       refine wl_ne ?_
       refine wp_ret ?_
       refine bp_ret1 HF Tryz.results6 (HF.res rfl) ?_
       have hb := bad_no (o := o) (by omega)
       exact ⟨by rw [sayF_line hok hb, line6 (by omega)]; simp only [spB, ba_assoc], HS.out.bel⟩
      ·clear HF; have HF := HF1; clear HF1
       have dcc7 := ne_of_beq_false cc7
       refine wc_false HF rfl ?_
       refine wp_skip ?_
       refine ex_block ?_
       refine ex_then ?_
       refine wp_sr ?_
       refine wl_mv HF rfl rfl rfl rfl rfl ?_; clear HF a; intro a HF
       refine wl_as HF rfl rfl rfl rfl rfl ?_; clear HF a; intro a HF
       refine wl_ne ?_
       refine wp_ret ?_
       refine bp_ret1 HF Tryz.results6 (HF.res rfl) ?_
       have hb := bad_no (o := o) (by omega)
       exact ⟨by rw [sayF_line hok hb, line1 (by omega)]; simp only [spB, ba_assoc], HS.out.bel⟩
  ·skip
   obtain ⟨ws, n, hke, hve, hne⟩ := HQ.out.entry (mem_left he).1; rw [hke, hve] at HF1; clear HF HS a; rename Act => a; have HF := HF1; have HS := Bx.mk HS1; clear HF1 HS1
   replace HS : Bx (St w0 ([objA b2 (.mapIter (some bm) clock (seen.push e.born) clock), boxA b1 5 24 (.agg #[.int .i64 o.fKind, .string o.fPath, .string o.fTo, .int .i64 o.fAt, .string o.fText])]) _) := ⟨HS.out⟩
   refine wl_y rfl HF rfl rfl (yl_extract rfl (HF.ev rfl) rfl) ?_; clear HF a; intro a HF
   refine wl_ne ?_
   refine wp_seq ?_
   refine wc_true HF rfl ?_
   refine wp_skip ?_
   refine ex_then ?_
   refine wp_block ?_
   refine wp_sr ?_
   refine wl_y rfl HF rfl rfl (yl_entryM2 rfl (HF.ev rfl) (HQ.out.below HS.out.bel).map (mem_left he).1 HQ.out.fit.stamped.2.1 HS.out 0 rfl hke hve) ?_; clear HF a; intro a HF
   refine wl_y rfl HF rfl rfl (yl_extract rfl (HF.ev rfl) rfl) ?_; clear HF a; intro a HF
   refine wl_y rfl HF rfl rfl (yl_extract rfl (HF.ev rfl) rfl) ?_; clear HF a; intro a HF
   refine wl_as HF rfl rfl rfl rfl rfl ?_; clear HF a; intro a HF
   refine wl_as HF rfl rfl rfl rfl rfl ?_; clear HF a; intro a HF
   refine wl_ne ?_
   refine wp_sr ?_
   refine wl_mv HF rfl rfl rfl rfl rfl ?_; clear HF a; intro a HF
   refine wl_y rfl HF rfl rfl (yl_fieldAddr (j := 0) rfl (HF.ev rfl) (by kernel_rfl)) ?_; clear HF a; intro a HF
   refine wl_y rfl HF rfl rfl (yl_load (v := .int .i64 o.fKind) rfl (HF.ev rfl) (((HS.out.box 1 rfl).cell 0).trans rfl) (by kernel_rfl)) ?_; clear HF a; intro a HF
   refine wl_y rfl HF rfl rfl (yl_eqlI rfl (HF.ev rfl) (HF.ev rfl)) ?_; clear HF a; intro a HF
   refine wl_ne ?_
   refine HF.cases 20 rfl (fun cc8 HF1 => ?_) (fun cc8 HF1 => ?_)
   ·clear HF; have HF := HF1; clear HF1
    have dcc8 := eq_of_beq cc8
    refine wc_true HF rfl ?_
    refine wp_region_lit ?_
    refine wl_mv HF rfl rfl rfl rfl rfl ?_; clear HF a; intro a HF
    refine wl_as HF rfl rfl rfl rfl rfl ?_; clear HF a; intro a HF
    refine wpList_nil ?_
    refine ex_block ?_
    refine ex_then ?_
    have hnx : WInv es o.fKind (seen.push e.born) ws := .hit (word_of hk (by omega))
    have hlt := left_shrinks es seen e he
    exact ⟨(Go.leftOf es (seen.push e.born)).size, ⟨seen.push e.born, ws, ⟨rfl, hnx⟩, HF.less _ ⟨rfl, rfl, rfl, rfl, trivial⟩, HS.out⟩, (by rw [hkl]; exact hlt)⟩
   ·clear HF; have HF := HF1; clear HF1
    have dcc8 := ne_of_beq_false cc8
    refine wc_false HF rfl ?_
    refine wp_skip ?_
    refine ex_block ?_
    refine ex_then ?_
    have hnx := hinv.miss HQ.out.fit.stamped.2.1 (mem_left he).1 hve (by omega)
    have hlt := left_shrinks es seen e he
    exact ⟨(Go.leftOf es (seen.push e.born)).size, ⟨seen.push e.born, v, ⟨rfl, hnx⟩, HF.less _ ⟨rfl, rfl, rfl, rfl, trivial⟩, HS.out⟩, (by rw [hkl]; exact hlt)⟩

theorem eqOpW (x : OpD) (w : World) : (Op.equalIn 10000 24 (.agg #[.int .i64 x.fKind, .string x.fPath, .string x.fTo, .int .i64 x.fAt, .string x.fText]) (.agg #[.int .i64 x.fKind, .string x.fPath, .string x.fTo, .int .i64 x.fAt, .string x.fText])).run Tryz.prog w = .ok true w := by
  have hS : Tryz.prog.underlying 24 = some (.struct (Tryz.prog.fieldsOf 24)) := by kernel_rfl
  have hp : Tryz.prog.stoodInHeld 24 = false := by kernel_rfl
  rw [show (10000 : Nat) = 9999 + 1 from rfl, run_equalIn_agg w 9999 24 _ _ hS hp]
  simp only [Program.fieldsOf, Tryz.underlying24]
  go_simp
theorem yl_neqOp {w : World} {o : Oper} {a : Act} {x y : Operand} {t' : TypeId} (z : OpD) (ho : o.op = .binOp .neq 24 x y t') (hx : a.eval x = .agg #[.int .i64 z.fKind, .string z.fPath, .string z.fTo, .int .i64 z.fAt, .string z.fText]) (hy : a.eval y = .agg #[.int .i64 z.fKind, .string z.fPath, .string z.fTo, .int .i64 z.fAt, .string z.fText]) : Yl Tryz.prog w o a (.bool false) := by
  have he := eqOpW z w
  unfold Yl execOp
  simp only [ho, hx, hy]
  simp [eqGuard, binOp, go_sem, Op.equal]
  rw [show Op.maxDepth = 10000 from rfl, he]; rfl
theorem l31Words_at (w0 : World) : Calls Tryz.prog 17 #[] w0 fun e w' => ∃ g cp, e = .returned (.slice (some ⟨g, 0, none⟩) 8 cp) ∧ St w0 [rowA encS 1 9 (.slice (some ⟨g, 0, none⟩) 8 cp) wordsL] w' := by
  refine (l31Words_any w0).mono ?_
  rintro e w' ⟨ao, cp, rfl, hs⟩
  obtain ⟨g, rfl, _, _, _, _⟩ := hs.rowOpen 0 rfl (by decide)
  exact ⟨g, cp, rfl, hs⟩
theorem specSay_ways (o : OpD) (w0 : World) (ho : o.ok = true) : Calls Tryz.prog 10 #[.string (lineB o)] w0 fun e w' => (badB o = true ∧ e = .returned (.tuple #[.agg #[.int .i64 0, .string ByteArray.empty, .string ByteArray.empty, .int .i64 0, .string ByteArray.empty], .bool false]) ∧ Below w0.heap.size w0 w') ∨ ((1 < (piecesB (lineB o) 10).length ↔ badB o = true) ∧ e = .returned (.tuple #[.agg #[.int .i64 o.fKind, .string o.fPath, .string o.fTo, .int .i64 o.fAt, .string o.fText], .bool true]) ∧ Below w0.heap.size w0 w') := by
  refine (specShellOp_any (lineB o) w0 (Nat.le_trans (line_size ho) (by decide))).mono ?_
  rintro e w' (⟨o2, h, rfl, hb⟩ | ⟨h, rfl, hb⟩)
  · rcases say_law ho with ⟨h1, _⟩ | ⟨h1, h2⟩
    · rw [h1] at h; cases h
    · rw [h1] at h; cases h
      exact .inr ⟨h2, rfl, hb⟩
  · rcases say_law ho with ⟨_, h2⟩ | ⟨h1, _⟩
    · exact .inl ⟨h2, rfl, hb⟩
    · rw [h1] at h; cases h

theorem specShellSay_any (o : OpD) (w0 : World) (h1 : o.fPath.size ≤ 1048576) (h2 : o.fTo.size ≤ 1048576) (h3 : o.fText.size ≤ 1048576) : Calls Tryz.prog 7 #[.agg #[.int .i64 o.fKind, .string o.fPath, .string o.fTo, .int .i64 o.fAt, .string o.fText]] w0 fun e w' => e = .returned (.string (sayF o)) ∧ Below w0.heap.size w0 w' := by
  have HS := Bx.mk (St.start w0)
  refine wc_enter Tryz.func7 rfl Tryz.ntmps7 [(0, .agg #[.int .i64 o.fKind, .string o.fPath, .string o.fTo, .int .i64 o.fAt, .string o.fText])] ⟨rfl, trivial⟩ rfl ?_; intro a HF
  refine wp_sr ?_
  refine wl_box rfl HF rfl (HF.ev rfl) (Z := [.int .i64 o.fKind, .string o.fPath, .string o.fTo, .int .i64 o.fAt, .string o.fText]) rfl rfl rfl rfl HS.out ?_; clear HF HS a; intro a w1 b1 HF HS; replace HS := Bx.mk HS
  refine wl_as HF rfl rfl rfl rfl rfl ?_; clear HF a; intro a HF
  refine wl_ne ?_
  refine wp_seq ?_
  refine wp_sr ?_
  refine wl_y rfl HF rfl rfl (yl_loadR (cs := [.int .i64 o.fKind, .string o.fPath, .string o.fTo, .int .i64 o.fAt, .string o.fText]) rfl (HF.ev rfl) ((HS.out.box 0 rfl).sub 0 5) (by kernel_rfl)) ?_; clear HF a; intro a HF
  refine wl_callB rfl HF rfl (enter_of Tryz.func16 (by kernel_rfl) rfl) (args := #[.agg #[.int .i64 o.fKind, .string o.fPath, .string o.fTo, .int .i64 o.fAt, .string o.fText]]) rfl (v := .bool o.ok) (specOpOk_any o _ (by omega) (by omega) (by omega)) rfl rfl HS.out ?_; clear HF HS a; intro w2 a HS HF; replace HS := Bx.mk HS
  refine wl_y rfl HF rfl rfl (yl_not rfl (HF.ev rfl)) ?_; clear HF a; intro a HF
  refine wl_ne ?_
  refine HF.cases 8 rfl (fun cc1 HF1 => ?_) (fun cc1 HF1 => ?_)
  · clear HF; have HF := HF1; clear HF1
    refine wc_true HF rfl ?_
    refine wp_sr ?_
    refine wl_as HF rfl rfl rfl rfl rfl ?_; clear HF a; intro a HF
    refine wl_ne ?_
    refine wp_ret ?_
    refine ex_then_ret ?_
    refine bp_ret1 HF Tryz.results7 (HF.res rfl) ?_
    exact ⟨by rw [sayF_no (by simpa using cc1)]; rfl, HS.out.bel⟩
  · clear HF; have HF := HF1; clear HF1
    have hok := (show o.ok = true from by simpa using cc1); have D := ok_of hok; have hk := D.k; have hps := D.ps; have hts := D.ts; have htos := D.tos; have hat := D.at1; have hwz := word_size D.k; have h9n := numB_le o.fAt; have hwl : wordsL.length = 8 := rfl; have hwz2 : (wordsL.getD o.fKind.toNat ByteArray.empty).size ≤ 6 := hwz; have h9 : (decB o.fAt.toNat).size ≤ 9 := decB_9 (by omega)
    refine wc_false HF rfl ?_
    refine wp_skip ?_
    refine ex_then ?_
    refine wp_seq ?_
    refine wr_heldS (s := [boxA b1 5 24 (.agg #[.int .i64 o.fKind, .string o.fPath, .string o.fTo, .int .i64 o.fAt, .string o.fText])]) (by kernel_rfl) (St.drew (HS.out)) ?_
    have HS2 := Bx.mk HS.out.drew; replace HS := Bx.mk (show St w0 ([boxA b1 5 24 (.agg #[.int .i64 o.fKind, .string o.fPath, .string o.fTo, .int .i64 o.fAt, .string o.fText])]) _ from HS.out.drew)
    generalize World.drew _ = w3 at HS HS2 ⊢
    refine wh_y 1 rfl (by kernel_rfl) (by kernel_rfl) (by kernel_rfl) (fun _ _ _ h => h) rfl HF rfl rfl (fun _ HS => (yl_fieldAddr (j := 0) rfl (HF.ev rfl) (by kernel_rfl))) HS.out ?_; clear HF a; intro a HF
    refine wh_y 2 rfl (by kernel_rfl) (by kernel_rfl) (by kernel_rfl) (fun _ _ _ h => h) rfl HF rfl rfl (fun _ HS => (yl_load (v := .int .i64 o.fKind) rfl (HF.ev rfl) (((HS.box 0 rfl).cell 0).trans rfl) (by kernel_rfl))) HS.out ?_; clear HF a; intro a HF
    refine wh_y 6 rfl (by kernel_rfl) (by kernel_rfl) (by kernel_rfl) (fun _ _ _ h => h) rfl HF rfl rfl (fun _ HS => (yl_fieldAddr (j := 1) rfl (HF.ev rfl) (by kernel_rfl))) HS.out ?_; clear HF a; intro a HF
    refine wh_y 7 rfl (by kernel_rfl) (by kernel_rfl) (by kernel_rfl) (fun _ _ _ h => h) rfl HF rfl rfl (fun _ HS => (yl_load (v := .string o.fPath) rfl (HF.ev rfl) (((HS.box 0 rfl).cell 1).trans rfl) (by kernel_rfl))) HS.out ?_; clear HF a; intro a HF
    refine wh_one 0 (by kernel_rfl) ?_
    refine wo_call rfl rfl HF rfl (enter_of Tryz.func17 (by kernel_rfl) rfl) (args := #[]) rfl (l31Words_at _) rfl rfl ?_
    rintro _ w5 ⟨gw2, cpw2, rfl, hs⟩
    refine ⟨_, rfl, ?_⟩
    replace HS := Bx.mk (HS.out.later hs.bel); replace HS2 := Bx.mk (HS2.out.add hs); clear hs HF; clear a; intro a HF
    replace HS2 : Bx (St w0 ([rowA encS 1 9 (.slice (some ⟨gw2, 0, none⟩) 8 cpw2) wordsL, boxA b1 5 24 (.agg #[.int .i64 o.fKind, .string o.fPath, .string o.fTo, .int .i64 o.fAt, .string o.fText])]) _) := ⟨HS2.out⟩
    refine ⟨HS.out, ?_⟩
    refine wh_y 3 rfl (by kernel_rfl) (by kernel_rfl) (by kernel_rfl) (fun _ _ _ h => h) rfl HF rfl rfl (fun _ HS => (yl_indexAddr (e := 9) (i := o.fKind.toNat) (size := 1) rfl (HF.ev rfl) (HF.ev rfl) (by kernel_rfl) (by omega) (by omega))) HS.out ?_; clear HF a; intro a HF
    refine wh_one 4 (by kernel_rfl) ?_
    refine wo_y rfl rfl HF rfl rfl (yl_load (v := .string (wordsL.getD o.fKind.toNat ByteArray.empty)) rfl (HF.ev rfl) (HS2.out.elem1 encS_len 0 rfl (get_getD (xs := wordsL) (j := o.fKind.toNat) (d := ByteArray.empty) (by omega)) rfl) (by kernel_rfl)) ?_; clear HF a; intro a HF; refine ⟨HS.out, ?_⟩
    refine wh_y 5 rfl (by kernel_rfl) (by kernel_rfl) (by kernel_rfl) (fun _ _ _ h => h) rfl HF rfl rfl (fun _ HS => (yl_addS rfl (HF.ev rfl) (HF.ev rfl) (by (try simp only [size1, app_size]); omega))) HS.out ?_; clear HF a; intro a HF
    refine wh_y 8 rfl (by kernel_rfl) (by kernel_rfl) (by kernel_rfl) (fun _ _ _ h => h) rfl HF rfl rfl (fun _ HS => (yl_addS rfl (HF.ev rfl) (HF.ev rfl) (by (try simp only [size1, app_size]); omega))) HS.out ?_; clear HF a; intro a HF
    refine wh_y 9 rfl (by kernel_rfl) (by kernel_rfl) (by kernel_rfl) (fun _ _ _ h => h) rfl HF rfl rfl (fun _ HS => (yl_assign rfl (HF.ev rfl))) HS.out ?_; clear HF a; intro a HF
    refine wh_done (by kernel_rfl) ?_
    replace HS := HS2; clear HS2
    refine ex_then ?_
    refine wp_seq ?_
    refine wp_sr ?_
    refine wl_y rfl HF rfl rfl (yl_fieldAddr (j := 0) rfl (HF.ev rfl) (by kernel_rfl)) ?_; clear HF a; intro a HF
    refine wl_y rfl HF rfl rfl (yl_load (v := .int .i64 o.fKind) rfl (HF.ev rfl) (((HS.out.box 1 rfl).cell 0).trans rfl) (by kernel_rfl)) ?_; clear HF a; intro a HF
    refine wl_ne ?_
    refine wp_block ?_
    refine wp_sr ?_
    refine wl_y rfl HF rfl rfl (yl_eqlI rfl (HF.ev rfl) (HF.ev rfl)) ?_; clear HF a; intro a HF
    refine wl_as HF rfl rfl rfl rfl rfl ?_; clear HF a; intro a HF
    refine wl_ne ?_
    refine HF.cases 20 rfl (fun cc2 HF1 => ?_) (fun cc2 HF1 => ?_)
    · clear HF; have HF := HF1; clear HF1
      have dcc2 := eq_of_beq cc2
      refine wc_true HF rfl ?_
      refine wr_quiet (by kernel_rfl) (by kernel_rfl) HS.out ?_
      refine wq_y rfl HF rfl rfl (fun _ HS => (yl_move rfl (HF.ev rfl))) ?_; clear HF a; intro a HF
      refine wq_y rfl HF rfl rfl (fun _ HS => (yl_addS rfl (HF.ev rfl) (HF.ev rfl) (by (try simp only [size1, app_size]); omega))) ?_; clear HF a; intro a HF
      refine wq_y rfl HF rfl rfl (fun _ HS => (yl_fieldAddr (j := 3) rfl (HF.ev rfl) (by kernel_rfl))) ?_; clear HF a; intro a HF
      refine wq_y rfl HF rfl rfl (fun _ HS => (yl_load (v := .int .i64 o.fAt) rfl (HF.ev rfl) (((HS.box 1 rfl).cell 3).trans rfl) (by kernel_rfl))) ?_; clear HF a; intro a HF
      refine wq_call rfl HF rfl (enter_of Tryz.func18 (by kernel_rfl) rfl) (args := #[.int .i64 o.fAt]) rfl (v := .string (decB o.fAt.toNat)) (fun _ HS => l6DecI_any o.fAt (by omega) (by omega) _) rfl rfl ?_; clear HF a; intro a HF
      refine wq_y rfl HF rfl rfl (fun _ HS => (yl_addS rfl (HF.ev rfl) (HF.ev rfl) (by (try simp only [size1, app_size]); omega))) ?_; clear HF a; intro a HF
      refine wq_y rfl HF rfl rfl (fun _ HS => (yl_addS rfl (HF.ev rfl) (HF.ev rfl) (by (try simp only [size1, app_size]); omega))) ?_; clear HF a; intro a HF
      refine wq_y rfl HF rfl rfl (fun _ HS => (yl_fieldAddr (j := 4) rfl (HF.ev rfl) (by kernel_rfl))) ?_; clear HF a; intro a HF
      refine wq_y rfl HF rfl rfl (fun _ HS => (yl_load (v := .string o.fText) rfl (HF.ev rfl) (((HS.box 1 rfl).cell 4).trans rfl) (by kernel_rfl))) ?_; clear HF a; intro a HF
      refine wq_y rfl HF rfl rfl (fun _ HS => (yl_addS rfl (HF.ev rfl) (HF.ev rfl) (by (try simp only [size1, app_size]); omega))) ?_; clear HF a; intro a HF
      refine wq_y rfl HF rfl rfl (fun _ HS => (yl_assign rfl (HF.ev rfl))) ?_; clear HF a; intro a HF
      refine wpQuiet_nil ?_; intro w7 HS; replace HS := Bx.mk HS
      refine ex_block ?_
      refine ex_then ?_
      refine wp_seq ?_
      have hline : ((((((wordsL.getD o.fKind.toNat ByteArray.empty) ++ (⟨#[32]⟩ : ByteArray)) ++ o.fPath) ++ (⟨#[32]⟩ : ByteArray)) ++ (decB o.fAt.toNat)) ++ (⟨#[32]⟩ : ByteArray)) ++ o.fText = lineB o := by rw [line3 (by omega)]; simp only [spB, ba_assoc, wordK]
      rw [hline] at HF; replace HF : Fr 67 a [(1, .pointer (some ⟨b1, 0, none⟩)), (2, .string (⟨#[]⟩ : ByteArray)), (3, .string (lineB o))] := HF.less _ ⟨rfl, rfl, rfl, trivial⟩
      refine wp_region_lit ?_
      refine wl_mv HF rfl rfl rfl rfl rfl ?_; clear HF a; intro a HF
      refine wl_call rfl HF rfl (enter_of Tryz.func10 (by kernel_rfl) rfl) (args := #[.string (lineB o)]) rfl (specSay_ways o _ hok) rfl rfl ?_
      rintro _ w8 (⟨hbad, rfl, hb⟩ | ⟨hiff, rfl, hb⟩)
      · skip
        refine ⟨_, rfl, ?_⟩; replace HS := Bx.mk (HS.out.later hb); clear hb HF; clear a; intro a HF
        refine wl_mv HF rfl rfl rfl rfl rfl ?_; clear HF a; intro a HF
        refine wl_y rfl HF rfl rfl (yl_extract rfl (HF.ev rfl) rfl) ?_; clear HF a; intro a HF
        refine wl_y rfl HF rfl rfl (yl_extract rfl (HF.ev rfl) rfl) ?_; clear HF a; intro a HF
        refine wl_alloc rfl HF rfl rfl rfl (Z := [.int .i64 0, .string ByteArray.empty, .string ByteArray.empty, .int .i64 0, .string ByteArray.empty]) (by kernel_rfl) rfl HS.out ?_; clear HF HS a; intro a w9 b3 HF HS; replace HS := Bx.mk HS
        refine wl_storeBox rfl HF rfl rfl (HF.ev rfl) (HF.ev rfl) HS.out 0 rfl (cells_lit [.int .i64 0, .string ByteArray.empty, .string ByteArray.empty, .int .i64 0, .string ByteArray.empty] rfl rfl) (by kernel_rfl) ?_; clear HS; intro w10 HS; replace HS := Bx.mk HS
        have HS : Bx (St w0 ([boxA b3 5 24 (.agg #[.int .i64 0, .string ByteArray.empty, .string ByteArray.empty, .int .i64 0, .string ByteArray.empty]), rowA encS 1 9 (.slice (some ⟨gw2, 0, none⟩) 8 cpw2) wordsL, boxA b1 5 24 (.agg #[.int .i64 o.fKind, .string o.fPath, .string o.fTo, .int .i64 o.fAt, .string o.fText])]) _) := HS
        refine wl_as HF rfl rfl rfl rfl rfl ?_; clear HF a; intro a HF
        refine wl_ne ?_
        refine wp_seq ?_
        refine wp_sr ?_
        refine wl_mv HF rfl rfl rfl rfl rfl ?_; clear HF a; intro a HF
        refine wl_y rfl HF rfl rfl (yl_not rfl (HF.ev rfl)) ?_; clear HF a; intro a HF
        refine wl_mv HF rfl rfl rfl rfl rfl ?_; clear HF a; intro a HF
        refine wl_skip HF rfl rfl rfl rfl rfl rfl ?_; clear HF a; intro a HF
        refine wl_skip HF rfl rfl rfl rfl rfl rfl ?_; clear HF a; intro a HF
        refine wl_skip HF rfl rfl rfl rfl rfl rfl ?_; clear HF a; intro a HF
        refine wl_y rfl HF rfl rfl (yl_pick_t rfl (HF.ev rfl) (HF.ev rfl)) ?_; clear HF a; intro a HF
        refine wl_mv HF rfl rfl rfl rfl rfl ?_; clear HF a; intro a HF
        refine wl_skip HF rfl rfl rfl rfl rfl rfl ?_; clear HF a; intro a HF
        refine wl_skip HF rfl rfl rfl rfl rfl rfl ?_; clear HF a; intro a HF
        refine wl_skip HF rfl rfl rfl rfl rfl rfl ?_; clear HF a; intro a HF
        refine wl_skip HF rfl rfl rfl rfl rfl rfl ?_; clear HF a; intro a HF
        refine wl_y rfl HF rfl rfl (yl_pick_t rfl (HF.ev rfl) (HF.ev rfl)) ?_; clear HF a; intro a HF
        refine wl_ne ?_
        refine wc_true HF rfl ?_
        refine wp_sr ?_
        refine wl_as HF rfl rfl rfl rfl rfl ?_; clear HF a; intro a HF
        refine wl_ne ?_
        refine wp_ret ?_
        refine ex_then_ret ?_
        refine bp_ret1 HF Tryz.results7 (HF.res rfl) ?_
        exact ⟨by rw [sayF_bad hbad]; rfl, HS.out.bel⟩
      · skip
        refine ⟨_, rfl, ?_⟩; replace HS := Bx.mk (HS.out.later hb); clear hb HF; clear a; intro a HF
        refine wl_mv HF rfl rfl rfl rfl rfl ?_; clear HF a; intro a HF
        refine wl_y rfl HF rfl rfl (yl_extract rfl (HF.ev rfl) rfl) ?_; clear HF a; intro a HF
        refine wl_y rfl HF rfl rfl (yl_extract rfl (HF.ev rfl) rfl) ?_; clear HF a; intro a HF
        refine wl_alloc rfl HF rfl rfl rfl (Z := [.int .i64 0, .string ByteArray.empty, .string ByteArray.empty, .int .i64 0, .string ByteArray.empty]) (by kernel_rfl) rfl HS.out ?_; clear HF HS a; intro a w11 b4 HF HS; replace HS := Bx.mk HS
        refine wl_storeBox rfl HF rfl rfl (HF.ev rfl) (HF.ev rfl) HS.out 0 rfl (cells_lit [.int .i64 o.fKind, .string o.fPath, .string o.fTo, .int .i64 o.fAt, .string o.fText] rfl rfl) (by kernel_rfl) ?_; clear HS; intro w12 HS; replace HS := Bx.mk HS
        have HS : Bx (St w0 ([boxA b4 5 24 (.agg #[.int .i64 o.fKind, .string o.fPath, .string o.fTo, .int .i64 o.fAt, .string o.fText]), rowA encS 1 9 (.slice (some ⟨gw2, 0, none⟩) 8 cpw2) wordsL, boxA b1 5 24 (.agg #[.int .i64 o.fKind, .string o.fPath, .string o.fTo, .int .i64 o.fAt, .string o.fText])]) _) := HS
        refine wl_as HF rfl rfl rfl rfl rfl ?_; clear HF a; intro a HF
        refine wl_ne ?_
        refine wp_seq ?_
        refine wp_sr ?_
        refine wl_mv HF rfl rfl rfl rfl rfl ?_; clear HF a; intro a HF
        refine wl_y rfl HF rfl rfl (yl_not rfl (HF.ev rfl)) ?_; clear HF a; intro a HF
        refine wl_mv HF rfl rfl rfl rfl rfl ?_; clear HF a; intro a HF
        refine wl_yg HF rfl rfl rfl rfl rfl (yl_loadR (cs := [.int .i64 o.fKind, .string o.fPath, .string o.fTo, .int .i64 o.fAt, .string o.fText]) rfl (HF.ev rfl) ((HS.out.box 0 rfl).sub 0 5) (by kernel_rfl)) ?_; clear HF a; intro a HF
        refine wl_yg HF rfl rfl rfl rfl rfl (yl_loadR (cs := [.int .i64 o.fKind, .string o.fPath, .string o.fTo, .int .i64 o.fAt, .string o.fText]) rfl (HF.ev rfl) ((HS.out.box 2 rfl).sub 0 5) (by kernel_rfl)) ?_; clear HF a; intro a HF
        refine wl_yg HF rfl rfl rfl rfl rfl (yl_neqOp o rfl (HF.ev rfl) (HF.ev rfl)) ?_; clear HF a; intro a HF
        refine wl_y rfl HF rfl rfl (yl_pick_f rfl (HF.ev rfl) (HF.ev rfl)) ?_; clear HF a; intro a HF
        refine wl_mv HF rfl rfl rfl rfl rfl ?_; clear HF a; intro a HF
        refine wl_yg HF rfl rfl rfl rfl rfl (yl_move rfl (HF.ev rfl)) ?_; clear HF a; intro a HF
        refine wl_callg HF rfl rfl rfl rfl (enter_of Tryz.func19 (by kernel_rfl) rfl) (args := #[.string (lineB o), .int .u8 10]) rfl (l2Cut_any (lineB o) 10 _ (Nat.le_trans (line_size hok) (by decide))) rfl rfl ?_
        rintro _ w13 ⟨ao5, cp5, rfl, hs⟩
        refine ⟨_, rfl, ?_⟩
        replace HS := Bx.mk (HS.out.add hs); clear hs HF; clear a; intro a HF
        replace HS : Bx (St w0 ([rowA encS 1 9 (.slice ao5 ((piecesB (lineB o) 10).length) cp5) (piecesB (lineB o) 10), boxA b4 5 24 (.agg #[.int .i64 o.fKind, .string o.fPath, .string o.fTo, .int .i64 o.fAt, .string o.fText]), rowA encS 1 9 (.slice (some ⟨gw2, 0, none⟩) 8 cpw2) wordsL, boxA b1 5 24 (.agg #[.int .i64 o.fKind, .string o.fPath, .string o.fTo, .int .i64 o.fAt, .string o.fText])]) _) := ⟨HS.out⟩
        refine wl_yg HF rfl rfl rfl rfl rfl (yl_lenL (e := 9) (size := 1) rfl (HF.ev rfl) (by kernel_rfl)) ?_; clear HF a; intro a HF
        refine wl_yg HF rfl rfl rfl rfl rfl (yl_gtrI rfl (HF.ev rfl) (HF.ev rfl)) ?_; clear HF a; intro a HF
        refine wl_y rfl HF rfl rfl (yl_pick_f rfl (HF.ev rfl) (HF.ev rfl)) ?_; clear HF a; intro a HF
        refine wl_ne ?_
        refine HF.cases 65 rfl (fun cc3 HF1 => ?_) (fun cc3 HF1 => ?_)
        · clear HF; have HF := HF1; clear HF1
          have dcc3 := of_decide_eq_true cc3
          refine wc_true HF rfl ?_
          refine wp_sr ?_
          refine wl_as HF rfl rfl rfl rfl rfl ?_; clear HF a; intro a HF
          refine wl_ne ?_
          refine wp_ret ?_
          refine ex_then_ret ?_
          refine bp_ret1 HF Tryz.results7 (HF.res rfl) ?_
          exact ⟨by rw [sayF_bad (hiff.1 (by omega))]; rfl, HS.out.bel⟩
        · clear HF; have HF := HF1; clear HF1
          have dcc3 := of_decide_eq_false cc3
          refine wc_false HF rfl ?_
          refine wp_skip ?_
          refine ex_then ?_
          refine wp_sr ?_
          refine wl_mv HF rfl rfl rfl rfl rfl ?_; clear HF a; intro a HF
          refine wl_as HF rfl rfl rfl rfl rfl ?_; clear HF a; intro a HF
          refine wl_ne ?_
          refine wp_ret ?_
          refine bp_ret1 HF Tryz.results7 (HF.res rfl) ?_
          have hb : badB o = false := by
            cases hq : badB o with
            | false => rfl
            | true => have := hiff.2 hq; omega
          exact ⟨by rw [sayF_line hok hb], HS.out.bel⟩
    · clear HF; have HF := HF1; clear HF1
      have dcc2 := ne_of_beq_false cc2
      refine wc_false HF rfl ?_
      refine wp_sr ?_
      refine wl_y rfl HF rfl rfl (yl_eqlI rfl (HF.ev rfl) (HF.ev rfl)) ?_; clear HF a; intro a HF
      refine wl_as HF rfl rfl rfl rfl rfl ?_; clear HF a; intro a HF
      refine wl_ne ?_
      refine HF.cases 32 rfl (fun cc4 HF1 => ?_) (fun cc4 HF1 => ?_)
      · clear HF; have HF := HF1; clear HF1
        have dcc4 := eq_of_beq cc4
        refine wc_true HF rfl ?_
        refine wp_region_lit ?_
        refine wl_mv HF rfl rfl rfl rfl rfl ?_; clear HF a; intro a HF
        refine wl_y rfl HF rfl rfl (yl_addS rfl (HF.ev rfl) (HF.ev rfl) (by (try simp only [size1, app_size]); omega)) ?_; clear HF a; intro a HF
        refine wl_y rfl HF rfl rfl (yl_fieldAddr (j := 3) rfl (HF.ev rfl) (by kernel_rfl)) ?_; clear HF a; intro a HF
        refine wl_y rfl HF rfl rfl (yl_load (v := .int .i64 o.fAt) rfl (HF.ev rfl) (((HS.out.box 1 rfl).cell 3).trans rfl) (by kernel_rfl)) ?_; clear HF a; intro a HF
        refine wl_callB rfl HF rfl (enter_of Tryz.func18 (by kernel_rfl) rfl) (args := #[.int .i64 o.fAt]) rfl (v := .string (decB o.fAt.toNat)) (l6DecI_any o.fAt (by omega) (by omega) _) rfl rfl HS.out ?_; clear HF HS a; intro w14 a HS HF; replace HS := Bx.mk HS
        refine wl_y rfl HF rfl rfl (yl_addS rfl (HF.ev rfl) (HF.ev rfl) (by (try simp only [size1, app_size]); omega)) ?_; clear HF a; intro a HF
        refine wl_as HF rfl rfl rfl rfl rfl ?_; clear HF a; intro a HF
        refine wpList_nil ?_
        refine ex_block ?_
        refine ex_then ?_
        refine wp_seq ?_
        have hline : ((((wordsL.getD o.fKind.toNat ByteArray.empty) ++ (⟨#[32]⟩ : ByteArray)) ++ o.fPath) ++ (⟨#[32]⟩ : ByteArray)) ++ (decB o.fAt.toNat) = lineB o := by rw [line4 (by omega)]; simp only [spB, ba_assoc, wordK]
        rw [hline] at HF; replace HF : Fr 67 a [(1, .pointer (some ⟨b1, 0, none⟩)), (2, .string (⟨#[]⟩ : ByteArray)), (3, .string (lineB o))] := HF.less _ ⟨rfl, rfl, rfl, trivial⟩
        refine wp_region_lit ?_
        refine wl_mv HF rfl rfl rfl rfl rfl ?_; clear HF a; intro a HF
        refine wl_call rfl HF rfl (enter_of Tryz.func10 (by kernel_rfl) rfl) (args := #[.string (lineB o)]) rfl (specSay_ways o _ hok) rfl rfl ?_
        rintro _ w15 (⟨hbad, rfl, hb⟩ | ⟨hiff, rfl, hb⟩)
        · skip
          refine ⟨_, rfl, ?_⟩; replace HS := Bx.mk (HS.out.later hb); clear hb HF; clear a; intro a HF
          refine wl_mv HF rfl rfl rfl rfl rfl ?_; clear HF a; intro a HF
          refine wl_y rfl HF rfl rfl (yl_extract rfl (HF.ev rfl) rfl) ?_; clear HF a; intro a HF
          refine wl_y rfl HF rfl rfl (yl_extract rfl (HF.ev rfl) rfl) ?_; clear HF a; intro a HF
          refine wl_alloc rfl HF rfl rfl rfl (Z := [.int .i64 0, .string ByteArray.empty, .string ByteArray.empty, .int .i64 0, .string ByteArray.empty]) (by kernel_rfl) rfl HS.out ?_; clear HF HS a; intro a w16 b6 HF HS; replace HS := Bx.mk HS
          refine wl_storeBox rfl HF rfl rfl (HF.ev rfl) (HF.ev rfl) HS.out 0 rfl (cells_lit [.int .i64 0, .string ByteArray.empty, .string ByteArray.empty, .int .i64 0, .string ByteArray.empty] rfl rfl) (by kernel_rfl) ?_; clear HS; intro w17 HS; replace HS := Bx.mk HS
          have HS : Bx (St w0 ([boxA b6 5 24 (.agg #[.int .i64 0, .string ByteArray.empty, .string ByteArray.empty, .int .i64 0, .string ByteArray.empty]), rowA encS 1 9 (.slice (some ⟨gw2, 0, none⟩) 8 cpw2) wordsL, boxA b1 5 24 (.agg #[.int .i64 o.fKind, .string o.fPath, .string o.fTo, .int .i64 o.fAt, .string o.fText])]) _) := HS
          refine wl_as HF rfl rfl rfl rfl rfl ?_; clear HF a; intro a HF
          refine wl_ne ?_
          refine wp_seq ?_
          refine wp_sr ?_
          refine wl_mv HF rfl rfl rfl rfl rfl ?_; clear HF a; intro a HF
          refine wl_y rfl HF rfl rfl (yl_not rfl (HF.ev rfl)) ?_; clear HF a; intro a HF
          refine wl_mv HF rfl rfl rfl rfl rfl ?_; clear HF a; intro a HF
          refine wl_skip HF rfl rfl rfl rfl rfl rfl ?_; clear HF a; intro a HF
          refine wl_skip HF rfl rfl rfl rfl rfl rfl ?_; clear HF a; intro a HF
          refine wl_skip HF rfl rfl rfl rfl rfl rfl ?_; clear HF a; intro a HF
          refine wl_y rfl HF rfl rfl (yl_pick_t rfl (HF.ev rfl) (HF.ev rfl)) ?_; clear HF a; intro a HF
          refine wl_mv HF rfl rfl rfl rfl rfl ?_; clear HF a; intro a HF
          refine wl_skip HF rfl rfl rfl rfl rfl rfl ?_; clear HF a; intro a HF
          refine wl_skip HF rfl rfl rfl rfl rfl rfl ?_; clear HF a; intro a HF
          refine wl_skip HF rfl rfl rfl rfl rfl rfl ?_; clear HF a; intro a HF
          refine wl_skip HF rfl rfl rfl rfl rfl rfl ?_; clear HF a; intro a HF
          refine wl_y rfl HF rfl rfl (yl_pick_t rfl (HF.ev rfl) (HF.ev rfl)) ?_; clear HF a; intro a HF
          refine wl_ne ?_
          refine wc_true HF rfl ?_
          refine wp_sr ?_
          refine wl_as HF rfl rfl rfl rfl rfl ?_; clear HF a; intro a HF
          refine wl_ne ?_
          refine wp_ret ?_
          refine ex_then_ret ?_
          refine bp_ret1 HF Tryz.results7 (HF.res rfl) ?_
          exact ⟨by rw [sayF_bad hbad]; rfl, HS.out.bel⟩
        · skip
          refine ⟨_, rfl, ?_⟩; replace HS := Bx.mk (HS.out.later hb); clear hb HF; clear a; intro a HF
          refine wl_mv HF rfl rfl rfl rfl rfl ?_; clear HF a; intro a HF
          refine wl_y rfl HF rfl rfl (yl_extract rfl (HF.ev rfl) rfl) ?_; clear HF a; intro a HF
          refine wl_y rfl HF rfl rfl (yl_extract rfl (HF.ev rfl) rfl) ?_; clear HF a; intro a HF
          refine wl_alloc rfl HF rfl rfl rfl (Z := [.int .i64 0, .string ByteArray.empty, .string ByteArray.empty, .int .i64 0, .string ByteArray.empty]) (by kernel_rfl) rfl HS.out ?_; clear HF HS a; intro a w18 b7 HF HS; replace HS := Bx.mk HS
          refine wl_storeBox rfl HF rfl rfl (HF.ev rfl) (HF.ev rfl) HS.out 0 rfl (cells_lit [.int .i64 o.fKind, .string o.fPath, .string o.fTo, .int .i64 o.fAt, .string o.fText] rfl rfl) (by kernel_rfl) ?_; clear HS; intro w19 HS; replace HS := Bx.mk HS
          have HS : Bx (St w0 ([boxA b7 5 24 (.agg #[.int .i64 o.fKind, .string o.fPath, .string o.fTo, .int .i64 o.fAt, .string o.fText]), rowA encS 1 9 (.slice (some ⟨gw2, 0, none⟩) 8 cpw2) wordsL, boxA b1 5 24 (.agg #[.int .i64 o.fKind, .string o.fPath, .string o.fTo, .int .i64 o.fAt, .string o.fText])]) _) := HS
          refine wl_as HF rfl rfl rfl rfl rfl ?_; clear HF a; intro a HF
          refine wl_ne ?_
          refine wp_seq ?_
          refine wp_sr ?_
          refine wl_mv HF rfl rfl rfl rfl rfl ?_; clear HF a; intro a HF
          refine wl_y rfl HF rfl rfl (yl_not rfl (HF.ev rfl)) ?_; clear HF a; intro a HF
          refine wl_mv HF rfl rfl rfl rfl rfl ?_; clear HF a; intro a HF
          refine wl_yg HF rfl rfl rfl rfl rfl (yl_loadR (cs := [.int .i64 o.fKind, .string o.fPath, .string o.fTo, .int .i64 o.fAt, .string o.fText]) rfl (HF.ev rfl) ((HS.out.box 0 rfl).sub 0 5) (by kernel_rfl)) ?_; clear HF a; intro a HF
          refine wl_yg HF rfl rfl rfl rfl rfl (yl_loadR (cs := [.int .i64 o.fKind, .string o.fPath, .string o.fTo, .int .i64 o.fAt, .string o.fText]) rfl (HF.ev rfl) ((HS.out.box 2 rfl).sub 0 5) (by kernel_rfl)) ?_; clear HF a; intro a HF
          refine wl_yg HF rfl rfl rfl rfl rfl (yl_neqOp o rfl (HF.ev rfl) (HF.ev rfl)) ?_; clear HF a; intro a HF
          refine wl_y rfl HF rfl rfl (yl_pick_f rfl (HF.ev rfl) (HF.ev rfl)) ?_; clear HF a; intro a HF
          refine wl_mv HF rfl rfl rfl rfl rfl ?_; clear HF a; intro a HF
          refine wl_yg HF rfl rfl rfl rfl rfl (yl_move rfl (HF.ev rfl)) ?_; clear HF a; intro a HF
          refine wl_callg HF rfl rfl rfl rfl (enter_of Tryz.func19 (by kernel_rfl) rfl) (args := #[.string (lineB o), .int .u8 10]) rfl (l2Cut_any (lineB o) 10 _ (Nat.le_trans (line_size hok) (by decide))) rfl rfl ?_
          rintro _ w20 ⟨ao8, cp8, rfl, hs⟩
          refine ⟨_, rfl, ?_⟩
          replace HS := Bx.mk (HS.out.add hs); clear hs HF; clear a; intro a HF
          replace HS : Bx (St w0 ([rowA encS 1 9 (.slice ao8 ((piecesB (lineB o) 10).length) cp8) (piecesB (lineB o) 10), boxA b7 5 24 (.agg #[.int .i64 o.fKind, .string o.fPath, .string o.fTo, .int .i64 o.fAt, .string o.fText]), rowA encS 1 9 (.slice (some ⟨gw2, 0, none⟩) 8 cpw2) wordsL, boxA b1 5 24 (.agg #[.int .i64 o.fKind, .string o.fPath, .string o.fTo, .int .i64 o.fAt, .string o.fText])]) _) := ⟨HS.out⟩
          refine wl_yg HF rfl rfl rfl rfl rfl (yl_lenL (e := 9) (size := 1) rfl (HF.ev rfl) (by kernel_rfl)) ?_; clear HF a; intro a HF
          refine wl_yg HF rfl rfl rfl rfl rfl (yl_gtrI rfl (HF.ev rfl) (HF.ev rfl)) ?_; clear HF a; intro a HF
          refine wl_y rfl HF rfl rfl (yl_pick_f rfl (HF.ev rfl) (HF.ev rfl)) ?_; clear HF a; intro a HF
          refine wl_ne ?_
          refine HF.cases 65 rfl (fun cc5 HF1 => ?_) (fun cc5 HF1 => ?_)
          · clear HF; have HF := HF1; clear HF1
            have dcc5 := of_decide_eq_true cc5
            refine wc_true HF rfl ?_
            refine wp_sr ?_
            refine wl_as HF rfl rfl rfl rfl rfl ?_; clear HF a; intro a HF
            refine wl_ne ?_
            refine wp_ret ?_
            refine ex_then_ret ?_
            refine bp_ret1 HF Tryz.results7 (HF.res rfl) ?_
            exact ⟨by rw [sayF_bad (hiff.1 (by omega))]; rfl, HS.out.bel⟩
          · clear HF; have HF := HF1; clear HF1
            have dcc5 := of_decide_eq_false cc5
            refine wc_false HF rfl ?_
            refine wp_skip ?_
            refine ex_then ?_
            refine wp_sr ?_
            refine wl_mv HF rfl rfl rfl rfl rfl ?_; clear HF a; intro a HF
            refine wl_as HF rfl rfl rfl rfl rfl ?_; clear HF a; intro a HF
            refine wl_ne ?_
            refine wp_ret ?_
            refine bp_ret1 HF Tryz.results7 (HF.res rfl) ?_
            have hb : badB o = false := by
              cases hq : badB o with
              | false => rfl
              | true => have := hiff.2 hq; omega
            exact ⟨by rw [sayF_line hok hb], HS.out.bel⟩
      · clear HF; have HF := HF1; clear HF1
        have dcc4 := ne_of_beq_false cc4
        refine wc_false HF rfl ?_
        refine wp_seq ?_
        refine wp_sr ?_
        refine wl_y rfl HF rfl rfl (yl_eqlI rfl (HF.ev rfl) (HF.ev rfl)) ?_; clear HF a; intro a HF
        refine wl_as HF rfl rfl rfl rfl rfl ?_; clear HF a; intro a HF
        refine wl_ne ?_
        refine HF.cases 40 rfl (fun cc6 HF1 => ?_) (fun cc6 HF1 => ?_)
        · clear HF; have HF := HF1; clear HF1
          have dcc6 := eq_of_beq cc6
          refine wc_true HF rfl ?_
          refine wp_skip ?_
          refine ex_then ?_
          refine wc_true HF rfl ?_
          refine wp_region_lit ?_
          refine wl_mv HF rfl rfl rfl rfl rfl ?_; clear HF a; intro a HF
          refine wl_y rfl HF rfl rfl (yl_addS rfl (HF.ev rfl) (HF.ev rfl) (by (try simp only [size1, app_size]); omega)) ?_; clear HF a; intro a HF
          refine wl_y rfl HF rfl rfl (yl_fieldAddr (j := 2) rfl (HF.ev rfl) (by kernel_rfl)) ?_; clear HF a; intro a HF
          refine wl_y rfl HF rfl rfl (yl_load (v := .string o.fTo) rfl (HF.ev rfl) (((HS.out.box 1 rfl).cell 2).trans rfl) (by kernel_rfl)) ?_; clear HF a; intro a HF
          refine wl_y rfl HF rfl rfl (yl_addS rfl (HF.ev rfl) (HF.ev rfl) (by (try simp only [size1, app_size]); omega)) ?_; clear HF a; intro a HF
          refine wl_as HF rfl rfl rfl rfl rfl ?_; clear HF a; intro a HF
          refine wpList_nil ?_
          refine ex_block ?_
          refine ex_then ?_
          refine wp_seq ?_
          have hline : ((((wordsL.getD o.fKind.toNat ByteArray.empty) ++ (⟨#[32]⟩ : ByteArray)) ++ o.fPath) ++ (⟨#[32]⟩ : ByteArray)) ++ o.fTo = lineB o := by rw [line6 (by omega)]; simp only [spB, ba_assoc, wordK]
          rw [hline] at HF; replace HF : Fr 67 a [(1, .pointer (some ⟨b1, 0, none⟩)), (2, .string (⟨#[]⟩ : ByteArray)), (3, .string (lineB o))] := HF.less _ ⟨rfl, rfl, rfl, trivial⟩
          refine wp_region_lit ?_
          refine wl_mv HF rfl rfl rfl rfl rfl ?_; clear HF a; intro a HF
          refine wl_call rfl HF rfl (enter_of Tryz.func10 (by kernel_rfl) rfl) (args := #[.string (lineB o)]) rfl (specSay_ways o _ hok) rfl rfl ?_
          rintro _ w21 (⟨hbad, rfl, hb⟩ | ⟨hiff, rfl, hb⟩)
          · skip
            refine ⟨_, rfl, ?_⟩; replace HS := Bx.mk (HS.out.later hb); clear hb HF; clear a; intro a HF
            refine wl_mv HF rfl rfl rfl rfl rfl ?_; clear HF a; intro a HF
            refine wl_y rfl HF rfl rfl (yl_extract rfl (HF.ev rfl) rfl) ?_; clear HF a; intro a HF
            refine wl_y rfl HF rfl rfl (yl_extract rfl (HF.ev rfl) rfl) ?_; clear HF a; intro a HF
            refine wl_alloc rfl HF rfl rfl rfl (Z := [.int .i64 0, .string ByteArray.empty, .string ByteArray.empty, .int .i64 0, .string ByteArray.empty]) (by kernel_rfl) rfl HS.out ?_; clear HF HS a; intro a w22 b9 HF HS; replace HS := Bx.mk HS
            refine wl_storeBox rfl HF rfl rfl (HF.ev rfl) (HF.ev rfl) HS.out 0 rfl (cells_lit [.int .i64 0, .string ByteArray.empty, .string ByteArray.empty, .int .i64 0, .string ByteArray.empty] rfl rfl) (by kernel_rfl) ?_; clear HS; intro w23 HS; replace HS := Bx.mk HS
            have HS : Bx (St w0 ([boxA b9 5 24 (.agg #[.int .i64 0, .string ByteArray.empty, .string ByteArray.empty, .int .i64 0, .string ByteArray.empty]), rowA encS 1 9 (.slice (some ⟨gw2, 0, none⟩) 8 cpw2) wordsL, boxA b1 5 24 (.agg #[.int .i64 o.fKind, .string o.fPath, .string o.fTo, .int .i64 o.fAt, .string o.fText])]) _) := HS
            refine wl_as HF rfl rfl rfl rfl rfl ?_; clear HF a; intro a HF
            refine wl_ne ?_
            refine wp_seq ?_
            refine wp_sr ?_
            refine wl_mv HF rfl rfl rfl rfl rfl ?_; clear HF a; intro a HF
            refine wl_y rfl HF rfl rfl (yl_not rfl (HF.ev rfl)) ?_; clear HF a; intro a HF
            refine wl_mv HF rfl rfl rfl rfl rfl ?_; clear HF a; intro a HF
            refine wl_skip HF rfl rfl rfl rfl rfl rfl ?_; clear HF a; intro a HF
            refine wl_skip HF rfl rfl rfl rfl rfl rfl ?_; clear HF a; intro a HF
            refine wl_skip HF rfl rfl rfl rfl rfl rfl ?_; clear HF a; intro a HF
            refine wl_y rfl HF rfl rfl (yl_pick_t rfl (HF.ev rfl) (HF.ev rfl)) ?_; clear HF a; intro a HF
            refine wl_mv HF rfl rfl rfl rfl rfl ?_; clear HF a; intro a HF
            refine wl_skip HF rfl rfl rfl rfl rfl rfl ?_; clear HF a; intro a HF
            refine wl_skip HF rfl rfl rfl rfl rfl rfl ?_; clear HF a; intro a HF
            refine wl_skip HF rfl rfl rfl rfl rfl rfl ?_; clear HF a; intro a HF
            refine wl_skip HF rfl rfl rfl rfl rfl rfl ?_; clear HF a; intro a HF
            refine wl_y rfl HF rfl rfl (yl_pick_t rfl (HF.ev rfl) (HF.ev rfl)) ?_; clear HF a; intro a HF
            refine wl_ne ?_
            refine wc_true HF rfl ?_
            refine wp_sr ?_
            refine wl_as HF rfl rfl rfl rfl rfl ?_; clear HF a; intro a HF
            refine wl_ne ?_
            refine wp_ret ?_
            refine ex_then_ret ?_
            refine bp_ret1 HF Tryz.results7 (HF.res rfl) ?_
            exact ⟨by rw [sayF_bad hbad]; rfl, HS.out.bel⟩
          · skip
            refine ⟨_, rfl, ?_⟩; replace HS := Bx.mk (HS.out.later hb); clear hb HF; clear a; intro a HF
            refine wl_mv HF rfl rfl rfl rfl rfl ?_; clear HF a; intro a HF
            refine wl_y rfl HF rfl rfl (yl_extract rfl (HF.ev rfl) rfl) ?_; clear HF a; intro a HF
            refine wl_y rfl HF rfl rfl (yl_extract rfl (HF.ev rfl) rfl) ?_; clear HF a; intro a HF
            refine wl_alloc rfl HF rfl rfl rfl (Z := [.int .i64 0, .string ByteArray.empty, .string ByteArray.empty, .int .i64 0, .string ByteArray.empty]) (by kernel_rfl) rfl HS.out ?_; clear HF HS a; intro a w24 b10 HF HS; replace HS := Bx.mk HS
            refine wl_storeBox rfl HF rfl rfl (HF.ev rfl) (HF.ev rfl) HS.out 0 rfl (cells_lit [.int .i64 o.fKind, .string o.fPath, .string o.fTo, .int .i64 o.fAt, .string o.fText] rfl rfl) (by kernel_rfl) ?_; clear HS; intro w25 HS; replace HS := Bx.mk HS
            have HS : Bx (St w0 ([boxA b10 5 24 (.agg #[.int .i64 o.fKind, .string o.fPath, .string o.fTo, .int .i64 o.fAt, .string o.fText]), rowA encS 1 9 (.slice (some ⟨gw2, 0, none⟩) 8 cpw2) wordsL, boxA b1 5 24 (.agg #[.int .i64 o.fKind, .string o.fPath, .string o.fTo, .int .i64 o.fAt, .string o.fText])]) _) := HS
            refine wl_as HF rfl rfl rfl rfl rfl ?_; clear HF a; intro a HF
            refine wl_ne ?_
            refine wp_seq ?_
            refine wp_sr ?_
            refine wl_mv HF rfl rfl rfl rfl rfl ?_; clear HF a; intro a HF
            refine wl_y rfl HF rfl rfl (yl_not rfl (HF.ev rfl)) ?_; clear HF a; intro a HF
            refine wl_mv HF rfl rfl rfl rfl rfl ?_; clear HF a; intro a HF
            refine wl_yg HF rfl rfl rfl rfl rfl (yl_loadR (cs := [.int .i64 o.fKind, .string o.fPath, .string o.fTo, .int .i64 o.fAt, .string o.fText]) rfl (HF.ev rfl) ((HS.out.box 0 rfl).sub 0 5) (by kernel_rfl)) ?_; clear HF a; intro a HF
            refine wl_yg HF rfl rfl rfl rfl rfl (yl_loadR (cs := [.int .i64 o.fKind, .string o.fPath, .string o.fTo, .int .i64 o.fAt, .string o.fText]) rfl (HF.ev rfl) ((HS.out.box 2 rfl).sub 0 5) (by kernel_rfl)) ?_; clear HF a; intro a HF
            refine wl_yg HF rfl rfl rfl rfl rfl (yl_neqOp o rfl (HF.ev rfl) (HF.ev rfl)) ?_; clear HF a; intro a HF
            refine wl_y rfl HF rfl rfl (yl_pick_f rfl (HF.ev rfl) (HF.ev rfl)) ?_; clear HF a; intro a HF
            refine wl_mv HF rfl rfl rfl rfl rfl ?_; clear HF a; intro a HF
            refine wl_yg HF rfl rfl rfl rfl rfl (yl_move rfl (HF.ev rfl)) ?_; clear HF a; intro a HF
            refine wl_callg HF rfl rfl rfl rfl (enter_of Tryz.func19 (by kernel_rfl) rfl) (args := #[.string (lineB o), .int .u8 10]) rfl (l2Cut_any (lineB o) 10 _ (Nat.le_trans (line_size hok) (by decide))) rfl rfl ?_
            rintro _ w26 ⟨ao11, cp11, rfl, hs⟩
            refine ⟨_, rfl, ?_⟩
            replace HS := Bx.mk (HS.out.add hs); clear hs HF; clear a; intro a HF
            replace HS : Bx (St w0 ([rowA encS 1 9 (.slice ao11 ((piecesB (lineB o) 10).length) cp11) (piecesB (lineB o) 10), boxA b10 5 24 (.agg #[.int .i64 o.fKind, .string o.fPath, .string o.fTo, .int .i64 o.fAt, .string o.fText]), rowA encS 1 9 (.slice (some ⟨gw2, 0, none⟩) 8 cpw2) wordsL, boxA b1 5 24 (.agg #[.int .i64 o.fKind, .string o.fPath, .string o.fTo, .int .i64 o.fAt, .string o.fText])]) _) := ⟨HS.out⟩
            refine wl_yg HF rfl rfl rfl rfl rfl (yl_lenL (e := 9) (size := 1) rfl (HF.ev rfl) (by kernel_rfl)) ?_; clear HF a; intro a HF
            refine wl_yg HF rfl rfl rfl rfl rfl (yl_gtrI rfl (HF.ev rfl) (HF.ev rfl)) ?_; clear HF a; intro a HF
            refine wl_y rfl HF rfl rfl (yl_pick_f rfl (HF.ev rfl) (HF.ev rfl)) ?_; clear HF a; intro a HF
            refine wl_ne ?_
            refine HF.cases 65 rfl (fun cc7 HF1 => ?_) (fun cc7 HF1 => ?_)
            · clear HF; have HF := HF1; clear HF1
              have dcc7 := of_decide_eq_true cc7
              refine wc_true HF rfl ?_
              refine wp_sr ?_
              refine wl_as HF rfl rfl rfl rfl rfl ?_; clear HF a; intro a HF
              refine wl_ne ?_
              refine wp_ret ?_
              refine ex_then_ret ?_
              refine bp_ret1 HF Tryz.results7 (HF.res rfl) ?_
              exact ⟨by rw [sayF_bad (hiff.1 (by omega))]; rfl, HS.out.bel⟩
            · clear HF; have HF := HF1; clear HF1
              have dcc7 := of_decide_eq_false cc7
              refine wc_false HF rfl ?_
              refine wp_skip ?_
              refine ex_then ?_
              refine wp_sr ?_
              refine wl_mv HF rfl rfl rfl rfl rfl ?_; clear HF a; intro a HF
              refine wl_as HF rfl rfl rfl rfl rfl ?_; clear HF a; intro a HF
              refine wl_ne ?_
              refine wp_ret ?_
              refine bp_ret1 HF Tryz.results7 (HF.res rfl) ?_
              have hb : badB o = false := by
                cases hq : badB o with
                | false => rfl
                | true => have := hiff.2 hq; omega
              exact ⟨by rw [sayF_line hok hb], HS.out.bel⟩
        · clear HF; have HF := HF1; clear HF1
          have dcc6 := ne_of_beq_false cc6
          refine wc_false HF rfl ?_
          refine wp_region_lit ?_
          refine wl_y rfl HF rfl rfl (yl_eqlI rfl (HF.ev rfl) (HF.ev rfl)) ?_; clear HF a; intro a HF
          refine wl_as HF rfl rfl rfl rfl rfl ?_; clear HF a; intro a HF
          refine wl_ne ?_
          refine HF.cases 40 rfl (fun cc8 HF1 => ?_) (fun cc8 HF1 => ?_)
          · clear HF; have HF := HF1; clear HF1
            have dcc8 := eq_of_beq cc8
            refine wc_true HF rfl ?_
            refine wp_region_lit ?_
            refine wl_mv HF rfl rfl rfl rfl rfl ?_; clear HF a; intro a HF
            refine wl_y rfl HF rfl rfl (yl_addS rfl (HF.ev rfl) (HF.ev rfl) (by (try simp only [size1, app_size]); omega)) ?_; clear HF a; intro a HF
            refine wl_y rfl HF rfl rfl (yl_fieldAddr (j := 2) rfl (HF.ev rfl) (by kernel_rfl)) ?_; clear HF a; intro a HF
            refine wl_y rfl HF rfl rfl (yl_load (v := .string o.fTo) rfl (HF.ev rfl) (((HS.out.box 1 rfl).cell 2).trans rfl) (by kernel_rfl)) ?_; clear HF a; intro a HF
            refine wl_y rfl HF rfl rfl (yl_addS rfl (HF.ev rfl) (HF.ev rfl) (by (try simp only [size1, app_size]); omega)) ?_; clear HF a; intro a HF
            refine wl_as HF rfl rfl rfl rfl rfl ?_; clear HF a; intro a HF
            refine wpList_nil ?_
            refine ex_block ?_
            refine ex_then ?_
            refine wp_seq ?_
            have hline : ((((wordsL.getD o.fKind.toNat ByteArray.empty) ++ (⟨#[32]⟩ : ByteArray)) ++ o.fPath) ++ (⟨#[32]⟩ : ByteArray)) ++ o.fTo = lineB o := by rw [line6 (by omega)]; simp only [spB, ba_assoc, wordK]
            rw [hline] at HF; replace HF : Fr 67 a [(1, .pointer (some ⟨b1, 0, none⟩)), (2, .string (⟨#[]⟩ : ByteArray)), (3, .string (lineB o))] := HF.less _ ⟨rfl, rfl, rfl, trivial⟩
            refine wp_region_lit ?_
            refine wl_mv HF rfl rfl rfl rfl rfl ?_; clear HF a; intro a HF
            refine wl_call rfl HF rfl (enter_of Tryz.func10 (by kernel_rfl) rfl) (args := #[.string (lineB o)]) rfl (specSay_ways o _ hok) rfl rfl ?_
            rintro _ w27 (⟨hbad, rfl, hb⟩ | ⟨hiff, rfl, hb⟩)
            · skip
              refine ⟨_, rfl, ?_⟩; replace HS := Bx.mk (HS.out.later hb); clear hb HF; clear a; intro a HF
              refine wl_mv HF rfl rfl rfl rfl rfl ?_; clear HF a; intro a HF
              refine wl_y rfl HF rfl rfl (yl_extract rfl (HF.ev rfl) rfl) ?_; clear HF a; intro a HF
              refine wl_y rfl HF rfl rfl (yl_extract rfl (HF.ev rfl) rfl) ?_; clear HF a; intro a HF
              refine wl_alloc rfl HF rfl rfl rfl (Z := [.int .i64 0, .string ByteArray.empty, .string ByteArray.empty, .int .i64 0, .string ByteArray.empty]) (by kernel_rfl) rfl HS.out ?_; clear HF HS a; intro a w28 b12 HF HS; replace HS := Bx.mk HS
              refine wl_storeBox rfl HF rfl rfl (HF.ev rfl) (HF.ev rfl) HS.out 0 rfl (cells_lit [.int .i64 0, .string ByteArray.empty, .string ByteArray.empty, .int .i64 0, .string ByteArray.empty] rfl rfl) (by kernel_rfl) ?_; clear HS; intro w29 HS; replace HS := Bx.mk HS
              have HS : Bx (St w0 ([boxA b12 5 24 (.agg #[.int .i64 0, .string ByteArray.empty, .string ByteArray.empty, .int .i64 0, .string ByteArray.empty]), rowA encS 1 9 (.slice (some ⟨gw2, 0, none⟩) 8 cpw2) wordsL, boxA b1 5 24 (.agg #[.int .i64 o.fKind, .string o.fPath, .string o.fTo, .int .i64 o.fAt, .string o.fText])]) _) := HS
              refine wl_as HF rfl rfl rfl rfl rfl ?_; clear HF a; intro a HF
              refine wl_ne ?_
              refine wp_seq ?_
              refine wp_sr ?_
              refine wl_mv HF rfl rfl rfl rfl rfl ?_; clear HF a; intro a HF
              refine wl_y rfl HF rfl rfl (yl_not rfl (HF.ev rfl)) ?_; clear HF a; intro a HF
              refine wl_mv HF rfl rfl rfl rfl rfl ?_; clear HF a; intro a HF
              refine wl_skip HF rfl rfl rfl rfl rfl rfl ?_; clear HF a; intro a HF
              refine wl_skip HF rfl rfl rfl rfl rfl rfl ?_; clear HF a; intro a HF
              refine wl_skip HF rfl rfl rfl rfl rfl rfl ?_; clear HF a; intro a HF
              refine wl_y rfl HF rfl rfl (yl_pick_t rfl (HF.ev rfl) (HF.ev rfl)) ?_; clear HF a; intro a HF
              refine wl_mv HF rfl rfl rfl rfl rfl ?_; clear HF a; intro a HF
              refine wl_skip HF rfl rfl rfl rfl rfl rfl ?_; clear HF a; intro a HF
              refine wl_skip HF rfl rfl rfl rfl rfl rfl ?_; clear HF a; intro a HF
              refine wl_skip HF rfl rfl rfl rfl rfl rfl ?_; clear HF a; intro a HF
              refine wl_skip HF rfl rfl rfl rfl rfl rfl ?_; clear HF a; intro a HF
              refine wl_y rfl HF rfl rfl (yl_pick_t rfl (HF.ev rfl) (HF.ev rfl)) ?_; clear HF a; intro a HF
              refine wl_ne ?_
              refine wc_true HF rfl ?_
              refine wp_sr ?_
              refine wl_as HF rfl rfl rfl rfl rfl ?_; clear HF a; intro a HF
              refine wl_ne ?_
              refine wp_ret ?_
              refine ex_then_ret ?_
              refine bp_ret1 HF Tryz.results7 (HF.res rfl) ?_
              exact ⟨by rw [sayF_bad hbad]; rfl, HS.out.bel⟩
            · skip
              refine ⟨_, rfl, ?_⟩; replace HS := Bx.mk (HS.out.later hb); clear hb HF; clear a; intro a HF
              refine wl_mv HF rfl rfl rfl rfl rfl ?_; clear HF a; intro a HF
              refine wl_y rfl HF rfl rfl (yl_extract rfl (HF.ev rfl) rfl) ?_; clear HF a; intro a HF
              refine wl_y rfl HF rfl rfl (yl_extract rfl (HF.ev rfl) rfl) ?_; clear HF a; intro a HF
              refine wl_alloc rfl HF rfl rfl rfl (Z := [.int .i64 0, .string ByteArray.empty, .string ByteArray.empty, .int .i64 0, .string ByteArray.empty]) (by kernel_rfl) rfl HS.out ?_; clear HF HS a; intro a w30 b13 HF HS; replace HS := Bx.mk HS
              refine wl_storeBox rfl HF rfl rfl (HF.ev rfl) (HF.ev rfl) HS.out 0 rfl (cells_lit [.int .i64 o.fKind, .string o.fPath, .string o.fTo, .int .i64 o.fAt, .string o.fText] rfl rfl) (by kernel_rfl) ?_; clear HS; intro w31 HS; replace HS := Bx.mk HS
              have HS : Bx (St w0 ([boxA b13 5 24 (.agg #[.int .i64 o.fKind, .string o.fPath, .string o.fTo, .int .i64 o.fAt, .string o.fText]), rowA encS 1 9 (.slice (some ⟨gw2, 0, none⟩) 8 cpw2) wordsL, boxA b1 5 24 (.agg #[.int .i64 o.fKind, .string o.fPath, .string o.fTo, .int .i64 o.fAt, .string o.fText])]) _) := HS
              refine wl_as HF rfl rfl rfl rfl rfl ?_; clear HF a; intro a HF
              refine wl_ne ?_
              refine wp_seq ?_
              refine wp_sr ?_
              refine wl_mv HF rfl rfl rfl rfl rfl ?_; clear HF a; intro a HF
              refine wl_y rfl HF rfl rfl (yl_not rfl (HF.ev rfl)) ?_; clear HF a; intro a HF
              refine wl_mv HF rfl rfl rfl rfl rfl ?_; clear HF a; intro a HF
              refine wl_yg HF rfl rfl rfl rfl rfl (yl_loadR (cs := [.int .i64 o.fKind, .string o.fPath, .string o.fTo, .int .i64 o.fAt, .string o.fText]) rfl (HF.ev rfl) ((HS.out.box 0 rfl).sub 0 5) (by kernel_rfl)) ?_; clear HF a; intro a HF
              refine wl_yg HF rfl rfl rfl rfl rfl (yl_loadR (cs := [.int .i64 o.fKind, .string o.fPath, .string o.fTo, .int .i64 o.fAt, .string o.fText]) rfl (HF.ev rfl) ((HS.out.box 2 rfl).sub 0 5) (by kernel_rfl)) ?_; clear HF a; intro a HF
              refine wl_yg HF rfl rfl rfl rfl rfl (yl_neqOp o rfl (HF.ev rfl) (HF.ev rfl)) ?_; clear HF a; intro a HF
              refine wl_y rfl HF rfl rfl (yl_pick_f rfl (HF.ev rfl) (HF.ev rfl)) ?_; clear HF a; intro a HF
              refine wl_mv HF rfl rfl rfl rfl rfl ?_; clear HF a; intro a HF
              refine wl_yg HF rfl rfl rfl rfl rfl (yl_move rfl (HF.ev rfl)) ?_; clear HF a; intro a HF
              refine wl_callg HF rfl rfl rfl rfl (enter_of Tryz.func19 (by kernel_rfl) rfl) (args := #[.string (lineB o), .int .u8 10]) rfl (l2Cut_any (lineB o) 10 _ (Nat.le_trans (line_size hok) (by decide))) rfl rfl ?_
              rintro _ w32 ⟨ao14, cp14, rfl, hs⟩
              refine ⟨_, rfl, ?_⟩
              replace HS := Bx.mk (HS.out.add hs); clear hs HF; clear a; intro a HF
              replace HS : Bx (St w0 ([rowA encS 1 9 (.slice ao14 ((piecesB (lineB o) 10).length) cp14) (piecesB (lineB o) 10), boxA b13 5 24 (.agg #[.int .i64 o.fKind, .string o.fPath, .string o.fTo, .int .i64 o.fAt, .string o.fText]), rowA encS 1 9 (.slice (some ⟨gw2, 0, none⟩) 8 cpw2) wordsL, boxA b1 5 24 (.agg #[.int .i64 o.fKind, .string o.fPath, .string o.fTo, .int .i64 o.fAt, .string o.fText])]) _) := ⟨HS.out⟩
              refine wl_yg HF rfl rfl rfl rfl rfl (yl_lenL (e := 9) (size := 1) rfl (HF.ev rfl) (by kernel_rfl)) ?_; clear HF a; intro a HF
              refine wl_yg HF rfl rfl rfl rfl rfl (yl_gtrI rfl (HF.ev rfl) (HF.ev rfl)) ?_; clear HF a; intro a HF
              refine wl_y rfl HF rfl rfl (yl_pick_f rfl (HF.ev rfl) (HF.ev rfl)) ?_; clear HF a; intro a HF
              refine wl_ne ?_
              refine HF.cases 65 rfl (fun cc9 HF1 => ?_) (fun cc9 HF1 => ?_)
              · clear HF; have HF := HF1; clear HF1
                have dcc9 := of_decide_eq_true cc9
                refine wc_true HF rfl ?_
                refine wp_sr ?_
                refine wl_as HF rfl rfl rfl rfl rfl ?_; clear HF a; intro a HF
                refine wl_ne ?_
                refine wp_ret ?_
                refine ex_then_ret ?_
                refine bp_ret1 HF Tryz.results7 (HF.res rfl) ?_
                exact ⟨by rw [sayF_bad (hiff.1 (by omega))]; rfl, HS.out.bel⟩
              · clear HF; have HF := HF1; clear HF1
                have dcc9 := of_decide_eq_false cc9
                refine wc_false HF rfl ?_
                refine wp_skip ?_
                refine ex_then ?_
                refine wp_sr ?_
                refine wl_mv HF rfl rfl rfl rfl rfl ?_; clear HF a; intro a HF
                refine wl_as HF rfl rfl rfl rfl rfl ?_; clear HF a; intro a HF
                refine wl_ne ?_
                refine wp_ret ?_
                refine bp_ret1 HF Tryz.results7 (HF.res rfl) ?_
                have hb : badB o = false := by
                  cases hq : badB o with
                  | false => rfl
                  | true => have := hiff.2 hq; omega
                exact ⟨by rw [sayF_line hok hb], HS.out.bel⟩
          · clear HF; have HF := HF1; clear HF1
            have dcc8 := ne_of_beq_false cc8
            refine wc_false HF rfl ?_
            refine wp_skip ?_
            refine ex_block ?_
            refine ex_then ?_
            refine wp_seq ?_
            have hline : ((wordsL.getD o.fKind.toNat ByteArray.empty) ++ (⟨#[32]⟩ : ByteArray)) ++ o.fPath = lineB o := by rw [line1 (by omega)]; simp only [spB, ba_assoc, wordK]
            rw [hline] at HF; replace HF : Fr 67 a [(1, .pointer (some ⟨b1, 0, none⟩)), (2, .string (⟨#[]⟩ : ByteArray)), (3, .string (lineB o))] := HF.less _ ⟨rfl, rfl, rfl, trivial⟩
            refine wp_region_lit ?_
            refine wl_mv HF rfl rfl rfl rfl rfl ?_; clear HF a; intro a HF
            refine wl_call rfl HF rfl (enter_of Tryz.func10 (by kernel_rfl) rfl) (args := #[.string (lineB o)]) rfl (specSay_ways o _ hok) rfl rfl ?_
            rintro _ w33 (⟨hbad, rfl, hb⟩ | ⟨hiff, rfl, hb⟩)
            · skip
              refine ⟨_, rfl, ?_⟩; replace HS := Bx.mk (HS.out.later hb); clear hb HF; clear a; intro a HF
              refine wl_mv HF rfl rfl rfl rfl rfl ?_; clear HF a; intro a HF
              refine wl_y rfl HF rfl rfl (yl_extract rfl (HF.ev rfl) rfl) ?_; clear HF a; intro a HF
              refine wl_y rfl HF rfl rfl (yl_extract rfl (HF.ev rfl) rfl) ?_; clear HF a; intro a HF
              refine wl_alloc rfl HF rfl rfl rfl (Z := [.int .i64 0, .string ByteArray.empty, .string ByteArray.empty, .int .i64 0, .string ByteArray.empty]) (by kernel_rfl) rfl HS.out ?_; clear HF HS a; intro a w34 b15 HF HS; replace HS := Bx.mk HS
              refine wl_storeBox rfl HF rfl rfl (HF.ev rfl) (HF.ev rfl) HS.out 0 rfl (cells_lit [.int .i64 0, .string ByteArray.empty, .string ByteArray.empty, .int .i64 0, .string ByteArray.empty] rfl rfl) (by kernel_rfl) ?_; clear HS; intro w35 HS; replace HS := Bx.mk HS
              have HS : Bx (St w0 ([boxA b15 5 24 (.agg #[.int .i64 0, .string ByteArray.empty, .string ByteArray.empty, .int .i64 0, .string ByteArray.empty]), rowA encS 1 9 (.slice (some ⟨gw2, 0, none⟩) 8 cpw2) wordsL, boxA b1 5 24 (.agg #[.int .i64 o.fKind, .string o.fPath, .string o.fTo, .int .i64 o.fAt, .string o.fText])]) _) := HS
              refine wl_as HF rfl rfl rfl rfl rfl ?_; clear HF a; intro a HF
              refine wl_ne ?_
              refine wp_seq ?_
              refine wp_sr ?_
              refine wl_mv HF rfl rfl rfl rfl rfl ?_; clear HF a; intro a HF
              refine wl_y rfl HF rfl rfl (yl_not rfl (HF.ev rfl)) ?_; clear HF a; intro a HF
              refine wl_mv HF rfl rfl rfl rfl rfl ?_; clear HF a; intro a HF
              refine wl_skip HF rfl rfl rfl rfl rfl rfl ?_; clear HF a; intro a HF
              refine wl_skip HF rfl rfl rfl rfl rfl rfl ?_; clear HF a; intro a HF
              refine wl_skip HF rfl rfl rfl rfl rfl rfl ?_; clear HF a; intro a HF
              refine wl_y rfl HF rfl rfl (yl_pick_t rfl (HF.ev rfl) (HF.ev rfl)) ?_; clear HF a; intro a HF
              refine wl_mv HF rfl rfl rfl rfl rfl ?_; clear HF a; intro a HF
              refine wl_skip HF rfl rfl rfl rfl rfl rfl ?_; clear HF a; intro a HF
              refine wl_skip HF rfl rfl rfl rfl rfl rfl ?_; clear HF a; intro a HF
              refine wl_skip HF rfl rfl rfl rfl rfl rfl ?_; clear HF a; intro a HF
              refine wl_skip HF rfl rfl rfl rfl rfl rfl ?_; clear HF a; intro a HF
              refine wl_y rfl HF rfl rfl (yl_pick_t rfl (HF.ev rfl) (HF.ev rfl)) ?_; clear HF a; intro a HF
              refine wl_ne ?_
              refine wc_true HF rfl ?_
              refine wp_sr ?_
              refine wl_as HF rfl rfl rfl rfl rfl ?_; clear HF a; intro a HF
              refine wl_ne ?_
              refine wp_ret ?_
              refine ex_then_ret ?_
              refine bp_ret1 HF Tryz.results7 (HF.res rfl) ?_
              exact ⟨by rw [sayF_bad hbad]; rfl, HS.out.bel⟩
            · skip
              refine ⟨_, rfl, ?_⟩; replace HS := Bx.mk (HS.out.later hb); clear hb HF; clear a; intro a HF
              refine wl_mv HF rfl rfl rfl rfl rfl ?_; clear HF a; intro a HF
              refine wl_y rfl HF rfl rfl (yl_extract rfl (HF.ev rfl) rfl) ?_; clear HF a; intro a HF
              refine wl_y rfl HF rfl rfl (yl_extract rfl (HF.ev rfl) rfl) ?_; clear HF a; intro a HF
              refine wl_alloc rfl HF rfl rfl rfl (Z := [.int .i64 0, .string ByteArray.empty, .string ByteArray.empty, .int .i64 0, .string ByteArray.empty]) (by kernel_rfl) rfl HS.out ?_; clear HF HS a; intro a w36 b16 HF HS; replace HS := Bx.mk HS
              refine wl_storeBox rfl HF rfl rfl (HF.ev rfl) (HF.ev rfl) HS.out 0 rfl (cells_lit [.int .i64 o.fKind, .string o.fPath, .string o.fTo, .int .i64 o.fAt, .string o.fText] rfl rfl) (by kernel_rfl) ?_; clear HS; intro w37 HS; replace HS := Bx.mk HS
              have HS : Bx (St w0 ([boxA b16 5 24 (.agg #[.int .i64 o.fKind, .string o.fPath, .string o.fTo, .int .i64 o.fAt, .string o.fText]), rowA encS 1 9 (.slice (some ⟨gw2, 0, none⟩) 8 cpw2) wordsL, boxA b1 5 24 (.agg #[.int .i64 o.fKind, .string o.fPath, .string o.fTo, .int .i64 o.fAt, .string o.fText])]) _) := HS
              refine wl_as HF rfl rfl rfl rfl rfl ?_; clear HF a; intro a HF
              refine wl_ne ?_
              refine wp_seq ?_
              refine wp_sr ?_
              refine wl_mv HF rfl rfl rfl rfl rfl ?_; clear HF a; intro a HF
              refine wl_y rfl HF rfl rfl (yl_not rfl (HF.ev rfl)) ?_; clear HF a; intro a HF
              refine wl_mv HF rfl rfl rfl rfl rfl ?_; clear HF a; intro a HF
              refine wl_yg HF rfl rfl rfl rfl rfl (yl_loadR (cs := [.int .i64 o.fKind, .string o.fPath, .string o.fTo, .int .i64 o.fAt, .string o.fText]) rfl (HF.ev rfl) ((HS.out.box 0 rfl).sub 0 5) (by kernel_rfl)) ?_; clear HF a; intro a HF
              refine wl_yg HF rfl rfl rfl rfl rfl (yl_loadR (cs := [.int .i64 o.fKind, .string o.fPath, .string o.fTo, .int .i64 o.fAt, .string o.fText]) rfl (HF.ev rfl) ((HS.out.box 2 rfl).sub 0 5) (by kernel_rfl)) ?_; clear HF a; intro a HF
              refine wl_yg HF rfl rfl rfl rfl rfl (yl_neqOp o rfl (HF.ev rfl) (HF.ev rfl)) ?_; clear HF a; intro a HF
              refine wl_y rfl HF rfl rfl (yl_pick_f rfl (HF.ev rfl) (HF.ev rfl)) ?_; clear HF a; intro a HF
              refine wl_mv HF rfl rfl rfl rfl rfl ?_; clear HF a; intro a HF
              refine wl_yg HF rfl rfl rfl rfl rfl (yl_move rfl (HF.ev rfl)) ?_; clear HF a; intro a HF
              refine wl_callg HF rfl rfl rfl rfl (enter_of Tryz.func19 (by kernel_rfl) rfl) (args := #[.string (lineB o), .int .u8 10]) rfl (l2Cut_any (lineB o) 10 _ (Nat.le_trans (line_size hok) (by decide))) rfl rfl ?_
              rintro _ w38 ⟨ao17, cp17, rfl, hs⟩
              refine ⟨_, rfl, ?_⟩
              replace HS := Bx.mk (HS.out.add hs); clear hs HF; clear a; intro a HF
              replace HS : Bx (St w0 ([rowA encS 1 9 (.slice ao17 ((piecesB (lineB o) 10).length) cp17) (piecesB (lineB o) 10), boxA b16 5 24 (.agg #[.int .i64 o.fKind, .string o.fPath, .string o.fTo, .int .i64 o.fAt, .string o.fText]), rowA encS 1 9 (.slice (some ⟨gw2, 0, none⟩) 8 cpw2) wordsL, boxA b1 5 24 (.agg #[.int .i64 o.fKind, .string o.fPath, .string o.fTo, .int .i64 o.fAt, .string o.fText])]) _) := ⟨HS.out⟩
              refine wl_yg HF rfl rfl rfl rfl rfl (yl_lenL (e := 9) (size := 1) rfl (HF.ev rfl) (by kernel_rfl)) ?_; clear HF a; intro a HF
              refine wl_yg HF rfl rfl rfl rfl rfl (yl_gtrI rfl (HF.ev rfl) (HF.ev rfl)) ?_; clear HF a; intro a HF
              refine wl_y rfl HF rfl rfl (yl_pick_f rfl (HF.ev rfl) (HF.ev rfl)) ?_; clear HF a; intro a HF
              refine wl_ne ?_
              refine HF.cases 65 rfl (fun cc10 HF1 => ?_) (fun cc10 HF1 => ?_)
              · clear HF; have HF := HF1; clear HF1
                have dcc10 := of_decide_eq_true cc10
                refine wc_true HF rfl ?_
                refine wp_sr ?_
                refine wl_as HF rfl rfl rfl rfl rfl ?_; clear HF a; intro a HF
                refine wl_ne ?_
                refine wp_ret ?_
                refine ex_then_ret ?_
                refine bp_ret1 HF Tryz.results7 (HF.res rfl) ?_
                exact ⟨by rw [sayF_bad (hiff.1 (by omega))]; rfl, HS.out.bel⟩
              · clear HF; have HF := HF1; clear HF1
                have dcc10 := of_decide_eq_false cc10
                refine wc_false HF rfl ?_
                refine wp_skip ?_
                refine ex_then ?_
                refine wp_sr ?_
                refine wl_mv HF rfl rfl rfl rfl rfl ?_; clear HF a; intro a HF
                refine wl_as HF rfl rfl rfl rfl rfl ?_; clear HF a; intro a HF
                refine wl_ne ?_
                refine wp_ret ?_
                refine bp_ret1 HF Tryz.results7 (HF.res rfl) ?_
                have hb : badB o = false := by
                  cases hq : badB o with
                  | false => rfl
                  | true => have := hiff.2 hq; omega
                exact ⟨by rw [sayF_line hok hb], HS.out.bel⟩

end Go.Proofs.YtnikdicehddehaaGreatDoor

/- Drawing texts and rows. -/
namespace Go.Proofs.YtnikdicehddehaaGreatDoor
set_option linter.unusedVariables false
set_option linter.unusedSimpArgs false
set_option maxHeartbeats 1000000
set_option maxRecDepth 100000
open Go.RowKit

theorem l91Text_any (w0 w : World) (rb : Nat) (ab : Option Addr) (n cb : Nat) (bs : List UInt8) (hn : n ≤ 2000) (hR : Rd encB 1 w0 ab n bs) (B : Nat) (hB : B ≤ 900000) (m : Nat) (hm : m ≤ 1000) (F : List Asr) (hS : St w0 (rdA rb ab n cb B :: F) w) : Calls Tryz.prog 28 #[.pointer (some ⟨rb, 0, none⟩), .int .i64 (m : Int)] w fun e w' => ∃ t : ByteArray, e = .returned (.string t) ∧ t.size ≤ m ∧ St w0 (rdA rb ab n cb (B + (2 + 2 * m)) :: F) w' := by
 have HS := Bx.mk hS; clear hS
 refine wc_enter Tryz.func28 rfl Tryz.ntmps28 [(0, .pointer (some ⟨rb, 0, none⟩)), (1, .int .i64 (m : Int))] ⟨rfl, rfl, trivial⟩ rfl ?_; intro a HF
 refine wp_sr ?_
 refine wl_as HF rfl rfl rfl rfl rfl ?_; clear HF a; intro a HF
 refine wl_ne ?_
 refine wp_sr ?_
 refine wl_empty (e := 5) (size := 1) rfl HF rfl rfl rfl (by kernel_rfl) HS.out ?_; clear HF HS a; intro a w1 b1 HF HS; replace HS := Bx.mk HS
 refine wl_as HF rfl rfl rfl rfl rfl ?_; clear HF a; intro a HF
 refine wl_ne ?_
 refine wp_sr ?_
 refine wl_mv HF rfl rfl rfl rfl rfl ?_; clear HF a; intro a HF
 refine wl_mv HF rfl rfl rfl rfl rfl ?_; clear HF a; intro a HF
 refine wl_y rfl HF rfl rfl (yl_addI rfl (HF.ev rfl) (HF.ev rfl) (i64w (by omega))) ?_; clear HF a; intro a HF
 replace HS : Bx (St w0 (rdA rb ab n cb B :: F) _) := ⟨(HS.out).pick 0 rfl⟩
 refine wl_call rfl HF rfl (enter_of Tryz.func26 (by kernel_rfl) rfl) (args := #[.pointer (some ⟨rb, 0, none⟩), .int .i64 ((m : Int) + 1)]) rfl (pickN w0 _ rb ab n cb bs hn hR B (by omega) ((m : Int) + 1) (by omega) _ HS.out) rfl rfl ?_
 rintro _ w2 ⟨dn2, rfl, hu2, hs1⟩
 refine ⟨_, rfl, ?_⟩; replace HS := Bx.mk hs1; clear hs1 HF; clear a; intro a HF
 replace HS : Bx (St w0 (rdA rb ab n cb (B + 1) :: F) _) := ⟨HS.out⟩
 refine wl_as HF rfl rfl rfl rfl rfl ?_; clear HF a; intro a HF
 refine wl_ne ?_
 refine wp_sr ?_
 refine wl_mv HF rfl rfl rfl rfl rfl ?_; clear HF a; intro a HF
 replace HS : Bx (St w0 (rdA rb ab n cb (B + 1) :: F) _) := ⟨(HS.out).pick 0 rfl⟩
 refine wl_call rfl HF rfl (enter_of Tryz.func26 (by kernel_rfl) rfl) (args := #[.pointer (some ⟨rb, 0, none⟩), .int .i64 4]) rfl (pickN w0 _ rb ab n cb bs hn hR (B + 1) (by omega) 4 (by omega) _ HS.out) rfl rfl ?_
 rintro _ w3 ⟨dn3, rfl, hu3, hs1⟩
 refine ⟨_, rfl, ?_⟩; replace HS := Bx.mk hs1; clear hs1 HF; clear a; intro a HF
 replace HS : Bx (St w0 (rdA rb ab n cb (B + 1 + 1) :: F) _) := ⟨HS.out⟩
 refine wl_as HF rfl rfl rfl rfl rfl ?_; clear HF a; intro a HF
 refine wl_ne ?_
 refine wp_seq ?_
 refine wp_block ?_
 replace HS := Bx.mk (HS.out.nilRow encB 1 5 (some ⟨b1, 0, none⟩)); replace HS := Bx.mk (show St w0 (rowA encB 1 5 (.slice (some ⟨b1, 0, none⟩) 0 0) ([]) :: rdA rb ab n cb (B + 2 + 2 * 0) :: F) _ from (HS.out.swap.rdLe (B' := B + 2 + 2 * 0) (by omega)).swap)
 refine wc_loop (ι := Nat) (fun k a w => ∃ (ao : Option Addr) (cp : Nat) (xs : List UInt8), (xs.length = k ∧ k ≤ dn2) ∧ Fr 72 a [(0, .pointer (some ⟨rb, 0, none⟩)), (1, .int .i64 (m : Int)), (4, .string (⟨#[]⟩ : ByteArray)), (5, .slice ao xs.length cp), (6, .int .i64 (dn2 : Int)), (7, .int .i64 (dn3 : Int))] ∧ St w0 (rowA encB 1 5 (.slice ao xs.length cp) xs :: rdA rb ab n cb (B + 2 + 2 * k) :: F) w) (fun k => dn2 - k) 0 ⟨_, _, [], ⟨rfl, Nat.zero_le _⟩, HF.less _ ⟨rfl, rfl, rfl, rfl, rfl, rfl, trivial⟩, HS.out⟩ ?_
 clear HF HS; clear a
 rintro k a w4 ⟨ao, cp, xs, ⟨hxl, hk⟩, HF, HS⟩
 replace HS := Bx.mk HS
 refine wp_seq ?_
 refine wp_sr ?_
 refine wl_mv HF rfl rfl rfl rfl rfl ?_; clear HF a; intro a HF
 refine wl_y rfl HF rfl rfl (yl_lenL (e := 5) (size := 1) rfl (HF.ev rfl) (by kernel_rfl)) ?_; clear HF a; intro a HF
 refine wl_mv HF rfl rfl rfl rfl rfl ?_; clear HF a; intro a HF
 refine wl_y rfl HF rfl rfl (yl_lssI rfl (HF.ev rfl) (HF.ev rfl)) ?_; clear HF a; intro a HF
 refine wl_ne ?_
 refine HF.cases 20 rfl (fun cc1 HF1 => ?_) (fun cc1 HF1 => ?_)
 ·clear HF; have HF := HF1; clear HF1
  have dcc1 := of_decide_eq_true cc1
  refine wc_true HF rfl ?_
  refine wp_skip ?_
  refine ex_then ?_
  refine wp_block ?_
  refine wp_sr ?_
  refine wl_mv HF rfl rfl rfl rfl rfl ?_; clear HF a; intro a HF
  refine wl_ne ?_
  refine wp_block ?_
  refine wp_sr ?_
  refine wl_y rfl HF rfl rfl (yl_eqlI rfl (HF.ev rfl) (HF.ev rfl)) ?_; clear HF a; intro a HF
  refine wl_as HF rfl rfl rfl rfl rfl ?_; clear HF a; intro a HF
  refine wl_ne ?_
  refine HF.cases 29 rfl (fun cc2 HF1 => ?_) (fun cc2 HF1 => ?_)
  ·clear HF; have HF := HF1; clear HF1
   have dcc2 := eq_of_beq cc2
   refine wc_true HF rfl ?_
   refine wp_region_lit ?_
   refine wl_mv HF rfl rfl rfl rfl rfl ?_; clear HF a; intro a HF
   refine wl_mv HF rfl rfl rfl rfl rfl ?_; clear HF a; intro a HF
   replace HS : Bx (St w0 (rdA rb ab n cb (B + 2 + 2 * k) :: rowA encB 1 5 (.slice ao xs.length cp) xs :: F) _) := ⟨(HS.out).pick 1 rfl⟩
   refine wl_call rfl HF rfl (enter_of Tryz.func26 (by kernel_rfl) rfl) (args := #[.pointer (some ⟨rb, 0, none⟩), .int .i64 256]) rfl (pickN w0 _ rb ab n cb bs hn hR (B + 2 + 2 * k) (by omega) 256 (by omega) _ HS.out) rfl rfl ?_
   rintro _ w5 ⟨dn4, rfl, hu4, hs1⟩
   refine ⟨_, rfl, ?_⟩; replace HS := Bx.mk hs1; clear hs1 HF; clear a; intro a HF
   replace HS : Bx (St w0 (rdA rb ab n cb (B + 2 + 2 * k + 1) :: rowA encB 1 5 (.slice ao xs.length cp) xs :: F) _) := ⟨HS.out⟩
   refine wl_y rfl HF rfl rfl (yl_toU8 (b := UInt8.ofNat (dn4 : Int).toNat) rfl (HF.ev rfl) (by omega) rfl (by kernel_rfl) (by kernel_rfl)) ?_; clear HF a; intro a HF
   refine wl_buildS (enc := encB) (e := 5) (size := 1) rfl HF rfl rfl rfl (ps := [(0, .int .u8 ((UInt8.ofNat (dn4 : Int).toNat).toNat : Int))]) rfl (cells := [.int .u8 ((UInt8.ofNat (dn4 : Int).toNat).toNat : Int)]) (by kernel_rfl) [(UInt8.ofNat (dn4 : Int).toNat)] rfl rfl (by unfold maxLen; omega) rfl HS.out ?_; clear HF HS a; intro b5 a w6 HF HS; replace HS := Bx.mk HS
   refine wl_appL rfl HF rfl rfl rfl (HF.ev rfl) (HF.ev rfl) elemB encB_len HS.out 2 (xs := xs) rfl (ys := [(UInt8.ofNat (dn4 : Int).toNat)]) (St.rdN HS.out encB_len 0 rfl) (cells_one_B _) (by unfold maxLen; simp only [List.length_cons, List.length_nil]; omega) (by simp only [List.length_cons, List.length_nil]; omega) ?_; clear HF HS a; intro ao6 cp7 w7 a HF HS; replace HS := Bx.mk HS
   replace HS : Bx (St w0 (rowA encB 1 5 (.slice (some ⟨b5, 0, none⟩) 1 1) ([(UInt8.ofNat (dn4 : Int).toNat)]) :: rdA rb ab n cb (B + 2 + 2 * k + 1) :: rowA encB 1 5 (.slice ao6 (xs.length + ([(UInt8.ofNat (dn4 : Int).toNat)]).length) cp7) (xs ++ ([(UInt8.ofNat (dn4 : Int).toNat)])) :: F) _) := ⟨HS.out⟩
   refine wl_as HF rfl rfl rfl rfl rfl ?_; clear HF a; intro a HF
   refine wpList_nil ?_
   refine ex_block ?_
   refine ex_block ?_
   refine ex_then ?_
   have hz : xs.length + ([(UInt8.ofNat (dn4 : Int).toNat)]).length = (xs ++ ([(UInt8.ofNat (dn4 : Int).toNat)])).length := (List.length_append ..).symm
   rw [hz] at HS HF
   replace HS : Bx (St w0 (rdA rb ab n cb (B + 2 + 2 * k + 1) :: rowA encB 1 5 (.slice ao6 ((xs ++ ([(UInt8.ofNat (dn4 : Int).toNat)])).length) cp7) (xs ++ ([(UInt8.ofNat (dn4 : Int).toNat)])) :: rowA encB 1 5 (.slice (some ⟨b5, 0, none⟩) 1 1) ([(UInt8.ofNat (dn4 : Int).toNat)]) :: F) _) := ⟨((HS.out).pick 2 rfl).pick 2 rfl⟩
   replace HS := Bx.mk (HS.out.rdLe (B' := B + 2 + 2 * (k + 1)) (by omega)).swap
   replace HS : Bx (St w0 (rowA encB 1 5 (.slice ao6 ((xs ++ ([(UInt8.ofNat (dn4 : Int).toNat)])).length) cp7) (xs ++ ([(UInt8.ofNat (dn4 : Int).toNat)])) :: rdA rb ab n cb (B + 2 + 2 * (k + 1)) :: rowA encB 1 5 (.slice (some ⟨b5, 0, none⟩) 1 1) ([(UInt8.ofNat (dn4 : Int).toNat)]) :: F) _) := ⟨HS.out⟩
   replace HS := Bx.mk ((HS.out.erase 2))
   exact ⟨k + 1, ⟨_, _, xs ++ ([(UInt8.ofNat (dn4 : Int).toNat)]), ⟨by simp [hxl], by omega⟩, HF.less _ ⟨rfl, rfl, rfl, rfl, rfl, rfl, trivial⟩, HS.out⟩, (by omega)⟩
  ·clear HF; have HF := HF1; clear HF1
   have dcc2 := ne_of_beq_false cc2
   refine wc_false HF rfl ?_
   refine wp_sr ?_
   refine wl_y rfl HF rfl rfl (yl_eqlI rfl (HF.ev rfl) (HF.ev rfl)) ?_; clear HF a; intro a HF
   refine wl_as HF rfl rfl rfl rfl rfl ?_; clear HF a; intro a HF
   refine wl_ne ?_
   refine HF.cases 37 rfl (fun cc3 HF1 => ?_) (fun cc3 HF1 => ?_)
   ·clear HF; have HF := HF1; clear HF1
    have dcc3 := eq_of_beq cc3
    refine wc_true HF rfl ?_
    have hl7 : [(97 : UInt8), (98 : UInt8), (126 : UInt8), (48 : UInt8), (58 : UInt8), (59 : UInt8), (61 : UInt8)].length = 7 := rfl
    refine wp_region_lit ?_
    refine wl_mv HF rfl rfl rfl rfl rfl ?_; clear HF a; intro a HF
    refine wl_buildS (enc := encB) (e := 5) (size := 1) rfl HF rfl rfl rfl (ps := [(0, .int .u8 97), (1, .int .u8 98), (2, .int .u8 126), (3, .int .u8 48), (4, .int .u8 58), (5, .int .u8 59), (6, .int .u8 61)]) rfl (cells := [.int .u8 97, .int .u8 98, .int .u8 126, .int .u8 48, .int .u8 58, .int .u8 59, .int .u8 61]) (by kernel_rfl) [(97 : UInt8), (98 : UInt8), (126 : UInt8), (48 : UInt8), (58 : UInt8), (59 : UInt8), (61 : UInt8)] rfl rfl (by unfold maxLen; omega) rfl HS.out ?_; clear HF HS a; intro b8 a w8 HF HS; replace HS := Bx.mk HS
    refine wl_convSl (e := 5) rfl HF rfl rfl rfl (HF.ev rfl) (by kernel_rfl) (by kernel_rfl) HS.out 0 rfl (by decide) ?_; clear HF HS a; intro w9 a HF HS; replace HS := Bx.mk HS
    replace HS : Bx (St w0 (romA encB 1 b8 ([(97 : UInt8), (98 : UInt8), (126 : UInt8), (48 : UInt8), (58 : UInt8), (59 : UInt8), (61 : UInt8)]) :: rowA encB 1 5 (.slice ao xs.length cp) xs :: rdA rb ab n cb (B + 2 + 2 * k) :: F) _) := ⟨HS.out⟩
    refine wl_mv HF rfl rfl rfl rfl rfl ?_; clear HF a; intro a HF
    replace HS : Bx (St w0 (rdA rb ab n cb (B + 2 + 2 * k) :: romA encB 1 b8 ([(97 : UInt8), (98 : UInt8), (126 : UInt8), (48 : UInt8), (58 : UInt8), (59 : UInt8), (61 : UInt8)]) :: rowA encB 1 5 (.slice ao xs.length cp) xs :: F) _) := ⟨(HS.out).pick 2 rfl⟩
    refine wl_call rfl HF rfl (enter_of Tryz.func26 (by kernel_rfl) rfl) (args := #[.pointer (some ⟨rb, 0, none⟩), .int .i64 7]) rfl (pickN w0 _ rb ab n cb bs hn hR (B + 2 + 2 * k) (by omega) 7 (by omega) _ HS.out) rfl rfl ?_
    rintro _ w10 ⟨dn9, rfl, hu9, hs1⟩
    refine ⟨_, rfl, ?_⟩; replace HS := Bx.mk hs1; clear hs1 HF; clear a; intro a HF
    replace HS : Bx (St w0 (rdA rb ab n cb (B + 2 + 2 * k + 1) :: romA encB 1 b8 ([(97 : UInt8), (98 : UInt8), (126 : UInt8), (48 : UInt8), (58 : UInt8), (59 : UInt8), (61 : UInt8)]) :: rowA encB 1 5 (.slice ao xs.length cp) xs :: F) _) := ⟨HS.out⟩
    refine wl_y rfl HF rfl rfl (yl_indexAddr (e := 5) (i := dn9) (size := 1) rfl (HF.ev rfl) (HF.ev rfl) (by kernel_rfl) rfl (by omega)) ?_; clear HF a; intro a HF
    refine wl_y rfl HF rfl rfl (yl_load (v := .int .u8 ((([(97 : UInt8), (98 : UInt8), (126 : UInt8), (48 : UInt8), (58 : UInt8), (59 : UInt8), (61 : UInt8)]).getD dn9 0).toNat : Int)) rfl (HF.ev rfl) (HS.out.rom1 encB_len 1 rfl (get_getD (xs := [(97 : UInt8), (98 : UInt8), (126 : UInt8), (48 : UInt8), (58 : UInt8), (59 : UInt8), (61 : UInt8)]) (j := dn9) (d := 0) (by omega)) rfl) (by kernel_rfl)) ?_; clear HF a; intro a HF
    refine wl_buildS (enc := encB) (e := 5) (size := 1) rfl HF rfl rfl rfl (ps := [(0, .int .u8 ((([(97 : UInt8), (98 : UInt8), (126 : UInt8), (48 : UInt8), (58 : UInt8), (59 : UInt8), (61 : UInt8)]).getD dn9 0).toNat : Int))]) rfl (cells := [.int .u8 ((([(97 : UInt8), (98 : UInt8), (126 : UInt8), (48 : UInt8), (58 : UInt8), (59 : UInt8), (61 : UInt8)]).getD dn9 0).toNat : Int)]) (by kernel_rfl) [(([(97 : UInt8), (98 : UInt8), (126 : UInt8), (48 : UInt8), (58 : UInt8), (59 : UInt8), (61 : UInt8)]).getD dn9 0)] rfl rfl (by unfold maxLen; omega) rfl HS.out ?_; clear HF HS a; intro b10 a w11 HF HS; replace HS := Bx.mk HS
    refine wl_appL rfl HF rfl rfl rfl (HF.ev rfl) (HF.ev rfl) elemB encB_len HS.out 3 (xs := xs) rfl (ys := [(([(97 : UInt8), (98 : UInt8), (126 : UInt8), (48 : UInt8), (58 : UInt8), (59 : UInt8), (61 : UInt8)]).getD dn9 0)]) (St.rdN HS.out encB_len 0 rfl) (cells_one_B _) (by unfold maxLen; simp only [List.length_cons, List.length_nil]; omega) (by simp only [List.length_cons, List.length_nil]; omega) ?_; clear HF HS a; intro ao11 cp12 w12 a HF HS; replace HS := Bx.mk HS
    replace HS : Bx (St w0 (rowA encB 1 5 (.slice (some ⟨b10, 0, none⟩) 1 1) ([(([(97 : UInt8), (98 : UInt8), (126 : UInt8), (48 : UInt8), (58 : UInt8), (59 : UInt8), (61 : UInt8)]).getD dn9 0)]) :: rdA rb ab n cb (B + 2 + 2 * k + 1) :: romA encB 1 b8 ([(97 : UInt8), (98 : UInt8), (126 : UInt8), (48 : UInt8), (58 : UInt8), (59 : UInt8), (61 : UInt8)]) :: rowA encB 1 5 (.slice ao11 (xs.length + ([(([(97 : UInt8), (98 : UInt8), (126 : UInt8), (48 : UInt8), (58 : UInt8), (59 : UInt8), (61 : UInt8)]).getD dn9 0)]).length) cp12) (xs ++ ([(([(97 : UInt8), (98 : UInt8), (126 : UInt8), (48 : UInt8), (58 : UInt8), (59 : UInt8), (61 : UInt8)]).getD dn9 0)])) :: F) _) := ⟨HS.out⟩
    refine wl_as HF rfl rfl rfl rfl rfl ?_; clear HF a; intro a HF
    refine wpList_nil ?_
    refine ex_block ?_
    refine ex_block ?_
    refine ex_then ?_
    have hz : xs.length + ([(([(97 : UInt8), (98 : UInt8), (126 : UInt8), (48 : UInt8), (58 : UInt8), (59 : UInt8), (61 : UInt8)]).getD dn9 0)]).length = (xs ++ ([(([(97 : UInt8), (98 : UInt8), (126 : UInt8), (48 : UInt8), (58 : UInt8), (59 : UInt8), (61 : UInt8)]).getD dn9 0)])).length := (List.length_append ..).symm
    rw [hz] at HS HF
    replace HS : Bx (St w0 (rdA rb ab n cb (B + 2 + 2 * k + 1) :: rowA encB 1 5 (.slice ao11 ((xs ++ ([(([(97 : UInt8), (98 : UInt8), (126 : UInt8), (48 : UInt8), (58 : UInt8), (59 : UInt8), (61 : UInt8)]).getD dn9 0)])).length) cp12) (xs ++ ([(([(97 : UInt8), (98 : UInt8), (126 : UInt8), (48 : UInt8), (58 : UInt8), (59 : UInt8), (61 : UInt8)]).getD dn9 0)])) :: rowA encB 1 5 (.slice (some ⟨b10, 0, none⟩) 1 1) ([(([(97 : UInt8), (98 : UInt8), (126 : UInt8), (48 : UInt8), (58 : UInt8), (59 : UInt8), (61 : UInt8)]).getD dn9 0)]) :: romA encB 1 b8 ([(97 : UInt8), (98 : UInt8), (126 : UInt8), (48 : UInt8), (58 : UInt8), (59 : UInt8), (61 : UInt8)]) :: F) _) := ⟨((HS.out).pick 3 rfl).pick 2 rfl⟩
    replace HS := Bx.mk (HS.out.rdLe (B' := B + 2 + 2 * (k + 1)) (by omega)).swap
    replace HS : Bx (St w0 (rowA encB 1 5 (.slice ao11 ((xs ++ ([(([(97 : UInt8), (98 : UInt8), (126 : UInt8), (48 : UInt8), (58 : UInt8), (59 : UInt8), (61 : UInt8)]).getD dn9 0)])).length) cp12) (xs ++ ([(([(97 : UInt8), (98 : UInt8), (126 : UInt8), (48 : UInt8), (58 : UInt8), (59 : UInt8), (61 : UInt8)]).getD dn9 0)])) :: rdA rb ab n cb (B + 2 + 2 * (k + 1)) :: rowA encB 1 5 (.slice (some ⟨b10, 0, none⟩) 1 1) ([(([(97 : UInt8), (98 : UInt8), (126 : UInt8), (48 : UInt8), (58 : UInt8), (59 : UInt8), (61 : UInt8)]).getD dn9 0)]) :: romA encB 1 b8 ([(97 : UInt8), (98 : UInt8), (126 : UInt8), (48 : UInt8), (58 : UInt8), (59 : UInt8), (61 : UInt8)]) :: F) _) := ⟨HS.out⟩
    replace HS := Bx.mk (((HS.out.erase 3).erase 2))
    exact ⟨k + 1, ⟨_, _, xs ++ ([(([(97 : UInt8), (98 : UInt8), (126 : UInt8), (48 : UInt8), (58 : UInt8), (59 : UInt8), (61 : UInt8)]).getD dn9 0)]), ⟨by simp [hxl], by omega⟩, HF.less _ ⟨rfl, rfl, rfl, rfl, rfl, rfl, trivial⟩, HS.out⟩, (by omega)⟩
   ·clear HF; have HF := HF1; clear HF1
    have dcc3 := ne_of_beq_false cc3
    refine wc_false HF rfl ?_
    refine wp_sr ?_
    refine wl_y rfl HF rfl rfl (yl_eqlI rfl (HF.ev rfl) (HF.ev rfl)) ?_; clear HF a; intro a HF
    refine wl_as HF rfl rfl rfl rfl rfl ?_; clear HF a; intro a HF
    refine wl_ne ?_
    refine HF.cases 48 rfl (fun cc4 HF1 => ?_) (fun cc4 HF1 => ?_)
    ·clear HF; have HF := HF1; clear HF1
     have dcc4 := eq_of_beq cc4
     refine wc_true HF rfl ?_
     refine wp_sr ?_
     refine wl_mv HF rfl rfl rfl rfl rfl ?_; clear HF a; intro a HF
     replace HS : Bx (St w0 (rdA rb ab n cb (B + 2 + 2 * k) :: rowA encB 1 5 (.slice ao xs.length cp) xs :: F) _) := ⟨(HS.out).pick 1 rfl⟩
     refine wl_call rfl HF rfl (enter_of Tryz.func26 (by kernel_rfl) rfl) (args := #[.pointer (some ⟨rb, 0, none⟩), .int .i64 3]) rfl (pickN w0 _ rb ab n cb bs hn hR (B + 2 + 2 * k) (by omega) 3 (by omega) _ HS.out) rfl rfl ?_
     rintro _ w13 ⟨dn13, rfl, hu13, hs1⟩
     refine ⟨_, rfl, ?_⟩; replace HS := Bx.mk hs1; clear hs1 HF; clear a; intro a HF
     replace HS : Bx (St w0 (rdA rb ab n cb (B + 2 + 2 * k + 1) :: rowA encB 1 5 (.slice ao xs.length cp) xs :: F) _) := ⟨HS.out⟩
     refine wl_y rfl HF rfl rfl (yl_addI rfl (HF.ev rfl) (HF.ev rfl) (i64w (by omega))) ?_; clear HF a; intro a HF
     refine wl_y rfl HF rfl rfl (yl_toU8 (b := UInt8.ofNat ((97 : Int) + (dn13 : Int)).toNat) rfl (HF.ev rfl) (by omega) rfl (by kernel_rfl) (by kernel_rfl)) ?_; clear HF a; intro a HF
     refine wl_as HF rfl rfl rfl rfl rfl ?_; clear HF a; intro a HF
     refine wl_ne ?_
     refine wp_sr ?_
     refine wl_mv HF rfl rfl rfl rfl rfl ?_; clear HF a; intro a HF
     replace HS : Bx (St w0 (rdA rb ab n cb (B + 2 + 2 * k + 1) :: rowA encB 1 5 (.slice ao xs.length cp) xs :: F) _) := ⟨(HS.out).pick 0 rfl⟩
     refine wl_call rfl HF rfl (enter_of Tryz.func26 (by kernel_rfl) rfl) (args := #[.pointer (some ⟨rb, 0, none⟩), .int .i64 6]) rfl (pickN w0 _ rb ab n cb bs hn hR (B + 2 + 2 * k + 1) (by omega) 6 (by omega) _ HS.out) rfl rfl ?_
     rintro _ w14 ⟨dn14, rfl, hu14, hs1⟩
     refine ⟨_, rfl, ?_⟩; replace HS := Bx.mk hs1; clear hs1 HF; clear a; intro a HF
     replace HS : Bx (St w0 (rdA rb ab n cb (B + 2 + 2 * k + 1 + 1) :: rowA encB 1 5 (.slice ao xs.length cp) xs :: F) _) := ⟨HS.out⟩
     refine wl_as HF rfl rfl rfl rfl rfl ?_; clear HF a; intro a HF
     refine wl_ne ?_
     refine wp_block ?_
     replace HS : Bx (St w0 (rowA encB 1 5 (.slice ao xs.length cp) xs :: rdA rb ab n cb (B + 2 + 2 * k + 1 + 1) :: F) _) := ⟨((HS.out).pick 0 rfl).pick 1 rfl⟩
     refine wc_loop (ι := Nat) (fun j a w => ∃ (ao2 : Option Addr) (cp2 : Nat) (ys : List UInt8), (ys.length = k + j ∧ ys.length ≤ dn2 ∧ j ≤ 6) ∧ Fr 72 a [(0, .pointer (some ⟨rb, 0, none⟩)), (1, .int .i64 (m : Int)), (4, .string (⟨#[]⟩ : ByteArray)), (5, .slice ao2 ys.length cp2), (6, .int .i64 (dn2 : Int)), (7, .int .i64 (dn3 : Int)), (8, .int .u8 ((UInt8.ofNat ((97 : Int) + (dn13 : Int)).toNat).toNat : Int)), (9, .int .i64 ((dn14 : Int) - (j : Int)))] ∧ St w0 (rowA encB 1 5 (.slice ao2 ys.length cp2) ys :: rdA rb ab n cb (B + 2 + 2 * k + 1 + 1) :: F) w) (fun j => 6 - j) 0 ⟨_, _, xs, ⟨by omega, by omega, by omega⟩, HF.less _ ⟨rfl, rfl, rfl, rfl, rfl, rfl, rfl, (by show some (Value.int .i64 _) = some (Value.int .i64 _); exact congrArg (fun z => some (Value.int .i64 z)) (by omega)), trivial⟩, HS.out⟩ ?_
     clear HF HS; clear a
     rintro j a w15 ⟨ao2, cp2, ys, ⟨hy, hyk, hj⟩, HF, HS⟩
     replace HS := Bx.mk HS
     refine wp_seq ?_
     refine wp_sr ?_
     refine wl_mv HF rfl rfl rfl rfl rfl ?_; clear HF a; intro a HF
     refine wl_y rfl HF rfl rfl (yl_geqI rfl (HF.ev rfl) (HF.ev rfl)) ?_; clear HF a; intro a HF
     refine wl_mv HF rfl rfl rfl rfl rfl ?_; clear HF a; intro a HF
     refine HF.cases 58 rfl (fun cc5 HF1 => ?_) (fun cc5 HF1 => ?_)
     ·clear HF; have HF := HF1; clear HF1
      have dcc5 := of_decide_eq_true cc5
      refine wl_yg HF rfl rfl rfl rfl rfl (yl_move rfl (HF.ev rfl)) ?_; clear HF a; intro a HF
      refine wl_yg HF rfl rfl rfl rfl rfl (yl_lenL (e := 5) (size := 1) rfl (HF.ev rfl) (by kernel_rfl)) ?_; clear HF a; intro a HF
      refine wl_yg HF rfl rfl rfl rfl rfl (yl_move rfl (HF.ev rfl)) ?_; clear HF a; intro a HF
      refine wl_yg HF rfl rfl rfl rfl rfl (yl_lssI rfl (HF.ev rfl) (HF.ev rfl)) ?_; clear HF a; intro a HF
      refine wl_y rfl HF rfl rfl (yl_pick_t rfl (HF.ev rfl) (HF.ev rfl)) ?_; clear HF a; intro a HF
      refine wl_ne ?_
      refine HF.cases 63 rfl (fun cc6 HF1 => ?_) (fun cc6 HF1 => ?_)
      ·clear HF; have HF := HF1; clear HF1
       have dcc6 := of_decide_eq_true cc6
       refine wc_true HF rfl ?_
       refine wp_skip ?_
       refine ex_then ?_
       refine wp_seq ?_
       refine wp_block ?_
       refine wp_region_lit ?_
       refine wl_mv HF rfl rfl rfl rfl rfl ?_; clear HF a; intro a HF
       refine wl_mv HF rfl rfl rfl rfl rfl ?_; clear HF a; intro a HF
       refine wl_buildS (enc := encB) (e := 5) (size := 1) rfl HF rfl rfl rfl (ps := [(0, .int .u8 ((UInt8.ofNat ((97 : Int) + (dn13 : Int)).toNat).toNat : Int))]) rfl (cells := [.int .u8 ((UInt8.ofNat ((97 : Int) + (dn13 : Int)).toNat).toNat : Int)]) (by kernel_rfl) [(UInt8.ofNat ((97 : Int) + (dn13 : Int)).toNat)] rfl rfl (by unfold maxLen; omega) rfl HS.out ?_; clear HF HS a; intro b15 a w16 HF HS; replace HS := Bx.mk HS
       refine wl_appL rfl HF rfl rfl rfl (HF.ev rfl) (HF.ev rfl) elemB encB_len HS.out 1 (xs := ys) rfl (ys := [(UInt8.ofNat ((97 : Int) + (dn13 : Int)).toNat)]) (St.rdN HS.out encB_len 0 rfl) (cells_one_B _) (by unfold maxLen; simp only [List.length_cons, List.length_nil]; omega) (by simp only [List.length_cons, List.length_nil]; omega) ?_; clear HF HS a; intro ao16 cp17 w17 a HF HS; replace HS := Bx.mk HS
       replace HS : Bx (St w0 (rowA encB 1 5 (.slice (some ⟨b15, 0, none⟩) 1 1) ([(UInt8.ofNat ((97 : Int) + (dn13 : Int)).toNat)]) :: rowA encB 1 5 (.slice ao16 (ys.length + ([(UInt8.ofNat ((97 : Int) + (dn13 : Int)).toNat)]).length) cp17) (ys ++ ([(UInt8.ofNat ((97 : Int) + (dn13 : Int)).toNat)])) :: rdA rb ab n cb (B + 2 + 2 * k + 1 + 1) :: F) _) := ⟨HS.out⟩
       refine wl_as HF rfl rfl rfl rfl rfl ?_; clear HF a; intro a HF
       refine wpList_nil ?_
       refine ex_block ?_
       refine ex_then ?_
       refine wp_region_lit ?_
       refine wl_mv HF rfl rfl rfl rfl rfl ?_; clear HF a; intro a HF
       refine wl_y rfl HF rfl rfl (yl_subI rfl (HF.ev rfl) (HF.ev rfl) (i64w (by omega))) ?_; clear HF a; intro a HF
       refine wl_as HF rfl rfl rfl rfl rfl ?_; clear HF a; intro a HF
       refine wl_ne ?_
       have hz : ys.length + ([(UInt8.ofNat ((97 : Int) + (dn13 : Int)).toNat)]).length = (ys ++ ([(UInt8.ofNat ((97 : Int) + (dn13 : Int)).toNat)])).length := (List.length_append ..).symm
       rw [hz] at HS HF
       replace HS : Bx (St w0 (rowA encB 1 5 (.slice ao16 ((ys ++ ([(UInt8.ofNat ((97 : Int) + (dn13 : Int)).toNat)])).length) cp17) (ys ++ ([(UInt8.ofNat ((97 : Int) + (dn13 : Int)).toNat)])) :: rdA rb ab n cb (B + 2 + 2 * k + 1 + 1) :: rowA encB 1 5 (.slice (some ⟨b15, 0, none⟩) 1 1) ([(UInt8.ofNat ((97 : Int) + (dn13 : Int)).toNat)]) :: F) _) := ⟨((HS.out).pick 2 rfl).pick 2 rfl⟩
       exact ⟨j + 1, ⟨_, _, ys ++ ([(UInt8.ofNat ((97 : Int) + (dn13 : Int)).toNat)]), ⟨by rw [← hz, hy]; simp only [List.length_cons, List.length_nil]; omega, by rw [← hz]; simp only [List.length_cons, List.length_nil]; omega, by omega⟩, HF.less _ ⟨rfl, rfl, rfl, rfl, rfl, rfl, rfl, (by show some (Value.int .i64 _) = some (Value.int .i64 _); exact congrArg (fun z => some (Value.int .i64 z)) (by omega)), trivial⟩, (HS.out.erase 2)⟩, (by omega)⟩
      ·clear HF; have HF := HF1; clear HF1
       have dcc6 := of_decide_eq_false cc6
       refine wc_false HF rfl ?_
       refine wp_exit ?_
       refine ex_then_exit ?_
       refine ex_then_exit ?_
       refine ex_block_hit ?_
       refine ex_block ?_
       refine ex_block ?_
       refine ex_then ?_
       replace HS : Bx (St w0 (rdA rb ab n cb (B + 2 + 2 * k + 1 + 1) :: rowA encB 1 5 (.slice ao2 ys.length cp2) ys :: F) _) := ⟨((HS.out).pick 0 rfl).pick 1 rfl⟩
       replace HS := Bx.mk (HS.out.rdLe (B' := B + 2 + 2 * (ys.length)) (by omega)).swap
       replace HS : Bx (St w0 (rowA encB 1 5 (.slice ao2 ys.length cp2) ys :: rdA rb ab n cb (B + 2 + 2 * (ys.length)) :: F) _) := ⟨HS.out⟩
       replace HS := Bx.mk (HS.out)
       exact ⟨ys.length, ⟨_, _, ys, ⟨rfl, by omega⟩, HF.less _ ⟨rfl, rfl, rfl, rfl, rfl, rfl, trivial⟩, HS.out⟩, (by omega)⟩
     ·clear HF; have HF := HF1; clear HF1
      have dcc5 := of_decide_eq_false cc5
      refine wl_skip HF rfl rfl rfl rfl rfl rfl ?_; clear HF a; intro a HF
      refine wl_skip HF rfl rfl rfl rfl rfl rfl ?_; clear HF a; intro a HF
      refine wl_skip HF rfl rfl rfl rfl rfl rfl ?_; clear HF a; intro a HF
      refine wl_skip HF rfl rfl rfl rfl rfl rfl ?_; clear HF a; intro a HF
      refine wl_y rfl HF rfl rfl (yl_pick_f rfl (HF.ev rfl) (HF.ev rfl)) ?_; clear HF a; intro a HF
      refine wl_ne ?_
      refine wc_false HF rfl ?_
      refine wp_exit ?_
      refine ex_then_exit ?_
      refine ex_then_exit ?_
      refine ex_block_hit ?_
      refine ex_block ?_
      refine ex_block ?_
      refine ex_then ?_
      replace HS : Bx (St w0 (rdA rb ab n cb (B + 2 + 2 * k + 1 + 1) :: rowA encB 1 5 (.slice ao2 ys.length cp2) ys :: F) _) := ⟨((HS.out).pick 0 rfl).pick 1 rfl⟩
      replace HS := Bx.mk (HS.out.rdLe (B' := B + 2 + 2 * (ys.length)) (by omega)).swap
      replace HS : Bx (St w0 (rowA encB 1 5 (.slice ao2 ys.length cp2) ys :: rdA rb ab n cb (B + 2 + 2 * (ys.length)) :: F) _) := ⟨HS.out⟩
      replace HS := Bx.mk (HS.out)
      exact ⟨ys.length, ⟨_, _, ys, ⟨rfl, by omega⟩, HF.less _ ⟨rfl, rfl, rfl, rfl, rfl, rfl, trivial⟩, HS.out⟩, (by omega)⟩
    ·clear HF; have HF := HF1; clear HF1
     have dcc4 := ne_of_beq_false cc4
     refine wc_false HF rfl ?_
     refine wp_region_lit ?_
     refine wl_mv HF rfl rfl rfl rfl rfl ?_; clear HF a; intro a HF
     refine wl_mv HF rfl rfl rfl rfl rfl ?_; clear HF a; intro a HF
     replace HS : Bx (St w0 (rdA rb ab n cb (B + 2 + 2 * k) :: rowA encB 1 5 (.slice ao xs.length cp) xs :: F) _) := ⟨(HS.out).pick 1 rfl⟩
     refine wl_call rfl HF rfl (enter_of Tryz.func26 (by kernel_rfl) rfl) (args := #[.pointer (some ⟨rb, 0, none⟩), .int .i64 2]) rfl (pickN w0 _ rb ab n cb bs hn hR (B + 2 + 2 * k) (by omega) 2 (by omega) _ HS.out) rfl rfl ?_
     rintro _ w18 ⟨dn18, rfl, hu18, hs1⟩
     refine ⟨_, rfl, ?_⟩; replace HS := Bx.mk hs1; clear hs1 HF; clear a; intro a HF
     replace HS : Bx (St w0 (rdA rb ab n cb (B + 2 + 2 * k + 1) :: rowA encB 1 5 (.slice ao xs.length cp) xs :: F) _) := ⟨HS.out⟩
     refine wl_y rfl HF rfl rfl (yl_mulI rfl (HF.ev rfl) (HF.ev rfl) (i64w (by omega))) ?_; clear HF a; intro a HF
     refine wl_y rfl HF rfl rfl (yl_toU8 (b := UInt8.ofNat ((dn18 : Int) * 97).toNat) rfl (HF.ev rfl) (by omega) rfl (by kernel_rfl) (by kernel_rfl)) ?_; clear HF a; intro a HF
     refine wl_buildS (enc := encB) (e := 5) (size := 1) rfl HF rfl rfl rfl (ps := [(0, .int .u8 ((UInt8.ofNat ((dn18 : Int) * 97).toNat).toNat : Int))]) rfl (cells := [.int .u8 ((UInt8.ofNat ((dn18 : Int) * 97).toNat).toNat : Int)]) (by kernel_rfl) [(UInt8.ofNat ((dn18 : Int) * 97).toNat)] rfl rfl (by unfold maxLen; omega) rfl HS.out ?_; clear HF HS a; intro b19 a w19 HF HS; replace HS := Bx.mk HS
     refine wl_appL rfl HF rfl rfl rfl (HF.ev rfl) (HF.ev rfl) elemB encB_len HS.out 2 (xs := xs) rfl (ys := [(UInt8.ofNat ((dn18 : Int) * 97).toNat)]) (St.rdN HS.out encB_len 0 rfl) (cells_one_B _) (by unfold maxLen; simp only [List.length_cons, List.length_nil]; omega) (by simp only [List.length_cons, List.length_nil]; omega) ?_; clear HF HS a; intro ao20 cp21 w20 a HF HS; replace HS := Bx.mk HS
     replace HS : Bx (St w0 (rowA encB 1 5 (.slice (some ⟨b19, 0, none⟩) 1 1) ([(UInt8.ofNat ((dn18 : Int) * 97).toNat)]) :: rdA rb ab n cb (B + 2 + 2 * k + 1) :: rowA encB 1 5 (.slice ao20 (xs.length + ([(UInt8.ofNat ((dn18 : Int) * 97).toNat)]).length) cp21) (xs ++ ([(UInt8.ofNat ((dn18 : Int) * 97).toNat)])) :: F) _) := ⟨HS.out⟩
     refine wl_as HF rfl rfl rfl rfl rfl ?_; clear HF a; intro a HF
     refine wpList_nil ?_
     refine ex_block ?_
     refine ex_block ?_
     refine ex_then ?_
     have hz : xs.length + ([(UInt8.ofNat ((dn18 : Int) * 97).toNat)]).length = (xs ++ ([(UInt8.ofNat ((dn18 : Int) * 97).toNat)])).length := (List.length_append ..).symm
     rw [hz] at HS HF
     replace HS : Bx (St w0 (rdA rb ab n cb (B + 2 + 2 * k + 1) :: rowA encB 1 5 (.slice ao20 ((xs ++ ([(UInt8.ofNat ((dn18 : Int) * 97).toNat)])).length) cp21) (xs ++ ([(UInt8.ofNat ((dn18 : Int) * 97).toNat)])) :: rowA encB 1 5 (.slice (some ⟨b19, 0, none⟩) 1 1) ([(UInt8.ofNat ((dn18 : Int) * 97).toNat)]) :: F) _) := ⟨((HS.out).pick 2 rfl).pick 2 rfl⟩
     replace HS := Bx.mk (HS.out.rdLe (B' := B + 2 + 2 * (k + 1)) (by omega)).swap
     replace HS : Bx (St w0 (rowA encB 1 5 (.slice ao20 ((xs ++ ([(UInt8.ofNat ((dn18 : Int) * 97).toNat)])).length) cp21) (xs ++ ([(UInt8.ofNat ((dn18 : Int) * 97).toNat)])) :: rdA rb ab n cb (B + 2 + 2 * (k + 1)) :: rowA encB 1 5 (.slice (some ⟨b19, 0, none⟩) 1 1) ([(UInt8.ofNat ((dn18 : Int) * 97).toNat)]) :: F) _) := ⟨HS.out⟩
     replace HS := Bx.mk ((HS.out.erase 2))
     exact ⟨k + 1, ⟨_, _, xs ++ ([(UInt8.ofNat ((dn18 : Int) * 97).toNat)]), ⟨by simp [hxl], by omega⟩, HF.less _ ⟨rfl, rfl, rfl, rfl, rfl, rfl, trivial⟩, HS.out⟩, (by omega)⟩
 ·clear HF; have HF := HF1; clear HF1
  have dcc1 := of_decide_eq_false cc1
  refine wc_false HF rfl ?_
  refine wp_exit ?_
  refine ex_then_exit ?_
  refine ex_then_exit ?_
  refine ex_block_hit ?_
  refine ex_then ?_
  refine wp_sr ?_
  refine wl_mv HF rfl rfl rfl rfl rfl ?_; clear HF a; intro a HF
  refine wl_y rfl HF rfl rfl (yl_convBS (e1 := 5) rfl (HF.ev rfl) (by kernel_rfl) (by kernel_rfl) (by kernel_rfl) (xs := xs) (St.rdOf HS.out encB_len 0 rfl)) ?_; clear HF a; intro a HF
  refine wl_as HF rfl rfl rfl rfl rfl ?_; clear HF a; intro a HF
  refine wl_ne ?_
  refine wp_ret ?_
  refine bp_ret1 HF Tryz.results28 (HF.res rfl) ?_
  replace HS : Bx (St w0 (rdA rb ab n cb (B + 2 + 2 * k) :: rowA encB 1 5 (.slice ao xs.length cp) xs :: F) _) := ⟨(HS.out).pick 1 rfl⟩
  exact ⟨_, rfl, by show xs.toArray.size ≤ m; rw [List.size_toArray]; omega, ((HS.out.rdLe (B' := B + (2 + 2 * m)) (by omega)).erase 1)⟩

theorem l6Open_any (w0 : World) (ab : Option Addr) (n cb : Nat) (hcap : n ≤ cb) (hn : n ≤ 1048576) : Calls Tryz.prog 12 #[.slice ab n cb] w0 fun e w' => ∃ (rb n' : Nat), e = .returned (.pointer (some ⟨rb, 0, none⟩)) ∧ n' ≤ 2000 ∧ n' ≤ n ∧ St w0 [rdA rb ab n' cb 0] w' := by
 have HS := Bx.mk (St.start w0)
 refine wc_enter Tryz.func12 rfl Tryz.ntmps12 [(0, .slice ab n cb)] ⟨rfl, trivial⟩ rfl ?_; intro a HF
 refine wp_sr ?_
 refine wl_as HF rfl rfl rfl rfl rfl ?_; clear HF a; intro a HF
 refine wl_ne ?_
 refine wp_seq ?_
 refine wp_sr ?_
 refine wl_mv HF rfl rfl rfl rfl rfl ?_; clear HF a; intro a HF
 refine wl_y rfl HF rfl rfl (yl_lenL (e := 5) (size := 1) rfl (HF.ev rfl) (by kernel_rfl)) ?_; clear HF a; intro a HF
 refine wl_y rfl HF rfl rfl (yl_gtrI rfl (HF.ev rfl) (HF.ev rfl)) ?_; clear HF a; intro a HF
 refine wl_ne ?_
 refine HF.cases 5 rfl (fun cc1 HF1 => ?_) (fun cc1 HF1 => ?_)
 ·clear HF; have HF := HF1; clear HF1
  have dcc1 := of_decide_eq_true cc1
  refine wc_true HF rfl ?_
  refine wp_region_lit ?_
  refine wl_mv HF rfl rfl rfl rfl rfl ?_; clear HF a; intro a HF
  refine wl_y rfl HF rfl rfl (yl_sliceHi (e := 5) (size := 1) (k := 2000) rfl (HF.ev rfl) (HF.ev rfl) (by kernel_rfl) (by omega) (by omega)) ?_; clear HF a; intro a HF
  refine wl_as HF rfl rfl rfl rfl rfl ?_; clear HF a; intro a HF
  refine wl_ne ?_
  refine wp_sr ?_
  refine wl_mv HF rfl rfl rfl rfl rfl ?_; clear HF a; intro a HF
  refine wl_y rfl HF rfl rfl (yl_build HF rfl (ps := [(0, .slice ab 2000 cb)]) rfl (cs := #[.slice ab 2000 cb, .int .i64 0]) (by kernel_rfl)) ?_; clear HF a; intro a HF
  refine wl_box rfl HF rfl (HF.ev rfl) (Z := [.slice ab 2000 cb, .int .i64 0]) rfl rfl rfl rfl HS.out ?_; clear HF HS a; intro a w1 b1 HF HS; replace HS := Bx.mk HS
  refine wl_as HF rfl rfl rfl rfl rfl ?_; clear HF a; intro a HF
  refine wl_ne ?_
  refine wp_ret ?_
  refine bp_ret1 HF Tryz.results12 (HF.res rfl) ?_
  exact ⟨_, 2000, rfl, by omega, by omega, St.rdMk (p := 0) (by omega) HS.out⟩
 ·clear HF; have HF := HF1; clear HF1
  have dcc1 := of_decide_eq_false cc1
  refine wc_false HF rfl ?_
  refine wp_skip ?_
  refine ex_then ?_
  refine wp_sr ?_
  refine wl_mv HF rfl rfl rfl rfl rfl ?_; clear HF a; intro a HF
  refine wl_y rfl HF rfl rfl (yl_build HF rfl (ps := [(0, .slice ab n cb)]) rfl (cs := #[.slice ab n cb, .int .i64 0]) (by kernel_rfl)) ?_; clear HF a; intro a HF
  refine wl_box rfl HF rfl (HF.ev rfl) (Z := [.slice ab n cb, .int .i64 0]) rfl rfl rfl rfl HS.out ?_; clear HF HS a; intro a w2 b2 HF HS; replace HS := Bx.mk HS
  refine wl_as HF rfl rfl rfl rfl rfl ?_; clear HF a; intro a HF
  refine wl_ne ?_
  refine wp_ret ?_
  refine bp_ret1 HF Tryz.results12 (HF.res rfl) ?_
  exact ⟨_, n, rfl, by omega, by omega, St.rdMk (p := 0) (by omega) HS.out⟩

end Go.Proofs.YtnikdicehddehaaGreatDoor
