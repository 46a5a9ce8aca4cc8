/- A part of the proof in YtnikdicehddehaaGreatDoorSoLZ30. -/
import Derived.ArgAppend
import Derived.BigQuiet
import Derived.BigRegion
import Derived.ChangeMaps5
import Derived.ChangeVars
import Derived.Deep.AppendLies
import Derived.Deep.DeepHandedRow
import Derived.Deep.DeepWitnessRowRef
import Derived.Deep.MidRow
import Derived.Deep.Quiet
import Derived.Deep.QuietTactic
import Derived.Deep.RegionHeld3
import Derived.Deep.RegionWith
import Derived.Deep.Slices
import Derived.IntWalk
import Derived.LaidLaws
import Derived.Laws.BytesArg
import Derived.Laws.IdiomRangeMap
import Derived.Laws.RangeAny
import Derived.Lay
import Derived.Lib.AppendIntMem
import Derived.Lib.Atoi
import Derived.Lib.Hide
import Derived.Lib.IndexBytes
import Derived.Lib.IndexLaws
import Derived.Lib.ItoaNum
import Derived.Lib.Join
import Derived.Lib.LaidTab
import Derived.Lib.LaidU8
import Derived.Lib.LazyBuf
import Derived.Lib.SlBytesConst
import Derived.Lib.Split
import Derived.Lib.SplitLaws
import Derived.LoopIn
import Derived.LoopN
import Derived.LoopNIn
import Derived.MakeChecks
import Derived.OpenShut
import Derived.Orders
import Derived.OrdersHeld
import Derived.OwnWalkIn
import Derived.ProofKit
import Derived.RangeFuncLeaves
import Derived.RangeFuncNested
import Derived.Shelf.Abstract
import Derived.Shelf.GgClosure.StringsIndexFunc
import Derived.Shelf.Small.Wraps
import Derived.Shelf.Strconv.Atoi
import Derived.Shelf.Strconv.AtoiErr
import Derived.Shelf.Strconv.Itoa3
import Derived.Shelf.Strings.BuilderF
import Derived.Shelf.Strings.BuilderK
import Derived.Shelf.Strings.FuncGrows
import Derived.Shelf.Strings.OnBuilder
import Derived.Shelf.Strings.Split
import Derived.Shelf.Strings.SplitShaped
import Derived.Shelf.Vars
import Derived.Still
import Derived.StillTail
import Derived.StillTailTactics
import Derived.StringKeys
import Derived.TacticsInMore
import Derived.Test.YtnikdicehddehaaGreatDoorRows
import Derived.WalkKit
import Derived.WalkLawsBesides
import Derived.WalkSpells
import Derived.WideKeyMaps2
import Derived.Test.YtnikdicehddehaaGreatDoorSoLZ28
/- What a row's list of variables gives: a map of words to numbers; a variable of the library that holds an error; the close of a row that reads one variable. -/
namespace Go.Proofs.YtnikdicehddehaaGreatDoor
set_option linter.unusedVariables false
set_option linter.unusedSimpArgs false
set_option maxHeartbeats 1000000
set_option maxRecDepth 100000
open Go.ChangeShapes Go.WideShapes Go.ChangeAt Go.RowKit Go.Deep Go.WideMaps

theorem arr_one {α : Type} {a : Array α} {x : α} (h : a.toList = [x]) : a = #[x] := by cases a; simpa using h
theorem Tryz.gOps : Tryz.prog.globalNamed "loop.example/poolfiles/impl.opNames" = some 0 := by kernel_rfl
theorem Tryz.gOpsType : (Tryz.prog.globals[0]?).map (·.type) = some 35 := by kernel_rfl
theorem map_of {l : List (String × DataW Unit)} {W : World} (h : laidMet Tryz.prog l W) (hm : ("loop.example/poolfiles/impl.opNames", opNamesD) ∈ l) : ∃ bm es clock, MapQ bm es clock W := by
  obtain ⟨g, t, cs, fuel, p, h1, h2, h3, h4⟩ := Go.Lib.laidMet.reads h hm
  obtain rfl := Option.some.inj (Tryz.gOps.symm.trans h1)
  obtain rfl := Option.some.inj (Tryz.gOpsType.symm.trans h2)
  rcases open_map Tryz.underlying35 Tryz.underlying3 h4 with ⟨_, hx⟩ | ⟨bm, es, clock, hcs, hb, _, F, hx⟩
  · simp [opNamesD, Rows.laid_loop_example_poolfiles_impl_opNames] at hx
  simp only [Prod.mk.injEq] at hx
  refine ⟨bm, es, clock, ?_, hb, F, hx.1⟩
  have := World.var?_cell h1 h3 0
  rw [arr_one hcs] at this
  simpa using this
section
variable {H : Type} {enc : TypeId × Value → H} {P : Program}
theorem var_belowG {W W' : World} {n : String} {g : Nat} {cs : Array Value} (hg : P.globalNamed n = some g) (h : W.var? P n = some cs) (hb : Below W.heap.size W W') : W'.var? P n = some cs := by
  unfold World.var? at h ⊢
  rw [hg] at h ⊢
  simp only [Option.bind_some] at h ⊢
  have hlt : g < W.heap.size := by
    rcases Nat.lt_or_ge g W.heap.size with h' | h'
    · exact h'
    · simp [Array.getElem?_eq_none h'] at h
  rw [hb.block g hlt]; exact h
/-- THE CLOSE OF A LAW's ROW that reads one variable, a map of words to numbers: true came back, and of what was there nothing has turned. -/
theorem law_postV (hl : laidOutB P = true) {f : Func} {s : ChangeSpec} {apart fresh handsOn : Bool} {W W' : World} {args : Array Value} {ds gs : List (DataW H)} {before : List MemPlace} {tb : TypeId} {n : String} {g0 : Nat} {t0 k e : TypeId} {kd : IntKind}
    (hvars : s.vars = [n]) (hrt : f.resultTypes.toList = [tb]) (hrs : f.resultTypes.size = 1) (htb : P.underlying tb = some .bool)
    (hspec : ∀ g, gs = [g] → s.fn H (ds ++ [g]) = { results := [.lit (.bool true)], args := ds, vars := [g] })
    (hty0 : (f.params.toList.all fun t => P.readableRec t && decide (t < P.types.size)) = true)
    (hg : P.globalNamed n = some g0) (hgt : (P.globals[g0]?).map (·.type) = some t0) (ht : P.underlying t0 = some (.map k e)) (he : P.underlying e = some (.int kd)) (hrr : P.readableRec t0 = true) (htl : t0 < P.types.size)
    (hW : DataW.Whole enc P f.params.toList s.vars apart W args.toList ds gs before) (hb : Below W.heap.size W W') :
    s.post enc P f apart fresh handsOn false W args (.bool true) W' := by
  have hW' := hW
  have hty : ∀ t ∈ f.params.toList, P.readableRec t = true ∧ t < P.types.size := fun t ht => by
    have := List.all_eq_true.1 hty0 t ht
    simpa using this
  obtain ⟨p, q, hA, hV, rfl, _, _⟩ := hW
  rw [hvars] at hV
  obtain ⟨g, t, cs, fuel, d, pm, rfl, h1, h2, h3, h4, rfl⟩ := trodVars_one hV
  obtain rfl := Option.some.inj (hg.symm.trans h1)
  obtain rfl := Option.some.inj (hgt.symm.trans h2)
  have hlt : ∀ x ∈ p, x.block < W.heap.size := fun x hx => hW'.lt x (List.mem_append_left _ hx)
  have hltm : ∀ x ∈ pm, x.block < W.heap.size := fun x hx => hW'.lt x (List.mem_append_right _ (List.mem_append_right _ hx))
  have key : ∃ v : Value, cs = #[v] ∧ v.cells = #[v] := by
    rcases open_map ht he h4 with ⟨hcs, _⟩ | ⟨bm, es, clock, hcs, _⟩
    · exact ⟨_, arr_one hcs, rfl⟩
    · exact ⟨_, arr_one hcs, rfl⟩
  obtain ⟨v, rfl, hv⟩ := key
  obtain ⟨fuel', h5⟩ := Below.trod (v := v) hl hrr htl ⟨fuel, by rw [hv]; exact h4⟩ hb hltm
  rw [hv] at h5
  refine ⟨ds, [d], _, [], p, MemPlace.row ⟨g0, 0, none⟩ (#[v] : Array Value).size ++ pm, hW', ?_, ?_, ?_, hb.frame _, fun h => by cases h⟩
  · rw [hspec d rfl, hrt, hrs]
    exact trodAll_mk1 (shut_bool htb true)
  · rw [hspec d rfl]
    exact trodAll_below hl hb _ _ _ _ hty hA hlt
  · rw [hspec d rfl, hvars]
    exact trodVars_mk1 h1 h2 (var_belowG h1 h3 hb) h5
end
theorem Tryz.gErrS : Tryz.prog.globalNamed "strconv.ErrSyntax" = some 2 := by kernel_rfl
theorem Tryz.gErrSType : (Tryz.prog.globals[2]?).map (·.type) = some 58 := by kernel_rfl
theorem err_of {l : List (String × DataW Unit)} {W : World} (h : laidMet Tryz.prog l W) (hm : ("strconv.ErrSyntax", (Rows.laid_strconv_ErrSyntax : DataW Unit)) ∈ l) : ErrP W := by
  obtain ⟨g, t, cs, fuel, p, h1, h2, h3, h4⟩ := Go.Lib.laidMet.reads h hm
  obtain rfl := Option.some.inj (Tryz.gErrS.symm.trans h1)
  obtain rfl := Option.some.inj (Tryz.gErrSType.symm.trans h2)
  obtain ⟨_, u, v, hcs, _, _⟩ := iface_of_trod Tryz.underlying58 (show DataW.trod _ Tryz.prog W 0 _ false fuel 58 cs.toList = some (.iface _ _, p) from h4)
  refine ⟨u, v, ?_⟩
  have := World.var?_cell h1 h3 0
  rw [arr_one hcs] at this
  simpa using this
end Go.Proofs.YtnikdicehddehaaGreatDoor

/- A code that came in as a law's argument, read. -/
namespace Go.Proofs.YtnikdicehddehaaGreatDoor
set_option linter.unusedVariables false
set_option linter.unusedSimpArgs false
set_option maxHeartbeats 1000000
set_option maxRecDepth 100000
open Go.ChangeShapes Go.WideShapes Go.ChangeAt Go.RowKit Go.Deep
theorem Tryz.cellsByte : Tryz.prog.cellsOf 5 = 1 := by kernel_rfl
section
variable {H : Type} {enc : TypeId × Value → H} {w : World} {spare : Nat → Bool} {held : Bool}
theorem read_byte (n : Nat) (cs : List Value) (y : DataW H × List MemPlace) (h : DataW.trod enc Tryz.prog w 0 spare held n 5 cs = some y) : ∃ b : UInt8, cs = encB b ∧ True := by
  obtain ⟨a, e, _, hw⟩ := DataW.trod_int Tryz.underlying5 h
  simp [Lit.wf, IntKind.min, IntKind.max, IntKind.signed, IntKind.bits] at hw
  refine ⟨UInt8.ofNat a.toNat, ?_, trivial⟩
  rw [e]
  show [Value.int .u8 a] = [Value.int .u8 ((UInt8.ofNat a.toNat).toNat : Int)]
  rw [UInt8.toNat_ofNat', show ((a.toNat % 2 ^ 8 : Nat) : Int) = a by omega]
theorem read_code {fuel : Nat} {ao : Option Addr} {n cap : Nat} {y : DataW H × List MemPlace} (h : DataW.trod enc Tryz.prog w 0 spare held fuel 22 [.slice ao n cap] = some y) : ∃ bs, Rd encB 1 w ao n bs ∧ n ≤ cap := by
  obtain ⟨a0, l0, k0, xs, e, _, r0, _⟩ := rd_slice (ef := encB) (size := 1) (Q := fun _ => True) Tryz.underlying22 Tryz.cellsByte (by omega) read_byte h
  simp only [Value.slice.injEq] at e
  obtain ⟨rfl, rfl, rfl⟩ := e
  refine ⟨xs, r0, ?_⟩
  rcases open_slice Tryz.underlying22 h with ⟨hcs, _⟩ | ⟨a, len, cap, m, n, D, Pl, hcs, _, hlc, hcm, hm, _, hi⟩
  · simp only [List.cons.injEq, and_true, Value.slice.injEq] at hcs
    omega
  · simp only [List.cons.injEq, and_true, Value.slice.injEq] at hcs
    omega
end
end Go.Proofs.YtnikdicehddehaaGreatDoor
