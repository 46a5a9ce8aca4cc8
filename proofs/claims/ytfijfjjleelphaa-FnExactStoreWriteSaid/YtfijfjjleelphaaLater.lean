/- A region that draws its order, whose operations read old memory only and whose callees make new memory only: one walk of the text's order serves every order. -/
import Derived.Test.YtfijfjjleelphaaMem
import Derived.BigQuiet
import Derived.Deep.QuietTactic
namespace Go.Proofs.Ytfijfjjleelphaa
open Go.RowKit

/-- A world in which nothing that was there has turned. -/
structure Later (W : World) where
  val : World
  below : Below W.heap.size W val

instance (W : World) : Inhabited (Later W) := ⟨⟨W, Below.refl _ _⟩⟩
theorem wp_region_later_lit {P : Program} {id : Nat} {Q : Exit → Act → World → Prop} {a : Act} {w : World} {l : List Oper} (hm : P.follows .mixedOrders = true) (hB : Region.lexB .any l.toArray = true)
    (h : wpQuiet P l.toArray (fun w' => ∃ n : Later w, w' = n.val) (fun a' => ∀ w', (∃ n : Later w, w' = n.val) → Q .normal a' w') l a) : (Code.region id l.toArray true).wp P Q a w :=
  wp_region_quiet (C := fun w' => ∃ n : Later w, w' = n.val) hm hB ⟨⟨w.drew, (Below.refl _ _).drew⟩, rfl⟩ (by simpa using h)

theorem later_of {P : Program} {f : FuncId} {args : Array Value} {W : World} {n : Later W} {v : Value}
    (h : Calls P f args n.val fun e w' => e = .returned v ∧ Below n.val.heap.size n.val w') : Calls P f args n.val fun e w'' => e = .returned v ∧ ∃ m : Later W, w'' = m.val :=
  h.mono fun _ w'' ⟨he, hb⟩ => ⟨he, ⟨w'', n.below.trans (hb.mono n.below.size)⟩, rfl⟩
theorem later_of_same {P : Program} {f : FuncId} {args : Array Value} {W : World} {n : Later W} {v : Value}
    (h : Calls P f args n.val fun e w' => e = .returned v ∧ n.val = w') : Calls P f args n.val fun e w'' => e = .returned v ∧ ∃ m : Later W, w'' = m.val :=
  h.mono fun _ _ ⟨he, hm⟩ => ⟨he, n, hm.symm⟩
theorem later_cell {W : World} {a : Addr} {v : Value} (h : W.cell? a = some v) (n : Later W) : n.val.cell? a = some v :=
  (n.below.cell (World.block_lt_of_cell? W a h)).trans h
end Go.Proofs.Ytfijfjjleelphaa
