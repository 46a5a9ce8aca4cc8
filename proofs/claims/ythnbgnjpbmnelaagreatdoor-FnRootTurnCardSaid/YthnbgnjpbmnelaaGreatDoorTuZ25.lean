/- A part of the proof in YthnbgnjpbmnelaaGreatDoorTuZ31. -/
import Derived.Test.YthnbgnjpbmnelaaGreatDoorTuZ24
/- Steps by number and by search: what short walks are made of. -/
namespace Go.Proofs.YthnbgnjpbmnelaaGreatDoor
set_option linter.unusedVariables false
set_option linter.unusedSimpArgs false
set_option maxHeartbeats 1000000
set_option maxRecDepth 100000
open Go.RowKit
set_option maxRecDepth 100000
abbrev z5 : List Value := [.int .i64 0, .int .i64 0, .int .i64 0, .int .i64 0, .int .i64 0]
/-! ### Chains of steps -/
section
variable {P : Program} {ops : Array Oper} {Q : Exit → Act → World → Prop} {rest r : List Oper} {o : Oper} {w W : World} {N : Nat} {l l' : List (Nat × Value)} {s : List Asr}
/-! ### What one step gives -/
end
/-! ### Steps that change the memory, and calls -/
structure OpI (N : Nat) (o : Oper) (p : Op) (d : Nat) : Prop where
  hg : o.guard = none
  ho : o.op = p
  hd : o.dst = some d
  hn : Nat.blt d N = true
structure OpG (N : Nat) (ops : Array Oper) (l : List (Nat × Value)) (o : Oper) (p : Op) (d g dg : Nat) (b : Bool) : Prop where
  hg : o.guard = some (g, b)
  he : (ops[g]?).bind (·.dst) = some dg
  hv : lk l dg = some (.bool b)
  ho : o.op = p
  hd : o.dst = some d
  hn : Nat.blt d N = true
structure OpE (o : Oper) (p : Op) : Prop where
  hg : o.guard = none
  ho : o.op = p
  hd : o.dst = none
section
variable {P : Program} {ops : Array Oper} {Q : Exit → Act → World → Prop} {rest : List Oper} {o : Oper} {w W : World} {N : Nat} {l : List (Nat × Value)} {s s' : List Asr} {d : Nat} {t : TypeId}
section
variable {f : FuncId} {args : Array Value} {fn : Func} {c : Code} {xs : Array Operand} {ts : Array TypeId}
theorem yc {R : Ending → World → Prop} (hR : Calls P f args w R) (hf : P.funcs[f]? = some fn) (h : ∀ e w', R e w' → ∃ v, e = .returned v ∧ ∀ a, Fr N a ((d, v) :: l) → wpList P ops Q rest a w')
    (ho : OpI N o (.call { callee := .value (.func f), args := xs, argTypes := ts }) d := by exact ⟨rfl, rfl, rfl, rfl⟩) (hx : xs.toList.mapM (evO l) = some args.toList := by exact rfl) (hn : (fn.name == "runtime.NumGoroutine") = false := by kernel_rfl) (hb : fn.body = some c := by exact rfl) : ∀ a, Fr N a l → wpList P ops Q (o :: rest) a w := fun _ hF =>
  ZA ho.hg hF ho.ho (Zf hf hn hb) hx hR ho.hd ho.hn h
end
section
variable {α : Type} {enc : α → List Value} {size e : Nat} {v : Value} {ao2 : Option Addr} {n c2 bytes : Nat} {t2 : TypeId} {x y : Operand} {xs ys : List α}
end
end
/-! ### Things by number -/
def era : Nat → List Asr → Option (List Asr)
  | _, [] => none
  | 0, _ :: r => some r
  | n + 1, x :: r => match era n r with
    | some r' => some (x :: r')
    | none => none
theorem ZdP : ∀ {n : Nat} {s s' : List Asr}, era n s = some s' → s.eraseIdx n = s'
  | n, [], _, h => by cases n <;> cases h
  | 0, _ :: _, _, h => Option.some.inj h
  | n + 1, x :: r, s', h => by
    have h : (match era n r with | some r' => some (x :: r') | none => none) = some s' := h
    cases hq : era n r with
    | none => rw [hq] at h; cases h
    | some q => rw [hq] at h; obtain rfl := Option.some.inj h; rw [List.eraseIdx_cons_succ, ZdP hq]
def pkL : List Nat → List Asr → Option (List Asr)
  | [], s => some s
  | n :: is, s => match s[n]? with
    | some a => match era n s with
      | some s' => pkL is (a :: s')
      | none => none
    | none => none
theorem St.pks {W w : World} : ∀ (is : List Nat) {s s' : List Asr}, St W s w → pkL is s = some s' → St W s' w
  | [], _, _, h, hs => Option.some.inj hs ▸ h
  | n :: is, s, s', h, hs => by
    have hs : (match s[n]? with | some a => (match era n s with | some s' => pkL is (a :: s') | none => none) | none => none) = some s' := hs
    cases ha : s[n]? with
    | none => rw [ha] at hs; cases hs
    | some x =>
      rw [ha] at hs
      cases hq : era n s with
      | none => simp only [hq] at hs; cases hs
      | some q => simp only [hq] at hs; exact St.pks is (ZdP hq ▸ h.pick n ha) hs
def Bx.pks {W w : World} {s s' : List Asr} (is : List Nat) (h : Bx (St W s w)) (hs : pkL is s = some s' := by exact rfl) : Bx (St W s' w) := ⟨h.out.pks is hs⟩
structure NmI (s s' : List Asr) : Prop where
  h : s = s'
def ZdQ : List Asr → List Asr → Option (List Asr)
  | [], s => some s
  | x :: r, s => match ZdQ r s with
    | some t => some (x :: t)
    | none => none
theorem Zb9 : ∀ {r s t : List Asr}, ZdQ r s = some t → r ++ s = t
  | [], _, _, h => Option.some.inj h
  | x :: r, s, t, h => by
    have h : (match ZdQ r s with | some t => some (x :: t) | none => none) = some t := h
    cases hq : ZdQ r s with
    | none => rw [hq] at h; cases h
    | some q => rw [hq] at h; obtain rfl := Option.some.inj h; rw [List.cons_append, Zb9 hq]
def Bx.ad {W w w' : World} {s r s' : List Asr} (h : Bx (St W s w)) (k : St w r w') (e : ZdQ r s = some s' := by exact rfl) : Bx (St W s' w') := ⟨Zb9 e ▸ h.out.add k⟩
section
variable {P : Program} {ops : Array Oper} {Q : Exit → Act → World → Prop} {K : Act → World → Prop} {rest : List Oper} {o oi : Oper} {a : Act} {w W : World} {N : Nat} {l : List (Nat × Value)} {s s' s2 s3 : List Asr} {d : Nat} {t : TypeId} {i : Nat} {fuel : Nat} {listed : Array Bool}
theorem hdn (h : ∀ a, Fr N a l → Q .normal a w) (hr : Region.ready .any ops listed = [] := by kernel_rfl) : ∀ a, Fr N a l → wpAnyH P .any ops Q (St W s) fuel listed a w := fun a hF => Ym hr (h a hF)
def ZdR : List Value → Nat → Value → Option (List Value)
  | [], _, _ => none
  | _ :: r, 0, x => some (x :: r)
  | y :: r, i + 1, x => match ZdR r i x with
    | some r' => some (y :: r')
    | none => none
theorem Zam : ∀ {s : List Value} {i : Nat} {x : Value} {s' : List Value}, ZdR s i x = some s' → s.set i x = s' ∧ i < s.length
  | [], _, _, _, h => by cases h
  | _ :: r, 0, x, s', h => ⟨Option.some.inj h, by simp⟩
  | y :: r, i + 1, x, s', h => by
    have h : (match ZdR r i x with | some r' => some (y :: r') | none => none) = some s' := h
    cases hq : ZdR r i x with
    | none => rw [hq] at h; cases h
    | some q => rw [hq] at h; obtain rfl := Option.some.inj h; exact ⟨by rw [List.set_cons_succ, (Zam hq).1], by simpa using (Zam hq).2⟩
end
/-! ### One step, one word -/
section
variable {P : Program} {ops : Array Oper} {Q : Exit → Act → World → Prop} {rest : List Oper} {o oi : Oper} {w W : World} {N : Nat} {l : List (Nat × Value)} {s : List Asr} {d b m : Nat} {t T : TypeId} {A : Array Value} {v : Value} {cs : List Value}
section
variable {fuel : Nat} {listed : Array Bool}
end
end
/-! ### Things by search: a region whose operations come up in many orders -/
inductive QM (x : Asr) : List Asr → List Asr → Prop
  | here (s : List Asr) : QM x (x :: s) s
  | there {y : Asr} {s r : List Asr} (h : QM x s r) : QM x (y :: s) (y :: r)
theorem QM.hereB {b n n' : Nat} {T : TypeId} {v v' : Value} {s : List Asr} (h : n = n') (k : v = v') : QM (boxA b n T v) (boxA b n' T v' :: s) s := by subst h k; exact QM.here s
theorem QM.hereR {α : Type} {enc : α → List Value} {size : Nat} {e : TypeId} {ao : Option Addr} {n n' c : Nat} {xs xs' : List α} {s : List Asr} (h : n = n') (k : xs = xs') : QM (Zh enc size e (.slice ao n c) xs) (Zh enc size e (.slice ao n' c) xs' :: s) s := by subst h k; exact QM.here s
theorem QM.perm {x : Asr} {s r : List Asr} (h : QM x s r) : s.Perm (x :: r) := by
  induction h with
  | here s => exact List.Perm.refl _
  | there _ ih => exact (ih.cons _).trans (List.Perm.swap _ _ _)
inductive ZcN : List Asr → List Asr → Prop
  | same (s : List Asr) : ZcN s s
  | keep {x : Asr} {s t : List Asr} (h : ZcN s t) : ZcN (x :: s) (x :: t)
  | drop {x : Asr} {s t : List Asr} (h : ZcN s t) : ZcN s (x :: t)
inductive PmA : List Asr → List Asr → Prop
  | same (s : List Asr) : PmA s s
  | cons {x : Asr} {s r t : List Asr} (h : QM x s r) (k : PmA r t) : PmA s (x :: t)
theorem PmA.perm {s t : List Asr} (h : PmA s t) : s.Perm t := by
  induction h with
  | same s => exact List.Perm.refl _
  | cons h _ ih => exact h.perm.trans (ih.cons _)
inductive ZdS (b n : Nat) (T : TypeId) (v : Value) : List Asr → List Asr → Prop
  | here {u : Value} {s : List Asr} : ZdS b n T v (boxA b n T u :: s) (boxA b n T v :: s)
  | there {y : Asr} {s r : List Asr} (h : ZdS b n T v s r) : ZdS b n T v (y :: s) (y :: r)
theorem ZdS.is {b n : Nat} {T : TypeId} {v : Value} {s r : List Asr} (h : ZdS b n T v s r) : ∃ j u, s[j]? = some (boxA b n T u) ∧ s.set j (boxA b n T v) = r := by
  induction h with
  | @here u s => exact ⟨0, u, rfl, rfl⟩
  | there _ ih => obtain ⟨j, u, h1, h2⟩ := ih; exact ⟨j + 1, u, by simpa using h1, by rw [List.set_cons_succ, h2]⟩
inductive ZdT (b k : Nat) (v : Value) : List Asr → List Asr → Prop
  | here {n : Nat} {T : TypeId} {A : Array Value} {C : List Value} {s : List Asr} (h : ZdR A.toList k v = some C) : ZdT b k v (boxA b n T (.agg A) :: s) (boxA b n T (.agg C.toArray) :: s)
  | there {y : Asr} {s r : List Asr} (h : ZdT b k v s r) : ZdT b k v (y :: s) (y :: r)
theorem ZdT.is {b k : Nat} {v : Value} {s r : List Asr} (h : ZdT b k v s r) : ∃ j n T A, s[j]? = some (boxA b n T (.agg A)) ∧ k < A.size ∧ s.set j (boxA b n T (.agg (A.setIfInBounds k v))) = r := by
  induction h with
  | @here n T A C s h =>
    obtain ⟨Z⟩ := A;obtain ⟨e, hk⟩ := Zam h;exact ⟨0, n, T, _, rfl, hk, by rw [List.setIfInBounds_toArray, show Z.set k v = C from e]; rfl⟩
  | there _ ih => obtain ⟨j, n, T, A, h1, h2, h3⟩ := ih; exact ⟨j + 1, n, T, A, by simpa using h1, h2, by rw [List.set_cons_succ, h3]⟩
def Bx.lk (x : Asr) {W w : World} {s r : List Asr} (h : Bx (St W s w)) (hl : QM x s r := by repeat (first | with_reducible exact QM.here _ | ((with_reducible apply QM.hereB) <;> exact rfl) | ((with_reducible apply QM.hereR) <;> exact rfl) | apply QM.there)) : Bx (St W (x :: r) w) := ⟨h.out.perm hl.perm⟩
section
variable {P : Program} {ops : Array Oper} {Q : Exit → Act → World → Prop} {K : Act → World → Prop} {oi : Oper} {a : Act} {w W : World} {N : Nat} {l : List (Nat × Value)} {s s2 s3 : List Asr} {d : Nat} {t : TypeId} {i : Nat} {fuel : Nat} {listed : Array Bool}
end
inductive PdA : List Asr → List Asr → Prop
  | done {s t : List Asr} (h : ZcN t s) : PdA s t
  | cons {x : Asr} {s r t : List Asr} (h : QM x s r) (k : PdA r t) : PdA s (x :: t)
section
variable {P : Program} {ops : Array Oper} {Q : Exit → Act → World → Prop} {a : Act} {w W : World} {s : List Asr} {fuel : Nat} {listed : Array Bool}
section
variable {N : Nat} {l : List (Nat × Value)}
end
end
end Go.Proofs.YthnbgnjpbmnelaaGreatDoor

/- Roots sorted: walked. -/
namespace Go.Proofs.YthnbgnjpbmnelaaGreatDoor
set_option linter.unusedVariables false
set_option linter.unusedSimpArgs false
set_option maxHeartbeats 1000000
set_option maxRecDepth 100000
open Go.RowKit

def ZC.cs (x : ZC) : List Value := [.int .i64 x.fTxg, .int .i64 x.fMeta.fRoot.fAt, .int .i64 x.fMeta.fRoot.fBirth, .int .i64 x.fMeta.fRoot.fSize, .int .i64 x.fMeta.fRoot.fSum, .int .i64 x.fMeta.fRoot.fLevel, .int .i64 x.fMeta.fDepth, .int .i64 x.fMeta.fMany]
theorem ZC.cs_len (x : ZC) : x.cs.length = 8 := rfl
theorem ZeS : JU Tryz.prog 68 59 8 64 := by
  obtain ⟨i0, hi, hz0, hz1, hz2⟩ := info_parts (P := Tryz.prog) (e := 59) (z := rZ) (size := 8) (bytes := 64) (by kernel_rfl);exact ⟨Tryz.underlying68, ⟨i0, _, hi, hz0, hz1, hz2, rfl⟩, by decide⟩
theorem Zan (xs : List ZC) : ∀ u ∈ xs.flatMap ZC.cs, u.oneCell' = true := by
  intro u hu;obtain ⟨x, _, hx⟩ := List.mem_flatMap.1 hu;simp only [ZC.cs, List.mem_cons, List.not_mem_nil, or_false] at hx;rcases hx with rfl | rfl | rfl | rfl | rfl | rfl | rfl | rfl <;> rfl
section
variable {P : Program} {ops : Array Oper} {o : Oper} {a : Act} {N : Nat} {l : List (Nat × Value)} {W : World} {s : List Asr} {Q : Act → Prop} {rest : List Oper} {x : Operand}
theorem ZcO (hF : Fr N a l) {g dg d : Nat} {b : Bool} (hgd : o.guard = some (g, b)) (hgo : (ops[g]?).bind (·.dst) = some dg) (hgv : lk l dg = some (.bool b)) {xs : Array Operand} {ts : Array TypeId} {f : FuncId} {first caps : Array Value} (ho : o.op = .call { callee := .value x, args := xs, argTypes := ts }) (hx : a.eval x = .func (.func f) first caps) (hc : ∀ (args : Array Value) (w : World), (callFunc f args).run P w = .ok (.enter f args) w)
    {args : Array Value} (hxs : xs.toList.mapM (evO l) = some args.toList) {v : Value} (hR : ∀ w, St W s w → Calls P f (first ++ args ++ caps) w fun e w' => e = .returned v ∧ Below w.heap.size w w') (hd : o.dst = some d) (hN : Nat.blt d N = true)
    (h : ∀ a', Fr N a' ((d, v) :: l) → wpQuiet P ops (St W s) Q rest a') : wpQuiet P ops (St W s) Q (o :: rest) a := by
  refine wpQuiet_step fun K hK => ?_;rw [if_pos (hF.want hgd hgo hgv)];refine ⟨v, fun w hw => ?_, hK _ (hd ▸ h _ (hF.put (Nat.le_of_ble_eq_true hN) v))⟩;unfold Oper.quietAt;rw [Ui ho hx hc, Qd hF hxs];exact ⟨rfl, (hR w hw).mono fun e w' ⟨he, hb⟩ => ⟨he, hw.later hb⟩⟩
end
def Zao (a b : Int) : Int := if a < b then -1 else if b < a then 1 else 0
theorem Zca {a b : Int} : Zao a b < 0 ↔ a < b := by
  unfold Zao
  split
  · rename_i h; exact ⟨fun _ => h, fun _ => by decide⟩
  · rename_i h
    split
    · exact ⟨fun h2 => absurd h2 (by decide), fun h2 => absurd h2 h⟩
    · exact ⟨fun h2 => absurd h2 (by decide), fun h2 => absurd h2 h⟩

theorem V0 (n : Int) (w0 : World) : Calls Tryz.prog 143 #[.int .i64 n] w0 fun e w' => e = .returned (.bool false) ∧ Below w0.heap.size w0 w' := by
 have HS := Bx.mk (St.start w0);refine ZB Tryz.func143 rfl Tryz.ntmps143 [(0, .int .i64 n)] ⟨rfl, trivial⟩ rfl ?_; intro a HF;refine ZS ?_;refine za HF ?_;clear HF a;intro a HF;refine ZN ?_;refine ZS ?_;refine zr 4 HF rfl ?_;clear HF a;intro a HF;refine ZN ?_;refine wp_ret ?_;refine Zr HF Tryz.results143 (HF.res rfl) ?_;exact ⟨by simp, HS.out.bel⟩

theorem Za6 (m n : Int) (w0 : World) : Calls Tryz.prog 79 #[.int .i64 m, .int .i64 n] w0 fun e w' => e = .returned (.int .i64 (Zao m n)) ∧ Below w0.heap.size w0 w' := by
 have HS := Bx.mk (St.start w0);refine ZB Tryz.func79 rfl Tryz.ntmps79 [(0, .int .i64 m), (1, .int .i64 n)] ⟨rfl, rfl, trivial⟩ rfl ?_; intro a HF;refine ZS ?_;refine za HF ?_;clear HF a;intro a HF;refine ZN ?_;refine ZS ?_;refine zm HF ?_;clear HF a;intro a HF;refine ZM rfl HF rfl (Zf Tryz.func143 (by kernel_rfl) rfl) (args := #[.int .i64 m]) rfl (v := .bool false) (V0 m _) rfl rfl HS.out ?_; clear HF HS a; intro w1 a HS HF; replace HS := Bx.mk HS;refine za HF ?_;clear HF a;intro a HF;refine ZN ?_;refine ZS ?_;refine zm HF ?_;clear HF a;intro a HF;refine ZM rfl HF rfl (Zf Tryz.func143 (by kernel_rfl) rfl) (args := #[.int .i64 n]) rfl (v := .bool false) (V0 n _) rfl rfl HS.out ?_; clear HF HS a; intro w2 a HS HF; replace HS := Bx.mk HS;refine za HF ?_;clear HF a;intro a HF;refine ZN ?_;refine wp_seq ?_;refine ZS ?_;refine zm HF ?_;clear HF a;intro a HF;refine ZN ?_;refine Zp HF rfl ?_;refine wp_skip ?_;refine Za ?_;refine wp_seq ?_;refine ZS ?_;refine zm HF ?_;clear HF a;intro a HF;refine ZN ?_;refine Zp HF rfl ?_;refine wp_skip ?_;refine Za ?_;refine wp_seq ?_;refine ZS ?_;refine zr 3 HF rfl ?_;clear HF a;intro a HF;refine ZN ?_;refine HF.cases 16 rfl (fun cc1 _ => ?_) fun cc1 _ => ?_
 ·clear HF;rename_i HF
  have dcc1 := of_decide_eq_true cc1;refine Zq HF rfl ?_;refine ZS ?_;refine za HF ?_;clear HF a;intro a HF;refine ZN ?_;refine wp_ret ?_;refine Zg ?_;refine Zr HF Tryz.results79 (HF.res rfl) ?_;exact ⟨by unfold Zao; first | (rw [if_pos (by omega)]; done) | (rw [if_neg (by omega), if_pos (by omega)]; done) | rw [if_neg (by omega), if_neg (by omega)], HS.out.bel⟩
 ·clear HF;rename_i HF
  have dcc1 := of_decide_eq_false cc1;refine Zp HF rfl ?_;refine wp_skip ?_;refine Za ?_;refine wp_seq ?_;refine ZS ?_;refine zr 3 HF rfl ?_;clear HF a;intro a HF;refine ZN ?_;refine HF.cases 19 rfl (fun cc2 _ => ?_) fun cc2 _ => ?_
  ·clear HF;rename_i HF
   have dcc2 := of_decide_eq_true cc2;refine Zq HF rfl ?_;refine ZS ?_;refine za HF ?_;clear HF a;intro a HF;refine ZN ?_;refine wp_ret ?_;refine Zg ?_;refine Zr HF Tryz.results79 (HF.res rfl) ?_;exact ⟨by unfold Zao; first | (rw [if_pos (by omega)]; done) | (rw [if_neg (by omega), if_pos (by omega)]; done) | rw [if_neg (by omega), if_neg (by omega)], HS.out.bel⟩
  ·clear HF;rename_i HF
   have dcc2 := of_decide_eq_false cc2;refine Zp HF rfl ?_;refine wp_skip ?_;refine Za ?_;refine ZS ?_;refine za HF ?_;clear HF a;intro a HF;refine ZN ?_;refine wp_ret ?_;refine Zr HF Tryz.results79 (HF.res rfl) ?_;exact ⟨by unfold Zao; first | (rw [if_pos (by omega)]; done) | (rw [if_neg (by omega), if_pos (by omega)]; done) | rw [if_neg (by omega), if_neg (by omega)], HS.out.bel⟩

theorem Za7 (x y : ZC) (w0 : World) : Calls Tryz.prog 78 #[(rV x), (rV y)] w0 fun e w' => e = .returned (.int .i64 (Zao y.fTxg x.fTxg)) ∧ Below w0.heap.size w0 w' := by
 have HS := Bx.mk (St.start w0);refine ZB Tryz.func78 rfl Tryz.ntmps78 [(0, (rV x)), (1, (rV y))] ⟨rfl, rfl, trivial⟩ rfl ?_; intro a HF;refine ZS ?_;refine Ya rfl HF rfl (HF.ev rfl) (Z := [.int .i64 x.fTxg, .int .i64 x.fMeta.fRoot.fAt, .int .i64 x.fMeta.fRoot.fBirth, .int .i64 x.fMeta.fRoot.fSize, .int .i64 x.fMeta.fRoot.fSum, .int .i64 x.fMeta.fRoot.fLevel, .int .i64 x.fMeta.fDepth, .int .i64 x.fMeta.fMany]) rfl rfl rfl rfl HS.out ?_; clear HF HS a; intro a w1 b1 HF HS; replace HS := Bx.mk HS;refine Ya rfl HF rfl (HF.ev rfl) (Z := [.int .i64 y.fTxg, .int .i64 y.fMeta.fRoot.fAt, .int .i64 y.fMeta.fRoot.fBirth, .int .i64 y.fMeta.fRoot.fSize, .int .i64 y.fMeta.fRoot.fSum, .int .i64 y.fMeta.fRoot.fLevel, .int .i64 y.fMeta.fDepth, .int .i64 y.fMeta.fMany]) rfl rfl rfl rfl HS.out ?_; clear HF HS a; intro a w2 b2 HF HS; replace HS := Bx.mk HS;refine za HF ?_;clear HF a;intro a HF;refine ZN ?_;refine ZS ?_;refine zy HF (yfa 0 rfl (HF.ev rfl)) ?_;clear HF a;intro a HF;refine zy HF (ylo (v := .int .i64 y.fTxg) rfl (HF.ev rfl) (((HS.out.box 0 rfl).cell 0).trans rfl)) ?_;clear HF a;intro a HF;refine zy HF (yfa 0 rfl (HF.ev rfl)) ?_;clear HF a;intro a HF;refine zy HF (ylo (v := .int .i64 x.fTxg) rfl (HF.ev rfl) (((HS.out.box 1 rfl).cell 0).trans rfl)) ?_;clear HF a;intro a HF;refine ZM rfl HF rfl (Zf Tryz.func79 (by kernel_rfl) rfl) (args := #[.int .i64 y.fTxg, .int .i64 x.fTxg]) rfl (v := .int .i64 (Zao y.fTxg x.fTxg)) (Za6 y.fTxg x.fTxg _) rfl rfl HS.out ?_; clear HF HS a; intro w3 a HS HF; replace HS := Bx.mk HS;refine za HF ?_;clear HF a;intro a HF;refine ZN ?_;refine wp_ret ?_;refine Zr HF Tryz.results78 (HF.res rfl) ?_;exact ⟨rfl, HS.out.bel⟩

theorem ZcP {us : List ZC} {j : Nat} (h : ¬ (us.getD (j - 1) Z9).fTxg < (us.getD j Z9).fTxg) : QI j us = us := by
  cases j with
  | zero => rfl
  | succ j => unfold QI; rw [if_neg (show ¬ (us.getD j Z9).fTxg < (us.getD (j + 1) Z9).fTxg from h)]
theorem ZcQ {us vs : List ZC} {j : Nat} (hj : 0 < j) (h : (us.getD (j - 1) Z9).fTxg < (us.getD j Z9).fTxg) (hu : QI j us = vs) : QI (j - 1) ((us.set j (us.getD (j - 1) Z9)).set (j - 1) (us.getD j Z9)) = vs := by
  cases j with
  | zero => omega
  | succ j =>
    rw [← hu]
    conv => rhs; unfold QI
    rw [if_pos (show (us.getD j Z9).fTxg < (us.getD (j + 1) Z9).fTxg from h)]; rfl

set_option maxHeartbeats 4000000 in
theorem Zap (w0 w : World) (g n c : Nat) (ys : List ZC) (F : List Asr) (hl : ys.length = n) (hn1 : 1 ≤ n) (hn : n ≤ 1000) (hS : St w0 (Zh ZC.cs 8 59 (.slice (some ⟨g, 0, none⟩) n c) (ys) :: F) w) : Calls Tryz.prog 199 #[.slice (some ⟨g, 0, none⟩) n c, .int .i64 0, .int .i64 (n : Int), .func (.func 78) #[] #[]] w fun e w' => e = .returned (.tuple #[]) ∧ St w0 (Zh ZC.cs 8 59 (.slice (some ⟨g, 0, none⟩) n c) (Qn (n - 1) 1 ys) :: F) w' := by
 have HS := Bx.mk hS; clear hS;refine ZB Tryz.func199 rfl Tryz.ntmps199 [(0, .slice (some ⟨g, 0, none⟩) n c), (1, .int .i64 0), (2, .int .i64 (n : Int)), (3, .func (.func 78) #[] #[])] ⟨rfl, rfl, rfl, rfl, trivial⟩ rfl ?_; intro a HF;refine ZS ?_;refine zm HF ?_;clear HF a;intro a HF;refine zy HF (ZK (r := 1) rfl (HF.ev rfl) (HF.ev rfl) (by decide)) ?_;clear HF a;intro a HF;refine za HF ?_;clear HF a;intro a HF;refine ZN ?_;refine wp_block ?_;refine Z6 (ι := Nat) (fun i a w => ∃ (zs : List ZC), ((1 ≤ i ∧ i ≤ n) ∧ zs.length = n ∧ Qn (n - i) i zs = Qn (n - 1) 1 ys) ∧ Fr 53 a [(0, .slice (some ⟨g, 0, none⟩) n c), (1, .int .i64 0), (2, .int .i64 (n : Int)), (3, .func (.func 78) #[] #[]), (8, .int .i64 (i : Int))] ∧ St w0 (Zh ZC.cs 8 59 (.slice (some ⟨g, 0, none⟩) n c) zs :: F) w) (fun i => n - i) 1 ⟨ys, ⟨⟨Nat.le_refl _, hn1⟩, hl, rfl⟩, HF.less _ ⟨rfl, rfl, rfl, rfl, rfl, trivial⟩, HS.out⟩ ?_;clear HF HS; clear a;rintro i a w1 ⟨zs, ⟨⟨hi1, hi⟩, hzl, hz⟩, HF, HS⟩;replace HS := Bx.mk HS;refine wp_seq ?_;refine ZS ?_;refine zr 3 HF rfl ?_;clear HF a;intro a HF;refine ZN ?_;refine HF.cases 14 rfl (fun cc1 _ => ?_) fun cc1 _ => ?_
 ·clear HF;rename_i HF
  have dcc1 := of_decide_eq_true cc1;refine Zq HF rfl ?_;refine wp_skip ?_;refine Za ?_;refine wp_seq ?_;refine wp_block ?_;refine ZS ?_;refine zr 2 HF rfl ?_;clear HF a;intro a HF;refine ZN ?_;refine wp_block ?_;refine Z6 (ι := Nat) (fun j a w => ∃ (us : List ZC), (j ≤ i ∧ us.length = n ∧ QI j us = QI i zs) ∧ Fr 53 a [(0, .slice (some ⟨g, 0, none⟩) n c), (1, .int .i64 0), (2, .int .i64 (n : Int)), (3, .func (.func 78) #[] #[]), (8, .int .i64 (i : Int)), (9, .int .i64 (j : Int))] ∧ St w0 (Zh ZC.cs 8 59 (.slice (some ⟨g, 0, none⟩) n c) us :: F) w) (fun j => j) i ⟨zs, ⟨Nat.le_refl _, hzl, rfl⟩, HF.less _ ⟨rfl, rfl, rfl, rfl, rfl, rfl, trivial⟩, HS.out⟩ ?_;clear HF HS; clear a;rintro j a w2 ⟨us, ⟨hj, hul, hu⟩, HF, HS⟩;replace HS := Bx.mk HS;refine wp_seq ?_;refine wp_seq ?_;refine Xr (by kernel_rfl) (by kernel_rfl) HS.out ?_;refine zrq 4 HF rfl ?_;clear HF a;intro a HF;refine HF.cases 21 rfl (fun cc2 _ => ?_) fun cc2 _ => ?_
  ·clear HF;rename_i HF
   have dcc2 := of_decide_eq_true cc2;refine zrq 3 HF rfl ?_;clear HF a;intro a HF;refine zqg HF (fun _ HS => (Zw (e := 59) (i := j) (size := 8) rfl (HF.ev rfl) (HF.ev rfl) (by kernel_rfl) rfl (by omega))) ?_;clear HF a;intro a HF;refine zqg HF (fun _ HS => (ylr (cs := [.int .i64 ((us.getD j Z9).fTxg), .int .i64 ((us.getD j Z9).fMeta.fRoot.fAt), .int .i64 ((us.getD j Z9).fMeta.fRoot.fBirth), .int .i64 ((us.getD j Z9).fMeta.fRoot.fSize), .int .i64 ((us.getD j Z9).fMeta.fRoot.fSum), .int .i64 ((us.getD j Z9).fMeta.fRoot.fLevel), .int .i64 ((us.getD j Z9).fMeta.fDepth), .int .i64 ((us.getD j Z9).fMeta.fMany)]) rfl (HF.ev rfl) (HS.elem ZC.cs_len 0 rfl (ZP (xs := us) (j := j) (d := Z9) (by omega))))) ?_;clear HF a;intro a HF;refine zrq 2 HF rfl ?_;clear HF a;intro a HF;refine zqg HF (fun _ HS => (Xg (r := ((j - 1 : Nat) : Int)) rfl (HF.ev rfl) (HF.ev rfl) ((Yb (by omega)).trans (by omega)))) ?_;clear HF a;intro a HF;refine zqg HF (fun _ HS => (Zw (e := 59) (i := (j - 1)) (size := 8) rfl (HF.ev rfl) (HF.ev rfl) (by kernel_rfl) rfl (by omega))) ?_;clear HF a;intro a HF;refine zqg HF (fun _ HS => (ylr (cs := [.int .i64 ((us.getD (j - 1) Z9).fTxg), .int .i64 ((us.getD (j - 1) Z9).fMeta.fRoot.fAt), .int .i64 ((us.getD (j - 1) Z9).fMeta.fRoot.fBirth), .int .i64 ((us.getD (j - 1) Z9).fMeta.fRoot.fSize), .int .i64 ((us.getD (j - 1) Z9).fMeta.fRoot.fSum), .int .i64 ((us.getD (j - 1) Z9).fMeta.fRoot.fLevel), .int .i64 ((us.getD (j - 1) Z9).fMeta.fDepth), .int .i64 ((us.getD (j - 1) Z9).fMeta.fMany)]) rfl (HF.ev rfl) (HS.elem ZC.cs_len 0 rfl (ZP (xs := us) (j := (j - 1)) (d := Z9) (by omega))))) ?_;clear HF a;intro a HF;refine ZcO HF rfl rfl rfl rfl (HF.ev rfl) (Zf Tryz.func78 (by kernel_rfl) rfl) (args := #[(rV (us.getD j Z9)), (rV (us.getD (j - 1) Z9))]) rfl (v := .int .i64 (Zao (us.getD (j - 1) Z9).fTxg (us.getD j Z9).fTxg)) (fun _ HS => Za7 (us.getD j Z9) (us.getD (j - 1) Z9) _) rfl rfl ?_;clear HF a;intro a HF;refine zrq 2 HF rfl ?_;clear HF a;intro a HF;refine wpQuiet_nil ?_; intro w3 HS; replace HS := Bx.mk HS;refine Za ?_;refine HF.cases 34 rfl (fun cc3 _ => ?_) fun cc3 _ => ?_
   ·clear HF;rename_i HF
    have dcc3 := of_decide_eq_true cc3;refine Zq HF rfl ?_;refine wp_skip ?_;refine Za ?_;refine wp_seq ?_;refine wp_block ?_;have hj0 : 0 < j := by omega
    refine YN (W := w0) (s := Zh ZC.cs 8 59 (.slice (some ⟨g, 0, none⟩) n c) us :: F) 15 (by kernel_rfl) ?_;have HS2 := Bx.mk HS.out.drew; replace HS := Bx.mk (show St w0 (Zh ZC.cs 8 59 (.slice (some ⟨g, 0, none⟩) n c) us :: F) _ from HS.out.drew); generalize World.drew _ = w4 at HS HS2 ⊢;refine YD 0 rfl (by kernel_rfl) (by kernel_rfl) (by kernel_rfl) (fun _ _ _ h => h) (by decide) rfl HF rfl rfl (fun _ _ => (Zd rfl (HF.ev rfl))) (fun _ => HS.out) ?_;clear HF a;intro a HF;refine YD 1 rfl (by kernel_rfl) (by kernel_rfl) (by kernel_rfl) (fun _ _ _ h => h) (by decide) rfl HF rfl rfl (fun _ _ => (Zd rfl (HF.ev rfl))) (fun _ => HS.out) ?_;clear HF a;intro a HF;refine YD 2 rfl (by kernel_rfl) (by kernel_rfl) (by kernel_rfl) (fun _ _ _ h => h) (by decide) rfl HF rfl rfl (fun _ _ => (Zd rfl (HF.ev rfl))) (fun _ => HS.out) ?_;clear HF a;intro a HF;refine YD 3 rfl (by kernel_rfl) (by kernel_rfl) (by kernel_rfl) (fun _ _ _ h => h) (by decide) rfl HF rfl rfl (fun _ _ => (Zd rfl (HF.ev rfl))) (fun _ => HS.out) ?_;clear HF a;intro a HF;refine YD 4 rfl (by kernel_rfl) (by kernel_rfl) (by kernel_rfl) (fun _ _ _ h => h) (by decide) rfl HF rfl rfl (fun _ _ => (Xg (r := ((j - 1 : Nat) : Int)) rfl (HF.ev rfl) (HF.ev rfl) ((Yb (by omega)).trans (by omega)))) (fun _ => HS.out) ?_;clear HF a;intro a HF;refine YD 5 rfl (by kernel_rfl) (by kernel_rfl) (by kernel_rfl) (fun _ _ _ h => h) (by decide) rfl HF rfl rfl (fun _ _ => (Zd rfl (HF.ev rfl))) (fun _ => HS.out) ?_;clear HF a;intro a HF;refine YD 6 rfl (by kernel_rfl) (by kernel_rfl) (by kernel_rfl) (fun _ _ _ h => h) (by decide) rfl HF rfl rfl (fun _ _ => (Zd rfl (HF.ev rfl))) (fun _ => HS.out) ?_;clear HF a;intro a HF;refine YR 7 rfl (by kernel_rfl) (by kernel_rfl) (by kernel_rfl) (fun _ _ _ h => h) (by decide) (by kernel_rfl) (by kernel_rfl) rfl HF rfl rfl (fun _ HS => (Xg (r := ((j - 1 : Nat) : Int)) rfl (HF.ev rfl) (HF.ev rfl) ((Yb (by omega)).trans (by omega)))) HS.out ?_;clear HF a;intro a HF;refine YR 8 rfl (by kernel_rfl) (by kernel_rfl) (by kernel_rfl) (fun _ _ _ h => h) (by decide) (by kernel_rfl) (by kernel_rfl) rfl HF rfl rfl (fun _ HS => (Zw (e := 59) (i := (j - 1)) (size := 8) rfl (HF.ev rfl) (HF.ev rfl) (by kernel_rfl) rfl (by omega))) HS.out ?_;clear HF a;intro a HF;refine YR 9 rfl (by kernel_rfl) (by kernel_rfl) (by kernel_rfl) (fun _ _ _ h => h) (by decide) (by kernel_rfl) (by kernel_rfl) rfl HF rfl rfl (fun _ HS => (ylr (cs := [.int .i64 ((us.getD (j - 1) Z9).fTxg), .int .i64 ((us.getD (j - 1) Z9).fMeta.fRoot.fAt), .int .i64 ((us.getD (j - 1) Z9).fMeta.fRoot.fBirth), .int .i64 ((us.getD (j - 1) Z9).fMeta.fRoot.fSize), .int .i64 ((us.getD (j - 1) Z9).fMeta.fRoot.fSum), .int .i64 ((us.getD (j - 1) Z9).fMeta.fRoot.fLevel), .int .i64 ((us.getD (j - 1) Z9).fMeta.fDepth), .int .i64 ((us.getD (j - 1) Z9).fMeta.fMany)]) rfl (HF.ev rfl) (HS.elem ZC.cs_len 0 rfl (ZP (xs := us) (j := (j - 1)) (d := Z9) (by omega))))) HS.out ?_;clear HF a;intro a HF;refine YD 10 rfl (by kernel_rfl) (by kernel_rfl) (by kernel_rfl) (fun _ _ _ h => h) (by decide) rfl HF rfl rfl (fun _ _ => (Zd rfl (HF.ev rfl))) (fun _ => HS.out) ?_;clear HF a;intro a HF;refine YD 11 rfl (by kernel_rfl) (by kernel_rfl) (by kernel_rfl) (fun _ _ _ h => h) (by decide) rfl HF rfl rfl (fun _ _ => (Zd rfl (HF.ev rfl))) (fun _ => HS.out) ?_;clear HF a;intro a HF;refine YD 12 rfl (by kernel_rfl) (by kernel_rfl) (by kernel_rfl) (fun _ _ _ h => h) (by decide) rfl HF rfl rfl (fun _ _ => (Zw (e := 59) (i := j) (size := 8) rfl (HF.ev rfl) (HF.ev rfl) (by kernel_rfl) rfl (by omega))) (fun _ => HS.out) ?_;clear HF a;intro a HF;refine YR 13 rfl (by kernel_rfl) (by kernel_rfl) (by kernel_rfl) (fun _ _ _ h => h) (by decide) (by kernel_rfl) (by kernel_rfl) rfl HF rfl rfl (fun _ HS => (ylr (cs := [.int .i64 ((us.getD j Z9).fTxg), .int .i64 ((us.getD j Z9).fMeta.fRoot.fAt), .int .i64 ((us.getD j Z9).fMeta.fRoot.fBirth), .int .i64 ((us.getD j Z9).fMeta.fRoot.fSize), .int .i64 ((us.getD j Z9).fMeta.fRoot.fSum), .int .i64 ((us.getD j Z9).fMeta.fRoot.fLevel), .int .i64 ((us.getD j Z9).fMeta.fDepth), .int .i64 ((us.getD j Z9).fMeta.fMany)]) rfl (HF.ev rfl) (HS.elem ZC.cs_len 0 rfl (ZP (xs := us) (j := j) (d := Z9) (by omega))))) HS.out ?_;clear HF a;intro a HF;refine YR 14 rfl (by kernel_rfl) (by kernel_rfl) (by kernel_rfl) (fun _ _ _ h => h) (by decide) (by kernel_rfl) (by kernel_rfl) rfl HF rfl rfl (fun _ HS => (Zw (e := 59) (i := j) (size := 8) rfl (HF.ev rfl) (HF.ev rfl) (by kernel_rfl) rfl (by omega))) HS.out ?_;clear HF a;intro a HF;refine Yd 15 (by kernel_rfl) ?_;refine QF ZC.cs_len rfl rfl rfl rfl (HF.ev rfl) (HF.ev rfl) (by kernel_rfl) HS2.out 0 rfl (by first | omega | (simp only [List.length_set]; omega)) (z := (us.getD (j - 1) Z9)) rfl (by first | rfl | simp [Value.oneCell']) ?_;clear HS2; intro w5 HS2; replace HS2:=Bx.mk HS2;try dsimp only [List.set] at HS2; refine ⟨(fun h => absurd (show true = false from h) (by decide)), ?_⟩
    refine YD 16 rfl (by kernel_rfl) (by kernel_rfl) (by kernel_rfl) (fun _ _ _ h => h) (by decide) rfl HF rfl rfl (fun _ _ => (Zw (e := 59) (i := (j - 1)) (size := 8) rfl (HF.ev rfl) (HF.ev rfl) (by kernel_rfl) rfl (by omega))) (fun h => absurd (show true = false from h) (by decide)) ?_;clear HF a;intro a HF;refine Yd 17 (by kernel_rfl) ?_;refine QF ZC.cs_len rfl rfl rfl rfl (HF.ev rfl) (HF.ev rfl) (by kernel_rfl) HS2.out 0 rfl (by first | omega | (simp only [List.length_set]; omega)) (z := (us.getD j Z9)) rfl (by first | rfl | simp [Value.oneCell']) ?_;clear HS2; intro w6 HS2; replace HS2:=Bx.mk HS2;try dsimp only [List.set] at HS2; refine ⟨(fun h => absurd (show true = false from h) (by decide)), ?_⟩
    refine Xi (by kernel_rfl) ?_;clear HS; have HS := HS2; clear HS2;refine Zy ?_;refine Za ?_;refine wp_region_lit ?_;refine zm HF ?_;clear HF a;intro a HF;refine zy HF (Xg (r := ((j - 1 : Nat) : Int)) rfl (HF.ev rfl) (HF.ev rfl) ((Yb (by omega)).trans (by omega))) ?_;clear HF a;intro a HF;refine za HF ?_;clear HF a;intro a HF;refine ZN ?_;have hsk := ZcQ (by omega) (Zca.1 (by omega)) hu;exact ⟨j - 1, ⟨((us.set j (us.getD (j - 1) Z9)).set (j - 1) (us.getD j Z9)), ⟨by omega, by rw [List.length_set, List.length_set]; exact hul, hsk⟩, HF.less _ ⟨rfl, rfl, rfl, rfl, rfl, rfl, trivial⟩, HS.out⟩, (by omega)⟩
   ·clear HF;rename_i HF
    have dcc3 := of_decide_eq_false cc3;refine Zp HF rfl ?_;refine wp_exit ?_;refine Zo ?_;refine Zo ?_;refine ZE ?_;refine Zy ?_;refine Za ?_;refine wp_region_lit ?_;refine zm HF ?_;clear HF a;intro a HF;refine zy HF (ZK rfl (HF.ev rfl) (HF.ev rfl) (Yb (by omega))) ?_;clear HF a;intro a HF;refine za HF ?_;clear HF a;intro a HF;refine ZN ?_;have hus : us = QI i zs := by rw [← hu]; exact (ZcP (fun h => absurd (Zca.2 h) (by omega))).symm
    exact ⟨i + 1, ⟨us, ⟨⟨by omega, by omega⟩, hul, by rw [← hz, hus, show n - i = (n - (i + 1)) + 1 by omega]; rfl⟩, HF.less _ ⟨rfl, rfl, rfl, rfl, rfl, trivial⟩, HS.out⟩, (by omega)⟩
  ·clear HF;rename_i HF
   have dcc2 := of_decide_eq_false cc2;refine zrq 13 HF rfl ?_;clear HF a;intro a HF;refine wpQuiet_nil ?_; intro w7 HS; replace HS := Bx.mk HS;refine Za ?_;refine Zp HF rfl ?_;refine wp_exit ?_;refine Zo ?_;refine Zo ?_;refine ZE ?_;refine Zy ?_;refine Za ?_;refine wp_region_lit ?_;refine zm HF ?_;clear HF a;intro a HF;refine zy HF (ZK rfl (HF.ev rfl) (HF.ev rfl) (Yb (by omega))) ?_;clear HF a;intro a HF;refine za HF ?_;clear HF a;intro a HF;refine ZN ?_;have hus : us = QI i zs := by rw [← hu]; obtain rfl : j = 0 := (by omega); rfl
   exact ⟨i + 1, ⟨us, ⟨⟨by omega, by omega⟩, hul, by rw [← hz, hus, show n - i = (n - (i + 1)) + 1 by omega]; rfl⟩, HF.less _ ⟨rfl, rfl, rfl, rfl, rfl, trivial⟩, HS.out⟩, (by omega)⟩
 ·clear HF;rename_i HF
  have dcc1 := of_decide_eq_false cc1;refine Zp HF rfl ?_;refine wp_exit ?_;refine Zo ?_;refine Zo ?_;refine ZE ?_;refine ZbV HF Tryz.results199 ?_;obtain rfl : i = n := by omega
  rw [Nat.sub_self] at hz;exact ⟨rfl, by rw [← hz]; exact HS.out⟩

end Go.Proofs.YthnbgnjpbmnelaaGreatDoor
