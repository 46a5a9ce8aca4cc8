/- A part of the proof in YtenejpbnncbilaaGreatDoorTpZ7. -/
import Derived.Deep.RegionHeld3
import Derived.Laws.BytesArg
import Derived.Laws.RangeAny
import Derived.Lib.AppendIntMem
import Derived.Lib.Atoi
import Derived.Lib.IndexBytes
import Derived.Lib.IndexLaws
import Derived.Lib.IndexMore
import Derived.Lib.ItoaNum
import Derived.Lib.Join
import Derived.Lib.SlBytesConst
import Derived.Lib.Split
import Derived.Lib.SplitLaws
import Derived.LoopIn
import Derived.LoopN
import Derived.LoopNIn
import Derived.OwnWalkIn
import Derived.RangeFuncLeaves
import Derived.RangeFuncNested
import Derived.Shelf.Abstract
import Derived.Shelf.GgClosure.StringsIndexFunc
import Derived.Shelf.Small.Wraps
import Derived.Shelf.Strconv.Atoi
import Derived.Shelf.Strconv.AtoiErr
import Derived.Shelf.Strconv.Clone
import Derived.Shelf.Strconv.Itoa3
import Derived.Shelf.Strings.BuilderF
import Derived.Shelf.Strings.BuilderK
import Derived.Shelf.Strings.Cut
import Derived.Shelf.Strings.FuncGrows
import Derived.Shelf.Strings.OnBuilder
import Derived.Shelf.Strings.Split
import Derived.Shelf.Strings.SplitShaped
import Derived.Shelf.Vars
import Derived.TacticsInMore
import Derived.Test.YtenejpbnncbilaaGreatDoorTpZ1
namespace Go.Proofs.YtenejpbnncbilaaGreatDoor
open Go.Proofs.Tryz
set_option linter.unusedVariables false
set_option linter.unusedSimpArgs false
set_option maxHeartbeats 1000000
set_option maxRecDepth 100000
open Go.RowKit
abbrev z5:List Value:=[.int .i64 0,.int .i64 0,.int .i64 0,.int .i64 0,.int .i64 0]
abbrev az5:Value:=.agg #[.int .i64 0,.int .i64 0,.int .i64 0,.int .i64 0,.int .i64 0]
abbrev z7:List Value:=[.int .i64 0,.int .i64 0,.int .i64 0,.int .i64 0,.int .i64 0,.int .i64 0,.int .i64 0]
abbrev az7:Value:=.agg #[.int .i64 0,.int .i64 0,.int .i64 0,.int .i64 0,.int .i64 0,.int .i64 0,.int .i64 0]
abbrev z10:List Value:=[.int .i64 0,.int .i64 0,.int .i64 0,.int .i64 0,.int .i64 0,.int .i64 0,.int .i64 0,.int .i64 0,.int .i64 0,.int .i64 0]
abbrev Zo6:Value:=.agg #[.int .i64 0,.int .i64 0,.int .i64 0,.int .i64 0,.int .i64 0,.int .i64 0,.int .i64 0,.int .i64 0,.int .i64 0,.int .i64 0]
abbrev z8:List Value:=[.slice none 0 0,.slice none 0 0,.slice none 0 0,.int .i64 0,.slice none 0 0,.int .i64 0,.slice none 0 0,.bool false]
abbrev az8:Value:=.agg #[.slice none 0 0,.slice none 0 0,.slice none 0 0,.int .i64 0,.slice none 0 0,.int .i64 0,.slice none 0 0,.bool false]
section
variable {P:Program} {ops:Array Oper} {Q:Exit→Act→World→Prop} {rest r:List Oper} {o:Oper} {w W:World} {N:Nat} {l l':List (Nat × Value)} {s:List Asr}
theorem xr (n:Nat) (hr:auR N ops n rest l=some (r,l')) (h:∀ a,Fr N a l'→wpList P ops Q r a w):∀ a,Fr N a l→wpList P ops Q rest a w:=fun _ hF=>zr n hF hr h
theorem xqr (n:Nat) {Q:Act→Prop} (hr:auR N ops n rest l=some (r,l')) (h:∀ a,Fr N a l'→wpQuiet P ops (St W s) Q r a):∀ a,Fr N a l→wpQuiet P ops (St W s) Q rest a:=fun _ hF=>zrq n hF hr h
def auD (N:Nat) (ops:Array Oper) (l:List (Nat × Value)) (o:Oper):Option Nat:=match o.dst with
 | none=>none
 | some d=>match Nat.blt d N with
  | false=>none
  | true=>match auG ops l o with
   | some true=>some d
   | _=>none
theorem ZiY {a:Act} (hF:Fr N a l) {d:Nat} (h:auD N ops l o=some d):o.dst=some d∧Nat.blt d N=true∧Region.wanted o (yielded ops a.tmps)=true:=by
 unfold auD at h
 split at h
 ·cases h
 ·rename_i d' hd
  split at h
  ·cases h
  ·rename_i hN
   split at h
   ·rename_i hg
    obtain rfl:=Option.some.inj h;exact ⟨hd,hN,Zay hF hg⟩
   ·cases h
theorem xy {d:Nat} {v:Value} (hd:auD N ops l o=some d) (hy:∀ a,Fr N a l→Yl P w o a v) (h:∀ a,Fr N a ((d,v)::l)→wpList P ops Q rest a w):∀ a,Fr N a l→wpList P ops Q (o::rest) a w:=fun a hF=>by
 obtain ⟨h1,h2,h3⟩:=ZiY hF hd;refine wpList_step fun K hK=>?_;rw [if_pos h3];unfold Oper.wp;rw [show (execOp a.eval o).run P w=_ from hy a hF];exact hK _ _ (h1 ▸ h _ (hF.put (Nat.le_of_ble_eq_true h2) _))
theorem xq {Q:Act→Prop} {d:Nat} {v:Value} (hd:auD N ops l o=some d) (hy:∀ {w},St W s w→∀ a,Fr N a l→Yl P w o a v) (h:∀ a,Fr N a ((d,v)::l)→wpQuiet P ops (St W s) Q rest a):∀ a,Fr N a l→wpQuiet P ops (St W s) Q (o::rest) a:=fun a hF=>by
 obtain ⟨h1,h2,h3⟩:=ZiY hF hd;refine wpQuiet_step fun K hK=>?_;rw [if_pos h3];refine ⟨_,fun w hw=>?_,hK _ (h1 ▸ h _ (hF.put (Nat.le_of_ble_eq_true h2) _))⟩;unfold Oper.quietAt;rw [show (execOp a.eval o).run P w=_ from hy hw a hF];exact ⟨rfl,rfl⟩
theorem xct {k:Nat} {x y:Code} (hk:lk l k=some (.bool true)) (h:∀ a,Fr N a l→x.wp P Q a w):∀ a,Fr N a l→(Code.cond (.tmp k) x y).wp P Q a w:=fun a hF=>Xi hF hk (h a hF)
theorem xcf {k:Nat} {x y:Code} (hk:lk l k=some (.bool false)) (h:∀ a,Fr N a l→y.wp P Q a w):∀ a,Fr N a l→(Code.cond (.tmp k) x y).wp P Q a w:=fun a hF=>XV hF hk (h a hF)
theorem xb1 {fn:Func} {R:Ending→World→Prop} {k:Nat} {v:Value} (hr:fn.results=#[.tmp k]) (hk:lk l k=some v) (h:R (.returned v) w):∀ a,Fr N a l→bodyPost P fn R .ret a w:=fun _ hF=>Qe hF hr (hF.res hk) h
theorem xb2 {fn:Func} {R:Ending→World→Prop} {k k':Nat} {v v':Value} (hr:fn.results=#[.tmp k,.tmp k']) (hk:lk l k=some v) (hk':lk l k'=some v') (h:R (.returned (.tuple #[v,v'])) w):∀ a,Fr N a l→bodyPost P fn R .ret a w:=fun _ hF=>Zw hF hr (hF.res hk) (hF.res hk') h
theorem xne {K:Act→World→Prop} (h:∀ a,Fr N a l→K a w):∀ a,Fr N a l→wpList P ops (Exit.then K Q) [] a w:=fun a hF=>Zk (h a hF)
theorem xni (h:∀ a,Fr N a l→Q .normal a w):∀ a,Fr N a l→wpList P ops Q [] a w:=fun a hF=>wpList_nil (h a hF)
theorem xsr {id:Nat} {m:List Oper} {y:Code} (h:∀ a,Fr N a l→wpList P m.toArray (Exit.then (y.wp P Q) Q) m a w):∀ a,Fr N a l→(Code.seq (Code.region id m.toArray false) y).wp P Q a w:=fun a hF=>Yj (h a hF)
theorem xrl {id:Nat} {m:List Oper} (h:∀ a,Fr N a l→wpList P m.toArray Q m a w):∀ a,Fr N a l→(Code.region id m.toArray false).wp P Q a w:=fun a hF=>wp_region_lit (h a hF)
theorem xsq {x y:Code} (h:∀ a,Fr N a l→x.wp P (Exit.then (y.wp P Q) Q) a w):∀ a,Fr N a l→(Code.seq x y).wp P Q a w:=fun a hF=>wp_seq (h a hF)
theorem xbl {id:Nat} {c:Code} (h:∀ a,Fr N a l→c.wp P (Exit.inBlock id Q) a w):∀ a,Fr N a l→(Code.block id c).wp P Q a w:=fun a hF=>wp_block (h a hF)
theorem xsk (h:∀ a,Fr N a l→Q .normal a w):∀ a,Fr N a l→Code.skip.wp P Q a w:=fun a hF=>wp_skip (h a hF)
theorem xre (h:∀ a,Fr N a l→Q .ret a w):∀ a,Fr N a l→Code.ret.wp P Q a w:=fun a hF=>wp_ret (h a hF)
theorem xex {id:Nat} (h:∀ a,Fr N a l→Q (.exit id) a w):∀ a,Fr N a l→(Code.exit id).wp P Q a w:=fun a hF=>wp_exit (h a hF)
theorem xet {K:Act→World→Prop} (h:∀ a,Fr N a l→K a w):∀ a,Fr N a l→Exit.then K Q .normal a w:=h
theorem xtx {K:Act→World→Prop} {i:Nat} (h:∀ a,Fr N a l→Q (.exit i) a w):∀ a,Fr N a l→Exit.then K Q (.exit i) a w:=h
theorem xtr {K:Act→World→Prop} (h:∀ a,Fr N a l→Q .ret a w):∀ a,Fr N a l→Exit.then K Q .ret a w:=h
theorem xeb {i:Nat} (h:∀ a,Fr N a l→Q .normal a w):∀ a,Fr N a l→Exit.inBlock i Q .normal a w:=h
theorem xbr {i:Nat} (h:∀ a,Fr N a l→Q .ret a w):∀ a,Fr N a l→Exit.inBlock i Q .ret a w:=h
theorem xbh {i:Nat} (h:∀ a,Fr N a l→Q .normal a w):∀ a,Fr N a l→Exit.inBlock i Q (.exit i) a w:=fun a hF=>Yh (h a hF)
theorem xcs {G:Act→Prop} (k:Nat) {t:Bool} (hk:lk l k=some (.bool t)) (h1:t=true→∀ a,Fr N a ((k,.bool true)::l)→G a) (h2:t=false→∀ a,Fr N a ((k,.bool false)::l)→G a):∀ a,Fr N a l→G a:=fun a hF=>hF.cases k hk (fun c hF=>h1 c a hF) (fun c hF=>h2 c a hF)
theorem xhy {fuel:Nat} {listed:Array Bool} (i:Nat) {oi:Oper} {d:Nat} {v:Value} (hS:St W s w) (hi:ops[i]? = some oi) (hd:auD N ops l oi=some d) (hy:∀ {w},St W s w→∀ a,Fr N a l→Yl P w oi a v) (h:∀ a,Fr N a ((d,v)::l)→wpAnyH P .any ops Q (St W s) fuel (listed.setIfInBounds i true) a w) (hs:Region.noSelect ops=true:=by kernel_rfl) (hf:Region.free .any ops listed i=true:=by kernel_rfl) (hr:(Region.ready .any ops listed).contains i=true:=by kernel_rfl) (hQ:∀ c a w,Q (.panic c) (a.put oi.dst v) w→Q (.panic c) a w:=by exact fun _ _ _ h=>h):∀ a,Fr N a l→wpAnyH P .any ops Q (St W s) (fuel+1) listed a w:=fun a hF=>by
 obtain ⟨h1,h2,h3⟩:=ZiY hF hd;exact wpAnyH_take hi hs hf hr hQ (.inl ⟨h3,fun _ hw=>hy hw a hF⟩) hS (h1 ▸ h _ (hF.put (Nat.le_of_ble_eq_true h2) v))
theorem xh {fuel:Nat} {listed:Array Bool} (i:Nat) {oi:Oper} {d:Nat} {v:Value} (hS:St W s w) (hi:ops[i]? = some oi) (hd:auD N ops l oi=some d) (hv:auV l oi.op=some v) (h:∀ a,Fr N a ((d,v)::l)→wpAnyH P .any ops Q (St W s) fuel (listed.setIfInBounds i true) a w) (hs:Region.noSelect ops=true:=by kernel_rfl) (hf:Region.free .any ops listed i=true:=by kernel_rfl) (hr:(Region.ready .any ops listed).contains i=true:=by kernel_rfl) (hQ:∀ c a w,Q (.panic c) (a.put oi.dst v) w→Q (.panic c) a w:=by exact fun _ _ _ h=>h):∀ a,Fr N a l→wpAnyH P .any ops Q (St W s) (fuel+1) listed a w:=xhy i hS hi hd (fun _ _ hF=>ZiX hF rfl hv) h hs hf hr hQ
def ZlL:Nat→List Value→List Value
 | 0,l=>l
 | _+1,[]=>[]
 | k+1,_::l=>ZlL k l
def ZhI:Nat→List Value→Option (List Value)
 | 0,_=>some []
 | _+1,[]=>none
 | n+1,x::l=>match ZhI n l with
  | some r=>some (x::r)
  | none=>none
theorem ZhJ:∀ (k:Nat) (l:List Value),ZlL k l=l.drop k
 | 0,_=>rfl
 | _+1,[]=>rfl
 | k+1,_::l=>ZhJ k l
theorem ZhK:∀ {n:Nat} {l cs:List Value},ZhI n l=some cs→l.take n=cs∧cs.length=n
 | 0,_,_,h=>by obtain rfl:=Option.some.inj h;exact ⟨rfl,rfl⟩
 | _+1,[],_,h=>by cases h
 | n+1,x::l,cs,h=>by
  have h:(match ZhI n l with|some r=>some (x::r)|none=>none)=some cs:=h
  cases hq:ZhI n l with
  | none=>rw [hq] at h;cases h
  | some q =>
   rw [hq] at h;obtain rfl:=Option.some.inj h;obtain ⟨h1,h2⟩:=ZhK hq;exact ⟨by rw [List.take_succ_cons,h1],by rw [List.length_cons,h2]⟩
def Zkx (l:List (Nat × Value)) (x:Operand):Option (Nat × Nat):=match evO l x with
 | some (.pointer (some ⟨b,k,none⟩))=>some (b,k)
 | _=>none
theorem Zeh {a:Act} (hF:Fr N a l) {x:Operand} {b k:Nat} (h:Zkx l x=some (b,k)):a.eval x=.pointer (some ⟨b,k,none⟩):=by
 unfold Zkx at h
 split at h
 ·rename_i hx
  obtain ⟨rfl,rfl⟩:=Prod.mk.inj (Option.some.inj h);exact hF.ev hx
 ·cases h
def ldA (n:Nat) (A:Array Value) (l:List (Nat × Value)):Op→Option (TypeId × Nat × List Value)
 | .load t x=>match Zkx l x with
  | some (b,k)=>match ZhI n (ZlL k A.toList) with
   | some cs=>some (t,b,cs)
   | none=>none
  | none=>none
 | _=>none
def ldS (A:Array Value) (l:List (Nat × Value)):Op→Option (TypeId × Nat × Value)
 | .load t x=>match Zkx l x with
  | some (b,k)=>match ZnH A.toList k with
   | some v=>some (t,b,v)
   | none=>none
  | none=>none
 | _=>none
theorem vw (hS:St W s w) (i n:Nat) {t:TypeId} {b m:Nat} {T:TypeId} {A:Array Value} {cs:List Value} (hi:s[i]? = some (boxA b m T (.agg A))) (hc:ldA n A l o.op=some (t,b,cs)) (hs:QA P t n=true:=by kernel_rfl):∀ a,Fr N a l→Yl P w o a (.agg cs.toArray):=fun a hF=>by
 generalize ho:o.op=p at hc;unfold ldA at hc
 split at hc
 ·split at hc
  ·rename_i hp
   split at hc
   ·rename_i ht
    simp only [Option.some.injEq,Prod.mk.injEq] at hc;obtain ⟨rfl,rfl,rfl⟩:=hc;obtain ⟨h1,h2⟩:=ZhK ht;rw [ZhJ] at h1;exact Q8 ho (Zeh hF hp) (h1 ▸ (hS.box i hi).sub _ n) (by rw [h2];exact hs)
   ·cases hc
  ·cases hc
 ·cases hc
theorem vc (hS:St W s w) (i:Nat) {t:TypeId} {b m:Nat} {T:TypeId} {A:Array Value} {v:Value} (hi:s[i]? = some (boxA b m T (.agg A))) (hc:ldS A l o.op=some (t,b,v)) (hs:Xh P t=true:=by kernel_rfl):∀ a,Fr N a l→Yl P w o a v:=fun a hF=>by
 generalize ho:o.op=p at hc;unfold ldS at hc
 split at hc
 ·split at hc
  ·rename_i hp
   split at hc
   ·rename_i ht
    simp only [Option.some.injEq,Prod.mk.injEq] at hc;obtain ⟨rfl,rfl,rfl⟩:=hc;rw [ZgV] at ht;exact Yg ho (Zeh hF hp) (((hS.box i hi).cell _).trans (by simpa using ht)) hs
   ·cases hc
  ·cases hc
 ·cases hc
def faO (l:List (Nat × Value)):Op→Option (TypeId × Nat × Nat × Nat)
 | .fieldAddr t x i=>match Zkx l x with
  | some (b,k)=>some (t,i,b,k)
  | none=>none
 | _=>none
theorem vf (j:Nat) {t:TypeId} {i b k:Nat} (hc:faO l o.op=some (t,i,b,k)) (hj:UM P t i=some j:=by kernel_rfl):∀ a,Fr N a l→Yl P w o a (.pointer (some ⟨b,k+j,none⟩)):=fun a hF=>by
 generalize ho:o.op=p at hc;unfold faO at hc
 split at hc
 ·split at hc
  ·rename_i hp
   simp only [Option.some.injEq,Prod.mk.injEq] at hc;obtain ⟨rfl,rfl,rfl,rfl⟩:=hc;exact JB ho (Zeh hF hp) hj
  ·cases hc
 ·cases hc
def ixO (l:List (Nat × Value)):Op→Option (TypeId × Option Addr × Nat × Int)
 | .indexAddr t x y=>match evO l x with
  | some (.slice ao len _)=>match evO l y with
   | some (.int _ m)=>some (t,ao,len,m)
   | _=>none
  | _=>none
 | _=>none
theorem vx (e i size:Nat) {t:TypeId} {g off len:Nat} {m:Int} (hc:ixO l o.op=some (t,some ⟨g,off,none⟩,len,m)) (hu:Yu P t=some (e,size):=by kernel_rfl) (hm:m=(i:Int):=by exact rfl) (hi:i<len:=by omega):∀ a,Fr N a l→Yl P w o a (.pointer (some ⟨g,off+i*size,none⟩)):=fun a hF=>by
 generalize ho:o.op=p at hc;unfold ixO at hc
 split at hc
 ·split at hc
  ·rename_i hx
   split at hc
   ·rename_i hy
    simp only [Option.some.injEq,Prod.mk.injEq] at hc;obtain ⟨rfl,rfl,rfl,rfl⟩:=hc;exact ZG ho (hF.ev hx) (hF.ev hy) hu hm hi
   ·cases hc
  ·cases hc
 ·cases hc
theorem vxr (e i size:Nat) {t:TypeId} {ao:Option Addr} {g off len:Nat} {m:Int} (hc:ixO l o.op=some (t,ao,len,m)) (hao:ao=some ⟨g,off,none⟩) (hu:Yu P t=some (e,size):=by kernel_rfl) (hm:m=(i:Int):=by exact rfl) (hi:i<len:=by omega):∀ a,Fr N a l→Yl P w o a (.pointer (some ⟨g,off+i*size,none⟩)):=by
 subst hao;exact vx e i size hc hu hm hi
def Zo7 (l:List (Nat × Value)):Op→Option (TypeId × Nat)
 | .call c=>match c.callee with
  | .builtin .len=>match c.args.toList with
   | [x]=>match c.argTypes.toList with
    | [t]=>match evO l x with
     | some (.slice _ n _)=>some (t,n)
     | _=>none
    | _=>none
   | _=>none
  | _=>none
 | _=>none
theorem vn (e size:Nat) {t:TypeId} {n:Nat} (hc:Zo7 l o.op=some (t,n)) (hu:Yu P t=some (e,size):=by kernel_rfl):∀ a,Fr N a l→Yl P w o a (.int .i64 n):=fun a hF=>by
 generalize ho:o.op=p at hc;unfold Zo7 at hc
 split at hc
 ·rename_i c
  obtain ⟨f,⟨xs⟩,⟨ts⟩⟩:=c;dsimp only at hc
  split at hc
  ·split at hc
   ·split at hc
    ·split at hc
     ·rename_i h1 _ h2 _ hx
      simp only [Option.some.injEq,Prod.mk.injEq] at hc;obtain ⟨rfl,rfl⟩:=hc;exact Xa ho (hF.ev hx) hu
     ·cases hc
    ·cases hc
   ·cases hc
  ·cases hc
 ·cases hc
def Zo8 (l:List (Nat × Value)):Op→Option (Int × Int)
 | .binOp .add _ x y _=>match evO l x with
  | some (.int .i64 m)=>match evO l y with
   | some (.int .i64 n)=>some (m,n)
   | _=>none
  | _=>none
 | _=>none
theorem vad {m n:Int} (hc:Zo8 l o.op=some (m,n)) (hr:-9223372036854775808≤m+n∧m+n≤9223372036854775807:=by omega):∀ a,Fr N a l→Yl P w o a (.int .i64 (m+n)):=fun a hF=>by
 generalize ho:o.op=p at hc;unfold Zo8 at hc
 split at hc
 ·split at hc
  ·rename_i hx
   split at hc
   ·rename_i hy
    simp only [Option.some.injEq,Prod.mk.injEq] at hc;obtain ⟨rfl,rfl⟩:=hc;exact ZW ho (hF.ev hx) (hF.ev hy) (Qt hr)
   ·cases hc
  ·cases hc
 ·cases hc
def Zo9 (l:List (Nat × Value)):Op→Option (TypeId × List (Nat × Value))
 | .build t ps0=>match ps0.toList.mapM (fun p=>(evO l p.2).map fun v=>(p.1,v)) with
  | some ps=>some (t,ps)
  | none=>none
 | _=>none
theorem vb (cs:List Value) {t:TypeId} {ps:List (Nat × Value)} (hc:Zo9 l o.op=some (t,ps)) (hb:ZiU P t ps=some cs.toArray:=by kernel_rfl):∀ a,Fr N a l→Yl P w o a (.agg cs.toArray):=fun a hF=>by
 generalize ho:o.op=p at hc;unfold Zo9 at hc
 split at hc
 ·split at hc
  ·rename_i hp
   simp only [Option.some.injEq,Prod.mk.injEq] at hc;obtain ⟨rfl,rfl⟩:=hc;exact XL hF ho hp hb
  ·cases hc
 ·cases hc
def ldP (l:List (Nat × Value)):Op→Option (TypeId × Nat × Nat)
 | .load t x=>match Zkx l x with
  | some (b,k)=>some (t,b,k)
  | none=>none
 | _=>none
theorem ve {α:Type} {enc:α→List Value} (he:∀ x,(enc x).length=1) (hS:St W s w) (i:Nat) (j:Nat) {t:TypeId} {e:TypeId} {g off n cap:Nat} {xs:List α} {x:α} {v:Value} (hi:s[i]? = some (Zd enc 1 e (.slice (some ⟨g,off,none⟩) n cap) xs)) (hx:xs[j]? = some x) (hv:enc x=[v]) (hc:ldP l o.op=some (t,g,off+j*1)) (hs:Xh P t=true:=by kernel_rfl):∀ a,Fr N a l→Yl P w o a v:=fun a hF=>by
 generalize ho:o.op=p at hc;unfold ldP at hc
 split at hc
 ·split at hc
  ·rename_i hp
   simp only [Option.some.injEq,Prod.mk.injEq] at hc;obtain ⟨rfl,rfl,rfl⟩:=hc;exact Yg ho (Zeh hF hp) (hS.elem1 he i hi hx hv) hs
  ·cases hc
 ·cases hc
end
def setO:List Asr→Nat→Asr→Option (List Asr)
 | [],_,_=>none
 | _::r,0,x=>some (x::r)
 | y::r,i+1,x=>match setO r i x with
  | some r'=>some (y::r')
  | none=>none
theorem Zbc:∀ {s:List Asr} {i:Nat} {x:Asr} {s':List Asr},setO s i x=some s'→s.set i x=s'
 | [],_,_,_,h=>by cases h
 | _::r,0,x,s',h=>Option.some.inj h
 | y::r,i+1,x,s',h=>by
  have h:(match setO r i x with|some r'=>some (y::r')|none=>none)=some s':=h
  cases hq:setO r i x with
  | none=>rw [hq] at h;cases h
  | some q=>rw [hq] at h;obtain rfl:=Option.some.inj h;rw [List.set_cons_succ,Zbc hq]
structure OpI (N:Nat) (o:Oper) (p:Op) (d:Nat):Prop where
  hg:o.guard=none
  ho:o.op=p
  hd:o.dst=some d
  hn:Nat.blt d N=true
structure OpG (N:Nat) (ops:Array Oper) (l:List (Nat × Value)) (o:Oper) (p:Op) (d g dg:Nat) (b:Bool):Prop where
  hg:o.guard=some (g,b)
  he:(ops[g]?).bind (·.dst)=some dg
  hv:lk l dg=some (.bool b)
  ho:o.op=p
  hd:o.dst=some d
  hn:Nat.blt d N=true
structure OpE (o:Oper) (p:Op):Prop where
  hg:o.guard=none
  ho:o.op=p
  hd:o.dst=none
section
variable {P:Program} {ops:Array Oper} {Q:Exit→Act→World→Prop} {rest:List Oper} {o:Oper} {w W:World} {N:Nat} {l:List (Nat × Value)} {s s':List Asr} {d:Nat} {t:TypeId}
theorem yal (Z:List Value) (E:Bx (St W s w)) (h:∀ w' b,Bx (St W (boxA b Z.length t (.agg Z.toArray)::s) w')→∀ a,Fr N a ((d,.pointer (some ⟨b,0,none⟩))::l)→wpList P ops Q rest a w')
  (ho:OpI N o (.alloc t) d:=by exact ⟨rfl,rfl,rfl,rfl⟩) (hZ:Zgf P t=some Z:=by kernel_rfl) (h1:(Z.all fun u=>u.oneCell')=true:=by exact rfl):∀ a,Fr N a l→wpList P ops Q (o::rest) a w:=fun _ hF =>
 ZR ho.hg hF ho.ho ho.hd ho.hn hZ h1 E.o fun a' w' b h1 h2=>h w' b ⟨h2⟩ a' h1
theorem ybx (E:Bx (St W s w)) {x:Operand} {A:Array Value} (h:∀ w' b,Bx (St W (boxA b A.toList.length t (.agg A)::s) w')→∀ a,Fr N a ((d,.pointer (some ⟨b,0,none⟩))::l)→wpList P ops Q rest a w')
  (ho:OpI N o (.box t x) d:=by exact ⟨rfl,rfl,rfl,rfl⟩) (hx:evO l x=some (.agg A):=by exact rfl) (h1:(A.toList.all fun u=>u.oneCell')=true:=by exact rfl):∀ a,Fr N a l→wpList P ops Q (o::rest) a w:=fun _ hF=>by
 obtain ⟨Z⟩:=A;exact Zax ho.hg hF ho.ho (hF.ev hx) (Z:=Z) rfl ho.hd ho.hn h1 E.o fun a' w' b h1 h2=>h w' b ⟨h2⟩ a' h1
theorem ybv (E:Bx (St W s w)) {x:Operand} {v:Value} (h:∀ w' b,Bx (St W (boxA b 1 t (.agg #[v])::s) w')→∀ a,Fr N a ((d,.pointer (some ⟨b,0,none⟩))::l)→wpList P ops Q rest a w')
  (ho:OpI N o (.box t x) d:=by exact ⟨rfl,rfl,rfl,rfl⟩) (hx:evO l x=some v:=by exact rfl) (hv:v.cells=[v].toArray:=by exact rfl) (h1:([v].all fun u=>u.oneCell')=true:=by exact rfl):∀ a,Fr N a l→wpList P ops Q (o::rest) a w:=fun _ hF =>
 Zax ho.hg hF ho.ho (hF.ev hx) (Z:=[v]) hv ho.hd ho.hn h1 E.o fun a' w' b h1 h2=>h w' b ⟨h2⟩ a' h1
theorem yst (E:Bx (St W s w)) (i:Nat) {x y:Operand} {b n:Nat} {T:TypeId} {u:Value} {A:Array Value} (h:∀ w',Bx (St W s' w')→∀ a,Fr N a l→wpList P ops Q rest a w')
  (ho:OpE o (.store t x y):=by exact ⟨rfl,rfl,rfl⟩) (hx:evO l x=some (.pointer (some ⟨b,0,none⟩)):=by exact rfl) (hy:evO l y=some (.agg A):=by exact rfl) (hi:s[i]? = some (boxA b n T u):=by exact rfl) (h3:setO s i (boxA b n T (.agg A))=some s':=by exact rfl) (h1:(A.toList.all fun u=>u.oneCell')=true:=by exact rfl) (hl:A.toList.length=n:=by exact rfl) (hn:QA P t n=true:=by kernel_rfl):∀ a,Fr N a l→wpList P ops Q (o::rest) a w:=fun a hF=>by
 obtain ⟨Z⟩:=A;exact Z8 ho.hg hF ho.ho ho.hd (hF.ev hx) (hF.ev hy) E.o i hi (Z0 Z h1 hl) hn fun w' h2=>h w' ⟨Zbc h3 ▸ h2⟩ a hF
theorem yem (e size:Nat) (E:Bx (St W s w)) (h:∀ w' b,Bx (St W s w')→∀ a,Fr N a ((d,.slice (some ⟨b,0,none⟩) 0 0)::l)→wpList P ops Q rest a w')
  (ho:OpI N o (.buildSlice t 0 #[]) d:=by exact ⟨rfl,rfl,rfl,rfl⟩) (hu:Yu P t=some (e,size):=by kernel_rfl):∀ a,Fr N a l→wpList P ops Q (o::rest) a w:=fun _ hF =>
 ZlC ho.hg hF ho.ho ho.hd ho.hn hu E.o fun a' w' b h1 h2=>h w' b ⟨h2⟩ a' h1
theorem ybs {α:Type} (enc:α→List Value) (e size:Nat) (xs:List α) (E:Bx (St W s w)) {len:Nat} {ps0:Array (Nat × Operand)} {ps:List (Nat × Value)} (h:∀ b w',Bx (St W (Zd enc size e (.slice (some ⟨b,0,none⟩) len len) xs::s) w')→∀ a,Fr N a ((d,.slice (some ⟨b,0,none⟩) len len)::l)→wpList P ops Q rest a w')
  (ho:OpI N o (.buildSlice t len ps0) d:=by exact ⟨rfl,rfl,rfl,rfl⟩) (hp:ps0.toList.mapM (fun p=>(evO l p.2).map fun v=>(p.1,v))=some ps:=by exact rfl) (hb:Zcp P t len ps=some (e,size,xs.flatMap enc):=by kernel_rfl) (hl:xs.length=len:=by exact rfl) (hm:len≤maxLen:=by unfold maxLen;omega) (hc:(xs.flatMap enc).length=len*size:=by exact rfl):∀ a,Fr N a l→wpList P ops Q (o::rest) a w:=fun _ hF =>
 XH ho.hg hF ho.ho ho.hd ho.hn hp hb xs hl rfl hm hc E.o fun b a' w' h1 h2=>h b w' ⟨h2⟩ a' h1
section
variable {f:FuncId} {args:Array Value} {fn:Func} {c:Code} {xs:Array Operand} {ts:Array TypeId}
theorem yc {R:Ending→World→Prop} (hR:Calls P f args w R) (hf:P.funcs[f]? = some fn) (h:∀ e w',R e w'→∃ v,e=.returned v∧∀ a,Fr N a ((d,v)::l)→wpList P ops Q rest a w')
  (ho:OpI N o (.call { callee:=.value (.func f),args:=xs,argTypes:=ts }) d:=by exact ⟨rfl,rfl,rfl,rfl⟩) (hx:xs.toList.mapM (evO l)=some args.toList:=by exact rfl) (hn:(fn.name == "runtime.NumGoroutine")=false:=by kernel_rfl) (hb:fn.body=some c:=by exact rfl):∀ a,Fr N a l→wpList P ops Q (o::rest) a w:=fun _ hF =>
 YJ ho.hg hF ho.ho (ZJ hf hn hb) hx hR ho.hd ho.hn h
theorem ycB {v:Value} (hR:Calls P f args w fun e w'=>e=.returned v∧Below w.heap.size w w') (hf:P.funcs[f]? = some fn) (E:Bx (St W s w)) (h:∀ w',Bx (St W s w')→∀ a,Fr N a ((d,v)::l)→wpList P ops Q rest a w')
  (ho:OpI N o (.call { callee:=.value (.func f),args:=xs,argTypes:=ts }) d:=by exact ⟨rfl,rfl,rfl,rfl⟩) (hx:xs.toList.mapM (evO l)=some args.toList:=by exact rfl) (hn:(fn.name == "runtime.NumGoroutine")=false:=by kernel_rfl) (hb:fn.body=some c:=by exact rfl):∀ a,Fr N a l→wpList P ops Q (o::rest) a w:=fun _ hF =>
 Vv ho.hg hF ho.ho (ZJ hf hn hb) hx hR ho.hd ho.hn E.o fun w' a' h1 h2=>h w' ⟨h1⟩ a' h2
theorem Ji {g dg:Nat} {b:Bool} {v:Value} (hR:Calls P f args w fun e w'=>e=.returned v∧Below w.heap.size w w') (hf:P.funcs[f]? = some fn) (E:Bx (St W s w)) (h:∀ w',Bx (St W s w')→∀ a,Fr N a ((d,v)::l)→wpList P ops Q rest a w')
  (ho:OpG N ops l o (.call { callee:=.value (.func f),args:=xs,argTypes:=ts }) d g dg b:=by exact ⟨rfl,rfl,rfl,rfl,rfl,rfl⟩) (hx:xs.toList.mapM (evO l)=some args.toList:=by exact rfl) (hn:(fn.name == "runtime.NumGoroutine")=false:=by kernel_rfl) (hb:fn.body=some c:=by exact rfl):∀ a,Fr N a l→wpList P ops Q (o::rest) a w:=fun _ hF =>
 Zkv hF ho.hg ho.he ho.hv ho.ho (ZJ hf hn hb) hx hR ho.hd ho.hn E.o fun w' a' h1 h2=>h w' ⟨h1⟩ a' h2
theorem yq {Q:Act→Prop} {v:Value} (hR:∀ w,St W s w→Calls P f args w fun e w'=>e=.returned v∧Below w.heap.size w w') (hf:P.funcs[f]? = some fn) (h:∀ a,Fr N a ((d,v)::l)→wpQuiet P ops (St W s) Q rest a)
  (ho:OpI N o (.call { callee:=.value (.func f),args:=xs,argTypes:=ts }) d:=by exact ⟨rfl,rfl,rfl,rfl⟩) (hx:xs.toList.mapM (evO l)=some args.toList:=by exact rfl) (hn:(fn.name == "runtime.NumGoroutine")=false:=by kernel_rfl) (hb:fn.body=some c:=by exact rfl):∀ a,Fr N a l→wpQuiet P ops (St W s) Q (o::rest) a:=fun _ hF =>
 ZnD ho.hg hF ho.ho (ZJ hf hn hb) hx hR ho.hd ho.hn h
theorem yqg {Q:Act→Prop} {g dg:Nat} {b:Bool} {v:Value} (hR:∀ w,St W s w→Calls P f args w fun e w'=>e=.returned v∧Below w.heap.size w w') (hf:P.funcs[f]? = some fn) (h:∀ a,Fr N a ((d,v)::l)→wpQuiet P ops (St W s) Q rest a)
  (ho:OpG N ops l o (.call { callee:=.value (.func f),args:=xs,argTypes:=ts }) d g dg b:=by exact ⟨rfl,rfl,rfl,rfl,rfl,rfl⟩) (hx:xs.toList.mapM (evO l)=some args.toList:=by exact rfl) (hn:(fn.name == "runtime.NumGoroutine")=false:=by kernel_rfl) (hb:fn.body=some c:=by exact rfl):∀ a,Fr N a l→wpQuiet P ops (St W s) Q (o::rest) a:=fun _ hF =>
 ZlF hF ho.hg ho.he ho.hv ho.ho (ZJ hf hn hb) hx hR ho.hd ho.hn h
theorem yo {i:Nat} {K:Act→World→Prop} {R:Ending→World→Prop} (hR:Calls P f args w R) (hf:P.funcs[f]? = some fn) (h:∀ e w',R e w'→∃ v,e=.returned v∧∀ a,Fr N a ((d,v)::l)→K a w')
  (hi:ops[i]? = some o:=by exact rfl) (ho:OpI N o (.call { callee:=.value (.func f),args:=xs,argTypes:=ts }) d:=by exact ⟨rfl,rfl,rfl,rfl⟩) (hx:xs.toList.mapM (evO l)=some args.toList:=by exact rfl) (hn:(fn.name == "runtime.NumGoroutine")=false:=by kernel_rfl) (hb:fn.body=some c:=by exact rfl):∀ a,Fr N a l→wpOp P ops Q i K a w:=fun _ hF =>
 ZjR hi ho.hg hF ho.ho (ZJ hf hn hb) hx hR ho.hd ho.hn h
theorem yoB {i:Nat} {K:Act→World→Prop} {v:Value} (hR:Calls P f args w fun e w'=>e=.returned v∧Below w.heap.size w w') (hf:P.funcs[f]? = some fn) (h:∀ w',Below w.heap.size w w'→∀ a,Fr N a ((d,v)::l)→K a w')
  (hi:ops[i]? = some o:=by exact rfl) (ho:OpI N o (.call { callee:=.value (.func f),args:=xs,argTypes:=ts }) d:=by exact ⟨rfl,rfl,rfl,rfl⟩) (hx:xs.toList.mapM (evO l)=some args.toList:=by exact rfl) (hn:(fn.name == "runtime.NumGoroutine")=false:=by kernel_rfl) (hb:fn.body=some c:=by exact rfl):∀ a,Fr N a l→wpOp P ops Q i K a w:=fun _ hF =>
 ZlI hi ho.hg hF ho.ho (ZJ hf hn hb) hx hR ho.hd ho.hn h
end
section
variable {α:Type} {enc:α→List Value} {size e:Nat} {v:Value} {ao2:Option Addr} {n c2 bytes:Nat} {t2:TypeId} {x y:Operand} {xs ys:List α}
theorem yap {s9:Option Addr→Nat→List Asr} (hT:ZbA P t e size bytes) (he:∀ x,(enc x).length=size) (E:Bx (St W s w)) (i:Nat) (hr:Rd enc size w ao2 n ys) (h1:∀ u ∈ ys.flatMap enc,u.oneCell'=true)
  (h:∀ ao cap w',Bx (St W (s9 ao cap) w')→∀ a,Fr N a ((d,.slice ao (xs.length+ys.length) cap)::l)→wpList P ops Q rest a w')
  (ho:OpI N o (.call { callee:=.builtin .append,args:=#[x,y],argTypes:=#[t,t] }) d:=by exact ⟨rfl,rfl,rfl,rfl⟩) (hx:evO l x=some v:=by exact rfl) (hy:evO l y=some (.slice ao2 n c2):=by exact rfl) (hi:s[i]? = some (Zd enc size e v xs):=by exact rfl) (h3:∀ ao cap,setO s i (Zd enc size e (.slice ao (xs.length+ys.length) cap) (xs++ys))=some (s9 ao cap):=by exact fun _ _=>rfl)
  (h63:xs.length+ys.length≤maxLen:=by unfold maxLen;(try simp only [List.length_append,List.length_cons,List.length_nil,List.nil_append,List.length_map]);omega) (hbytes:(xs.length+ys.length)*bytes≤140737488355328:=by (try simp only [List.length_append,List.length_cons,List.length_nil,List.nil_append,List.length_map]);omega):∀ a,Fr N a l→wpList P ops Q (o::rest) a w:=fun _ hF =>
 Xb ho.hg hF ho.ho ho.hd ho.hn (hF.ev hx) (hF.ev hy) hT he E.o i hi hr h1 h63 hbytes fun ao cap w' a' h1 h2=>h ao cap w' ⟨Zbc (h3 ao cap) ▸ h2⟩ a' h1
end
end
def era:Nat→List Asr→Option (List Asr)
 | _,[]=>none
 | 0,_::r=>some r
 | n+1,x::r=>match era n r with
  | some r'=>some (x::r')
  | none=>none
theorem ZiZ:∀ {n:Nat} {s s':List Asr},era n s=some s'→s.eraseIdx n=s'
 | n,[],_,h=>by cases n <;> cases h
 | 0,_::_,_,h=>Option.some.inj h
 | n+1,x::r,s',h=>by
  have h:(match era n r with|some r'=>some (x::r')|none=>none)=some s':=h
  cases hq:era n r with
  | none=>rw [hq] at h;cases h
  | some q=>rw [hq] at h;obtain rfl:=Option.some.inj h;rw [List.eraseIdx_cons_succ,ZiZ hq]
def erL:List Nat→List Asr→Option (List Asr)
 | [],s=>some s
 | n::is,s=>match era n s with
  | some s'=>erL is s'
  | none=>none
theorem St.erS {W w:World}:∀ (is:List Nat) {s s':List Asr},St W s w→(hs:erL is s=some s':=by exact rfl)→St W s' w
 | [],_,_,h,hs=>Option.some.inj hs ▸ h
 | n::is,s,s',h,hs=>by
  have hs:(match era n s with|some s'=>erL is s'|none=>none)=some s':=hs
  cases hq:era n s with
  | none=>rw [hq] at hs;cases hs
  | some q=>rw [hq] at hs;exact St.erS is (ZiZ hq ▸ h.erase n) hs
def pkL:List Nat→List Asr→Option (List Asr)
 | [],s=>some s
 | n::is,s=>match s[n]? with
  | some a=>match era n s with
   | some s'=>pkL is (a::s')
   | none=>none
  | none=>none
theorem St.pks {W w:World}:∀ (is:List Nat) {s s':List Asr},St W s w→pkL is s=some s'→St W s' w
 | [],_,_,h,hs=>Option.some.inj hs ▸ h
 | n::is,s,s',h,hs=>by
  have hs:(match s[n]? with|some a=>(match era n s with|some s'=>pkL is (a::s')|none=>none)|none=>none)=some s':=hs
  cases ha:s[n]? with
  | none=>rw [ha] at hs;cases hs
  | some x =>
   rw [ha] at hs
   cases hq:era n s with
   | none=>simp only [hq] at hs;cases hs
   | some q=>simp only [hq] at hs;exact St.pks is (ZiZ hq ▸ h.pick n ha) hs
def Bx.ers {W w:World} {s s':List Asr} (is:List Nat) (h:Bx (St W s w)) (hs:erL is s=some s':=by exact rfl):Bx (St W s' w):=⟨h.out.erS is hs⟩
def Bx.pks {W w:World} {s s':List Asr} (is:List Nat) (h:Bx (St W s w)) (hs:pkL is s=some s':=by exact rfl):Bx (St W s' w):=⟨h.out.pks is hs⟩
structure NmI (s s':List Asr):Prop where
  h:s=s'
def Bx.nm {W w:World} {s s':List Asr} (h:Bx (St W s w)) (e:NmI s s':=by first|(dsimp only [List.cons_append,List.nil_append,List.eraseIdx,List.set];exact ⟨rfl⟩)|exact ⟨rfl⟩):Bx (St W s' w):=⟨e.h ▸ h.out⟩
def ZlM:List Asr→List Asr→Option (List Asr)
 | [],s=>some s
 | x::r,s=>match ZlM r s with
  | some t=>some (x::t)
  | none=>none
theorem ZjT:∀ {r s t:List Asr},ZlM r s=some t→r++s=t
 | [],_,_,h=>Option.some.inj h
 | x::r,s,t,h=>by
  have h:(match ZlM r s with|some t=>some (x::t)|none=>none)=some t:=h
  cases hq:ZlM r s with
  | none=>rw [hq] at h;cases h
  | some q=>rw [hq] at h;obtain rfl:=Option.some.inj h;rw [List.cons_append,ZjT hq]
def Bx.ad {W w w':World} {s r s':List Asr} (h:Bx (St W s w)) (k:St w r w') (e:ZlM r s=some s':=by exact rfl):Bx (St W s' w'):=⟨ZjT e ▸ h.out.add k⟩
def ZlN:Nat→List Value→Option (List (Nat × Value))
 | _,[]=>some []
 | i,v::r=>match ZlN (i+1) r with
  | some l=>some ((i,v)::l)
  | none=>none
theorem ZjU:∀ {i:Nat} {r l:List (Value)} {q:List (Nat × Value)} (p:List Value),p.length=i→p++r=l→ZlN i r=some q→∀ x ∈ q,l[x.1]? = some x.2
 | i,[],l,q,p,_,_,h=>by obtain rfl:=Option.some.inj h;exact fun _ hx=>nomatch hx
 | i,v::r,l,q,p,hp,hl,h=>by
  have h:(match ZlN (i+1) r with|some l=>some ((i,v)::l)|none=>none)=some q:=h
  cases hq:ZlN (i+1) r with
  | none=>rw [hq] at h;cases h
  | some m =>
   rw [hq] at h;obtain rfl:=Option.some.inj h;intro x hx;rcases List.mem_cons.1 hx with rfl|hx
   ·rw [← hl];show (p++v::r)[i]? = some v
    rw [← hp,List.getElem?_append_right (Nat.le_refl _),Nat.sub_self];rfl
   ·exact ZjU (p++[v]) (by rw [List.length_append,List.length_singleton,hp]) (by rw [← hl,List.append_assoc];rfl) hq x hx
theorem ent {P:Program} {w:World} {f:FuncId} {fn:Func} {c:Code} {args:Array Value} {R:Ending→World→Prop} (hf:P.funcs[f]? = some fn) {N:Nat} (hN:fn.ntmps=N) {l:List (Nat × Value)} (h:∀ a,Fr N a l→c.wp P (bodyPost P fn R) a w) (hb:fn.body=some c:=by exact rfl) (hl:ZlN 0 args.toList=some l:=by exact rfl) (hs:Nat.ble args.size N=true:=by exact rfl):Calls P f args w R :=
 Zgh hf hb hN (fun p hp=>by rw [← Array.getElem?_toList];exact ZjU [] rfl rfl hl p hp) (Nat.le_of_ble_eq_true hs) h
theorem Fr.ls {N:Nat} {a:Act} {l:List (Nat × Value)} (h:Fr N a l) (l':List (Nat × Value)) (hs:ZlD l l':=by (repeat refine ⟨rfl,?_⟩);exact trivial):Fr N a l':=h.less l' hs
section
variable {P:Program} {ops:Array Oper} {Q:Exit→Act→World→Prop} {K:Act→World→Prop} {rest:List Oper} {o oi:Oper} {a:Act} {w W:World} {N:Nat} {l:List (Nat × Value)} {s s' s2 s3:List Asr} {d:Nat} {t:TypeId} {i:Nat} {fuel:Nat} {listed:Array Bool}
theorem hld (is:List Nat) {id:Nat} {m:List Oper} (E:Bx (St W s w)) (h:∀ w',Bx (St W s' w')→Bx (St W s w')→∀ a,Fr N a l→wpAnyH P .any m.toArray Q (St W s') m.length (Array.replicate m.length false) a w') (hs:erL is s=some s':=by exact rfl) (hm:P.follows .mixedOrders=true:=by kernel_rfl):∀ a,Fr N a l→(Code.region id m.toArray true).wp P Q a w:=fun a hF =>
 ZlG hm (St.drew (E.o.erS is hs)) (h _ ⟨St.drew (E.o.erS is hs)⟩ ⟨E.o.drew⟩ a hF)
abbrev ZfW (P:Program) (ops:Array Oper) (Q:Exit→Act→World→Prop) (W:World) (s:List Asr) (fuel:Nat) (listed:Array Bool) (i:Nat):Act→World→Prop:=fun a w=>wpOp P ops Q i (fun a' w'=>St W s w'∧wpAnyH P .any ops Q (St W s) fuel (listed.setIfInBounds i true) a' w') a w
theorem ZI (i:Nat) (h:∀ a,Fr N a l→ZfW P ops Q W s fuel listed i a w) (hr:Region.ready .any ops listed=[i]:=by kernel_rfl):∀ a,Fr N a l→wpAnyH P .any ops Q (St W s) (fuel+1) listed a w:=fun a hF=>ZoE i hr (h a hF)
theorem Zdb (i k:Nat) (h:∀ a,Fr N a l→ZfW P ops Q W s fuel listed i a w) (h2:∀ a,Fr N a l→ZfW P ops Q W s fuel listed k a w) (hr:Region.ready .any ops listed=[i,k]:=by kernel_rfl):∀ a,Fr N a l→wpAnyH P .any ops Q (St W s) (fuel+1) listed a w:=fun a hF=>ZoF i k hr (h a hF) (h2 a hF)
theorem hdn (h:∀ a,Fr N a l→Q .normal a w) (hr:Region.ready .any ops listed=[]:=by kernel_rfl):∀ a,Fr N a l→wpAnyH P .any ops Q (St W s) fuel listed a w:=fun a hF=>ZnE hr (h a hF)
theorem yos (j:Nat) (es:List Nat) {x y:Operand} {b n:Nat} {T:TypeId} {u:Value} {A:Array Value} (E:Bx (St W s2 w)) (h:∀ w',Bx (St W s w')→Bx (St W s3 w')→∀ a,Fr N a l→K a w')
  (hi:ops[i]? = some oi:=by exact rfl) (ho:OpE oi (.store t x y):=by exact ⟨rfl,rfl,rfl⟩) (hx:evO l x=some (.pointer (some ⟨b,0,none⟩)):=by exact rfl) (hy:evO l y=some (.agg A):=by exact rfl) (hj:s2[j]? = some (boxA b n T u):=by exact rfl) (h3:setO s2 j (boxA b n T (.agg A))=some s3:=by exact rfl) (he:erL es s3=some s:=by exact rfl) (h1:(A.toList.all fun u=>u.oneCell')=true:=by exact rfl) (hl:A.toList.length=n:=by exact rfl) (hn:QA P t n=true:=by kernel_rfl):∀ a,Fr N a l→wpOp P ops Q i (fun a' w'=>St W s w'∧K a' w') a w:=fun a hF=>by
 obtain ⟨Z⟩:=A;refine X4 hi ho.hg ho.ho ho.hd (hF.ev hx) (hF.ev hy) E.o j hj (Z0 Z h1 hl) hn fun w' h2=>?_;rw [Zbc h3] at h2;exact ⟨h2.erS es he,h w' ⟨h2.erS es he⟩ ⟨h2⟩ a hF⟩
def Zi0:List Value→Nat→Value→Option (List Value)
 | [],_,_=>none
 | _::r,0,x=>some (x::r)
 | y::r,i+1,x=>match Zi0 r i x with
  | some r'=>some (y::r')
  | none=>none
theorem Zcq:∀ {s:List Value} {i:Nat} {x:Value} {s':List Value},Zi0 s i x=some s'→s.set i x=s'∧i<s.length
 | [],_,_,_,h=>by cases h
 | _::r,0,x,s',h=>⟨Option.some.inj h,by simp⟩
 | y::r,i+1,x,s',h=>by
  have h:(match Zi0 r i x with|some r'=>some (y::r')|none=>none)=some s':=h
  cases hq:Zi0 r i x with
  | none=>rw [hq] at h;cases h
  | some q=>rw [hq] at h;obtain rfl:=Option.some.inj h;exact ⟨by rw [List.set_cons_succ,(Zcq hq).1],by simpa using (Zcq hq).2⟩
theorem yof (j:Nat) (es:List Nat) {x y:Operand} {b k n:Nat} {T:TypeId} {A:Array Value} {C:List Value} {v:Value} (E:Bx (St W s2 w)) (h:∀ w',Bx (St W s w')→Bx (St W s3 w')→∀ a,Fr N a l→K a w')
  (hi:ops[i]? = some oi:=by exact rfl) (ho:OpE oi (.store t x y):=by exact ⟨rfl,rfl,rfl⟩) (hx:evO l x=some (.pointer (some ⟨b,k,none⟩)):=by exact rfl) (hy:evO l y=some v:=by exact rfl) (hs:Xh P t=true:=by kernel_rfl) (hj:s2[j]? = some (boxA b n T (.agg A)):=by exact rfl) (hv:v.oneCell'=true:=by exact rfl) (hC:Zi0 A.toList k v=some C:=by exact rfl) (h3:setO s2 j (boxA b n T (.agg C.toArray))=some s3:=by exact rfl) (he:erL es s3=some s:=by exact rfl):∀ a,Fr N a l→wpOp P ops Q i (fun a' w'=>St W s w'∧K a' w') a w:=fun a hF=>by
 obtain ⟨Z⟩:=A;obtain ⟨e,hk⟩:=Zcq hC;refine Zkw hi ho.hg ho.ho ho.hd (hF.ev hx) (hF.ev hy) hs E.o j hj (Nat.ble_eq_true_of_le hk) hv fun w' h2=>?_;rw [List.setIfInBounds_toArray,show Z.set k v=C from e,Zbc h3] at h2;exact ⟨h2.erS es he,h w' ⟨h2.erS es he⟩ ⟨h2⟩ a hF⟩
theorem yoa (Z:List Value) (E:Bx (St W s w)) (U:Bx (St W s2 w)) (h:∀ w' b,Bx (St W s w')→Bx (St W (boxA b Z.length t (.agg Z.toArray)::s2) w')→∀ a,Fr N a ((d,.pointer (some ⟨b,0,none⟩))::l)→K a w')
  (hi:ops[i]? = some oi:=by exact rfl) (ho:OpI N oi (.alloc t) d:=by exact ⟨rfl,rfl,rfl,rfl⟩) (hZ:Zgf P t=some Z:=by kernel_rfl) (h1:(Z.all fun u=>u.oneCell')=true:=by exact rfl):∀ a,Fr N a l→wpOp P ops Q i (fun a' w'=>St W s w'∧K a' w') a w:=fun _ hF =>
 ZlH hi ho.hg hF ho.ho ho.hd ho.hn hZ h1 U.o E.o fun a' w' b h1 h2 h3=>⟨h3,h w' b ⟨h3⟩ ⟨h2⟩ a' h1⟩
theorem yoe (e size:Nat) (E:Bx (St W s w)) (U:Bx (St W s2 w)) (h:∀ w' b,Bx (St W s w')→Bx (St W s2 w')→∀ a,Fr N a ((d,.slice (some ⟨b,0,none⟩) 0 0)::l)→K a w')
  (hi:ops[i]? = some oi:=by exact rfl) (ho:OpI N oi (.buildSlice t 0 #[]) d:=by exact ⟨rfl,rfl,rfl,rfl⟩) (hu:Yu P t=some (e,size):=by kernel_rfl):∀ a,Fr N a l→wpOp P ops Q i (fun a' w'=>St W s w'∧K a' w') a w:=fun _ hF =>
 ZlK hi ho.hg hF ho.ho ho.hd ho.hn hu U.o E.o fun a' w' b h1 h2 h3=>⟨h3,h w' b ⟨h3⟩ ⟨h2⟩ a' h1⟩
theorem yoy {v:Value} (E:Bx (St W s w)) (hy:∀ a,Fr N a l→Yl P w oi a v) (h:∀ a,Fr N a ((d,v)::l)→K a w) (hi:ops[i]? = some oi:=by exact rfl) (hg:oi.guard=none:=by exact rfl) (hd:oi.dst=some d:=by exact rfl) (hN:Nat.blt d N=true:=by exact rfl):∀ a,Fr N a l→wpOp P ops Q i (fun a' w'=>St W s w'∧K a' w') a w:=fun a hF=>by
 refine ZdH hi hg ?_;unfold Oper.wp;rw [show (execOp a.eval oi).run P w=_ from hy a hF];exact (show St W s w∧K (a.put oi.dst v) w by rw [hd];exact ⟨E.o,h _ (hF.put (Nat.le_of_ble_eq_true hN) v)⟩)
theorem ysF (j:Nat) {x y:Operand} {b k n:Nat} {T:TypeId} {A:Array Value} {C:List Value} {v:Value} (E:Bx (St W s w)) (h:∀ w',Bx (St W s' w')→∀ a,Fr N a l→wpList P ops Q rest a w')
  (ho:OpE o (.store t x y):=by exact ⟨rfl,rfl,rfl⟩) (hx:evO l x=some (.pointer (some ⟨b,k,none⟩)):=by exact rfl) (hy:evO l y=some v:=by exact rfl) (hs:Xh P t=true:=by kernel_rfl) (hj:s[j]? = some (boxA b n T (.agg A)):=by exact rfl) (hv:v.oneCell'=true:=by exact rfl) (hC:Zi0 A.toList k v=some C:=by exact rfl) (h3:setO s j (boxA b n T (.agg C.toArray))=some s':=by exact rfl):∀ a,Fr N a l→wpList P ops Q (o::rest) a w:=fun a hF=>by
 obtain ⟨Z⟩:=A;obtain ⟨e,hk⟩:=Zcq hC;refine ZS ho.hg ho.ho ho.hd (hF.ev hx) (hF.ev hy) hs E.o j hj (Nat.ble_eq_true_of_le hk) hv fun w' h2=>?_;rw [List.setIfInBounds_toArray,show Z.set k v=C from e,Zbc h3] at h2;exact h w' ⟨h2⟩ a hF
end
section
variable {P:Program} {ops:Array Oper} {Q:Exit→Act→World→Prop} {rest:List Oper} {o oi:Oper} {w W:World} {N:Nat} {l:List (Nat × Value)} {s:List Asr} {d b m:Nat} {t T:TypeId} {A:Array Value} {v:Value} {cs:List Value}
def ZdI {α:Type} (x:Option Nat) (y:Option α):Option (Nat × α):=match x with
 | some d=>match y with
  | some r=>some (d,r)
  | none=>none
 | none=>none
theorem Qj {α:Type} {x:Option Nat} {y:Option α} {d:Nat} {r:α} (h:ZdI x y=some (d,r)):x=some d∧y=some r:=by
 unfold ZdI at h
 split at h
 ·split at h
  ·obtain ⟨rfl,rfl⟩:=Prod.mk.inj (Option.some.inj h);exact ⟨rfl,rfl⟩
  ·cases h
 ·cases h
theorem Xl (i:Nat) (E:Bx (St W s w)) (hi:s[i]? = some (boxA b m T (.agg A))) (hc:ZdI (auD N ops l o) (ldS A l o.op)=some (d,t,b,v)) (h:∀ a,Fr N a ((d,v)::l)→wpList P ops Q rest a w) (hs:Xh P t=true:=by kernel_rfl):∀ a,Fr N a l→wpList P ops Q (o::rest) a w :=
 xy (Qj hc).1 (vc E.o i hi (Qj hc).2 hs) h
theorem Xw (i n:Nat) (E:Bx (St W s w)) (hi:s[i]? = some (boxA b m T (.agg A))) (hc:ZdI (auD N ops l o) (ldA n A l o.op)=some (d,t,b,cs)) (h:∀ a,Fr N a ((d,.agg cs.toArray)::l)→wpList P ops Q rest a w) (hs:QA P t n=true:=by kernel_rfl):∀ a,Fr N a l→wpList P ops Q (o::rest) a w :=
 xy (Qj hc).1 (vw E.o i n hi (Qj hc).2 hs) h
theorem Xf (j:Nat) {i k:Nat} (hc:ZdI (auD N ops l o) (faO l o.op)=some (d,t,i,b,k)) (h:∀ a,Fr N a ((d,.pointer (some ⟨b,k+j,none⟩))::l)→wpList P ops Q rest a w) (hj:UM P t i=some j:=by kernel_rfl):∀ a,Fr N a l→wpList P ops Q (o::rest) a w :=
 xy (Qj hc).1 (vf j (Qj hc).2 hj) h
theorem Ql (i:Nat) {Q:Act→Prop} (hi:s[i]? = some (boxA b m T (.agg A))) (hc:ZdI (auD N ops l o) (ldS A l o.op)=some (d,t,b,v)) (h:∀ a,Fr N a ((d,v)::l)→wpQuiet P ops (St W s) Q rest a) (hs:Xh P t=true:=by kernel_rfl):∀ a,Fr N a l→wpQuiet P ops (St W s) Q (o::rest) a :=
 xq (Qj hc).1 (fun E=>vc E i hi (Qj hc).2 hs) h
theorem Qw (i n:Nat) {Q:Act→Prop} (hi:s[i]? = some (boxA b m T (.agg A))) (hc:ZdI (auD N ops l o) (ldA n A l o.op)=some (d,t,b,cs)) (h:∀ a,Fr N a ((d,.agg cs.toArray)::l)→wpQuiet P ops (St W s) Q rest a) (hs:QA P t n=true:=by kernel_rfl):∀ a,Fr N a l→wpQuiet P ops (St W s) Q (o::rest) a :=
 xq (Qj hc).1 (fun E=>vw E i n hi (Qj hc).2 hs) h
theorem Qf (j:Nat) {i k:Nat} {Q:Act→Prop} (hc:ZdI (auD N ops l o) (faO l o.op)=some (d,t,i,b,k)) (h:∀ a,Fr N a ((d,.pointer (some ⟨b,k+j,none⟩))::l)→wpQuiet P ops (St W s) Q rest a) (hj:UM P t i=some j:=by kernel_rfl):∀ a,Fr N a l→wpQuiet P ops (St W s) Q (o::rest) a :=
 xq (Qj hc).1 (fun _=>vf j (Qj hc).2 hj) h
section
variable {fuel:Nat} {listed:Array Bool}
def opX {α:Type} (N:Nat) (ops:Array Oper) (l:List (Nat × Value)) (k:Nat) (f:Op→Option α):Option (Oper × Nat × α):=match ops[k]? with
 | some o=>match auD N ops l o with
  | some d=>match f o.op with
   | some r=>some (o,d,r)
   | none=>none
  | none=>none
 | none=>none
theorem Um {α:Type} {k:Nat} {f:Op→Option α} {r:α} (h:opX N ops l k f=some (oi,d,r)):ops[k]? = some oi∧auD N ops l oi=some d∧f oi.op=some r:=by
 unfold opX at h
 split at h
 ·rename_i h1
  split at h
  ·rename_i h2
   split at h
   ·rename_i h3
    simp only [Option.some.injEq,Prod.mk.injEq] at h;obtain ⟨rfl,rfl,rfl⟩:=h;exact ⟨h1,h2,h3⟩
   ·cases h
  ·cases h
 ·cases h
theorem Hp (k:Nat) (E:Bx (St W s w)) (hc:opX N ops l k (auV l)=some (oi,d,v)) (h:∀ a,Fr N a ((d,v)::l)→wpAnyH P .any ops Q (St W s) fuel (listed.setIfInBounds k true) a w) (hs:Region.noSelect ops=true:=by kernel_rfl) (hf:Region.free .any ops listed k=true:=by kernel_rfl) (hr:(Region.ready .any ops listed).contains k=true:=by kernel_rfl) (hQ:∀ c a w,Q (.panic c) (a.put oi.dst v) w→Q (.panic c) a w:=by exact fun _ _ _ h=>h):∀ a,Fr N a l→wpAnyH P .any ops Q (St W s) (fuel+1) listed a w :=
 xh k E.o (Um hc).1 (Um hc).2.1 (Um hc).2.2 h hs hf hr hQ
theorem Hl (k i:Nat) (E:Bx (St W s w)) (hi:s[i]? = some (boxA b m T (.agg A))) (hc:opX N ops l k (ldS A l)=some (oi,d,t,b,v)) (h:∀ a,Fr N a ((d,v)::l)→wpAnyH P .any ops Q (St W s) fuel (listed.setIfInBounds k true) a w) (ht:Xh P t=true:=by kernel_rfl) (hs:Region.noSelect ops=true:=by kernel_rfl) (hf:Region.free .any ops listed k=true:=by kernel_rfl) (hr:(Region.ready .any ops listed).contains k=true:=by kernel_rfl) (hQ:∀ c a w,Q (.panic c) (a.put oi.dst v) w→Q (.panic c) a w:=by exact fun _ _ _ h=>h):∀ a,Fr N a l→wpAnyH P .any ops Q (St W s) (fuel+1) listed a w :=
 xhy k E.o (Um hc).1 (Um hc).2.1 (fun E=>vc E i hi (Um hc).2.2 ht) h hs hf hr hQ
theorem Hw (k i n:Nat) (E:Bx (St W s w)) (hi:s[i]? = some (boxA b m T (.agg A))) (hc:opX N ops l k (ldA n A l)=some (oi,d,t,b,cs)) (h:∀ a,Fr N a ((d,.agg cs.toArray)::l)→wpAnyH P .any ops Q (St W s) fuel (listed.setIfInBounds k true) a w) (ht:QA P t n=true:=by kernel_rfl) (hs:Region.noSelect ops=true:=by kernel_rfl) (hf:Region.free .any ops listed k=true:=by kernel_rfl) (hr:(Region.ready .any ops listed).contains k=true:=by kernel_rfl) (hQ:∀ c a w,Q (.panic c) (a.put oi.dst (.agg cs.toArray)) w→Q (.panic c) a w:=by exact fun _ _ _ h=>h):∀ a,Fr N a l→wpAnyH P .any ops Q (St W s) (fuel+1) listed a w :=
 xhy k E.o (Um hc).1 (Um hc).2.1 (fun E=>vw E i n hi (Um hc).2.2 ht) h hs hf hr hQ
theorem Hf (k j:Nat) {i f:Nat} (E:Bx (St W s w)) (hc:opX N ops l k (faO l)=some (oi,d,t,i,b,f)) (h:∀ a,Fr N a ((d,.pointer (some ⟨b,f+j,none⟩))::l)→wpAnyH P .any ops Q (St W s) fuel (listed.setIfInBounds k true) a w) (hj:UM P t i=some j:=by kernel_rfl) (hs:Region.noSelect ops=true:=by kernel_rfl) (hf:Region.free .any ops listed k=true:=by kernel_rfl) (hr:(Region.ready .any ops listed).contains k=true:=by kernel_rfl) (hQ:∀ c a w,Q (.panic c) (a.put oi.dst (.pointer (some ⟨b,f+j,none⟩))) w→Q (.panic c) a w:=by exact fun _ _ _ h=>h):∀ a,Fr N a l→wpAnyH P .any ops Q (St W s) (fuel+1) listed a w :=
 xhy k E.o (Um hc).1 (Um hc).2.1 (fun _=>vf j (Um hc).2.2 hj) h hs hf hr hQ
end
theorem xcd {G:Act→Prop} (k:Nat) {p:Prop} [Decidable p] (hk:lk l k=some (.bool (decide p))) (h1:decide p=true→p→∀ a,Fr N a ((k,.bool true)::l)→G a) (h2:decide p=false→¬ p→∀ a,Fr N a ((k,.bool false)::l)→G a):∀ a,Fr N a l→G a:=xcs k hk (fun c=>h1 c (of_decide_eq_true c)) fun c=>h2 c (of_decide_eq_false c)
theorem xce {G:Act→Prop} (k:Nat) {α:Type} [BEq α] [LawfulBEq α] {x y:α} (hk:lk l k=some (.bool (x == y))) (h1:(x == y)=true→x=y→∀ a,Fr N a ((k,.bool true)::l)→G a) (h2:(x == y)=false→x≠y→∀ a,Fr N a ((k,.bool false)::l)→G a):∀ a,Fr N a l→G a:=xcs k hk (fun c=>h1 c (eq_of_beq c)) fun c=>h2 c (ne_of_beq_false c)
theorem xcn {G:Act→Prop} (k:Nat) {α:Type} [BEq α] [LawfulBEq α] {x y:α} (hk:lk l k=some (.bool (x != y))) (h1:(x != y)=true→x≠y→∀ a,Fr N a ((k,.bool true)::l)→G a) (h2:(x != y)=false→x=y→∀ a,Fr N a ((k,.bool false)::l)→G a):∀ a,Fr N a l→G a:=xcs k hk (fun c=>h1 c (bne_iff_ne.1 c)) fun c=>h2 c (bne_eq_false_iff_eq.1 c)
end
inductive UZ (x:Asr):List Asr→List Asr→Prop
  | here (s:List Asr):UZ x (x::s) s
  | there {y:Asr} {s r:List Asr} (h:UZ x s r):UZ x (y::s) (y::r)
theorem UZ.hereB {b n n':Nat} {T:TypeId} {v v':Value} {s:List Asr} (h:n=n') (k:v=v'):UZ (boxA b n T v) (boxA b n' T v'::s) s:=by subst h k;exact UZ.here s
theorem UZ.hereR {α:Type} {enc:α→List Value} {size:Nat} {e:TypeId} {ao:Option Addr} {n n' c:Nat} {xs xs':List α} {s:List Asr} (h:n=n') (k:xs=xs'):UZ (Zd enc size e (.slice ao n c) xs) (Zd enc size e (.slice ao n' c) xs'::s) s:=by subst h k;exact UZ.here s
theorem UZ.perm {x:Asr} {s r:List Asr} (h:UZ x s r):s.Perm (x::r):=by
 induction h with
 | here s=>exact List.Perm.refl _
 | there _ ih=>exact (ih.cons _).trans (List.Perm.swap _ _ _)
inductive Jj:List Asr→List Asr→Prop
  | same (s:List Asr):Jj s s
  | keep {x:Asr} {s t:List Asr} (h:Jj s t):Jj (x::s) (x::t)
  | drop {x:Asr} {s t:List Asr} (h:Jj s t):Jj s (x::t)
theorem Jj.keepB {b n n':Nat} {T:TypeId} {v v':Value} {s t:List Asr} (h:n=n') (k:v=v') (i:Jj s t):Jj (boxA b n T v::s) (boxA b n' T v'::t):=by subst h k;exact i.keep
theorem Jj.keepR {α:Type} {enc:α→List Value} {size:Nat} {e:TypeId} {ao:Option Addr} {n n' c:Nat} {xs xs':List α} {s t:List Asr} (h:n=n') (k:xs=xs') (i:Jj s t):Jj (Zd enc size e (.slice ao n c) xs::s) (Zd enc size e (.slice ao n' c) xs'::t):=by subst h k;exact i.keep
theorem St.subA {W w:World} {s t:List Asr} (hs:Jj s t) (r:List Asr) (h:St W (r++t) w):St W (r++s) w:=by
 induction hs generalizing r with
 | same s=>exact h
 | @keep x s t _ ih=>rw [List.append_cons] at h ⊢;exact ih _ h
 | @drop x s t _ ih=>exact ih r ((h.perm List.perm_middle).tail)
inductive PmA:List Asr→List Asr→Prop
  | same (s:List Asr):PmA s s
  | cons {x:Asr} {s r t:List Asr} (h:UZ x s r) (k:PmA r t):PmA s (x::t)
theorem PmA.perm {s t:List Asr} (h:PmA s t):s.Perm t:=by
 induction h with
 | same s=>exact List.Perm.refl _
 | cons h _ ih=>exact h.perm.trans (ih.cons _)
inductive ZhL (b n:Nat) (T:TypeId) (v:Value):List Asr→List Asr→Prop
  | here {u:Value} {s:List Asr}:ZhL b n T v (boxA b n T u::s) (boxA b n T v::s)
  | there {y:Asr} {s r:List Asr} (h:ZhL b n T v s r):ZhL b n T v (y::s) (y::r)
theorem ZhL.is {b n:Nat} {T:TypeId} {v:Value} {s r:List Asr} (h:ZhL b n T v s r):∃ j u,s[j]? = some (boxA b n T u)∧s.set j (boxA b n T v)=r:=by
 induction h with
 | @here u s=>exact ⟨0,u,rfl,rfl⟩
 | there _ ih=>obtain ⟨j,u,h1,h2⟩:=ih;exact ⟨j+1,u,by simpa using h1,by rw [List.set_cons_succ,h2]⟩
inductive ZlO (b k:Nat) (v:Value):List Asr→List Asr→Prop
  | here {n:Nat} {T:TypeId} {A:Array Value} {C:List Value} {s:List Asr} (h:Zi0 A.toList k v=some C):ZlO b k v (boxA b n T (.agg A)::s) (boxA b n T (.agg C.toArray)::s)
  | there {y:Asr} {s r:List Asr} (h:ZlO b k v s r):ZlO b k v (y::s) (y::r)
theorem ZlO.is {b k:Nat} {v:Value} {s r:List Asr} (h:ZlO b k v s r):∃ j n T A,s[j]? = some (boxA b n T (.agg A))∧k<A.size∧s.set j (boxA b n T (.agg (A.setIfInBounds k v)))=r:=by
 induction h with
 | @here n T A C s h =>
  obtain ⟨Z⟩:=A;obtain ⟨e,hk⟩:=Zcq h;exact ⟨0,n,T,_,rfl,hk,by rw [List.setIfInBounds_toArray,show Z.set k v=C from e];rfl⟩
 | there _ ih=>obtain ⟨j,n,T,A,h1,h2,h3⟩:=ih;exact ⟨j+1,n,T,A,by simpa using h1,h2,by rw [List.set_cons_succ,h3]⟩
def Bx.lk (x:Asr) {W w:World} {s r:List Asr} (h:Bx (St W s w)) (hl:UZ x s r:=by repeat (first|with_reducible exact UZ.here _|((with_reducible apply UZ.hereB) <;> exact rfl)|((with_reducible apply UZ.hereR) <;> exact rfl)|apply UZ.there)):Bx (St W (x::r) w):=⟨h.out.perm hl.perm⟩
def Bx.upd {W w w':World} {s s2:List Asr} (_:Bx (St W s w)) (h:Bx (St W s2 w')) (hs:Jj s s2:=by repeat (first|with_reducible exact Jj.same _|with_reducible refine Jj.keep ?_|((with_reducible apply Jj.keepB);exact rfl;exact rfl)|((with_reducible apply Jj.keepR);exact rfl;exact rfl)|refine Jj.drop ?_)):Bx (St W s w'):=⟨St.subA hs [] h.out⟩
theorem St.pmA {W w:World} {s t:List Asr} (h:St W s w) (hp:PmA s t:=by repeat (first|with_reducible exact PmA.same _|refine PmA.cons (by repeat (first|with_reducible exact UZ.here _|((with_reducible apply UZ.hereB) <;> exact rfl)|((with_reducible apply UZ.hereR) <;> exact rfl)|apply UZ.there)) ?_)):St W t w:=h.perm hp.perm
section
variable {P:Program} {ops:Array Oper} {Q:Exit→Act→World→Prop} {K:Act→World→Prop} {oi:Oper} {a:Act} {w W:World} {N:Nat} {l:List (Nat × Value)} {s s2 s3:List Asr} {d:Nat} {t:TypeId} {i:Nat} {fuel:Nat} {listed:Array Bool}
theorem YS {x y:Operand} {b n:Nat} {T:TypeId} {A:Array Value} (E:Bx (St W s2 w)) (h:∀ w',Bx (St W s w')→Bx (St W s3 w')→∀ a,Fr N a l→K a w')
  (hi:ops[i]? = some oi:=by exact rfl) (ho:OpE oi (.store t x y):=by exact ⟨rfl,rfl,rfl⟩) (hx:evO l x=some (.pointer (some ⟨b,0,none⟩)):=by exact rfl) (hy:evO l y=some (.agg A):=by exact rfl) (hj:ZhL b n T (.agg A) s2 s3:=by repeat (first|with_reducible exact ZhL.here|apply ZhL.there)) (he:Jj s s3:=by repeat (first|with_reducible exact Jj.same _|with_reducible refine Jj.keep ?_|((with_reducible apply Jj.keepB);exact rfl;exact rfl)|((with_reducible apply Jj.keepR);exact rfl;exact rfl)|refine Jj.drop ?_)) (h1:(A.toList.all fun u=>u.oneCell')=true:=by exact rfl) (hl:A.toList.length=n:=by exact rfl) (hn:QA P t n=true:=by kernel_rfl):∀ a,Fr N a l→wpOp P ops Q i (fun a' w'=>St W s w'∧K a' w') a w:=fun a hF=>by
 obtain ⟨Z⟩:=A;obtain ⟨j,u,h5,h6⟩:=hj.is;refine X4 hi ho.hg ho.ho ho.hd (hF.ev hx) (hF.ev hy) E.o j h5 (Z0 Z h1 hl) hn fun w' h2=>?_;rw [h6] at h2;exact ⟨St.subA he [] h2,h w' ⟨St.subA he [] h2⟩ ⟨h2⟩ a hF⟩
end
inductive PdA:List Asr→List Asr→Prop
  | done {s t:List Asr} (h:Jj t s):PdA s t
  | cons {x:Asr} {s r t:List Asr} (h:UZ x s r) (k:PdA r t):PdA s (x::t)
section
variable {P:Program} {ops:Array Oper} {Q:Exit→Act→World→Prop} {a:Act} {w W:World} {s:List Asr} {fuel:Nat} {listed:Array Bool}
theorem rdy {N:Nat} {l:List (Nat × Value)} (k:Nat) (h:∀ a,Fr N a l→wpAnyH P .any ops Q (St W s) fuel listed a w) (_:(Region.ready .any ops listed).contains k=true:=by decide +kernel):∀ a,Fr N a l→wpAnyH P .any ops Q (St W s) fuel listed a w:=h
theorem Zpy {N:Nat} {l:List (Nat × Value)} {m:List Nat} (hr:Region.ready .any ops listed=m) (hm:m≠[]) (h:∀ j ∈ m,∀ a,Fr N a l→ZfW P ops Q W s fuel listed j a w):∀ a,Fr N a l→wpAnyH P .any ops Q (St W s) (fuel+1) listed a w:=fun a hF=>wpAnyH_all hr hm fun j hj=>h j hj a hF
section
variable {N:Nat} {l:List (Nat × Value)}
theorem Qg (i:Nat) (h:∀ a,Fr N a l→ZfW P ops Q W s fuel listed i a w) (hr:Region.ready .any ops listed=[i]:=by decide +kernel):∀ a,Fr N a l→wpAnyH P .any ops Q (St W s) (fuel+1) listed a w:=ZI i h hr
theorem QB (i k:Nat) (h:∀ a,Fr N a l→ZfW P ops Q W s fuel listed i a w) (h':∀ a,Fr N a l→ZfW P ops Q W s fuel listed k a w) (hr:Region.ready .any ops listed=[i,k]:=by decide +kernel):∀ a,Fr N a l→wpAnyH P .any ops Q (St W s) (fuel+1) listed a w:=Zdb i k h h' hr
theorem Zcr (i k m:Nat) (h:∀ a,Fr N a l→ZfW P ops Q W s fuel listed i a w) (h':∀ a,Fr N a l→ZfW P ops Q W s fuel listed k a w) (h'':∀ a,Fr N a l→ZfW P ops Q W s fuel listed m a w) (hr:Region.ready .any ops listed=[i,k,m]:=by decide +kernel):∀ a,Fr N a l→wpAnyH P .any ops Q (St W s) (fuel+1) listed a w:=Zpy hr (by simp) fun j hj=>by
 rcases (by simpa using hj:j=i∨j=k∨j=m) with rfl|rfl|rfl
 ·exact h
 ·exact h'
 ·exact h''
end
theorem gdn {N:Nat} {l:List (Nat × Value)} (h:∀ a,Fr N a l→Q .normal a w) (hr:Region.ready .any ops listed=[]:=by decide +kernel):∀ a,Fr N a l→wpAnyH P .any ops Q (St W s) fuel listed a w:=hdn h hr
end
theorem upG {W w:World} {s s2:List Asr} {G:Prop} (h:Bx (St W s2 w)) (k:Bx (St W s w)→G) (hs:Jj s s2:=by repeat (first|with_reducible exact Jj.same _|with_reducible refine Jj.keep ?_|((with_reducible apply Jj.keepB);exact rfl;exact rfl)|((with_reducible apply Jj.keepR);exact rfl;exact rfl)|refine Jj.drop ?_)):St W s w∧G:=⟨St.subA hs [] h.out,k ⟨St.subA hs [] h.out⟩⟩
theorem onb {N:Nat} {l:List (Nat × Value)} {G:Prop} {K:Act→Prop} (h:G) (k:∀ a,Fr N a l→K a):∀ a,Fr N a l→G∧K a:=fun a hF=>⟨h,k a hF⟩
open Go.Shelf
def ZhM:Go.Shelf.Ren:=⟨fun|129=>174|171=>98|172=>159|205=>195|243=>133|244=>170|245=>171|246=>155|247=>180|279=>181|280=>182|281=>183|282=>184|283=>163|284=>164|285=>165|286=>166|287=>194|316=>169|317=>173|318=>175|319=>176|320=>177|321=>201|322=>202|337=>188|338=>189|n=>n,fun|0=>0|2=>2|3=>3|4=>4|5=>5|9=>9|20=>20|21=>21|37=>119|46=>192|51=>190|53=>181|75=>123|76=>124|80=>128|85=>197|127=>156|143=>217|145=>219|167=>196|168=>199|171=>180|173=>184|175=>205|210=>208|212=>189|213=>191|232=>212|233=>213|n=>n,fun|15=>2|16=>3|17=>0|18=>4|19=>5|n=>n⟩
theorem ZnI:Go.Proofs.Lays.n172 prog ZhM:={
 mixed:=by kernel_rfl
 f129:=Tryz.func174.trans (congrArg some (by kernel_rfl))
 f171:=Tryz.func98.trans (congrArg some (by kernel_rfl))
 f172:=Tryz.func159.trans (congrArg some (by kernel_rfl))
 f205:=Tryz.func195.trans (congrArg some (by kernel_rfl))
 f243:=Tryz.func133.trans (congrArg some (by kernel_rfl))
 f244:=Tryz.func170.trans (congrArg some (by kernel_rfl))
 f245:=Tryz.func171.trans (congrArg some (by kernel_rfl))
 f246:=Tryz.func155.trans (congrArg some (by kernel_rfl))
 f247:=Tryz.func180.trans (congrArg some (by kernel_rfl))
 f279:=Tryz.func181.trans (congrArg some (by kernel_rfl))
 f280:=Tryz.func182.trans (congrArg some (by kernel_rfl))
 f281:=Tryz.func183.trans (congrArg some (by kernel_rfl))
 f282:=Tryz.func184.trans (congrArg some (by kernel_rfl))
 f283:=Tryz.func163.trans (congrArg some (by kernel_rfl))
 f284:=Tryz.func164.trans (congrArg some (by kernel_rfl))
 f285:=Tryz.func165.trans (congrArg some (by kernel_rfl))
 f286:=Tryz.func166.trans (congrArg some (by kernel_rfl))
 f287:=Tryz.func194.trans (congrArg some (by kernel_rfl))
 f316:=Tryz.func169.trans (congrArg some (by kernel_rfl))
 f317:=Tryz.func173.trans (congrArg some (by kernel_rfl))
 f318:=Tryz.func175.trans (congrArg some (by kernel_rfl))
 f319:=Tryz.func176.trans (congrArg some (by kernel_rfl))
 f320:=Tryz.func177.trans (congrArg some (by kernel_rfl))
 f321:=Tryz.func201.trans (congrArg some (by kernel_rfl))
 f322:=Tryz.func202.trans (congrArg some (by kernel_rfl))
 f337:=Tryz.func188.trans (congrArg some (by kernel_rfl))
 f338:=Tryz.func189.trans (congrArg some (by kernel_rfl))
 t0:=Tryz.underlying0
 a0:=Tryz.isAgg0
 z0:=Tryz.sizeOf0
 v0:=Tryz.zeroValue0
 t2:=Tryz.underlying2
 a2:=Tryz.isAgg2
 z2:=Tryz.sizeOf2
 v2:=Tryz.zeroValue2
 t3:=Tryz.underlying3
 a3:=Tryz.isAgg3
 z3:=Tryz.sizeOf3
 v3:=Tryz.zeroValue3
 t4:=Tryz.underlying4
 a4:=Tryz.isAgg4
 z4:=Tryz.sizeOf4
 v4:=Tryz.zeroValue4
 t5:=Tryz.underlying5
 a5:=Tryz.isAgg5
 z5:=Tryz.sizeOf5
 v5:=Tryz.zeroValue5
 t9:=Tryz.underlying9
 a9:=Tryz.isAgg9
 z9:=Tryz.sizeOf9
 v9:=Tryz.zeroValue9
 t20:=Tryz.underlying20
 a20:=Tryz.isAgg20
 z20:=Tryz.sizeOf20
 v20:=Tryz.zeroValue20
 t21:=Tryz.underlying21
 a21:=Tryz.isAgg21
 z21:=Tryz.sizeOf21
 v21:=Tryz.zeroValue21
 t37:=Tryz.underlying119
 a37:=Tryz.isAgg119
 z37:=Tryz.sizeOf119
 v37:=Tryz.zeroValue119
 t46:=Tryz.underlying192
 a46:=Tryz.isAgg192
 z46:=Tryz.sizeOf192
 v46:=Tryz.zeroValue192
 t51:=Tryz.underlying190
 a51:=Tryz.isAgg190
 z51:=Tryz.sizeOf190
 v51:=Tryz.zeroValue190
 t53:=Tryz.underlying181
 a53:=Tryz.isAgg181
 z53:=Tryz.sizeOf181
 v53:=Tryz.zeroValue181
 t75:=Tryz.underlying123
 a75:=Tryz.isAgg123
 z75:=Tryz.sizeOf123
 v75:=Tryz.zeroValue123
 t76:=Tryz.underlying124
 a76:=Tryz.isAgg124
 z76:=Tryz.sizeOf124
 v76:=Tryz.zeroValue124
 t85:=Tryz.underlying197
 a85:=Tryz.isAgg197
 z85:=Tryz.sizeOf197
 v85:=Tryz.zeroValue197
 t127:=Tryz.underlying156
 a127:=Tryz.isAgg156
 z127:=Tryz.sizeOf156
 v127:=Tryz.zeroValue156
 t143:=Tryz.underlying217
 a143:=Tryz.isAgg217
 z143:=Tryz.sizeOf217
 v143:=Tryz.zeroValue217
 t145:=Tryz.underlying219
 a145:=Tryz.isAgg219
 z145:=Tryz.sizeOf219
 v145:=Tryz.zeroValue219
 t167:=Tryz.underlying196
 a167:=Tryz.isAgg196
 z167:=Tryz.sizeOf196
 v167:=Tryz.zeroValue196
 t168:=Tryz.underlying199
 a168:=Tryz.isAgg199
 z168:=Tryz.sizeOf199
 v168:=Tryz.zeroValue199
 t171:=Tryz.underlying180
 a171:=Tryz.isAgg180
 z171:=Tryz.sizeOf180
 v171:=Tryz.zeroValue180
 t173:=Tryz.underlying184
 a173:=Tryz.isAgg184
 z173:=Tryz.sizeOf184
 v173:=Tryz.zeroValue184
 t175:=Tryz.underlying205
 a175:=Tryz.isAgg205
 z175:=Tryz.sizeOf205
 v175:=Tryz.zeroValue205
 t210:=Tryz.underlying208
 a210:=Tryz.isAgg208
 z210:=Tryz.sizeOf208
 v210:=Tryz.zeroValue208
 t212:=Tryz.underlying189
 a212:=Tryz.isAgg189
 z212:=Tryz.sizeOf189
 v212:=Tryz.zeroValue189
 t213:=Tryz.underlying191
 a213:=Tryz.isAgg191
 z213:=Tryz.sizeOf191
 t232:=Tryz.underlying212
 a232:=Tryz.isAgg212
 z232:=Tryz.sizeOf212
 v232:=Tryz.zeroValue212
 t233:=Tryz.underlying213
 a233:=Tryz.isAgg213
 z233:=Tryz.sizeOf213
 v233:=Tryz.zeroValue213
 g15:=by kernel_rfl
 g16:=by kernel_rfl
 g17:=by kernel_rfl
 g18:=by kernel_rfl
 g19:=by kernel_rfl }
theorem ZlP:Go.Proofs.LaysC.n172 prog ZhM:={
 mixed:=by kernel_rfl
 f129:=Tryz.func174.trans (congrArg some (by kernel_rfl))
 f171:=Tryz.func98.trans (congrArg some (by kernel_rfl))
 f172:=Tryz.func159.trans (congrArg some (by kernel_rfl))
 f205:=Tryz.func195.trans (congrArg some (by kernel_rfl))
 f243:=Tryz.func133.trans (congrArg some (by kernel_rfl))
 f244:=Tryz.func170.trans (congrArg some (by kernel_rfl))
 f245:=Tryz.func171.trans (congrArg some (by kernel_rfl))
 f246:=Tryz.func155.trans (congrArg some (by kernel_rfl))
 f247:=Tryz.func180.trans (congrArg some (by kernel_rfl))
 f279:=Tryz.func181.trans (congrArg some (by kernel_rfl))
 f280:=Tryz.func182.trans (congrArg some (by kernel_rfl))
 f281:=Tryz.func183.trans (congrArg some (by kernel_rfl))
 f282:=Tryz.func184.trans (congrArg some (by kernel_rfl))
 f283:=Tryz.func163.trans (congrArg some (by kernel_rfl))
 f284:=Tryz.func164.trans (congrArg some (by kernel_rfl))
 f285:=Tryz.func165.trans (congrArg some (by kernel_rfl))
 f286:=Tryz.func166.trans (congrArg some (by kernel_rfl))
 f287:=Tryz.func194.trans (congrArg some (by kernel_rfl))
 f316:=Tryz.func169.trans (congrArg some (by kernel_rfl))
 f317:=Tryz.func173.trans (congrArg some (by kernel_rfl))
 f318:=Tryz.func175.trans (congrArg some (by kernel_rfl))
 f319:=Tryz.func176.trans (congrArg some (by kernel_rfl))
 f320:=Tryz.func177.trans (congrArg some (by kernel_rfl))
 f321:=Tryz.func201.trans (congrArg some (by kernel_rfl))
 f322:=Tryz.func202.trans (congrArg some (by kernel_rfl))
 f337:=Tryz.func188.trans (congrArg some (by kernel_rfl))
 f338:=Tryz.func189.trans (congrArg some (by kernel_rfl))
 t0:=Tryz.underlying0
 a0:=Tryz.isAgg0
 z0:=Tryz.sizeOf0
 v0:=Tryz.zeroValue0
 t2:=Tryz.underlying2
 a2:=Tryz.isAgg2
 z2:=Tryz.sizeOf2
 v2:=Tryz.zeroValue2
 t3:=Tryz.underlying3
 a3:=Tryz.isAgg3
 z3:=Tryz.sizeOf3
 v3:=Tryz.zeroValue3
 t4:=Tryz.underlying4
 a4:=Tryz.isAgg4
 z4:=Tryz.sizeOf4
 v4:=Tryz.zeroValue4
 t5:=Tryz.underlying5
 a5:=Tryz.isAgg5
 z5:=Tryz.sizeOf5
 v5:=Tryz.zeroValue5
 t9:=Tryz.underlying9
 a9:=Tryz.isAgg9
 z9:=Tryz.sizeOf9
 v9:=Tryz.zeroValue9
 t20:=Tryz.underlying20
 a20:=Tryz.isAgg20
 z20:=Tryz.sizeOf20
 v20:=Tryz.zeroValue20
 t21:=Tryz.underlying21
 a21:=Tryz.isAgg21
 z21:=Tryz.sizeOf21
 v21:=Tryz.zeroValue21
 t37:=Tryz.underlying119
 a37:=Tryz.isAgg119
 z37:=Tryz.sizeOf119
 v37:=Tryz.zeroValue119
 t46:=Tryz.underlying192
 a46:=Tryz.isAgg192
 z46:=Tryz.sizeOf192
 v46:=Tryz.zeroValue192
 t51:=Tryz.underlying190
 a51:=Tryz.isAgg190
 z51:=Tryz.sizeOf190
 v51:=Tryz.zeroValue190
 t53:=Tryz.underlying181
 a53:=Tryz.isAgg181
 z53:=Tryz.sizeOf181
 v53:=Tryz.zeroValue181
 t75:=Tryz.underlying123
 a75:=Tryz.isAgg123
 z75:=Tryz.sizeOf123
 v75:=Tryz.zeroValue123
 t76:=Tryz.underlying124
 a76:=Tryz.isAgg124
 z76:=Tryz.sizeOf124
 v76:=Tryz.zeroValue124
 t85:=Tryz.underlying197
 a85:=Tryz.isAgg197
 z85:=Tryz.sizeOf197
 v85:=Tryz.zeroValue197
 t127:=Tryz.underlying156
 a127:=Tryz.isAgg156
 z127:=Tryz.sizeOf156
 v127:=Tryz.zeroValue156
 t143:=Tryz.underlying217
 a143:=Tryz.isAgg217
 z143:=Tryz.sizeOf217
 v143:=Tryz.zeroValue217
 t145:=Tryz.underlying219
 a145:=Tryz.isAgg219
 z145:=Tryz.sizeOf219
 v145:=Tryz.zeroValue219
 t167:=Tryz.underlying196
 a167:=Tryz.isAgg196
 z167:=Tryz.sizeOf196
 v167:=Tryz.zeroValue196
 t168:=Tryz.underlying199
 a168:=Tryz.isAgg199
 z168:=Tryz.sizeOf199
 v168:=Tryz.zeroValue199
 t171:=Tryz.underlying180
 a171:=Tryz.isAgg180
 z171:=Tryz.sizeOf180
 v171:=Tryz.zeroValue180
 t173:=Tryz.underlying184
 a173:=Tryz.isAgg184
 z173:=Tryz.sizeOf184
 v173:=Tryz.zeroValue184
 t175:=Tryz.underlying205
 a175:=Tryz.isAgg205
 z175:=Tryz.sizeOf205
 v175:=Tryz.zeroValue205
 t210:=Tryz.underlying208
 a210:=Tryz.isAgg208
 z210:=Tryz.sizeOf208
 v210:=Tryz.zeroValue208
 t212:=Tryz.underlying189
 a212:=Tryz.isAgg189
 z212:=Tryz.sizeOf189
 v212:=Tryz.zeroValue189
 t213:=Tryz.underlying191
 a213:=Tryz.isAgg191
 z213:=Tryz.sizeOf191
 t232:=Tryz.underlying212
 a232:=Tryz.isAgg212
 z232:=Tryz.sizeOf212
 v232:=Tryz.zeroValue212
 t233:=Tryz.underlying213
 a233:=Tryz.isAgg213
 z233:=Tryz.sizeOf213
 v233:=Tryz.zeroValue213
 g15:=by kernel_rfl
 g16:=by kernel_rfl
 g17:=by kernel_rfl
 g18:=by kernel_rfl
 g19:=by kernel_rfl
 t80:=Tryz.underlying128
 a80:=Tryz.isAgg128
 z80:=Tryz.sizeOf128
 v80:=Tryz.zeroValue128
 i0:=by kernel_rfl
 i2:=by kernel_rfl
 i3:=by kernel_rfl
 i4:=by kernel_rfl
 i5:=by kernel_rfl
 i9:=by kernel_rfl
 i20:=by kernel_rfl
 i21:=by kernel_rfl
 i37:=by kernel_rfl
 i46:=by kernel_rfl
 i51:=by kernel_rfl
 i53:=by kernel_rfl
 i75:=by kernel_rfl
 i76:=by kernel_rfl
 i80:=by kernel_rfl
 i85:=by kernel_rfl
 i127:=by kernel_rfl
 i143:=by kernel_rfl
 i145:=by kernel_rfl
 i167:=by kernel_rfl
 i168:=by kernel_rfl
 i171:=by kernel_rfl
 i173:=by kernel_rfl
 i175:=by kernel_rfl
 i210:=by kernel_rfl
 i212:=by kernel_rfl
 i232:=by kernel_rfl
 i233:=by kernel_rfl
 m15:=by kernel_rfl
 m16:=by kernel_rfl
 m17:=by kernel_rfl
 m18:=by kernel_rfl
 m19:=by kernel_rfl
 c0:=by kernel_rfl
 c2:=by kernel_rfl
 c3:=by kernel_rfl
 c4:=by kernel_rfl
 c5:=by kernel_rfl
 c9:=by kernel_rfl
 c20:=by kernel_rfl
 c21:=by kernel_rfl
 c37:=by kernel_rfl
 c46:=by kernel_rfl
 c51:=by kernel_rfl
 c53:=by kernel_rfl
 c75:=by kernel_rfl
 c76:=by kernel_rfl
 c80:=by kernel_rfl
 c85:=by kernel_rfl
 c127:=by kernel_rfl
 c143:=by kernel_rfl
 c145:=by kernel_rfl
 c167:=by kernel_rfl
 c168:=by kernel_rfl
 c171:=by kernel_rfl
 c173:=by kernel_rfl
 c175:=by kernel_rfl
 c210:=by kernel_rfl
 c212:=by kernel_rfl
 c213:=by kernel_rfl
 c232:=by kernel_rfl
 c233:=by kernel_rfl }
def ZlQ:Go.Shelf.Ren:=⟨fun|129=>174|171=>98|243=>133|246=>155|283=>163|284=>164|285=>165|286=>166|317=>173|318=>175|319=>176|320=>177|337=>188|338=>189|n=>n,fun|0=>0|2=>2|3=>3|4=>4|5=>5|9=>9|20=>20|37=>119|46=>192|51=>190|53=>181|171=>180|173=>184|212=>189|213=>191|232=>212|233=>213|n=>n,fun|17=>0|18=>4|19=>5|n=>n⟩
theorem ZnJ:Go.Proofs.LaysM.n171 prog ZlQ:={
 mixed:=by kernel_rfl
 f129:=Tryz.func174.trans (congrArg some (by kernel_rfl))
 f171:=Tryz.func98.trans (congrArg some (by kernel_rfl))
 f243:=Tryz.func133.trans (congrArg some (by kernel_rfl))
 f246:=Tryz.func155.trans (congrArg some (by kernel_rfl))
 f283:=Tryz.func163.trans (congrArg some (by kernel_rfl))
 f284:=Tryz.func164.trans (congrArg some (by kernel_rfl))
 f285:=Tryz.func165.trans (congrArg some (by kernel_rfl))
 f286:=Tryz.func166.trans (congrArg some (by kernel_rfl))
 f317:=Tryz.func173.trans (congrArg some (by kernel_rfl))
 f318:=Tryz.func175.trans (congrArg some (by kernel_rfl))
 f319:=Tryz.func176.trans (congrArg some (by kernel_rfl))
 f320:=Tryz.func177.trans (congrArg some (by kernel_rfl))
 f337:=Tryz.func188.trans (congrArg some (by kernel_rfl))
 f338:=Tryz.func189.trans (congrArg some (by kernel_rfl))
 t0:=Tryz.underlying0
 a0:=Tryz.isAgg0
 z0:=Tryz.sizeOf0
 v0:=Tryz.zeroValue0
 t2:=Tryz.underlying2
 a2:=Tryz.isAgg2
 z2:=Tryz.sizeOf2
 v2:=Tryz.zeroValue2
 t3:=Tryz.underlying3
 a3:=Tryz.isAgg3
 z3:=Tryz.sizeOf3
 v3:=Tryz.zeroValue3
 t4:=Tryz.underlying4
 a4:=Tryz.isAgg4
 z4:=Tryz.sizeOf4
 v4:=Tryz.zeroValue4
 t5:=Tryz.underlying5
 a5:=Tryz.isAgg5
 z5:=Tryz.sizeOf5
 v5:=Tryz.zeroValue5
 t9:=Tryz.underlying9
 a9:=Tryz.isAgg9
 z9:=Tryz.sizeOf9
 v9:=Tryz.zeroValue9
 t20:=Tryz.underlying20
 a20:=Tryz.isAgg20
 z20:=Tryz.sizeOf20
 v20:=Tryz.zeroValue20
 t37:=Tryz.underlying119
 a37:=Tryz.isAgg119
 z37:=Tryz.sizeOf119
 v37:=Tryz.zeroValue119
 t46:=Tryz.underlying192
 a46:=Tryz.isAgg192
 z46:=Tryz.sizeOf192
 v46:=Tryz.zeroValue192
 t51:=Tryz.underlying190
 a51:=Tryz.isAgg190
 z51:=Tryz.sizeOf190
 v51:=Tryz.zeroValue190
 t53:=Tryz.underlying181
 a53:=Tryz.isAgg181
 z53:=Tryz.sizeOf181
 v53:=Tryz.zeroValue181
 t171:=Tryz.underlying180
 a171:=Tryz.isAgg180
 z171:=Tryz.sizeOf180
 v171:=Tryz.zeroValue180
 t173:=Tryz.underlying184
 a173:=Tryz.isAgg184
 z173:=Tryz.sizeOf184
 v173:=Tryz.zeroValue184
 t212:=Tryz.underlying189
 a212:=Tryz.isAgg189
 z212:=Tryz.sizeOf189
 v212:=Tryz.zeroValue189
 t213:=Tryz.underlying191
 a213:=Tryz.isAgg191
 z213:=Tryz.sizeOf191
 t232:=Tryz.underlying212
 a232:=Tryz.isAgg212
 z232:=Tryz.sizeOf212
 v232:=Tryz.zeroValue212
 t233:=Tryz.underlying213
 a233:=Tryz.isAgg213
 z233:=Tryz.sizeOf213
 v233:=Tryz.zeroValue213
 g17:=by kernel_rfl
 g18:=by kernel_rfl
 g19:=by kernel_rfl
 i0:=by kernel_rfl
 i2:=by kernel_rfl
 i3:=by kernel_rfl
 i4:=by kernel_rfl
 i5:=by kernel_rfl
 i9:=by kernel_rfl
 i20:=by kernel_rfl
 i37:=by kernel_rfl
 i46:=by kernel_rfl
 i51:=by kernel_rfl
 i53:=by kernel_rfl
 i171:=by kernel_rfl
 i173:=by kernel_rfl
 i212:=by kernel_rfl
 i232:=by kernel_rfl
 i233:=by kernel_rfl
 m17:=by kernel_rfl
 m18:=by kernel_rfl
 m19:=by kernel_rfl }
def Zbd:Go.Shelf.Ren:=⟨fun|156=>135|165=>156|166=>97|169=>101|240=>132|241=>167|276=>154|277=>178|n=>n,fun|0=>0|3=>3|4=>4|5=>5|9=>9|20=>20|31=>22|37=>119|70=>118|72=>121|75=>123|76=>124|80=>128|127=>156|164=>170|n=>n,fun|n=>n⟩
theorem ZjV:Go.Proofs.Builder.Extra prog Zbd:={
 sizeBuilder:=by kernel_rfl
 liesBuilder:=by kernel_rfl
 t5:=Tryz.underlying5
 a5:=Tryz.isAgg5
 z5:=Tryz.sizeOf5
 v5:=Tryz.zeroValue5
 infoByte:=by kernel_rfl
 cellsByte:=by kernel_rfl
 sizeByte:=by kernel_rfl
 neB5:=by decide }
theorem Zpa:Go.Proofs.Lays.n166 prog Zbd:={
 mixed:=by kernel_rfl
 f166:=Tryz.func97.trans (congrArg some (by kernel_rfl))
 f240:=Tryz.func132.trans (congrArg some (by kernel_rfl))
 f276:=Tryz.func154.trans (congrArg some (by kernel_rfl))
 t0:=Tryz.underlying0
 a0:=Tryz.isAgg0
 z0:=Tryz.sizeOf0
 v0:=Tryz.zeroValue0
 t3:=Tryz.underlying3
 a3:=Tryz.isAgg3
 z3:=Tryz.sizeOf3
 v3:=Tryz.zeroValue3
 t4:=Tryz.underlying4
 a4:=Tryz.isAgg4
 z4:=Tryz.sizeOf4
 v4:=Tryz.zeroValue4
 t9:=Tryz.underlying9
 a9:=Tryz.isAgg9
 z9:=Tryz.sizeOf9
 v9:=Tryz.zeroValue9
 t20:=Tryz.underlying20
 a20:=Tryz.isAgg20
 z20:=Tryz.sizeOf20
 v20:=Tryz.zeroValue20
 t37:=Tryz.underlying119
 a37:=Tryz.isAgg119
 z37:=Tryz.sizeOf119
 v37:=Tryz.zeroValue119
 t70:=Tryz.underlying118
 a70:=Tryz.isAgg118
 z70:=Tryz.sizeOf118
 v70:=Tryz.zeroValue118
 t72:=Tryz.underlying121
 a72:=Tryz.isAgg121
 z72:=Tryz.sizeOf121
 v72:=Tryz.zeroValue121
 t75:=Tryz.underlying123
 a75:=Tryz.isAgg123
 z75:=Tryz.sizeOf123
 v75:=Tryz.zeroValue123
 t164:=Tryz.underlying170
 a164:=Tryz.isAgg170
 z164:=Tryz.sizeOf170
 v164:=Tryz.zeroValue170 }
theorem Zpb:Go.Proofs.Lays.n169 prog Zbd:={
 mixed:=by kernel_rfl
 f169:=Tryz.func101.trans (congrArg some (by kernel_rfl))
 t0:=Tryz.underlying0
 a0:=Tryz.isAgg0
 z0:=Tryz.sizeOf0
 v0:=Tryz.zeroValue0
 t3:=Tryz.underlying3
 a3:=Tryz.isAgg3
 z3:=Tryz.sizeOf3
 v3:=Tryz.zeroValue3
 t9:=Tryz.underlying9
 a9:=Tryz.isAgg9
 z9:=Tryz.sizeOf9
 v9:=Tryz.zeroValue9
 t37:=Tryz.underlying119
 a37:=Tryz.isAgg119
 z37:=Tryz.sizeOf119
 v37:=Tryz.zeroValue119
 t70:=Tryz.underlying118
 a70:=Tryz.isAgg118
 z70:=Tryz.sizeOf118
 v70:=Tryz.zeroValue118
 t72:=Tryz.underlying121
 a72:=Tryz.isAgg121
 z72:=Tryz.sizeOf121
 v72:=Tryz.zeroValue121
 t127:=Tryz.underlying156
 a127:=Tryz.isAgg156
 z127:=Tryz.sizeOf156
 v127:=Tryz.zeroValue156 }
theorem ZjW:Go.Proofs.Lays.n156 prog Zbd:={
 mixed:=by kernel_rfl
 f156:=Tryz.func135.trans (congrArg some (by kernel_rfl))
 f165:=Tryz.func156.trans (congrArg some (by kernel_rfl))
 f166:=Tryz.func97.trans (congrArg some (by kernel_rfl))
 f169:=Tryz.func101.trans (congrArg some (by kernel_rfl))
 f240:=Tryz.func132.trans (congrArg some (by kernel_rfl))
 f241:=Tryz.func167.trans (congrArg some (by kernel_rfl))
 f276:=Tryz.func154.trans (congrArg some (by kernel_rfl))
 f277:=Tryz.func178.trans (congrArg some (by kernel_rfl))
 t0:=Tryz.underlying0
 a0:=Tryz.isAgg0
 z0:=Tryz.sizeOf0
 v0:=Tryz.zeroValue0
 t3:=Tryz.underlying3
 a3:=Tryz.isAgg3
 z3:=Tryz.sizeOf3
 v3:=Tryz.zeroValue3
 t4:=Tryz.underlying4
 a4:=Tryz.isAgg4
 z4:=Tryz.sizeOf4
 v4:=Tryz.zeroValue4
 t9:=Tryz.underlying9
 a9:=Tryz.isAgg9
 z9:=Tryz.sizeOf9
 v9:=Tryz.zeroValue9
 t20:=Tryz.underlying20
 a20:=Tryz.isAgg20
 z20:=Tryz.sizeOf20
 v20:=Tryz.zeroValue20
 t31:=Tryz.underlying22
 a31:=Tryz.isAgg22
 z31:=Tryz.sizeOf22
 v31:=Tryz.zeroValue22
 t37:=Tryz.underlying119
 a37:=Tryz.isAgg119
 z37:=Tryz.sizeOf119
 v37:=Tryz.zeroValue119
 t70:=Tryz.underlying118
 a70:=Tryz.isAgg118
 z70:=Tryz.sizeOf118
 v70:=Tryz.zeroValue118
 t72:=Tryz.underlying121
 a72:=Tryz.isAgg121
 z72:=Tryz.sizeOf121
 v72:=Tryz.zeroValue121
 t75:=Tryz.underlying123
 a75:=Tryz.isAgg123
 z75:=Tryz.sizeOf123
 v75:=Tryz.zeroValue123
 t76:=Tryz.underlying124
 a76:=Tryz.isAgg124
 z76:=Tryz.sizeOf124
 v76:=Tryz.zeroValue124
 t127:=Tryz.underlying156
 a127:=Tryz.isAgg156
 z127:=Tryz.sizeOf156
 v127:=Tryz.zeroValue156
 t164:=Tryz.underlying170
 a164:=Tryz.isAgg170
 z164:=Tryz.sizeOf170
 v164:=Tryz.zeroValue170 }
def Zgk:Go.Shelf.Ren:=⟨fun|167=>99|240=>132|276=>154|n=>n,fun|0=>0|4=>4|5=>5|9=>9|20=>20|37=>119|70=>118|72=>121|75=>123|80=>128|164=>170|n=>n,fun|n=>n⟩
theorem ZoG:Go.Proofs.Builder.Extra prog Zgk:={
 sizeBuilder:=by kernel_rfl
 liesBuilder:=by kernel_rfl
 t5:=Tryz.underlying5
 a5:=Tryz.isAgg5
 z5:=Tryz.sizeOf5
 v5:=Tryz.zeroValue5
 infoByte:=by kernel_rfl
 cellsByte:=by kernel_rfl
 sizeByte:=by kernel_rfl
 neB5:=by decide }
theorem Zpc:Go.Proofs.Lays.n167 prog Zgk:={
 mixed:=by kernel_rfl
 f167:=Tryz.func99.trans (congrArg some (by kernel_rfl))
 f240:=Tryz.func132.trans (congrArg some (by kernel_rfl))
 f276:=Tryz.func154.trans (congrArg some (by kernel_rfl))
 t0:=Tryz.underlying0
 a0:=Tryz.isAgg0
 z0:=Tryz.sizeOf0
 v0:=Tryz.zeroValue0
 t4:=Tryz.underlying4
 a4:=Tryz.isAgg4
 z4:=Tryz.sizeOf4
 v4:=Tryz.zeroValue4
 t5:=Tryz.underlying5
 a5:=Tryz.isAgg5
 z5:=Tryz.sizeOf5
 v5:=Tryz.zeroValue5
 t9:=Tryz.underlying9
 a9:=Tryz.isAgg9
 z9:=Tryz.sizeOf9
 v9:=Tryz.zeroValue9
 t20:=Tryz.underlying20
 a20:=Tryz.isAgg20
 z20:=Tryz.sizeOf20
 v20:=Tryz.zeroValue20
 t37:=Tryz.underlying119
 a37:=Tryz.isAgg119
 z37:=Tryz.sizeOf119
 v37:=Tryz.zeroValue119
 t70:=Tryz.underlying118
 a70:=Tryz.isAgg118
 z70:=Tryz.sizeOf118
 v70:=Tryz.zeroValue118
 t72:=Tryz.underlying121
 a72:=Tryz.isAgg121
 z72:=Tryz.sizeOf121
 v72:=Tryz.zeroValue121
 t75:=Tryz.underlying123
 a75:=Tryz.isAgg123
 z75:=Tryz.sizeOf123
 v75:=Tryz.zeroValue123
 t164:=Tryz.underlying170
 a164:=Tryz.isAgg170
 z164:=Tryz.sizeOf170
 v164:=Tryz.zeroValue170 }
def Zky:Go.Shelf.Ren:=⟨fun|170=>100|n=>n,fun|0=>0|3=>3|5=>5|37=>119|70=>118|72=>121|n=>n,fun|n=>n⟩
theorem Zpd:Go.Proofs.Lays.n170 prog Zky:={
 mixed:=by kernel_rfl
 f170:=Tryz.func100.trans (congrArg some (by kernel_rfl))
 t0:=Tryz.underlying0
 a0:=Tryz.isAgg0
 z0:=Tryz.sizeOf0
 v0:=Tryz.zeroValue0
 t3:=Tryz.underlying3
 a3:=Tryz.isAgg3
 z3:=Tryz.sizeOf3
 v3:=Tryz.zeroValue3
 t37:=Tryz.underlying119
 a37:=Tryz.isAgg119
 z37:=Tryz.sizeOf119
 v37:=Tryz.zeroValue119
 t70:=Tryz.underlying118
 a70:=Tryz.isAgg118
 z70:=Tryz.sizeOf118
 v70:=Tryz.zeroValue118
 t72:=Tryz.underlying121
 a72:=Tryz.isAgg121
 z72:=Tryz.sizeOf121
 v72:=Tryz.zeroValue121 }
structure Zpe where
  aA:Int
  fText:ByteArray
structure Zox where
  fCells:List ByteArray
  fWaits:List Zpe
  ai:Bool
theorem Xc {a b:ByteArray} (h:a.data.toList=b.data.toList):a=b:=by
 cases a;cases b
 congr
 exact Array.toList_inj.1 h
theorem Zg (a:ByteArray):a.size=a.data.toList.length:=by show a.data.size=_;rw [Array.length_toList]
theorem Y3 (a:ByteArray) (i j:Nat):(a.extract i j).data.toList=(a.data.toList.drop i).take (j - i):=by
 rw [ByteArray.data_extract,Array.toList_extract,List.extract_eq_take_drop]
theorem Z3 (a b:ByteArray):(a++b).data.toList=a.data.toList++b.data.toList:=by simp
theorem ZlR (a:ByteArray) (i:Nat):a.get! i=a.data.toList.getD i 0:=by
 cases a with|mk d =>
 show d[i]! = d.toList.getD i 0;rw [List.getD_eq_getElem?_getD,Array.getElem?_toList]
 cases h:d[i]? <;> simp [getElem!_def,h] <;> rfl
def Za.zero:Za:={ af:=[],aa:={ ab:=[],ag:=[] },aq:=0,ai:=[],ar:=0,aj:=[],au:=false }
theorem Jb (w:World) (B B1:Nat):Za.Own w B B1 (.agg #[.slice none 0 0,.slice none 0 0,.slice none 0 0,.int .i64 0,.slice none 0 0,.int .i64 0,.slice none 0 0,.bool false]) Za.zero :=
 ⟨none,0,none,0,none,0,none,0,none,0,rfl,RowO.empty _ _ _ _ _ _ _,RowO.empty _ _ _ _ _ _ _,RowO.empty _ _ _ _ _ _ _,RowO.empty _ _ _ _ _ _ _,RowO.empty _ _ _ _ _ _ _,.inl rfl,.inl rfl,.inl rfl,.inl rfl,.inl rfl,.inl rfl,.inl rfl,.inl rfl,.inl rfl,.inl rfl⟩
def Zau (s:ByteArray):Nat→Int × Int
 | 0=>(1,0)
 | k+1=>(((Zau s k).1+((s.get! k).toNat:Int)+1) % 9973,((Zau s k).2+((Zau s k).1+((s.get! k).toNat:Int)+1) % 9973) % 9973)
def U8 (s:ByteArray):Int:=(Zau s s.size).1*9973+(Zau s s.size).2
theorem ZgW (s:ByteArray) (k:Nat):0≤(Zau s k).1∧(Zau s k).1<9973∧0≤(Zau s k).2∧(Zau s k).2<9973:=by
 cases k with
 | zero=>simp [Zau]
 | succ k=>unfold Zau;dsimp only;omega
theorem ZlS (s:ByteArray):0≤U8 s∧U8 s≤99460728:=by
 have:=ZgW s s.size;unfold U8;omega
theorem Zei (s:ByteArray) (k:Nat):(0:Int)≤((s.get! k).toNat:Int)∧((s.get! k).toNat:Int)≤255:=by
 have:=(s.get! k).toNat_lt
 omega
def ZF (p:Nat→Bool):Nat→Nat→Nat
 | 0,k=>k
 | f+1,k=>if p k then k else ZF p f (k+1)
theorem ZbN {p:Nat→Bool} {f k:Nat} (h:p k=true):ZF p (f+1) k=k:=by simp [ZF,h]
theorem Vw {p:Nat→Bool} {f k:Nat} (h:p k=false):ZF p (f+1) k=ZF p f (k+1):=by simp [ZF,h]
theorem Jc (p:Nat→Bool) (f k:Nat):k≤ZF p f k∧ZF p f k≤k+f:=by
 induction f generalizing k with
 | zero=>simp [ZF]
 | succ f ih =>
  unfold ZF
  split
  ·omega
  ·have:=ih (k+1);omega
theorem ZeK (p:Nat→Bool) (f k:Nat) (h:ZF p f k<k+f):p (ZF p f k)=true:=by
 induction f generalizing k with
 | zero=>simp [ZF] at h
 | succ f ih =>
  unfold ZF at h ⊢
  split
  ·assumption
  ·rename_i hp
   rw [if_neg hp] at h;exact ih (k+1) (by omega)
theorem Zcs {p q:Nat→Bool} (f k:Nat) (h:∀ i,k≤i→i<k+f→p i=q i):ZF p f k=ZF q f k:=by
 induction f generalizing k with
 | zero=>rfl
 | succ f ih =>
  unfold ZF;rw [h k (Nat.le_refl _) (by omega),ih (k+1) (fun i h1 h2=>h i (by omega) (by omega))]
theorem ZhN {p:Nat→Bool} (n f k:Nat) (h:∀ i,k≤i→i<k+n→p i=false):ZF p (n+f) k=ZF p f (k+n):=by
 induction n generalizing k with
 | zero=>simp
 | succ n ih =>
  rw [show n+1+f=(n+f)+1 by omega,Vw (h k (Nat.le_refl _) (by omega)),ih (k+1) (fun i h1 h2=>h i (by omega) (by omega)),show k+1+n=k+(n+1) by omega]
def X5 (at_ birth level:Int) (text:ByteArray):PtrD:={ aA:=at_,ah:=birth,al:=text.size,ax:=U8 text,ak:=level }
def PtrD.zero:PtrD:={ aA:=0,ah:=0,al:=0,ax:=0,ak:=0 }
def Xv (at_ birth level:Int) (text:ByteArray):Bool:=inB text.size 1 128 && (X5 at_ birth level text).ok
def Up (at_ birth level:Int) (text:ByteArray):PtrD:=if Xv at_ birth level text then X5 at_ birth level text else PtrD.zero
theorem Zct {a b l:Int} {s:ByteArray} (h:Xv a b l s=false):Up a b l s=PtrD.zero:=by unfold Up;rw [h];rfl
theorem Zbe {a b l:Int} {s:ByteArray} (h:Xv a b l s=true):Up a b l s=X5 a b l s:=by unfold Up;rw [h];rfl
def U9 (st:Za) (text:ByteArray) (i:Nat):Bool:=((st.af.getD i ByteArray.empty).toList == text.toList) && decide (st.aa.ag.getD i 0<st.aq) && decide (st.aa.ab.getD i 0<st.aq)
def ZgX (k:Nat):Int:=if k<64 then (k:Int) else -1
def ZbB (st:Za) (text:ByteArray):Int:=ZgX (ZF (U9 st text) 56 8)
def Zaz (s:Zp) (i:Nat):Bool:=s.ab.getD i 0 == 0
def Va (s:Zp):Int:=ZgX (ZF (Zaz s) 56 8)
theorem ZjX {k:Nat} (h:k<64):ZgX k=k:=by simp [ZgX,h]
theorem UB {p:Nat→Bool} {k:Nat} (hk:k<64) (hp:p k=false) {n:Nat} (h:ZF p 56 8=n) (hn:n=ZF p (64 - k) k):ZF p 56 8=ZF p (64 - (k+1)) (k+1):=by
 rw [h,hn,show 64 - k=(64 - (k+1))+1 by omega,Vw hp]
theorem Zbf {p:Nat→Bool} {k:Nat} (hk:k<64) (hp:p k=true) (h:ZF p 56 8=ZF p (64 - k) k):ZF p 56 8=k:=by
 rw [h,show 64 - k=(63 - k)+1 by omega,ZbN hp]
theorem Zcu {p:Nat→Bool} {k:Nat} (hk:k=64) (h:ZF p 56 8=ZF p (64 - k) k):ZF p 56 8=64:=by
 rw [h,hk];rfl
def inL (xs:List Int) (n:Int):Bool:=xs.any (· == n)
theorem ZlT {xs:List Int} {k:Nat} {n:Int} (hk:k<xs.length) (h:(xs.getD k 0 == n)=true):inL xs n=true:=by
 unfold inL;rw [List.any_eq_true];refine ⟨xs[k],List.getElem_mem hk,?_⟩
 simpa [List.getD,hk] using h
theorem ZlU {xs:List Int} {k:Nat} {n:Int} (hk:k<xs.length) (h:(xs.getD k 0 == n)=false) (hp:(xs.take k).any (· == n)=false):(xs.take (k+1)).any (· == n)=false:=by
 rw [List.take_succ_eq_append_getElem hk,List.any_append,hp]
 simpa [List.getD,hk] using h
theorem ZnK {xs:List Int} {k:Nat} {n:Int} (hk:¬ k<xs.length) (hp:(xs.take k).any (· == n)=false):inL xs n=false:=by
 rw [List.take_of_length_le (by omega)] at hp;exact hp
def QZ (st:Za) (text:ByteArray) (i:Nat):Bool:=decide (0<st.aa.ab.getD i 0) && ((st.af.getD i ByteArray.empty).toList == text.toList) && decide (st.aa.ag.getD i 0<st.aq) && decide (st.aa.ab.getD i 0<st.aq)
def X6 (st:Za) (i:Nat):Bool:=!decide (0<st.aa.ab.getD i 0)
def XG (st:Za) (text:ByteArray) (level:Int):Nat:=if st.au && (level == 0) then ZF (QZ st text) 64 0 else 64
def writeAt (st:Za) (text:ByteArray) (level:Int):Nat:=if XG st text level<64 then XG st text level else ZF (X6 st) 56 8
def Za.putAt (st:Za) (i:Nat) (rows:List ByteArray):Za:={ st with af:=rows,aa:={ ab:=st.aa.ab.set i (st.aa.ab.getD i 0+1),ag:=st.aa.ag.set i st.aq } }
theorem VY {p:Nat→Bool} {k:Nat} (hk:k<64) (hp:p k=false) (h:ZF p 64 0=ZF p (64 - k) k):ZF p 64 0=ZF p (64 - (k+1)) (k+1):=by
 rw [h,show 64 - k=(64 - (k+1))+1 by omega,Vw hp]
theorem Zi1 {p:Nat→Bool} {k:Nat} (hk:k<64) (hp:p k=true) (h:ZF p 64 0=ZF p (64 - k) k):ZF p 64 0=k:=by
 rw [h,show 64 - k=(63 - k)+1 by omega,ZbN hp]
theorem Zkz {p:Nat→Bool} {k:Nat} (hk:k=64) (h:ZF p 64 0=ZF p (64 - k) k):ZF p 64 0=64:=by
 rw [h,hk];rfl
def ZM (n:Nat):ByteArray:=⟨(Go.Lib.decDigits n).toArray⟩
theorem Yx (n:Nat):(ZM n).data.toList=Go.Lib.decDigits n:=rfl
theorem Zi2 {n:Nat} (h:n<10):ZM n=⟨#[UInt8.ofNat (48+n)]⟩:=by
 apply Xc;rw [Yx,Go.Lib.decDigits_one h]
theorem ZeL {n:Nat} (h:¬ n<10):ZM n=ZM (n / 10)++⟨#[UInt8.ofNat (48+n % 10)]⟩:=by
 apply Xc;rw [Z3,Yx,Yx,Go.Lib.decDigits,dif_neg h]
theorem Zi3 {n k:Nat} (h:n<10 ^ (k+1)):Go.Lib.nDigits n≤k+1:=by
 induction k generalizing n with
 | zero=>rw [Go.Lib.nDigits_small (by simpa using h)];exact Nat.le_refl _
 | succ k ih =>
  by_cases hs:n<10
  ·rw [Go.Lib.nDigits_small hs];omega
  ·have:=ih (n:=n / 10) (by rw [Nat.pow_succ] at h;omega)
   rw [Go.Lib.nDigits_big hs];omega
theorem Zgl {n:Nat}:(ZM n).size=Go.Lib.nDigits n:=by rw [Zg,Yx,Go.Lib.decDigits_length]
theorem Zbg {n k:Nat} (h:n<10 ^ (k+1)):(ZM n).size≤k+1:=by rw [Zgl];exact Zi3 h
theorem ZeM (n:Nat):1≤(ZM n).size:=by rw [Zgl];exact Go.Lib.nDigits_pos n
theorem Vb {n:Nat} (h:n≤9223372036854775807):(ZM n).size≤19:=Zbg (k:=18) (by omega)
def Zdc:ByteArray:=⟨#[58]⟩
def ZX (n:Int):ByteArray:=if 0≤n∧n≤999999999 then ZM n.toNat else ByteArray.empty
theorem XF {n:Int} (h0:0≤n) (h1:n≤999999999):ZX n=ZM n.toNat:=if_pos ⟨h0,h1⟩
theorem ZhO {n:Int} (h:¬ (0≤n∧n≤999999999)):ZX n=ByteArray.empty:=if_neg h
theorem YB (n:Int):(ZX n).size≤9:=by
 unfold ZX;split
 ·exact Zbg (k:=8) (by omega)
 ·exact Nat.zero_le _
def Yk (l:List ByteArray):ByteArray:=l.foldl (fun a s=>a++ZM s.size++Zdc++s) ByteArray.empty
theorem ZkA (l:List ByteArray) (s:ByteArray):Yk (l++[s])=Yk l++ZM s.size++Zdc++s:=by
 unfold Yk;rw [List.foldl_append];rfl
theorem ZkB (xs:List ByteArray) {k:Nat} (h:k<xs.length):xs.take (k+1)=xs.take k++[xs.getD k ByteArray.empty]:=by
 rw [List.take_add_one,List.getElem?_eq_getElem h];simp [List.getD,h]
theorem UC (xs:List ByteArray) {k:Nat} (h:k<xs.length):Yk (xs.take (k+1))=Yk (xs.take k)++ZM (xs.getD k ByteArray.empty).size++Zdc++xs.getD k ByteArray.empty:=by
 rw [ZkB xs h,ZkA]
theorem Z7 (a b:ByteArray):(a++b).size=a.size+b.size:=by rw [Zg,Z3,List.length_append,← Zg,← Zg]
theorem Zi4 (l:List ByteArray) (a:ByteArray):a.size≤(l.foldl (fun a s=>a++ZM s.size++Zdc++s) a).size:=by
 induction l generalizing a with
 | nil=>exact Nat.le_refl _
 | cons s l ih =>
  refine Nat.le_trans ?_ (ih _);rw [Z7,Z7,Z7];omega
theorem Zgm (xs:List ByteArray) (k:Nat):(Yk (xs.take k)).size≤(Yk xs).size:=by
 conv=>rhs;rw [← List.take_append_drop k xs]
 unfold Yk;rw [List.foldl_append];exact Zi4 _ _
theorem YT (xs:List ByteArray) {k:Nat} (h:k<xs.length):(xs.getD k ByteArray.empty).size<(Yk xs).size:=by
 refine Nat.lt_of_lt_of_le ?_ (Zgm xs (k+1));rw [UC xs h,Z7,Z7,Z7];have:Zdc.size=1:=rfl
 omega
def Yy (l:List ByteArray):ByteArray × Bool:=if l.length≤60∧(Yk l).size≤2048 then (Yk l,true) else (ByteArray.empty,false)
theorem Xo {l:List ByteArray} (h:l.length≤60) (hs:(Yk l).size≤2048):Yy l=(Yk l,true):=if_pos ⟨h,hs⟩
theorem UP {l:List ByteArray} (h:¬ l.length≤60):Yy l=(ByteArray.empty,false):=if_neg fun x=>h x.1
theorem ZbC {l:List ByteArray} {k:Nat} (hs:¬ (Yk (l.take k)).size≤2048):Yy l=(ByteArray.empty,false):=if_neg fun x=>hs (Nat.le_trans (Zgm l k) x.2)
theorem ZeN {l:List ByteArray} {k:Nat} (hk:k<l.length) (hs:¬ (l.getD k ByteArray.empty).size≤2048):Yy l=(ByteArray.empty,false):=if_neg fun x=>by have:=YT l hk;omega
def szs (xs:List ByteArray):Prop:=∀ k,(xs.getD k ByteArray.empty).size≤1099511627776
theorem Vc:szs []:=fun k=>by simp
theorem YO {x:ByteArray} {xs:List ByteArray} (h:x.size≤1099511627776) (hs:szs xs):szs (x::xs):=fun k=>by
 cases k with
 | zero=>simpa using h
 | succ k=>simpa using hs k
theorem Zcv {xs ys:List ByteArray} (hx:szs xs) (hy:szs ys):szs (xs++ys):=fun k=>by
 by_cases h:k<xs.length
 ·have:=hx k
  simp only [List.getD_eq_getElem?_getD] at this ⊢;rw [List.getElem?_append_left h];exact this
 ·have:=hy (k - xs.length)
  simp only [List.getD_eq_getElem?_getD] at this ⊢;rw [List.getElem?_append_right (by omega)];exact this
def Xq (w:World):Prop:=Go.Lib.TabIs prog w "internal/strconv.uint64pow10" .u64 Go.Lib.pow10Tab
theorem ZkC {P:Program} {w w':World} {n:String} {cs:Array Value} (h:w.var? P n=some cs) (hb:Below w.heap.size w w'):w'.var? P n=some cs:=by
 unfold World.var? at h ⊢
 cases hg:P.globalNamed n with
 | none=>rw [hg] at h;exact h
 | some g =>
  rw [hg] at h;simp only [Option.bind_some] at h ⊢;have hlt:g<w.heap.size:=by
   rcases Nat.lt_or_ge g w.heap.size with h'|h'
   ·exact h'
   ·simp [Array.getElem?_eq_none h'] at h
  rw [hb.block g hlt];exact h
theorem Xq.below {w w':World} (h:Xq w) (hb:Below w.heap.size w w'):Xq w':=ZkC h hb
theorem ZhP (n:Nat) (hn:n≤9223372036854775807) (w:World) (hT:Xq w):Calls prog 98 #[.int .i64 (n:Int)] w fun e w'=>e=.returned (.string (ZM n))∧Below w.heap.size w w':=by
 refine (Any.strconv_Itoa ZnJ (n:Int) (by omega) (by omega) w hT).mono ?_;rintro e w' ⟨rfl,k,os,rfl⟩;refine ⟨?_,Go.Lib.below_grow _ _ (Nat.le_refl _) _ _⟩;rw [Go.Lib.itoa,if_neg (by omega),Int.toNat_natCast];rfl
def Zpz (b:Nat) (l:List UInt8) (w:World) (f:List Nat):Prop :=
 ∃ p v,(p=Value.pointer none∨p=.pointer (some ⟨b,0,none⟩))∧w.heap[b]? = some (.cells #[p,v] 121 (0,0))∧w.ownsRowF 0 5 1 v l.length (Go.Lib.byteCells l)∧f=b::v.ownBlock.toList∧v.ownBlock≠some b
def bldA (b:Nat) (l:List UInt8):Asr:=⟨Zpz b l,by
 rintro w w' f _ hb ⟨p,v,hp,hh,⟨h1,h2⟩,rfl,hne⟩;refine ⟨p,v,hp,(hb b (List.mem_cons_self ..)).trans hh,⟨h1,?_⟩,rfl,hne⟩;rcases h2 with h2|⟨g,cap,cur,fz,rfl,h0,hg,rest⟩
 ·exact .inl h2
 ·exact .inr ⟨g,cap,cur,fz,rfl,h0,(hb g (List.mem_cons_of_mem _ (by simp [Value.ownBlock]))).trans hg,rest⟩⟩
theorem St.bldNew {W w:World} {b:Nat} {F:List Asr} (h:St W (boxA b 2 121 (.agg #[.pointer none,.slice none 0 0])::F) w):St W (bldA b []::F) w:=by
 refine h.imp fun f hf _ _=>?_;obtain ⟨rfl,cs,hc,_,_,hh⟩:=hf
 injection hc with hc
 rw [← hc] at hh;exact ⟨_,_,.inl rfl,hh,World.ownsRowF_nil w 0 _ 1,rfl,by simp [Value.ownBlock]⟩
theorem St.bldOf {W w:World} {b:Nat} {l:List UInt8} {F:List Asr} (h:St W (bldA b l::F) w):Go.Lib.IsBuilderF 121 5 W.heap.size b (Go.Lib.byteCells l) w:=by
 obtain ⟨f,⟨p,v,hp,hh,⟨h1,h2⟩,rfl,hne⟩,_,hb⟩:=h.first
 have hA:Go.Lib.BuilderAtF 121 5 W.heap.size b p (Go.Lib.byteCells l) w:=by
  refine ⟨(hb b (List.mem_cons_self ..)).1,v,hh,⟨?_,?_⟩,hne⟩
  ·rw [Nat.mul_one]
  ·rw [Go.Lib.byteCells_length]
   rcases h2 with h2|⟨g,cap,cur,fz,rfl,_,rest⟩
   ·exact .inl h2
   ·exact .inr ⟨g,cap,cur,fz,rfl,(hb g (List.mem_cons_of_mem _ (by simp [Value.ownBlock]))).1,rest⟩
 rcases hp with rfl|rfl
 ·exact .inl hA
 ·exact .inr hA
theorem St.bldMk {W w:World} {b:Nat} {l:List UInt8} (hw:Below W.heap.size W w) (h:Go.Lib.IsBuilderF 121 5 W.heap.size b (Go.Lib.byteCells l) w):St W [bldA b l] w:=by
 obtain ⟨p,hp,hB,v,hh,⟨h1,h2⟩,hne⟩:∃ p,(p=Value.pointer none∨p=.pointer (some ⟨b,0,none⟩))∧Go.Lib.BuilderAtF 121 5 W.heap.size b p (Go.Lib.byteCells l) w:=by
  rcases h with h|h
  ·exact ⟨_,.inl rfl,h⟩
  ·exact ⟨_,.inr rfl,h⟩
 rw [Go.Lib.byteCells_length] at h1 h2;have hlt:b<w.heap.size:=by
  rcases Nat.lt_or_ge b w.heap.size with h'|h'
  ·exact h'
  ·simp [Array.getElem?_eq_none h'] at hh
 refine ⟨hw,b::v.ownBlock.toList,⟨b::v.ownBlock.toList,[],by simp,⟨p,v,hp,hh,⟨by rw [Go.Lib.byteCells_length];exact h1,?_⟩,rfl,hne⟩,rfl⟩,?_,?_⟩
 ·rcases h2 with h2|⟨g,cap,cur,fz,hv,_,rest⟩
  ·exact .inl h2
  ·exact .inr ⟨g,cap,cur,fz,hv,Nat.zero_le _,rest⟩
 ·cases hv:v.ownBlock with
  | none=>simp
  | some g=>rw [hv] at hne;simp;exact fun e=>hne (by rw [e])
 ·intro k hk
  rcases List.mem_cons.1 hk with rfl|hk
  ·exact ⟨hB,hlt⟩
  ·rcases h2 with ⟨rfl,_⟩|⟨g,cap,cur,fz,rfl,hg0,hg,_⟩
   ·simp [Value.ownBlock] at hk
   ·simp [Value.ownBlock] at hk
    subst hk;exact ⟨hg0,by
     rcases Nat.lt_or_ge k w.heap.size with h'|h'
     ·exact h'
     ·simp [Array.getElem?_eq_none h'] at hg⟩
theorem ZeO (w0 w:World) (b:Nat) (l:List UInt8) (s:ByteArray) (hl:l.length+s.size≤140737488355328) (hS:St w0 [bldA b l] w):Calls prog 97 #[.pointer (some ⟨b,0,none⟩),.string s] w fun e w'=>e=.returned (.tuple #[.int .i64 s.size,.nilIface])∧St w0 [bldA b (l++s.data.toList)] w':=by
 refine (Any.Builder_WriteString_f Zpa ZjV w0.heap.size b _ s w hS.bldOf (by rw [Go.Lib.byteCells_length];exact hl) hS.bel.size).mono ?_;rintro e w' ⟨rfl,h1,h2⟩;refine ⟨rfl,St.bldMk (hS.bel.trans h2) (.inr ?_)⟩;rw [Go.Lib.byteCells_append,← Go.Lib.strCells_eq];exact h1
theorem Zi5 (w0 w:World) (b:Nat) (l:List UInt8) (c:UInt8) (hl:l.length+1≤140737488355328) (hS:St w0 [bldA b l] w):Calls prog 99 #[.pointer (some ⟨b,0,none⟩),.int .u8 (c.toNat:Int)] w fun e w'=>e=.returned .nilIface∧St w0 [bldA b (l++[c])] w':=by
 refine (Any.Builder_WriteByte_k Zpc ZoG w0.heap.size b _ (c.toNat:Int) w hS.bldOf (by rw [Go.Lib.byteCells_length];exact hl) hS.bel.size).mono ?_;rintro e w' ⟨rfl,h1,h2,_⟩;refine ⟨rfl,St.bldMk (hS.bel.trans h2) (.inr ?_)⟩;rw [Go.Lib.byteCells_append];exact h1
theorem Zi6 (w0 w:World) (b:Nat) (l:List UInt8) (hS:St w0 [bldA b l] w):Calls prog 100 #[.pointer (some ⟨b,0,none⟩)] w fun e w'=>e=.returned (.int .i64 (l.length:Int))∧Below w.heap.size w w':=by
 refine (Any.Builder_Len_f Zpd w0.heap.size b _ w hS.bldOf).mono ?_;rintro e w' ⟨rfl,rfl⟩;exact ⟨by rw [Go.Lib.byteCells_length],Below.refl _ _⟩
theorem Zi7 (w0 w:World) (b:Nat) (l:List UInt8) (hS:St w0 [bldA b l] w):Calls prog 101 #[.pointer (some ⟨b,0,none⟩)] w fun e w'=>e=.returned (.string ⟨l.toArray⟩)∧St w0 [bldA b l] w':=by
 refine (Any.Builder_String_any_f Zpb ZjV w0.heap.size b l w hS.bldOf hS.bel.size).mono ?_;rintro e w' ⟨rfl,h1,h2⟩;exact ⟨rfl,St.bldMk (hS.bel.trans h2) h1⟩
theorem ZgY (sep:List UInt8) (r:List (List UInt8)) (B:Nat) (h:∀ x ∈ r,x.length≤B):(Go.Lib.joinTail sep r).length≤r.length*(sep.length+B):=by
 induction r with
 | nil=>simp [Go.Lib.joinTail]
 | cons x r ih =>
  have h1:=ih fun y hy=>h y (List.mem_cons_of_mem _ hy)
  have h2:=h x (List.mem_cons_self ..);have e:Go.Lib.joinTail sep (x::r)=(sep++x)++Go.Lib.joinTail sep r:=by simp [Go.Lib.joinTail]
  rw [e,List.length_append,List.length_append,List.length_cons,Nat.succ_mul];omega
def JR (xs:List ByteArray) (sep:ByteArray):ByteArray:=⟨(Go.Lib.join (xs.map (·.data.toList)) sep.data.toList).toArray⟩
theorem ZeP (xs:List ByteArray) (sep:ByteArray) (h:szs xs):(JR xs sep).size≤xs.length*(sep.size+1099511627776):=by
 rw [Zg];show (Go.Lib.join (xs.map (·.data.toList)) sep.data.toList).length≤_
 cases xs with
 | nil=>simp [Go.Lib.join_nil]
 | cons x r =>
  rw [List.map_cons,Go.Lib.join_cons,List.length_append];have h0:=h 0;simp only [List.getD_cons_zero] at h0;have h1:=ZgY sep.data.toList (r.map (·.data.toList)) 1099511627776 fun y hy=>by
   obtain ⟨z,hz,rfl⟩:=List.mem_map.1 hy;obtain ⟨i,hi,rfl⟩:=List.getElem_of_mem hz;have:=h (i+1);rw [← Zg]
   simpa [List.getD,hi] using this
  rw [List.length_map] at h1;rw [List.length_cons,Nat.succ_mul,Zg sep,← Zg x];omega
theorem ZhQ (a0:Option Addr) (n c:Nat) (xs:List ByteArray) (sep:ByteArray) (w:World) (hR:Rd Zt 1 w a0 n xs) (hc:xs.length≤c) (hN:xs.length≤100) (hx:szs xs) (hs:sep.size≤100) :
  Calls prog 135 #[.slice a0 n c,.string sep] w fun e w'=>e=.returned (.string (JR xs sep))∧Below w.heap.size w w':=by
 obtain rfl:=hR.len;have hz:=ZeP xs sep hx;rw [Zg] at hz;have hlen:(Go.Lib.join (xs.map (·.data.toList)) sep.data.toList).length≤140737488355328:=by
  refine Nat.le_trans hz ?_;refine Nat.le_trans (Nat.mul_le_mul hN (Nat.add_le_add_right hs _)) (by decide)
 by_cases h0:xs=[]
 ·subst h0
  refine (Any.strings_Join_none ZjW ZjV a0 c sep w).mono ?_;rintro e w' ⟨rfl,rfl⟩;exact ⟨rfl,Below.refl _ _⟩
 ·have hpos:0<xs.length:=List.length_pos_iff.2 h0
  obtain ⟨g,o,r⟩:=hR.opn;have ha:=r.ao 0 hpos;subst ha;have hbk:g<w.heap.size:=(r.at_ 0 (xs[0]'hpos) (List.getElem?_eq_getElem hpos)).1;exact Any.strings_Join ZjW ZjV g o c xs sep w (fun j x hx=>by have:=r.elem1 (St.start w) hx rfl;simpa using this) hbk (by omega) hc hlen
open Go.Lib
def splitL (c:UInt8):List UInt8→List (List UInt8)
 | []=>[[]]
 | b::t=>if b=c then []::splitL c t else match splitL c t with
  | h::r=>(b::h)::r
  | []=>[[b]]
theorem Zdd (c:UInt8) (l:List UInt8):∃ h r,splitL c l=h::r:=by
 cases l with
 | nil=>exact ⟨_,_,rfl⟩
 | cons b t =>
  unfold splitL
  split
  ·exact ⟨_,_,rfl⟩
  ·split
   ·exact ⟨_,_,rfl⟩
   ·exact ⟨_,_,rfl⟩
theorem Vx (c:UInt8) (t:List UInt8):splitL c (c::t)=[]::splitL c t:=by
 conv=>lhs;unfold splitL
 rw [if_pos rfl]
theorem QC {b c:UInt8} (t:List UInt8) (h:b≠c) {x:List UInt8} {r:List (List UInt8)} (hs:splitL c t=x::r):splitL c (b::t)=(b::x)::r:=by
 conv=>lhs;unfold splitL
 rw [if_neg h,hs]
theorem Vd (c:UInt8):∀ (l:List UInt8),(∀ x ∈ l,x≠c)→splitL c l=[l]
 | [],_=>rfl
 | b::t,h=>QC t (h b (List.mem_cons_self ..)) (Vd c t fun x hx=>h x (List.mem_cons_of_mem _ hx))
theorem VZ (c:UInt8) (b:List UInt8):∀ (a:List UInt8),(∀ x ∈ a,x≠c)→splitL c (a++c::b)=a::splitL c b
 | [],_=>Vx c b
 | x::a,h=>QC _ (h x (List.mem_cons_self ..)) (VZ c b a fun y hy=>h y (List.mem_cons_of_mem _ hy))
theorem ZbO (c:UInt8):∀ (l:List UInt8),(splitL c l).length=l.count c+1
 | []=>rfl
 | b::t=>by
  by_cases h:b=c
  ·subst h;rw [Vx,List.length_cons,ZbO b t,List.count_cons_self]
  ·obtain ⟨x,r,hs⟩:=Zdd c t
   have:=ZbO c t;rw [QC t h hs,List.length_cons,List.count_cons_of_ne h];rw [hs,List.length_cons] at this;exact this
theorem ZdJ (c:UInt8):∀ (l:List UInt8),Go.Lib.join (splitL c l) [c]=l
 | []=>rfl
 | b::t=>by
  obtain ⟨x,r,hs⟩:=Zdd c t;have ih:=ZdJ c t;rw [hs,Go.Lib.join_cons] at ih
  by_cases h:b=c
  ·subst h
   rw [Vx,hs,Go.Lib.join_cons];simp only [Go.Lib.joinTail,List.map_cons,List.flatten_cons,List.nil_append,List.cons_append] at ih ⊢;rw [ih]
  ·rw [QC t h hs,Go.Lib.join_cons,List.cons_append,ih]
theorem ZeQ (c:UInt8):∀ (l:List UInt8),Go.Lib.splitK [c] 0 (Go.Lib.count l [c]) l=splitL c l
 | []=>by
  rw [show Go.Lib.count [] [c]=0 from Go.Lib.count_one c []];rfl
 | b::t=>by
  have ih:=ZeQ c t
  by_cases h:b=c
  ·subst h
   rw [Go.Lib.count_cons_eq,Nat.add_comm,Vx];unfold Go.Lib.splitK;have h0:Go.Lib.index (b::t) [b]=0:=by unfold Go.Lib.index;simp
   rw [h0];simp only [show ((0:Int) == -1)=false from rfl,Bool.false_eq_true,if_false,Int.toNat_zero,Nat.zero_add,List.take_zero,List.length_cons,List.length_nil,List.drop_succ_cons,List.drop_zero];rw [ih]
  ·rw [Go.Lib.count_cons_ne b c t h]
   cases hk:Go.Lib.count t [c] with
   | zero =>
    rw [hk] at ih;have h1:splitL c t=[t]:=by rw [← ih];rfl
    rw [QC t h h1];rfl
   | succ k =>
    rw [hk] at ih;unfold Go.Lib.splitK at ih ⊢;have hi:Go.Lib.index (b::t) [c]=if Go.Lib.index t [c] == -1 then -1 else Go.Lib.index t [c]+1:=by
     conv=>lhs;unfold Go.Lib.index
     rw [if_neg (by simp [List.isPrefixOf];exact fun e=>h e.symm)]
    have hge:=Go.Lib.index_ge t [c]
    cases hm:(Go.Lib.index t [c] == -1) with
    | true =>
     have:=Go.Lib.count_miss (beq_iff_eq.1 hm)
     omega
    | false =>
     rw [hm] at ih hi;simp only [Bool.false_eq_true,if_false] at ih hi;have hne:Go.Lib.index t [c]≠-1:=by simpa using hm
     obtain ⟨i,he⟩:∃ i:Nat,Go.Lib.index t [c]=i:=⟨(Go.Lib.index t [c]).toNat,by omega⟩;rw [he] at ih hi;rw [hi];rw [show ((((i:Nat):Int)+1) == -1)=false by simp;omega];simp only [Bool.false_eq_true,if_false];rw [show (((i:Nat):Int)+1).toNat=i+1 by omega];rw [Int.toNat_natCast] at ih;rw [QC t h ih.symm];simp [List.take_succ_cons,List.drop_succ_cons]
def Zm (s:ByteArray) (c:UInt8):List ByteArray:=(splitL c s.data.toList).map fun l=>⟨l.toArray⟩
theorem ZeR (xs:List ByteArray):(xs.map (·.data.toList)).map (fun l=>(⟨l.toArray⟩:ByteArray))=xs:=by
 rw [List.map_map]
 conv=>rhs;rw [← List.map_id xs]
 exact List.map_congr_left fun x _=>by simp
theorem ZbD (s:ByteArray) (c:UInt8):Go.Lib.splitB ⟨#[c]⟩ 0 (Go.Lib.countB s ⟨#[c]⟩) s=Zm s c:=by
 have h:=Go.Lib.splitB_data (⟨#[c]⟩:ByteArray) 0 (Go.Lib.countB s ⟨#[c]⟩) s;have h2:Go.Lib.splitK [c] 0 (Go.Lib.countB s ⟨#[c]⟩) s.data.toList=splitL c s.data.toList:=ZeQ c _;rw [← ZeR (Go.Lib.splitB _ _ _ _),h];show (Go.Lib.splitK [c] 0 (Go.Lib.countB s ⟨#[c]⟩) s.data.toList).map _=_;rw [h2];rfl
theorem ZeS (s:ByteArray) (c:UInt8):(Zm s c).length=s.data.toList.count c+1:=by unfold Zm;rw [List.length_map,ZbO]
def Yo (s:ByteArray) (c:UInt8):Nat→List ByteArray × Nat
 | 0=>([],0)
 | k+1=>if s.get! k=c then ((Yo s c k).1++[s.extract (Yo s c k).2 k],k+1) else Yo s c k
theorem Zbh {s:ByteArray} {c:UInt8} {k:Nat} (h:s.get! k=c):Yo s c (k+1)=((Yo s c k).1++[s.extract (Yo s c k).2 k],k+1):=by
 conv=>lhs;unfold Yo
 rw [if_pos h]
theorem V0 {s:ByteArray} {c:UInt8} {k:Nat} (h:s.get! k≠c):Yo s c (k+1)=Yo s c k:=by
 conv=>lhs;unfold Yo
 rw [if_neg h]
theorem Zcw (s:ByteArray) (c:UInt8):∀ k,(Yo s c k).2≤k
 | 0=>Nat.le_refl _
 | k+1=>by
  by_cases h:s.get! k=c
  ·rw [Zbh h];exact Nat.le_refl _
  ·rw [V0 h];exact Nat.le_succ_of_le (Zcw s c k)
theorem ZbP (s:ByteArray) (c:UInt8):∀ k,(Yo s c k).1.length≤k
 | 0=>Nat.le_refl _
 | k+1=>by
  by_cases h:s.get! k=c
  ·rw [Zbh h];simp;exact ZbP s c k
  ·rw [V0 h];exact Nat.le_succ_of_le (ZbP s c k)
theorem Uq {s:ByteArray} {k:Nat} (h:k<s.size):s.data.toList[k]? = some (s.get! k):=by
 have hl:=Zg s;rw [ZlR,List.getD_eq_getElem?_getD,List.getElem?_eq_getElem (by omega)];rfl
theorem ZoH {s:ByteArray} {k:Nat} (h:k<s.size):s.data.toList.drop k=s.get! k::s.data.toList.drop (k+1):=by
 have hl:=Zg s;rw [List.drop_eq_getElem_cons (by omega)];rw [Option.some.inj ((List.getElem?_eq_getElem (show k<s.data.toList.length by omega)).symm.trans (Uq h))]
theorem ZeT (s:ByteArray) (c:UInt8):∀ k,k≤s.size →
  splitL c s.data.toList=(Yo s c k).1.map (·.data.toList)++splitL c (s.data.toList.drop (Yo s c k).2)∧∀ x ∈ (s.data.toList.drop (Yo s c k).2).take (k - (Yo s c k).2),x≠c
 | 0,_=>⟨by simp [Yo],by simp⟩
 | k+1,hk=>by
  obtain ⟨h1,h2⟩:=ZeT s c k (by omega);have hle:=Zcw s c k;have hl:=Zg s;have hget:=ZoH (s:=s) (k:=k) (by omega);have hsp:s.data.toList.drop (Yo s c k).2=(s.data.toList.drop (Yo s c k).2).take (k - (Yo s c k).2)++s.data.toList.drop k:=by
   conv=>lhs;rw [← List.take_append_drop (k - (Yo s c k).2) (s.data.toList.drop (Yo s c k).2)]
   rw [List.drop_drop,show (Yo s c k).2+(k - (Yo s c k).2)=k by omega]
  by_cases h:s.get! k=c
  ·rw [Zbh h]
   refine ⟨?_,by simp⟩;rw [h1,hsp,hget,h,VZ c _ _ h2,List.map_append];simp only [List.map_cons,List.map_nil,Y3,List.append_assoc,List.cons_append,List.nil_append]
  ·rw [V0 h]
   refine ⟨h1,fun x hx=>?_⟩;rw [show k+1 - (Yo s c k).2=(k - (Yo s c k).2)+1 by omega,List.take_add_one] at hx;rcases List.mem_append.1 hx with hx|hx
   ·exact h2 x hx
   ·rw [List.getElem?_drop,show (Yo s c k).2+(k - (Yo s c k).2)=k by omega] at hx
    rw [Uq (by omega)] at hx;obtain rfl:x=s.get! k:=by simpa using hx
    exact h
def ZnL (s:ByteArray) (c:UInt8):List ByteArray:=(Yo s c s.size).1++[s.extract (Yo s c s.size).2 s.size]
theorem ZdK (s:ByteArray) (c:UInt8):ZnL s c=Zm s c:=by
 obtain ⟨h1,h2⟩:=ZeT s c s.size (Nat.le_refl _);have hle:=Zcw s c s.size;have hl:=Zg s;have hall:(s.data.toList.drop (Yo s c s.size).2).take (s.size - (Yo s c s.size).2)=s.data.toList.drop (Yo s c s.size).2:=List.take_of_length_le (by rw [List.length_drop];omega);rw [hall] at h2;rw [Vd c _ h2] at h1;unfold Zm ZnL;rw [h1,List.map_append,ZeR]
 congr 1
 simp only [List.map_cons,List.map_nil]
 congr 1
 apply Xc
 rw [Y3,hall]
def Zpf (b:UInt8):Bool:=decide (97≤b.toNat) && decide (b.toNat≤122)
def Zpg (s:ByteArray):Bool:=inB (s.size:Int) 1 4 && s.data.toList.all Zpf
theorem V1 (t:ByteArray) (c:UInt8):JR (Zm t c) ⟨#[c]⟩=t:=by
 apply Xc
 show Go.Lib.join ((Zm t c).map (·.data.toList)) [c]=_;unfold Zm;rw [List.map_map];have:((fun x:ByteArray=>x.data.toList) ∘ fun l:List UInt8=>(⟨l.toArray⟩:ByteArray))=id:=by funext l;rfl
 rw [this,List.map_id,ZdJ]
theorem Zcx {d:Nat} (h:d<10):digitVal (UInt8.ofNat (48+d))=some d:=by
 unfold digitVal;have:(UInt8.ofNat (48+d)).toNat=48+d:=by rw [UInt8.toNat_ofNat'];omega
 rw [this,if_pos (by omega)]
 congr 1;omega
theorem JY {b:UInt8} {d:Nat} (h:digitVal b=some d):b=UInt8.ofNat (48+d)∧d<10:=by
 unfold digitVal at h
 split at h
 ·rename_i hb
  obtain rfl:=Option.some.inj h;refine ⟨UInt8.toNat_inj.1 ?_,by omega⟩;rw [UInt8.toNat_ofNat'];omega
 ·cases h
theorem ZdL (a b:List UInt8):∀ acc,decFrom acc (a++b)=(decFrom acc a).bind fun n=>decFrom n b:=by
 induction a with
 | nil=>intro acc;rfl
 | cons x t ih =>
  intro acc;show (match digitVal x with|some d=>decFrom (acc*10+d) (t++b)|none=>none)=(match digitVal x with|some d=>decFrom (acc*10+d) t|none=>none).bind _
  cases digitVal x with
  | none=>rfl
  | some d=>exact ih _
theorem Zcy {a:List UInt8} {acc n d:Nat} {b:UInt8} (h:decFrom acc a=some n) (hd:digitVal b=some d):decFrom acc (a++[b])=some (n*10+d):=by
 rw [ZdL,h];show (match digitVal b with|some d=>decFrom (n*10+d) []|none=>none)=_;rw [hd];rfl
theorem UQ {a:List UInt8} {acc n:Nat} {b:UInt8} (h:decFrom acc (a++[b])=some n):∃ m d,decFrom acc a=some m∧digitVal b=some d∧n=m*10+d:=by
 rw [ZdL] at h
 cases h1:decFrom acc a with
 | none=>rw [h1] at h;cases h
 | some m =>
  rw [h1] at h;have h:(match digitVal b with|some d=>decFrom (m*10+d) []|none=>none)=some n:=h
  cases h2:digitVal b with
  | none=>rw [h2] at h;cases h
  | some d=>rw [h2] at h;exact ⟨m,d,rfl,rfl,(Option.some.inj h).symm⟩
theorem Zcz (n:Nat):decDigits n≠[]:=fun h=>by have:=nDigits_pos n;rw [← decDigits_length,h] at this;simp at this
theorem JC (n:Nat):decFrom 0 (decDigits n)=some n:=by
 induction n using Nat.strongRecOn with
 | _ n ih =>
  by_cases h:n<10
  ·rw [decDigits_one h]
   have:=Zcy (a:=[]) (acc:=0) (n:=0) rfl (Zcx h)
   simpa using this
  ·rw [decDigits,dif_neg h]
   rw [Zcy (ih (n / 10) (by omega)) (Zcx (by omega))]
   congr 1;omega
theorem JZ (n:Nat):∀ b ∈ decDigits n,∃ d,digitVal b=some d:=by
 induction n using Nat.strongRecOn with
 | _ n ih =>
  by_cases h:n<10
  ·rw [decDigits_one h]
   intro b hb;obtain rfl:=List.mem_singleton.1 hb;exact ⟨_,Zcx h⟩
  ·rw [decDigits,dif_neg h]
   intro b hb;rcases List.mem_append.1 hb with hb|hb
   ·exact ih (n / 10) (by omega) b hb
   ·obtain rfl:=List.mem_singleton.1 hb
    exact ⟨_,Zcx (by omega)⟩
theorem ZdM (n:Nat) (h:10≤n):∃ d,(decDigits n).head? = some (UInt8.ofNat (48+d))∧1≤d∧d<10:=by
 induction n using Nat.strongRecOn with
 | _ n ih =>
  rw [decDigits,dif_neg (by omega)]
  by_cases h2:n / 10<10
  ·rw [decDigits_one h2]
   exact ⟨n / 10,rfl,by omega,h2⟩
  ·obtain ⟨d,h3,h4⟩:=ih (n / 10) (by omega) (by omega)
   refine ⟨d,?_,h4⟩;rw [List.head?_append,h3];rfl
theorem ZcA:∀ (k:Nat) (l:List UInt8) (n:Nat),l.length=k+1→decFrom 0 l=some n→(l.length=1∨l.head?≠some 48)→decDigits n=l∧(l.head?≠some 48→1≤n)
 | 0,l,n,hl,hd,_=>by
  match l,hl with
  | [b],_ =>
   obtain ⟨m,d,h1,h2,rfl⟩:=UQ (a:=[]) hd;obtain rfl:0=m:=Option.some.inj h1;obtain ⟨e,hlt⟩:=JY h2;rw [Nat.zero_mul,Nat.zero_add,decDigits_one hlt,← e];refine ⟨rfl,fun hne=>?_⟩;rcases Nat.eq_zero_or_pos d with rfl|h
   ·exact absurd (by rw [e];rfl) hne
   ·exact h
 | k+1,l,n,hl,hd,hc=>by
  have hne:l≠[]:=by intro e;rw [e] at hl;simp at hl
  obtain ⟨a,b,rfl⟩:∃ a b,l=a++[b]:=⟨l.dropLast,l.getLast hne,(List.dropLast_concat_getLast hne).symm⟩;have hal:a.length=k+1:=by simpa using hl
  have hane:a≠[]:=by intro e;rw [e] at hal;simp at hal
  have hh:(a++[b]).head? = a.head?:=by
   cases a with
   | nil=>exact absurd rfl hane
   | cons x t=>rfl
  rw [hh] at hc;have hc':a.head?≠some 48:=by
   rcases hc with h|h
   ·rw [List.length_append,hal] at h;simp at h
   ·exact h
  obtain ⟨m,d,h1,h2,rfl⟩:=UQ hd;obtain ⟨i1,i2⟩:=ZcA k a m hal h1 (.inr hc');have hm:=i2 hc';obtain ⟨e,hlt⟩:=JY h2;refine ⟨?_,fun _=>by omega⟩;rw [decDigits,dif_neg (by omega),show (m*10+d) / 10=m by omega,show (m*10+d) % 10=d by omega,i1,e]
theorem ZbQ:∀ (k:Nat) (l:List UInt8) (n:Nat),l.length=k→decFrom 0 l=some n→n<10 ^ k
 | 0,l,n,hl,hd=>by
  obtain rfl:=List.length_eq_zero_iff.1 hl;obtain rfl:0=n:=Option.some.inj hd
  decide
 | k+1,l,n,hl,hd=>by
  have hne:l≠[]:=by intro e;rw [e] at hl;simp at hl
  obtain ⟨a,b,rfl⟩:∃ a b,l=a++[b]:=⟨l.dropLast,l.getLast hne,(List.dropLast_concat_getLast hne).symm⟩;obtain ⟨m,d,h1,h2,rfl⟩:=UQ hd;have:=ZbQ k a m (by simpa using hl) h1;have:=(JY h2).2;rw [Nat.pow_succ];omega
def Jk (s:ByteArray):Option Nat:=match decNat s.data.toList with
 | some n=>if n≤999999999∧ZM n=s then some n else none
 | none=>none
theorem ZaA {n:Nat} (h:n≤999999999):Jk (ZM n)=some n:=by
 unfold Jk;have:decNat (ZM n).data.toList=some n:=by
  unfold decNat;rw [Yx,if_neg (by simp;exact Zcz n),JC]
 rw [this];exact if_pos ⟨h,rfl⟩
theorem Qn {s:ByteArray} {n:Nat} (h:Jk s=some n):n≤999999999∧s=ZM n:=by
 unfold Jk at h
 cases hd:decNat s.data.toList with
 | none=>rw [hd] at h;cases h
 | some m =>
  rw [hd] at h
  by_cases hc:m≤999999999∧ZM m=s
  ·have h:(if m≤999999999∧ZM m=s then some m else none)=some n:=h
   rw [if_pos hc] at h;obtain rfl:=Option.some.inj h;exact ⟨hc.1,hc.2.symm⟩
  ·have h:(if m≤999999999∧ZM m=s then some m else none)=some n:=h
   rw [if_neg hc] at h;cases h
theorem ZhR (n:Nat):atoi (ZM n).data.toList=some (n:Int):=by
 rw [Yx]
 cases hl:decDigits n with
 | nil=>exact absurd hl (Zcz n)
 | cons b t =>
  obtain ⟨d,hd⟩:=JZ n b (by rw [hl];exact List.mem_cons_self ..);obtain ⟨e,hlt⟩:=JY hd;have h45:(b == 45)=false:=by
   rw [beq_eq_false_iff_ne];intro e2;have:=congrArg UInt8.toNat (e.symm.trans e2);rw [UInt8.toNat_ofNat'] at this;have h:(45:UInt8).toNat=45:=rfl
   omega
  have h43:(b == 43)=false:=by
   rw [beq_eq_false_iff_ne];intro e2;have:=congrArg UInt8.toNat (e.symm.trans e2);rw [UInt8.toNat_ofNat'] at this;have h:(43:UInt8).toNat=43:=rfl
   omega
  have hdn:decNat (b::t)=some n:=by
   unfold decNat;rw [if_neg (by simp),← hl,JC]
  have hm:atoi (b::t)=(decNat (b::t)).map fun (m:Nat)=>(m:Int):=by unfold atoi;simp [h45,h43]
  rw [hm,hdn];rfl
theorem ZlV {s:ByteArray} {n:Int} (h:atoi s.data.toList=some n) (hb:(ZX n)=s):∃ m:Nat,n=m∧Jk s=some m:=by
 by_cases hr:0≤n∧n≤999999999
 ·refine ⟨n.toNat,by omega,?_⟩
  rw [← hb,XF hr.1 hr.2];exact ZaA (by omega)
 ·rw [ZhO hr] at hb
  rw [← hb] at h;cases h
theorem Zej {s:ByteArray} (h:∀ n:Nat,n≤999999999→s=ZM n→False):Jk s=none:=by
 cases hg:Jk s with
 | none=>rfl
 | some n=>exact (h n (Qn hg).1 (Qn hg).2).elim
theorem V2 {n:Nat} (h:n≤999999999):(ZM n).size≤9:=Zbg (k:=8) (by omega)
def l1S (s:ByteArray) (n k:Nat):Prop :=
 (k≤9∧k≤s.size∧decFrom 0 (s.data.toList.take k)=some n∧(k=s.size∨k=9∨∃ b,s.data.toList[k]? = some b∧digitVal b=none)∧¬ (1<k∧s.data.toList.head? = some 48)) ∨
 (n=0∧k=1∧s.data.toList.head? = some 48∧∃ b d,s.data.toList[1]? = some b∧digitVal b=some d)
theorem ZjY {s:ByteArray} {n k:Nat} (h:l1S s n k) (h0:k≠0) (hk:k=s.size):Jk s=some n:=by
 have hz:=Zg s;rcases h with ⟨h1,h2,h3,h4,h5⟩|⟨rfl,rfl,h3,b,d,h4,h5⟩
 ·rw [List.take_of_length_le (by omega)] at h3
  have hc:=(ZcA (s.size - 1) s.data.toList n (by omega) h3 (by
   by_cases h:s.data.toList.length=1
   ·exact .inl h
   ·exact .inr fun e=>h5 ⟨by omega,e⟩)).1
  have hlt:=ZbQ s.size s.data.toList n (by omega) h3;have:n<10 ^ 9:=Nat.lt_of_lt_of_le hlt (Nat.pow_le_pow_right (by omega) (by omega));have hs:s=ZM n:=Xc (by rw [Yx,hc]);rw [hs];exact ZaA (by omega)
 ·rw [List.getElem?_eq_none (by omega)] at h4;cases h4
theorem ZlW {s:ByteArray} {n k:Nat} (h:l1S s n k) (hk:k=0∨k≠s.size):Jk s=none:=by
 have hz:=Zg s;refine Zej fun m hm hs=>?_;have h9:=V2 hm;have hp:=ZeM m;have hall:=JZ m;rw [← Yx,← hs] at hall;rw [← hs] at h9 hp;rcases h with ⟨h1,h2,h3,h4,h5⟩|⟨rfl,rfl,h3,b,d,h4,h5⟩
 ·rcases h4 with h4|h4|⟨b,h4,h6⟩
  ·omega
  ·omega
  ·obtain ⟨d,hd⟩:=hall b (List.mem_of_getElem? h4)
   rw [h6] at hd;cases hd
 ·have h10:10≤m:=by
   rcases Nat.lt_or_ge m 10 with hlt|hge
   ·have hl:=Yx m
    rw [← hs,decDigits_one hlt] at hl;rw [hl] at h4;cases h4
   ·exact hge
  obtain ⟨d',hd,h7,h8⟩:=ZdM m h10;rw [← Yx,← hs,h3] at hd;have:=congrArg UInt8.toNat (Option.some.inj hd);rw [UInt8.toNat_ofNat'] at this;have h48:(48:UInt8).toNat=48:=rfl
  omega
def ZlX:Go.Shelf.Ren:=⟨fun|138=>186|143=>187|146=>161|195=>196|197=>197|217=>190|218=>198|219=>179|221=>172|224=>192|225=>191|260=>203|266=>199|267=>193|268=>185|314=>200|n=>n,fun|0=>0|3=>3|4=>4|5=>5|9=>9|21=>21|31=>22|46=>192|51=>190|105=>210|119=>220|138=>222|139=>223|146=>214|n=>n,fun|1=>1|3=>6|4=>7|n=>n⟩
theorem ZeU:Go.Proofs.LaysM.n146 prog ZlX:={
 mixed:=by kernel_rfl
 f138:=Tryz.func186.trans (congrArg some (by kernel_rfl))
 f143:=Tryz.func187.trans (congrArg some (by kernel_rfl))
 f146:=Tryz.func161.trans (congrArg some (by kernel_rfl))
 f195:=Tryz.func196.trans (congrArg some (by kernel_rfl))
 f197:=Tryz.func197.trans (congrArg some (by kernel_rfl))
 f217:=Tryz.func190.trans (congrArg some (by kernel_rfl))
 f218:=Tryz.func198.trans (congrArg some (by kernel_rfl))
 f219:=Tryz.func179.trans (congrArg some (by kernel_rfl))
 f221:=Tryz.func172.trans (congrArg some (by kernel_rfl))
 f224:=Tryz.func192.trans (congrArg some (by kernel_rfl))
 f225:=Tryz.func191.trans (congrArg some (by kernel_rfl))
 f260:=Tryz.func203.trans (congrArg some (by kernel_rfl))
 f266:=Tryz.func199.trans (congrArg some (by kernel_rfl))
 f267:=Tryz.func193.trans (congrArg some (by kernel_rfl))
 f268:=Tryz.func185.trans (congrArg some (by kernel_rfl))
 f314:=Tryz.func200.trans (congrArg some (by kernel_rfl))
 t0:=Tryz.underlying0
 a0:=Tryz.isAgg0
 z0:=Tryz.sizeOf0
 v0:=Tryz.zeroValue0
 t3:=Tryz.underlying3
 a3:=Tryz.isAgg3
 z3:=Tryz.sizeOf3
 v3:=Tryz.zeroValue3
 t4:=Tryz.underlying4
 a4:=Tryz.isAgg4
 z4:=Tryz.sizeOf4
 v4:=Tryz.zeroValue4
 t5:=Tryz.underlying5
 a5:=Tryz.isAgg5
 z5:=Tryz.sizeOf5
 v5:=Tryz.zeroValue5
 t9:=Tryz.underlying9
 a9:=Tryz.isAgg9
 z9:=Tryz.sizeOf9
 v9:=Tryz.zeroValue9
 t21:=Tryz.underlying21
 a21:=Tryz.isAgg21
 z21:=Tryz.sizeOf21
 v21:=Tryz.zeroValue21
 t31:=Tryz.underlying22
 a31:=Tryz.isAgg22
 z31:=Tryz.sizeOf22
 v31:=Tryz.zeroValue22
 t46:=Tryz.underlying192
 a46:=Tryz.isAgg192
 z46:=Tryz.sizeOf192
 v46:=Tryz.zeroValue192
 t51:=Tryz.underlying190
 a51:=Tryz.isAgg190
 z51:=Tryz.sizeOf190
 v51:=Tryz.zeroValue190
 t105:=Tryz.underlying210
 a105:=Tryz.isAgg210
 z105:=Tryz.sizeOf210
 v105:=Tryz.zeroValue210
 t119:=Tryz.underlying220
 a119:=Tryz.isAgg220
 z119:=Tryz.sizeOf220
 t138:=Tryz.underlying222
 a138:=Tryz.isAgg222
 z138:=Tryz.sizeOf222
 v138:=Tryz.zeroValue222
 t139:=Tryz.underlying223
 a139:=Tryz.isAgg223
 z139:=Tryz.sizeOf223
 v139:=Tryz.zeroValue223
 t146:=Tryz.underlying214
 a146:=Tryz.isAgg214
 z146:=Tryz.sizeOf214
 v146:=Tryz.zeroValue214
 g1:=by kernel_rfl
 g3:=by kernel_rfl
 g4:=by kernel_rfl
 i0:=by kernel_rfl
 i3:=by kernel_rfl
 i4:=by kernel_rfl
 i5:=by kernel_rfl
 i9:=by kernel_rfl
 i21:=by kernel_rfl
 i31:=by kernel_rfl
 i46:=by kernel_rfl
 i51:=by kernel_rfl
 i105:=by kernel_rfl
 i138:=by kernel_rfl
 i139:=by kernel_rfl
 i146:=by kernel_rfl
 m1:=by kernel_rfl
 s1_3:=fun w h=>Go.Proofs.cell_of_shapedOpen_int (zero:=#[.int .i64 0]) (t:=3) h (of_decide_eq_true (by kernel_rfl)) (by kernel_rfl) rfl (by kernel_rfl) (by kernel_rfl) Tryz.underlying3
 m3:=by kernel_rfl
 m4:=by kernel_rfl }
theorem ZeV (s:ByteArray) (w0:World) (hs:s.size≤9223372036854775806):Calls prog 149 #[.string s] w0 fun e w'=>e=.returned (.int .i64 (U8 s))∧Below w0.heap.size w0 w':=by
 have E:=Bx.mk (St.start w0);refine ent func149 ntmps149 ?_;refine xsr<|xr 1 rfl<|xne<|xsr<|xr 2 rfl<|xne<|xsq<|xsr<|xr 1 rfl<|xy rfl (fun a O=>YN rfl (O.ev rfl) (by kernel_rfl))<|xr 1 rfl<|xne<|xbl ?_;intro a O;refine ZD (ι:=Nat) (fun k a w=>(k≤s.size)∧Fr 28 a [(0,.string s),(3,.int .i64 ((Zau s k).1)),(4,.int .i64 ((Zau s k).2)),(7,.int .i64 (s.size:Int)),(8,.int .i64 (k:Int))]∧St w0 ([]) w) (fun k=>s.size - k) 0 ⟨(Nat.zero_le _),O.ls _,E.o⟩ ?_;clear O E;clear a;rintro k a w1 ⟨hk,O,E⟩;replace E:=Bx.mk E;have hb:=ZgW s k;have hbyte:=Zei s k;revert a;refine xsr<|xr 1 rfl<|xne<|xsq<|xcs 9 rfl (fun cc1=>?_) fun cc1=>?_
 have cc1:=of_decide_eq_true cc1;refine xct rfl<|xsk<|xet<|xsq<|xbl<|xsr<|xr 2 rfl<|xne<|xsr<|xr 3 rfl<|xy rfl (fun a O=>XU (i:=k) rfl (O.ev rfl) (O.ev rfl) (by kernel_rfl) rfl (by omega))<|xy rfl (fun a O=>Zda rfl (O.ev rfl) (Zei _ _) (by kernel_rfl) (by kernel_rfl))<|xy rfl (vad rfl)<|xy rfl (vad rfl)<|xy rfl (fun a O=>Ua rfl (O.ev rfl) (O.ev rfl) (by omega) (Ub (by omega) (by omega)))<|xr 1 rfl<|xne<|xrl<|xr 2 rfl<|xy rfl (vad rfl)<|xy rfl (fun a O=>Ua rfl (O.ev rfl) (O.ev rfl) (by omega) (Ub (by omega) (by omega)))<|xr 1 rfl<|xni<|xeb<|xet<|xrl<|xy rfl (vad rfl)<|xr 1 rfl<|xne ?_;intro a O;exact ⟨k+1,⟨(by omega),O.less _ ⟨rfl,rfl,(congrArg (fun x=>some (Value.int .i64 x)) (by rw [show (Zau s (k+1)).2=((Zau s k).2+((Zau s k).1+((s.get! k).toNat:Int)+1) % 9973) % 9973 from rfl,Int.add_comm])),rfl,rfl,trivial⟩,E.o⟩,(by omega)⟩;have cc1:=of_decide_eq_false cc1;obtain rfl:k=s.size:=by omega
 refine xcf rfl<|xex<|xtx<|xtx<|xbh<|xet<|xsr<|xr 1 rfl<|xy rfl (fun a O=>Uv rfl (O.ev rfl) (O.ev rfl) (Qt (by omega)))<|xr 1 rfl<|xy rfl (vad rfl)<|xr 1 rfl<|xne<|xre<|xb1 results149 rfl ?_;exact ⟨rfl,E.o.bel⟩
theorem ZeW (s:ByteArray) (w0:World) (hs:s.size≤9223372036854775806):Calls prog 109 #[.string s] w0 fun e w'=>e=.returned (.int .i64 (U8 s))∧Below w0.heap.size w0 w':=by
 have E:=Bx.mk (St.start w0);refine ent func109 ntmps109 ?_;refine xsr<|xr 1 rfl<|xne<|xsr<|xr 1 rfl<|xne<|xsr<|xr 1 rfl<|xne<|xsq<|xsr<|xr 1 rfl<|xne<|xbl ?_;intro a O;refine ZD (ι:=Nat) (fun k a w=>(k≤s.size)∧Fr 28 a [(0,.string s),(3,.int .i64 ((Zau s k).1)),(4,.int .i64 ((Zau s k).2)),(5,.int .i64 (k:Int))]∧St w0 ([]) w) (fun k=>s.size - k) 0 ⟨(Nat.zero_le _),O.ls _,E.o⟩ ?_;clear O E;clear a;rintro k a w1 ⟨hk,O,E⟩;replace E:=Bx.mk E;have hb:=ZgW s k;have hbyte:=Zei s k;revert a;refine xsq<|xsr<|xr 2 rfl<|xy rfl (fun a O=>YN rfl (O.ev rfl) (by kernel_rfl))<|xr 1 rfl<|xne<|xcs 9 rfl (fun cc1=>?_) fun cc1=>?_
 have cc1:=of_decide_eq_true cc1;refine xct rfl<|xsk<|xet<|xsq<|xbl<|xsr<|xr 3 rfl<|xy rfl (fun a O=>XU (i:=k) rfl (O.ev rfl) (O.ev rfl) (by kernel_rfl) rfl (by omega))<|xy rfl (fun a O=>Zda rfl (O.ev rfl) (Zei _ _) (by kernel_rfl) (by kernel_rfl))<|xy rfl (vad rfl)<|xy rfl (vad rfl)<|xy rfl (fun a O=>Ua rfl (O.ev rfl) (O.ev rfl) (by omega) (Ub (by omega) (by omega)))<|xr 1 rfl<|xne<|xrl<|xr 2 rfl<|xy rfl (vad rfl)<|xy rfl (fun a O=>Ua rfl (O.ev rfl) (O.ev rfl) (by omega) (Ub (by omega) (by omega)))<|xr 1 rfl<|xni<|xeb<|xet<|xrl<|xr 1 rfl<|xy rfl (vad rfl)<|xr 1 rfl<|xne ?_;intro a O;exact ⟨k+1,⟨(by omega),O.less _ ⟨rfl,rfl,rfl,rfl,trivial⟩,E.o⟩,(by omega)⟩;have cc1:=of_decide_eq_false cc1;obtain rfl:k=s.size:=by omega
 refine xcf rfl<|xex<|xtx<|xtx<|xbh<|xet<|xsr<|xr 1 rfl<|xy rfl (fun a O=>Uv rfl (O.ev rfl) (O.ev rfl) (Qt (by omega)))<|xr 1 rfl<|xy rfl (vad rfl)<|xr 1 rfl<|xne<|xre<|xb1 results109 rfl ?_;exact ⟨rfl,E.o.bel⟩
theorem ZhS (s:ByteArray) (w0:World) (hs:s.size≤9223372036854775806):Calls prog 150 #[.string s] w0 fun e w'=>e=.returned (.bool (inB (s.size:Int) 1 128))∧Below w0.heap.size w0 w':=by
 have E:=Bx.mk (St.start w0);refine ent func150 ntmps150 ?_;refine xsr<|xr 1 rfl<|xne<|xsr<|xr 1 rfl<|xy rfl (fun a O=>YN rfl (O.ev rfl) (by kernel_rfl)) ?_;refine ycB ((Yd (s.size:Int) 1 128 _).mono fun _ _ h=>⟨h.1,h.2 ▸ Below.refl _ _⟩) func28 E ?_;clear E;intro w1 E;refine xr 1 rfl<|xne<|xre<|xb1 results150 rfl ?_;exact ⟨rfl,E.o.bel⟩
theorem ZhT (s:ByteArray) (w0:World) (hs:s.size≤9223372036854775806):Calls prog 139 #[.string s] w0 fun e w'=>e=.returned (.bool (inB (s.size:Int) 1 128))∧Below w0.heap.size w0 w':=by
 have E:=Bx.mk (St.start w0);refine ent func139 ntmps139 ?_;refine xsr<|xr 1 rfl<|xne<|xsr<|xr 1 rfl<|xy rfl (fun a O=>YN rfl (O.ev rfl) (by kernel_rfl)) ?_;refine ycB ((YY (s.size:Int) 1 128 _).mono fun _ _ h=>⟨h.1,h.2 ▸ Below.refl _ _⟩) func18 E ?_;clear E;intro w1 E;refine xr 1 rfl<|xne<|xre<|xb1 results139 rfl ?_;exact ⟨rfl,E.o.bel⟩
theorem V3 (at_ birth level:Int) (s:ByteArray) (w0:World) (hs:s.size≤9223372036854775806):Calls prog 124 #[.int .i64 at_,.int .i64 birth,.int .i64 level,.string s] w0 fun e w'=>e=.returned (.tuple #[pV (Up at_ birth level s),.bool (Xv at_ birth level s)])∧Below w0.heap.size w0 w':=by
 have E:=Bx.mk (St.start w0);refine ent func124 ntmps124 ?_;refine xsr ?_;refine yal z5 E ?_;clear E;intro w1 b1 E;refine xr 1 rfl<|xne<|xsr<|xr 3 rfl<|xy rfl (fun a O=>YN rfl (O.ev rfl) (by kernel_rfl))<|xr 1 rfl ?_;refine ycB (ZeV s _ (by omega)) func149 E ?_;clear E;intro w2 E;refine xr 1 rfl<|xy rfl (vb [.int .i64 at_,.int .i64 birth,.int .i64 (s.size:Int),.int .i64 (U8 s),.int .i64 level] rfl) ?_;refine yal z5 E ?_;clear E;intro w3 b2 E;refine yst E 0 ?_;clear E;intro w4 E;replace E:=E.nm;refine xne<|xsq<|xsr<|xr 1 rfl ?_;refine ycB (ZhS s _ (by omega)) func150 E ?_;clear E;intro w5 E;refine xr 2 rfl<|xcs 22 rfl (fun cc1=>?_) fun cc1=>?_;intro a O
 -- !(inB (s.size:Int) 1 128)
 revert a;refine xr 4 rfl<|xne<|xct rfl<|xsr<|xy rfl (vb z5 rfl) ?_;refine yst E 1 ?_;clear E;intro w6 E;replace E:=E.nm;refine xr 1 rfl<|xne<|xre<|xtr ?_;intro a O;refine Zw O results124 (O.resBox rfl (E.o.box 1 rfl) (by kernel_rfl)) (O.res rfl) ?_;have cc1:=(Bool.not_eq_eq_eq_not.1 cc1);have hk:Xv at_ birth level s=false:=by
   unfold Xv X5;rw [cc1];rfl
 refine ⟨?_,E.o.bel⟩;rw [Zct hk,hk];rfl;intro a O
 -- !(inB (s.size:Int) 1 128)
 revert a;refine Xw 0 5 E rfl rfl ?_;refine Ji (Xm ({ aA:=at_,ah:=birth,al:=(s.size:Int),ax:=U8 s,ak:=level }:PtrD) _) func59 E ?_;clear E;intro w7 E;refine xr 2 rfl<|xne<|xcs 26 rfl (fun cc2=>?_) fun cc2=>?_;intro a O
 -- !(({ aA:=at_,ah:=birth,al:=(s.size:Int),ax:=U8 s,ak:=level }:PtrD).ok)
 revert a;refine xct rfl<|xsr<|xy rfl (vb z5 rfl) ?_;refine yst E 1 ?_;clear E;intro w8 E;replace E:=E.nm;refine xr 1 rfl<|xne<|xre<|xtr ?_;intro a O;refine Zw O results124 (O.resBox rfl (E.o.box 1 rfl) (by kernel_rfl)) (O.res rfl) ?_;have cc1:=(Bool.not_eq_eq_eq_not.1 cc1);have cc2:=(Bool.not_eq_eq_eq_not.1 cc2);have hk:Xv at_ birth level s=false:=by
   unfold Xv X5;rw [cc1,cc2];rfl
 refine ⟨?_,E.o.bel⟩;rw [Zct hk,hk];rfl;intro a O
 -- !(({ aA:=at_,ah:=birth,al:=(s.size:Int),ax:=U8 s,ak:=level }:PtrD).ok)
 revert a;refine xcf rfl<|xsk<|xet<|xsr<|Xw 0 5 E rfl rfl ?_;refine yst E 1 ?_;clear E;intro w9 E;replace E:=E.nm;refine xr 1 rfl<|xne<|xre ?_;intro a O;refine Zw O results124 (O.resBox rfl (E.o.box 1 rfl) (by kernel_rfl)) (O.res rfl) ?_;have cc1:=(Bool.not_eq_eq_eq_not.1 cc1);have cc2:=(Bool.not_eq_eq_eq_not.1 cc2);have hk:Xv at_ birth level s=true:=by
   unfold Xv X5;rw [cc1,cc2];rfl
 refine ⟨?_,E.o.bel⟩;rw [Zbe hk,hk];rfl
theorem V4 (at_ birth level:Int) (s:ByteArray) (w0:World) (hs:s.size≤9223372036854775806):Calls prog 112 #[.int .i64 at_,.int .i64 birth,.int .i64 level,.string s] w0 fun e w'=>e=.returned (.tuple #[pV (Up at_ birth level s),.bool (Xv at_ birth level s)])∧Below w0.heap.size w0 w':=by
 have E:=Bx.mk (St.start w0);refine ent func112 ntmps112 ?_;refine xsr ?_;refine yal z5 E ?_;clear E;intro w1 b1 E;refine xr 1 rfl<|xne<|xsr<|xr 3 rfl<|xy rfl (fun a O=>YN rfl (O.ev rfl) (by kernel_rfl))<|xr 1 rfl<|xy rfl (vb [.int .i64 at_,.int .i64 birth,.int .i64 (s.size:Int),.int .i64 0,.int .i64 level] rfl) ?_;refine yal z5 E ?_;clear E;intro w2 b2 E;refine yst E 0 ?_;clear E;intro w3 E;replace E:=E.nm;refine xne<|xsq<|xsr<|xr 1 rfl ?_;refine ycB (ZhT s _ (by omega)) func139 E ?_;clear E;intro w4 E;refine xr 1 rfl<|xne<|xcs 19 rfl (fun cc1=>?_) fun cc1=>?_;intro a O
 -- !(inB (s.size:Int) 1 128)
 revert a;refine xct rfl<|xsr<|xy rfl (vb z5 rfl) ?_;refine yst E 1 ?_;clear E;intro w5 E;replace E:=E.nm;refine xr 1 rfl<|xne<|xre<|xtr ?_;intro a O;refine Zw O results112 (O.resBox rfl (E.o.box 1 rfl) (by kernel_rfl)) (O.res rfl) ?_;have cc1:=(Bool.not_eq_eq_eq_not.1 cc1);have hk:Xv at_ birth level s=false:=by
   unfold Xv X5;rw [cc1];rfl
 refine ⟨?_,E.o.bel⟩;rw [Zct hk,hk];rfl;intro a O
 -- !(inB (s.size:Int) 1 128)
 revert a;refine xcf rfl<|xsk<|xet<|xsr<|xr 1 rfl ?_;refine ycB (ZeW s _ (by omega)) func109 E ?_;clear E;intro w6 E;refine Xf 3 rfl ?_;refine ysF 0 E ?_;clear E;intro w7 E;replace E:=E.nm;refine xne<|xsq<|xsr<|Xw 0 5 E rfl rfl ?_;refine ycB (ZZ ({ aA:=at_,ah:=birth,al:=(s.size:Int),ax:=U8 s,ak:=level }:PtrD) _) func48 E ?_;clear E;intro w8 E;refine xr 1 rfl<|xne<|xcs 26 rfl (fun cc2=>?_) fun cc2=>?_;intro a O
 -- !(({ aA:=at_,ah:=birth,al:=(s.size:Int),ax:=U8 s,ak:=level }:PtrD).ok)
 revert a;refine xct rfl<|xsr<|xy rfl (vb z5 rfl) ?_;refine yst E 1 ?_;clear E;intro w9 E;replace E:=E.nm;refine xr 1 rfl<|xne<|xre<|xtr ?_;intro a O;refine Zw O results112 (O.resBox rfl (E.o.box 1 rfl) (by kernel_rfl)) (O.res rfl) ?_;have cc1:=(Bool.not_eq_eq_eq_not.1 cc1);have cc2:=(Bool.not_eq_eq_eq_not.1 cc2);have hk:Xv at_ birth level s=false:=by
   unfold Xv X5;rw [cc1,cc2];rfl
 refine ⟨?_,E.o.bel⟩;rw [Zct hk,hk];rfl;intro a O
 -- !(({ aA:=at_,ah:=birth,al:=(s.size:Int),ax:=U8 s,ak:=level }:PtrD).ok)
 revert a;refine xcf rfl<|xsk<|xet<|xsr<|Xw 0 5 E rfl rfl ?_;refine yst E 1 ?_;clear E;intro w10 E;replace E:=E.nm;refine xr 1 rfl<|xne<|xre ?_;intro a O;refine Zw O results112 (O.resBox rfl (E.o.box 1 rfl) (by kernel_rfl)) (O.res rfl) ?_;have cc1:=(Bool.not_eq_eq_eq_not.1 cc1);have cc2:=(Bool.not_eq_eq_eq_not.1 cc2);have hk:Xv at_ birth level s=true:=by
   unfold Xv X5;rw [cc1,cc2];rfl
 refine ⟨?_,E.o.bel⟩;rw [Zbe hk,hk];rfl
def ZkD (x:UInt8):List Value:=[.int .u8 (x.toNat:Int)]
theorem ZaB (x:UInt8):(ZkD x).length=1:=rfl
section
variable {P:Program} {ops:Array Oper} {Q:Exit→Act→World→Prop} {rest:List Oper} {o:Oper} {a:Act} {w W:World} {N:Nat} {l:List (Nat × Value)} {s:List Asr} {α:Type} {enc:α→List Value} {size:Nat} {e:TypeId} {t:TypeId} {x y z:Operand}
theorem Zi8 (ho:o.op=.slice t x none (some y) none) {b:ByteArray} (hx:a.eval x=.string b) {kk:IntKind} {m:Int} (hy:a.eval y=.int kk m) (hu:P.underlying t=some .string) {k:Nat} (hm:m=(k:Int)) (hk:k≤b.size):Yl P w o a (.string (b.extract 0 k)):=by
 subst hm;have h2:((k:Int)≤(b.size:Int)):=by omega
 unfold Yl execOp;simp only [ho,hx,hy,Option.map_some,Option.map_none,Instr.sliceAt,Instr.slice,Sem.run_bind,run_underlying hu w,Result.andThen_ok];simp [Instr.slice,Instr.sliceBounds,Instr.sliceBound,asIntOf,go_sem,run_underlying hu w,h2];intro hlt;omega
theorem ZbR (ho:o.op=.slice t x (some y) none none) {b:ByteArray} (hx:a.eval x=.string b) {kk:IntKind} {m:Int} (hy:a.eval y=.int kk m) (hu:P.underlying t=some .string) {k:Nat} (hm:m=(k:Int)) (hk:k≤b.size):Yl P w o a (.string (b.extract k b.size)):=by
 subst hm;have h2:((k:Int)≤(b.size:Int)):=by omega
 unfold Yl execOp;simp only [ho,hx,hy,Option.map_some,Option.map_none,Instr.sliceAt,Instr.slice,Sem.run_bind,run_underlying hu w,Result.andThen_ok];simp [Instr.slice,Instr.sliceBounds,Instr.sliceBound,asIntOf,go_sem,run_underlying hu w,h2];intro hlt;omega
theorem Zbi (ho:o.op=.convert t e x) {e1:TypeId} {ao:Option Addr} {n cap:Nat} (hx:a.eval x=.slice ao n cap) (hs:P.underlying t=some (.slice e1)) (he:P.underlying e1=some (.int .u8)) (hd:P.underlying e=some .string) {xs:List UInt8} (hr:Rd ZkD 1 w ao n xs):Yl P w o a (.string ⟨xs.toArray⟩):=by
 obtain rfl:n=xs.length:=hr.1.symm;unfold Yl execOp;simp only [ho,hx];have hrun:(convert t e (.slice ao xs.length cap)).run P w=.ok (.string ⟨xs.toArray⟩) w:=by
  cases ao with
  | none =>
   obtain rfl:=ZeB hr;exact run_convert_bytes_nil w t e1 hs he 0 cap e hd
  | some ad =>
   refine run_convert_bytes_back w t e e1 ad cap xs hs he hd fun j hj=>?_;have:=hr.news ZaB (by decide) (j:=j) (u:=.int .u8 (xs[j].toNat:Int)) ?_
   ·exact this
   ·have hf:xs.flatMap ZkD=xs.map fun x=>Value.int .u8 (x.toNat:Int):=by
     clear hr hx hj
     induction xs with
     | nil=>rfl
     | cons x xs ih=>rw [List.flatMap_cons,ih];rfl
    rw [hf,List.getElem?_map,List.getElem?_eq_getElem hj];rfl
 simp only [Sem.run_bind,hrun,Result.andThen_ok,Sem.run_pure]
end
section
variable {P:Program} {ops:Array Oper} {Q:Exit→Act→World→Prop} {rest:List Oper} {o:Oper} {a:Act} {w W:World} {N:Nat} {l:List (Nat × Value)} {s:List Asr} {t e:TypeId} {x y:Operand} {α:Type} {enc:α→List Value} {size:Nat}
theorem ZkE (z:List Value) (size n:Nat) (hz:z.length=size) (hs:0<size):(madeCells z.toArray (n*size)).toList=(List.replicate n z).flatten:=by
 apply List.ext_getElem
 ·simp [madeCells,hz]
 ·intro i h1 h2
  have hi:i<n*size:=by simpa [madeCells] using h1
  have key:∀ (n i:Nat) (h:i<(List.replicate n z).flatten.length),(List.replicate n z).flatten[i]=z[i % size]'(by rw [hz];exact Nat.mod_lt _ hs):=by
   intro n
   induction n with
   | zero=>intro i h;simp at h
   | succ n ih =>
    intro i h;simp only [List.replicate_succ,List.flatten_cons]
    by_cases hlt:i<size
    ·rw [List.getElem_append_left (by rw [hz];exact hlt)]
     congr 1
     exact (Nat.mod_eq_of_lt hlt).symm
    ·rw [List.getElem_append_right (by rw [hz];omega)]
     have e:(i - z.length) % size=i % size:=by
      rw [hz]
      conv=>rhs;rw [show i=(i - size)+size by omega,Nat.add_mod_right]
     rw [ih]
     congr 1
  rw [key];have hm:i % size<z.length:=by rw [hz];exact Nat.mod_lt _ hs
  simp [madeCells,hz,List.getElem?_eq_getElem hm]
theorem ZeX (hg:o.guard=none) (hF:Fr N a l) (ho:o.op=.makeSlice t x y) {d:Nat} (hd:o.dst=some d) (hN:Nat.blt d N=true) {bytes:Nat} (hT:ZbA P t e size bytes) {kl kc:IntKind} {m m':Int} {n:Nat} (hx:a.eval x=.int kl m) (hy:a.eval y=.int kc m') (hm:m=(n:Int)) (hm':m'=(n:Int))
  (hb:bytes*n≤281474976710656) (hn:n≤maxLen) (z0:α) {u:Value} (hz:(P.info? e).bind (·.zero)=some u) (hu:u.cells=(enc z0).toArray) (hl:(enc z0).length=size) (hS:St W s w)
  (h:∀ b a' w',Fr N a' ((d,.slice (some ⟨b,0,none⟩) n n)::l)→St W (Zd enc size e (.slice (some ⟨b,0,none⟩) n n) (List.replicate n z0)::s) w'→wpList P ops Q rest a' w'):wpList P ops Q (o::rest) a w:=by
 obtain ⟨i0,zz,hi0,hz0,k1,k2,k3⟩:=hT.info;refine wpList_make_full w hg x y t ho w.heap.size e i0 zz size hT.ht hi0 hz0 k1 kl kc m m' n hx hy hm hm' (by rw [k2];exact hb) hn (Nat.le_refl _) fun w' ho' hgr=>?_;rw [hd];refine h _ _ _ (hF.put (Nat.le_of_ble_eq_true hN) _) ?_;obtain rfl:zz=u:=by rw [hi0] at hz;simpa [hz0] using hz
 have hc:(madeCells zz.cells (n*size)).toList=(List.replicate n z0).flatMap enc:=by
  rw [hu,ZkE _ _ _ hl hT.pos,List.flatMap,List.map_replicate]
 rw [hc] at ho';refine hS.add (ns:=[_]) (St.ofRow (B1:=w'.heap.size) (RowO.mk (by rw [List.length_replicate];exact ho') (fun g hg=>(ho'.lt g hg).2)) ⟨hgr.os,hgr.tape,hgr.output,hgr.size,fun k hk=>hgr.block k hk (by simp)⟩)
end
def OnN (R:Act→World→Prop):Exit→Act→World→Prop
 | .normal,a,w=>R a w
 | _,_,_=>False
theorem ZaC {R:Act→World→Prop} {a:Act} {w:World} (h:R a w):OnN R .normal a w:=h
theorem V5 {P:Program} {c:Code} {R:Act→World→Prop} {Q:Exit→Act→World→Prop} {a:Act} {w:World} (h:c.wp P (OnN R) a w) (k:∀ a w,R a w→Q .normal a w):c.wp P Q a w :=
 wp_mono h fun e a w hq=>by
  cases e with
  | normal=>exact k a w hq
  | _=>exact hq.elim
section
variable {P:Program} {ops:Array Oper} {Q:Exit→Act→World→Prop} {rest:List Oper} {o:Oper} {a:Act} {w W:World} {N:Nat} {l:List (Nat × Value)} {s:List Asr} {t t' e:TypeId} {x y z:Operand} {α:Type} {enc:α→List Value} {size:Nat}
theorem ZjZ (ho:o.op=.convert t t' x) {n:Int} {b:UInt8} (hx:a.eval x=.int .i64 n) (hn:0≤n∧n≤255) (hb:b=UInt8.ofNat n.toNat) (hu:P.underlying t=some (.int .i64)) (hu':P.underlying t'=some (.int .u8)):Yl P w o a (.int .u8 (b.toNat:Int)):=by
 have hv:(b.toNat:Int)=n:=by
  subst hb;rw [UInt8.toNat_ofNat']
  omega
 unfold Yl execOp;simp only [ho,hx];rw [hv];simp [convert,go_sem,run_underlying hu w,run_underlying hu' w,Conv.intToInt];simp [IntKind.wrap,IntKind.bits,IntKind.signed]
 omega
end
section
variable {P:Program} {ops:Array Oper} {Q:Exit→Act→World→Prop} {rest:List Oper} {o:Oper} {a:Act} {w W:World} {N:Nat} {l:List (Nat × Value)} {s:List Asr} {t e:TypeId} {x y:Operand}
theorem XI {c:Code} (n:Nat) (h:c.wp P (Exit.then (Code.rounds P c Q n) Q) a w):(Code.loop c).wp P Q a w:=wp_loop_rounds (n+1) h
theorem Ym {c:Code} (n:Nat) (h:c.wp P (Exit.then (Code.rounds P c Q n) Q) a w):Code.rounds P c Q (n+1) a w:=h
theorem ZkF {xs:Array Operand} {ts:Array TypeId} {f:FuncId} {first caps:Array Value} (ho:o.op=.call { callee:=.value x,args:=xs,argTypes:=ts }) (hx:a.eval x=.func (.func f) first caps) (hc:∀ (args:Array Value) (w:World),(callFunc f args).run P w=.ok (.enter f args) w) :
  (execOp a.eval o).run P w=.ok (.enter f (first++xs.map a.eval++caps)) w:=by
 unfold execOp;simp only [ho];simp only [resolve,hx,Deferred.ofValue,Sem.run_bind,Sem.run_pure,Result.andThen_ok,invoke,hc]
theorem ZeY (hg:o.guard=none) (hF:Fr N a l) {xs:Array Operand} {ts:Array TypeId} {f:FuncId} {first caps:Array Value} (ho:o.op=.call { callee:=.value x,args:=xs,argTypes:=ts }) (hx:a.eval x=.func (.func f) first caps) (hc:∀ (args:Array Value) (w:World),(callFunc f args).run P w=.ok (.enter f args) w)
  {args:Array Value} (hxs:xs.toList.mapM (evO l)=some args.toList) {R:Ending→World→Prop} (hR:Calls P f (first++args++caps) w R) {d:Nat} (hd:o.dst=some d) (hN:Nat.blt d N=true)
  (h:∀ e w',R e w'→∃ v,e=.returned v∧∀ a',Fr N a' ((d,v)::l)→wpList P ops Q rest a' w'):wpList P ops Q (o::rest) a w:=by
 refine wpList_plain hg fun K hK=>?_;unfold Oper.wp;rw [ZkF ho hx hc,Zbb hF hxs];refine Calls.mono hR fun e w' hr=>?_;obtain ⟨v,hv,hk⟩:=h e w' hr;subst hv;exact hK _ _ (hd ▸ hk _ (hF.put (Nat.le_of_ble_eq_true hN) v))
end
section
variable {P:Program} {ops:Array Oper} {Q:Exit→Act→World→Prop} {rest:List Oper} {o:Oper} {a:Act} {w W:World} {N:Nat} {l:List (Nat × Value)} {s:List Asr} {t e:TypeId} {x y:Operand}
theorem Ue (hF:Fr N a l) {f:FuncId} {xs:Array Operand} (ho:o.op=.makeFunc (.func f) #[] xs) {cs:Array Value} (hx:xs.toList.mapM (evO l)=some cs.toList):Yl P w o a (.func (.func f) #[] cs):=by
 have:=Zbb hF hx;unfold Yl execOp;simp only [ho,Instr.makeFunc];simp [this]
theorem ZkG (hg:o.guard=none) (hF:Fr N a l) {xs:Array Operand} {ts:Array TypeId} {f:FuncId} {first caps:Array Value} (ho:o.op=.call { callee:=.value x,args:=xs,argTypes:=ts }) (hx:a.eval x=.func (.func f) first caps) (hc:∀ (args:Array Value) (w:World),(callFunc f args).run P w=.ok (.enter f args) w)
  {args:Array Value} (hxs:xs.toList.mapM (evO l)=some args.toList) {v:Value} (hR:Calls P f (first++args++caps) w fun e w'=>e=.returned v∧Below w.heap.size w w') {d:Nat} (hd:o.dst=some d) (hN:Nat.blt d N=true) (hS:St W s w)
  (h:∀ w' a',St W s w'→Fr N a' ((d,v)::l)→wpList P ops Q rest a' w'):wpList P ops Q (o::rest) a w :=
 ZeY hg hF ho hx hc hxs hR hd hN fun _ w' ⟨he,hb⟩=>⟨v,he,fun a' hF'=>h w' a' (hS.later hb) hF'⟩
end
def ZeZ (p:Nat→Bool) (n k:Nat):Int:=if _h:k<n then (if p k then (k:Int) else ZeZ p n (k+1)) else -1
termination_by n - k
theorem ZgZ {p:Nat→Bool} {n k:Nat} (h:k<n):ZeZ p n k=if p k then (k:Int) else ZeZ p n (k+1):=by
 rw [ZeZ,dif_pos h]
theorem ZhU {p:Nat→Bool} {n k:Nat} (h:n≤k):ZeZ p n k=-1:=by
 rw [ZeZ,dif_neg (by omega)]
def ZcB (p:Nat→Bool):Nat→Bool
 | 0=>true
 | k+1=>ZcB p k && p k
theorem Zi9 {p:Nat→Bool} {k n:Nat} (h:p k=false) (hk:k<n):ZcB p n=false:=by
 induction n with
 | zero=>omega
 | succ n ih =>
  unfold ZcB
  by_cases h1:k<n
  ·rw [ih h1];rfl
  ·obtain rfl:k=n:=by omega
   rw [h];exact Bool.and_false _
theorem ZnM {p:Nat→Bool} {n:Nat} (h:∀ k,k<n→p k=true):ZcB p n=true:=by
 induction n with
 | zero=>rfl
 | succ n ih =>
  unfold ZcB;rw [ih (fun k hk=>h k (by omega)),h n (by omega)];rfl
theorem ZlY (p:Nat→Bool) (n:Nat):decide (0≤ZeZ p n 0)=!ZcB (fun k=>!p k) n:=by
 have key:∀ m k,n - k=m→(∀ j,j<k→p j=false)→decide (0≤ZeZ p n k)=!ZcB (fun k=>!p k) n:=by
  intro m
  induction m with
  | zero =>
   intro k hk hf;rw [ZhU (by omega),ZnM (fun j hj=>by rw [hf j (by omega)];rfl)];rfl
  | succ m ih =>
   intro k hk hf;rw [ZgZ (by omega)]
   cases hp:p k with
   | true =>
    rw [Zi9 (k:=k) (by rw [hp];rfl) (by omega)]
    simp
   | false =>
    rw [if_neg (by simp)];exact ih (k+1) (by omega) (fun j hj=>by
     by_cases h:j<k
     ·exact hf j h
     ·obtain rfl:j=k:=by omega
      exact hp)
 exact key n 0 (by omega) (fun j hj=>by omega)
theorem XR:ZbA prog 22 9 1 16:=by
 obtain ⟨i0,hi,hz0,hz1,hz2⟩:=info_parts Tryz.infoStringS;exact ⟨Tryz.underlying22,⟨i0,_,hi,hz0,hz1,hz2,rfl⟩,by decide⟩
structure HD where
  a0:Option Addr
  c0:Nat
  a1:Option Addr
  c1:Nat
  d:Zox
instance:Inhabited Zox:=⟨⟨[],[],false⟩⟩
instance:Inhabited HD:=⟨⟨none,0,none,0,default⟩⟩
section
variable {P:Program} {o:Oper} {a:Act} {w:World} {e:TypeId}
theorem Zja {t:TypeId} {x y:Operand} (ho:o.op=.slice t x (some y) none none) {g off n cap:Nat} (hx:a.eval x=.slice (some ⟨g,off,none⟩) n cap) {kk:IntKind} {m:Int} (hy:a.eval y=.int kk m) {size:Nat} (hu:Yu P t=some (e,size)) {k:Nat} (hm:m=(k:Int)) (hk:k≤n) (hc:k<cap):Yl P w o a (.slice (some ⟨g,off+k*size,none⟩) (n - k) (cap - k)):=by
 unfold Yu at hu
 split at hu
 ·rename_i e' hu'
  split at hu
  ·rename_i inf hq
   simp only [Option.some.injEq,Prod.mk.injEq] at hu;obtain ⟨_,rfl⟩:=hu;subst hm;have h2:((k:Int)≤(n:Int)):=by omega
   have h3:¬ cap=k:=by omega
   unfold Yl execOp;simp only [ho,hx,hy,Option.map_some,Option.map_none,Instr.sliceAt,Instr.slice,Sem.run_bind,run_underlying hu' w,Result.andThen_ok];simp [Instr.slice,Instr.sliceBounds,Instr.sliceBound,asIntOf,go_sem,run_underlying hu' w,sizeOf,typeInfo,hq,h2,h3,Addr.add];rw [if_pos hk]
   by_cases hz:k*inf.size=0
   ·rw [if_pos hz,hz,Nat.add_zero]
   ·rw [if_neg hz]
  ·cases hu
 ·cases hu
end
section
variable {P:Program} {ops:Array Oper} {Q:Exit→Act→World→Prop} {a:Act} {w W:World} {s:List Asr} {fuel m N:Nat} {listed:Array Bool} {oi:Oper} {l:List (Nat × Value)} {K:Act→World→Prop}
end
def holdsA (P:World→Prop):Asr:=⟨fun w f=>∀ w',w.heap.size≤w'.heap.size→(∀ b,b ∈ f→w'.heap[b]? = w.heap[b]?)→P w',fun w w' f hs hb h w2 hs2 hb2=>h w2 (Nat.le_trans hs hs2) fun b hm=>(hb2 b hm).trans (hb b hm)⟩
theorem St.hold {W w:World} {A:Asr} {F:List Asr} {P:World→Prop} (h:St W (A::F) w) (hP:∀ w f,A.P w f→P w):St W (holdsA P::F) w:=by
 obtain ⟨f,⟨f1,f2,rfl,h1,h2⟩,hn,hb⟩:=h.sep;exact ⟨h.bel,f1++f2,⟨f1,f2,rfl,fun w' hs hb=>hP w' f1 (A.loc _ _ _ hs hb h1),h2⟩,hn,hb⟩
theorem St.holds {W w:World} {s:List Asr} {P:World→Prop} (h:St W s w) (i:Nat) (hi:s[i]? = some (holdsA P)):P w:=by
 obtain ⟨f,h1,_⟩:=h.get i hi;exact h1 w (Nat.le_refl _) fun _ _=>rfl
theorem Rd.drop {α:Type} {enc:α→List Value} {size:Nat} {w:World} {g o n:Nat} {xs:List α} (h:Rd enc size w (some ⟨g,o,none⟩) n xs) {k:Nat} (hk:k≤xs.length):Rd enc size w (some ⟨g,o+k*size,none⟩) (n - k) (xs.drop k):=by
 refine ⟨by rw [List.length_drop,h.len],fun i hi=>?_⟩;rw [List.length_drop] at hi;obtain ⟨b,off,x,hx,e,hlt,hr⟩:=h.at_ (k+i) (by omega);simp only [Option.some.injEq,Addr.mk.injEq,and_true] at e;obtain ⟨rfl,rfl⟩:=e;exact ⟨g,o+k*size,x,by rw [List.getElem?_drop];exact hx,rfl,hlt,by rw [Nat.add_assoc,← Nat.add_mul];exact hr⟩
theorem J0 {α:Type} {enc:α→List Value} {size:Nat} {T:TypeId} (he:∀ x,(enc x).length=size) {w:World} {f:List Nat} {ao:Option Addr} {n c:Nat} {xs:List α} (h:(Zd enc size T (.slice ao n c) xs).P w f):Rd enc size w ao n xs:=by
 obtain ⟨_,B1,r⟩:=h;obtain ⟨u,e0,k0,d0⟩:=r.rd he;simp only [Value.slice.injEq] at k0;obtain ⟨rfl,hn,rfl⟩:=k0;rw [hn];exact d0
theorem QD (n:Int) (w0:World) (hT:Xq w0):Calls prog 102 #[.int .i64 n] w0 fun e w'=>e=.returned (.string (ZX n))∧Below w0.heap.size w0 w':=by
 have HT:=Bx.mk hT;clear hT;have E:=Bx.mk (St.start w0);refine ent func102 ntmps102 ?_;refine xsr<|xr 1 rfl<|xne<|xsq<|xsr<|xr 1 rfl ?_;refine ycB ((Yd n 0 999999999 _).mono fun _ _ h=>⟨h.1,h.2 ▸ Below.refl _ _⟩) func28 E ?_;clear E;intro w1 E;refine xr 1 rfl<|xne<|xcs 5 rfl (fun cc1=>?_) fun cc1=>?_;refine xct rfl<|xsr<|xr 1 rfl<|xne<|xre<|xtr<|xb1 results102 rfl ?_;exact ⟨by rw [ZhO (by have:=cc1;simp [inB] at this;omega)];rfl,E.o.bel⟩;refine xcf rfl<|xsk<|xet<|xsq ?_;have hin:inB n 0 999999999=true:=by simpa using cc1
 obtain ⟨hn0,hn1⟩:0≤n∧n≤999999999:=by unfold inB at hin;simpa using hin
 obtain ⟨m,rfl⟩:∃ m:Nat,n=(m:Int):=⟨n.toNat,by omega⟩;refine xrl<|xr 1 rfl ?_;refine ycB (ZhP m (by omega) _ (HT.o.below E.o.bel)) func98 E ?_;clear E;intro w2 E;refine xr 1 rfl<|xne<|xre<|xb1 results102 rfl ?_;exact ⟨by rw [XF hn0 hn1,Int.toNat_natCast],E.o.bel⟩
theorem Uf (x:UInt8):(⟨#[x]⟩:ByteArray).size=1:=rfl
theorem Zgn {n:Nat} (h:decide ((2048:Int)<(n:Int))=false):n≤2048:=by have:=of_decide_eq_false h;omega
theorem Zgo {n:Nat} (h:decide ((2048:Int)<(n:Int))=true):¬ n≤2048:=by have:=of_decide_eq_true h;omega
theorem QE (a0:Option Addr) (n c0:Nat) (xs:List ByteArray) (w0:World) (hT:Xq w0) (hl:xs.length≤1048576) (hx:szs xs) (hR:Rd Zt 1 w0 a0 n xs):Calls prog 64 #[.slice a0 n c0] w0 fun e w'=>e=.returned (.tuple #[.string (Yy xs).1,.bool (Yy xs).2])∧Below w0.heap.size w0 w':=by
 obtain rfl:=hR.len;obtain ⟨g0,o0,r0⟩:=hR.opn;have R0:=Bx.mk r0;clear r0 hR;have HT:=Bx.mk hT;clear hT;have E:=Bx.mk (St.start w0);refine Q9 func64 rfl ntmps64 [(0,.slice a0 xs.length c0)] ⟨rfl,trivial⟩ rfl ?_;refine xsr<|xr 2 rfl<|xne<|xsq<|xsr<|xr 1 rfl<|xy rfl (vn 9 1 rfl)<|xr 1 rfl<|xne<|xcd 9 rfl (fun _ dcc1=>?_) fun _ dcc1=>?_;refine xct rfl<|xsr<|xr 2 rfl<|xne<|xre<|xtr<|xb2 results64 rfl rfl ?_;exact ⟨by rw [UP (by omega)];rfl,E.o.bel⟩;refine xcf rfl<|xsk<|xet<|xsr ?_;refine yal [.pointer none,.slice none 0 0] E ?_;clear E;intro w1 b1 E;refine xne<|xsq<|xsr<|xr 1 rfl<|xy rfl (vn 9 1 rfl)<|xr 1 rfl<|xne<|xbl ?_;replace E:=Bx.mk E.o.bldNew;intro a O;refine ZD (ι:=Nat) (fun k a w=>(k≤xs.length∧(Yk (xs.take k)).size≤2048)∧Fr 27 a [(4,.pointer (some ⟨b1,0,none⟩)),(10,.slice a0 xs.length c0),(11,.int .i64 (xs.length:Int)),(12,.int .i64 (k:Int))]∧St w0 ([bldA b1 (Yk (xs.take k)).data.toList]) w) (fun k=>xs.length - k) 0 ⟨⟨Nat.zero_le _,by simp [Yk]⟩,O.less _ ⟨rfl,rfl,rfl,rfl,trivial⟩,E.o⟩ ?_;clear O E;clear a;rintro k a w2 ⟨⟨hk,hr⟩,O,E⟩;replace E:=Bx.mk E;have hxk:=hx k;have hdec:=Vb (n:=(xs.getD k ByteArray.empty).size) (by omega);revert a;refine xsr<|xr 1 rfl<|xne<|xsq<|xcd 13 rfl (fun _ dcc2=>?_) fun _ dcc2=>?_
 refine xct rfl<|xsk<|xet<|xsq<|xbl<|xsr<|xy rfl (vxr 9 k 1 rfl (R0.out.ao k (by omega)))<|xy rfl (fun a O=>ylo (v:=.string (xs.getD k ByteArray.empty)) rfl (O.ev rfl) (R0.out.elem1 E.o (Zh (xs:=xs) (j:=k) (d:=ByteArray.empty) (by omega)) rfl))<|xr 1 rfl<|xne<|xsr<|xr 1 rfl<|xy rfl (fun a O=>YN rfl (O.ev rfl) (by kernel_rfl)) ?_;refine ycB (ZhP ((xs.getD k ByteArray.empty).size) (by omega) _ (HT.o.below E.o.bel)) func98 E ?_;clear E;intro w3 E;replace E:=E.pks [0];refine yc (ZeO w0 _ b1 ((Yk (xs.take k)).data.toList) (ZM ((xs.getD k ByteArray.empty).size)) (by simp only [List.length_append,List.length_cons,List.length_nil,← Zg];omega) E.o) func97 ?_;rintro _ w4 ⟨rfl,hs1⟩;refine ⟨_,rfl,?_⟩;replace E:=Bx.mk hs1;clear hs1;refine xne<|xsr ?_;replace E:=E.pks [0];refine yc (Zi5 w0 _ b1 ((Yk (xs.take k)).data.toList++(ZM ((xs.getD k ByteArray.empty).size)).data.toList) (58:UInt8) (by simp only [List.length_append,List.length_cons,List.length_nil,← Zg];omega) E.o) func99 ?_;rintro _ w5 ⟨rfl,hs1⟩;refine ⟨_,rfl,?_⟩;replace E:=Bx.mk hs1;clear hs1;refine xne<|xsr<|xr 1 rfl ?_;replace E:=E.pks [0];refine yc (ZeO w0 _ b1 (((Yk (xs.take k)).data.toList++(ZM ((xs.getD k ByteArray.empty).size)).data.toList)++[(58:UInt8)]) (xs.getD k ByteArray.empty) (by simp only [List.length_append,List.length_cons,List.length_nil,← Zg];omega) E.o) func97 ?_;rintro _ w6 ⟨rfl,hs1⟩;refine ⟨_,rfl,?_⟩;replace E:=Bx.mk hs1;clear hs1;refine xne<|xsr ?_;refine ycB (Zi6 w0 _ b1 ((((Yk (xs.take k)).data.toList++(ZM ((xs.getD k ByteArray.empty).size)).data.toList)++[(58:UInt8)])++(xs.getD k ByteArray.empty).data.toList) E.o) func100 E ?_;clear E;intro w7 E;refine xr 1 rfl<|xne<|xcd 24 rfl (fun cc3 dcc3=>?_) fun cc3 dcc3=>?_;refine xct rfl<|xsr<|xr 2 rfl<|xne<|xre<|xbr<|xtr<|xtr<|xbr<|xtr<|xb2 results64 rfl rfl ?_;have hgt:¬ (Yk (xs.take (k+1))).size≤2048:=by rw [UC xs (by omega),Zg,Z3,Z3,Z3];exact Zgo cc3
 exact ⟨by rw [ZbC hgt];rfl,E.o.bel⟩;refine xcf rfl<|xsk<|xeb<|xet<|xrl<|xy rfl (vad rfl)<|xr 1 rfl<|xne ?_;replace E:Bx (St w0 [bldA b1 (Yk (xs.take (k+1))).data.toList] _):=⟨by rw [UC xs (by omega),Z3,Z3,Z3];exact E.o⟩;have hle:(Yk (xs.take (k+1))).size≤2048:=by rw [UC xs (by omega),Zg,Z3,Z3,Z3];exact Zgn cc3
 intro a O;exact ⟨k+1,⟨⟨by omega,hle⟩,O.less _ ⟨rfl,rfl,rfl,rfl,trivial⟩,E.o⟩,(by omega)⟩;refine xcf rfl<|xex<|xtx<|xtx<|xbh<|xet<|xsr ?_;replace E:=E.pks [0];refine yc (Zi7 w0 _ b1 ((Yk (xs.take k)).data.toList) E.o) func101 ?_;rintro _ w8 ⟨rfl,hs1⟩;refine ⟨_,rfl,?_⟩;replace E:=Bx.mk hs1;clear hs1;refine xr 2 rfl<|xne<|xre<|xb2 results64 rfl rfl ?_;obtain rfl:k=xs.length:=by omega
 rw [List.take_length] at hr;exact ⟨by rw [Xo (by omega) hr];simp [List.take_length],E.o.bel⟩
theorem Zgp (n:Nat) (hn:n≤9223372036854775807) (w0:World):Calls prog 84 #[.int .i64 (n:Int)] w0 fun e w'=>e=.returned (.string (ZM n))∧Below w0.heap.size w0 w':=by
 induction n using Nat.strongRecOn generalizing w0
 rename_i n ih
 have hd:=Vb (n:=n / 10) (by omega);have E:=Bx.mk (St.start w0);refine ent func84 ntmps84 ?_;refine xsr<|xr 1 rfl<|xne<|xsq<|xsr<|xr 2 rfl<|xne<|xcd 4 rfl (fun _ dcc1=>?_) fun _ dcc1=>?_
 omega
 refine xcf rfl<|xsk<|xet<|xsq<|xsr<|xr 2 rfl<|xne<|xcd 6 rfl (fun _ dcc2=>?_) fun _ dcc2=>?_
 omega
 refine xcf rfl<|xsk<|xet<|xsq<|xsr<|xr 2 rfl<|xne<|xcd 12 rfl (fun _ dcc3=>?_) fun _ dcc3=>?_;refine xct rfl<|xsr<|xr 1 rfl<|xy rfl (vad rfl)<|xy rfl (fun a O=>ZjZ (b:=UInt8.ofNat ((48:Int)+(n:Int)).toNat) rfl (O.ev rfl) (by omega) rfl (by kernel_rfl) (by kernel_rfl)) ?_;refine ybs ZkD 5 1 [(UInt8.ofNat ((48:Int)+(n:Int)).toNat)] E ?_;clear E;intro b1 w1 E;refine xy rfl (fun a O=>Zbi (e1:=5) rfl (O.ev rfl) (by kernel_rfl) (by kernel_rfl) (by kernel_rfl) (xs:=[(UInt8.ofNat ((48:Int)+(n:Int)).toNat)]) (St.rdN E.o ZaB 0 rfl))<|xr 1 rfl<|xne<|xre<|xtr<|xb1 results84 rfl ?_;exact ⟨by rw [Zi2 (by omega),show UInt8.ofNat (48+(n:Int)).toNat=UInt8.ofNat (48+n) from congrArg UInt8.ofNat (by omega)],E.o.bel⟩;refine xcf rfl<|xsk<|xet<|xsq ?_;refine hld [] E ?_;clear E;intro w2 E U;refine Hp 0 E rfl<|xhy 1 E.o rfl rfl (fun E a O=>Zef rfl (O.ev rfl) (O.ev rfl) (by omega) (Zeg (by omega) (by omega) (by omega)))<|Hp 3 E rfl<|xhy 4 E.o rfl rfl (fun E a O=>Ua rfl (O.ev rfl) (O.ev rfl) (by omega) (Ub (by omega) (by omega)))<|xhy 5 E.o rfl rfl (fun E=>vad rfl)<|xhy 6 E.o rfl rfl (fun E a O=>ZjZ (b:=UInt8.ofNat ((48:Int)+((n:Int) % 10)).toNat) rfl (O.ev rfl) (by omega) rfl (by kernel_rfl) (by kernel_rfl)) ?_;refine Zdb 2 7 ?_ ?_;refine yoB (ih (n / 10) (by omega) (by omega) _) func84 ?_;intro w3 hb;replace E:=Bx.mk (E.o.later hb);replace U:=Bx.mk (U.o.later hb);clear hb;refine onb E.o ?_;refine ZI 7 ?_;intro a O;refine Yc (enc:=ZkD) (e:=5) (size:=1) rfl rfl O rfl rfl rfl (ps:=[(0,.int .u8 ((UInt8.ofNat ((48:Int)+((n:Int) % 10)).toNat).toNat:Int))]) rfl (cells:=[.int .u8 ((UInt8.ofNat ((48:Int)+((n:Int) % 10)).toNat).toNat:Int)]) (by kernel_rfl) [(UInt8.ofNat ((48:Int)+((n:Int) % 10)).toNat)] rfl rfl (by unfold maxLen;omega) rfl U.o E.o ?_;clear O E U a;intro b2 a w5 O U E;replace E:=Bx.mk E;replace U:=Bx.mk U;refine ⟨E.o,?_⟩;revert a;refine ZI 8 ?_;refine yoy E (fun a O=>Zbi (e1:=5) rfl (O.ev rfl) (by kernel_rfl) (by kernel_rfl) (by kernel_rfl) (xs:=[(UInt8.ofNat ((48:Int)+((n:Int) % 10)).toNat)]) (St.rdN U.o ZaB 0 rfl)) ?_;refine xhy 9 E.o rfl rfl (fun E a O=>Y9 rfl (O.ev rfl) (O.ev rfl) (by (try simp only [Uf,Z7]);omega))<|Hp 10 E rfl ?_;refine hdn ?_;replace E:=U;clear U;refine xet<|xre<|xb1 results84 rfl ?_;exact ⟨by rw [ZeL (n:=n) (by omega),show UInt8.ofNat (48+(n:Int) % (10:Int)).toNat=UInt8.ofNat (48+n % 10) from congrArg UInt8.ofNat (by omega)],E.o.bel⟩;intro a O;refine Yc (enc:=ZkD) (e:=5) (size:=1) rfl rfl O rfl rfl rfl (ps:=[(0,.int .u8 ((UInt8.ofNat ((48:Int)+((n:Int) % 10)).toNat).toNat:Int))]) rfl (cells:=[.int .u8 ((UInt8.ofNat ((48:Int)+((n:Int) % 10)).toNat).toNat:Int)]) (by kernel_rfl) [(UInt8.ofNat ((48:Int)+((n:Int) % 10)).toNat)] rfl rfl (by unfold maxLen;omega) rfl U.o E.o ?_;clear O E U a;intro b3 a w8 O U E;replace E:=Bx.mk E;replace U:=Bx.mk U;refine ⟨E.o,?_⟩;revert a;refine Zdb 2 8 ?_ ?_;refine yoB (ih (n / 10) (by omega) (by omega) _) func84 ?_;intro w9 hb;replace E:=Bx.mk (E.o.later hb);replace U:=Bx.mk (U.o.later hb);clear hb;refine onb E.o ?_;refine ZI 8 ?_;refine yoy E (fun a O=>Zbi (e1:=5) rfl (O.ev rfl) (by kernel_rfl) (by kernel_rfl) (by kernel_rfl) (xs:=[(UInt8.ofNat ((48:Int)+((n:Int) % 10)).toNat)]) (St.rdN U.o ZaB 0 rfl)) ?_;refine xhy 9 E.o rfl rfl (fun E a O=>Y9 rfl (O.ev rfl) (O.ev rfl) (by (try simp only [Uf,Z7]);omega))<|Hp 10 E rfl ?_;refine hdn ?_;replace E:=U;clear U;refine xet<|xre<|xb1 results84 rfl ?_;exact ⟨by rw [ZeL (n:=n) (by omega),show UInt8.ofNat (48+(n:Int) % (10:Int)).toNat=UInt8.ofNat (48+n % 10) from congrArg UInt8.ofNat (by omega)],E.o.bel⟩;refine yoy E (fun a O=>Zbi (e1:=5) rfl (O.ev rfl) (by kernel_rfl) (by kernel_rfl) (by kernel_rfl) (xs:=[(UInt8.ofNat ((48:Int)+((n:Int) % 10)).toNat)]) (St.rdN U.o ZaB 0 rfl)) ?_;refine ZI 2 ?_;refine yoB (ih (n / 10) (by omega) (by omega) _) func84 ?_;intro w12 hb;replace E:=Bx.mk (E.o.later hb);replace U:=Bx.mk (U.o.later hb);clear hb;refine onb E.o ?_;refine xhy 9 E.o rfl rfl (fun E a O=>Y9 rfl (O.ev rfl) (O.ev rfl) (by (try simp only [Uf,Z7]);omega))<|Hp 10 E rfl ?_;refine hdn ?_;replace E:=U;clear U;refine xet<|xre<|xb1 results84 rfl ?_;exact ⟨by rw [ZeL (n:=n) (by omega),show UInt8.ofNat (48+(n:Int) % (10:Int)).toNat=UInt8.ofNat (48+n % 10) from congrArg UInt8.ofNat (by omega)],E.o.bel⟩
theorem ZbS:(⟨#[58]⟩:ByteArray).size=1:=rfl
theorem UR (a0:Option Addr) (n c0:Nat) (xs:List ByteArray) (w0:World) (hl:xs.length≤1048576) (hx:szs xs) (hR:Rd Zt 1 w0 a0 n xs):Calls prog 83 #[.slice a0 n c0] w0 fun e w'=>e=.returned (.tuple #[.string (Yy xs).1,.bool (Yy xs).2])∧Below w0.heap.size w0 w':=by
 obtain rfl:=hR.len;obtain ⟨g0,o0,r0⟩:=hR.opn;have R0:=Bx.mk r0;clear r0 hR;have E:=Bx.mk (St.start w0);refine Q9 func83 rfl ntmps83 [(0,.slice a0 xs.length c0)] ⟨rfl,trivial⟩ rfl ?_;refine xsr<|xr 2 rfl<|xne<|xsr<|xr 1 rfl<|xne<|xsq<|xsr<|xr 1 rfl<|xne<|xbl ?_;intro a O;refine ZD (ι:=Nat) (fun k a w=>(k≤xs.length∧(Yk (xs.take k)).size≤2048∧(¬ xs.length≤60→k=0))∧Fr 44 a [(0,.slice a0 xs.length c0),(4,.string (Yk (xs.take k))),(5,.int .i64 (k:Int))]∧St w0 ([]) w) (fun k=>xs.length - k) 0 ⟨⟨Nat.zero_le _,by simp [Yk],fun _=>rfl⟩,O.less _ ⟨rfl,rfl,rfl,trivial⟩,E.o⟩ ?_;clear O E;clear a;rintro k a w1 ⟨⟨hk,hr,h0k⟩,O,E⟩;replace E:=Bx.mk E;have hxk:=hx k;have hdec:=Vb (n:=(xs.getD k ByteArray.empty).size) (by omega);revert a;refine xsq<|xsr<|xr 2 rfl<|xy rfl (vn 9 1 rfl)<|xr 2 rfl<|xcd 10 rfl (fun _ dcc1=>?_) fun _ dcc1=>?_
 refine xr 1 rfl<|xy rfl (vn 9 1 rfl)<|xr 2 rfl<|xne<|xcd 14 rfl (fun _ dcc2=>?_) fun _ dcc2=>?_;refine xct rfl<|xsk<|xet<|xsq<|xbl<|xsq<|xsr<|xr 2 rfl<|xy rfl (vxr 9 k 1 rfl (R0.out.ao k (by omega)))<|xy rfl (fun a O=>ylo (v:=.string (xs.getD k ByteArray.empty)) rfl (O.ev rfl) (R0.out.elem1 E.o (Zh (xs:=xs) (j:=k) (d:=ByteArray.empty) (by omega)) rfl))<|xy rfl (fun a O=>YN rfl (O.ev rfl) (by kernel_rfl))<|xr 1 rfl<|xne<|xcd 22 rfl (fun _ dcc3=>?_) fun _ dcc3=>?_;refine xct rfl<|xsr<|xr 2 rfl<|xne<|xre<|xtr<|xbr<|xtr<|xtr<|xbr<|xtr<|xb2 results83 rfl rfl ?_;exact ⟨by rw [ZeN (k:=k) (by omega) (by omega)];rfl,E.o.bel⟩;refine xcf rfl<|xsk<|xet<|xsq ?_;intro a O;refine Yr (by kernel_rfl) (by kernel_rfl) E.o ?_;revert a;refine xqr 3 rfl<|xq rfl (fun E=>vxr 9 k 1 rfl (R0.out.ao k (by omega)))<|xq rfl (fun E a O=>ylo (v:=.string (xs.getD k ByteArray.empty)) rfl (O.ev rfl) (R0.out.elem1 E (Zh (xs:=xs) (j:=k) (d:=ByteArray.empty) (by omega)) rfl))<|xq rfl (fun E a O=>YN rfl (O.ev rfl) (by kernel_rfl)) ?_;refine yq (fun _ E=>Zgp ((xs.getD k ByteArray.empty).size) (by omega) _) func84 ?_;refine xq rfl (fun E a O=>Y9 rfl (O.ev rfl) (O.ev rfl) (by (try simp only [ZbS,Z7]);omega))<|xq rfl (fun E a O=>Y9 rfl (O.ev rfl) (O.ev rfl) (by (try simp only [ZbS,Z7]);omega))<|xqr 2 rfl<|xq rfl (fun E=>vxr 9 k 1 rfl (R0.out.ao k (by omega)))<|xq rfl (fun E a O=>ylo (v:=.string (xs.getD k ByteArray.empty)) rfl (O.ev rfl) (R0.out.elem1 E (Zh (xs:=xs) (j:=k) (d:=ByteArray.empty) (by omega)) rfl))<|xq rfl (fun E a O=>Y9 rfl (O.ev rfl) (O.ev rfl) (by (try simp only [ZbS,Z7]);omega))<|xqr 1 rfl ?_;intro a O;refine wpQuiet_nil ?_;intro w2 E;replace E:=Bx.mk E;revert a;refine xet<|xsr<|xr 1 rfl<|xy rfl (fun a O=>YN rfl (O.ev rfl) (by kernel_rfl))<|xr 1 rfl<|xne<|xcd 39 rfl (fun cc4 dcc4=>?_) fun cc4 dcc4=>?_
 refine xct rfl<|xsr<|xr 2 rfl<|xne<|xre<|xbr<|xtr<|xtr<|xbr<|xtr<|xb2 results83 rfl rfl ?_;have hgt:¬ (Yk (xs.take (k+1))).size≤2048:=by rw [UC xs (by omega)];exact Zgo cc4
 exact ⟨by rw [ZbC hgt];rfl,E.o.bel⟩;refine xcf rfl<|xsk<|xeb<|xet<|xrl<|xr 1 rfl<|xy rfl (vad rfl)<|xr 1 rfl<|xne ?_;have hst:=UC xs (k:=k) (by omega);have hle:(Yk (xs.take (k+1))).size≤2048:=by rw [hst];exact Zgn cc4
 intro a O;exact ⟨k+1,⟨⟨by omega,hle,fun h=>absurd h (by omega)⟩,O.less _ ⟨rfl,(congrArg (fun z=>some (Value.string z)) hst.symm),rfl,trivial⟩,E.o⟩,(by omega)⟩;refine xcf rfl<|xex<|xtx<|xtx<|xbh<|xet<|xsr<|xr 2 rfl<|xy rfl (vn 9 1 rfl)<|xr 3 rfl<|xne<|xre<|xb2 results83 rfl rfl ?_
 by_cases h60:xs.length≤60
 obtain rfl:k=xs.length:=by omega
 rw [List.take_length] at hr;exact ⟨by rw [Xo h60 hr,List.take_length,show ((decide ((xs.length:Int)≤60)))=true from decide_eq_true (by omega)],E.o.bel⟩;obtain rfl:k=0:=h0k (by omega);exact ⟨by rw [UP h60,show ((decide ((xs.length:Int)≤60)))=false from decide_eq_false (by omega)];rfl,E.o.bel⟩;refine xr 4 rfl<|xne<|xcf rfl<|xex<|xtx<|xtx<|xbh<|xet<|xsr<|xr 2 rfl<|xy rfl (vn 9 1 rfl)<|xr 3 rfl<|xne<|xre<|xb2 results83 rfl rfl ?_
 by_cases h60:xs.length≤60
 obtain rfl:k=xs.length:=by omega
 rw [List.take_length] at hr;exact ⟨by rw [Xo h60 hr,List.take_length,show ((decide ((xs.length:Int)≤60)))=true from decide_eq_true (by omega)],E.o.bel⟩;obtain rfl:k=0:=h0k (by omega);exact ⟨by rw [UP h60,show ((decide ((xs.length:Int)≤60)))=false from decide_eq_false (by omega)];rfl,E.o.bel⟩
theorem V6 {n lo hi:Int} (h1:lo≤n) (h2:n≤hi):inB n lo hi=true:=by
 unfold inB;simp [h1,h2]
def Zg0 (n:Nat) (acc:List UInt8):List UInt8:=if n=0 then acc else Zg0 (n / 10) ((48+UInt8.ofNat (n % 10))::acc)
termination_by n
decreasing_by omega
def QF (k:Int):ByteArray:=⟨(109::Zg0 k.toNat []).toArray⟩
theorem ZlZ {n:Nat} (h:0<n) (acc:List UInt8):Zg0 n acc=Zg0 (n / 10) ((48+UInt8.ofNat (n % 10))::acc):=by
 rw [Zg0];exact if_neg (by omega)
theorem ZkH (acc:List UInt8):Zg0 0 acc=acc:=by
 rw [Zg0];exact if_pos rfl
theorem ZkI {L n:Nat} (h:n*10 ^ L≤9223372036854775807) (hn:0<n):L≤18:=by
 by_cases hl:L≤18
 ·exact hl
 ·have h1:10 ^ 19≤10 ^ L:=Nat.pow_le_pow_right (by omega) (by omega)
  have h2:1*10 ^ L≤n*10 ^ L:=Nat.mul_le_mul_right _ hn
  omega
theorem Zl0 {L n:Nat} (h:n*10 ^ L≤9223372036854775807):n / 10*10 ^ (L+1)≤9223372036854775807:=by
 have h1:n / 10*10≤n:=Nat.div_mul_le_self n 10;have h2:=Nat.mul_le_mul_right (10 ^ L) h1;rw [Nat.pow_succ,Nat.mul_comm (10 ^ L) 10,← Nat.mul_assoc]
 omega
theorem Zph {P:Program} (w:World) (src dst e:TypeId) (n:Int) (h0:0≤n) (h1:n<256) (hs:P.underlying src=some (.slice e)) (he:P.underlying e=some (.int .u8)) (hd:P.underlying dst=some .string) :
  (convert src dst (.slice (some ⟨w.heap.size,0,none⟩) 1 1)).run P (w.alloc (.cells #[.int .u8 n] e))=.ok (.string ⟨[UInt8.ofNat n.toNat].toArray⟩) (w.alloc (.cells #[.int .u8 n] e)):=by
 refine run_convert_bytes_back (P:=P) _ src dst e ⟨w.heap.size,0,none⟩ 1 [UInt8.ofNat n.toNat] hs he hd ?_;intro j hj;simp at hj;subst hj;have e1:((UInt8.ofNat n.toNat).toNat:Int)=n:=by
  rw [UInt8.toNat_ofNat']
  omega
 simp only [List.getElem_cons_zero,e1];exact Zc (ZY w _ _ rfl) 0
theorem ZcC (k:Int) (w:World) (h0:0<k) (h1:k≤9223372036854775807) :
  Calls prog 68 #[.int .i64 k] w fun e w'=>e=.returned (.string (QF k))∧Below w.heap.size w w':=by
 go_enter func68,ntmps68
 go_wp2
 go_loopw [0,3] (fun k' s wr=>∃ (n:Nat) (acc:List UInt8),n*10 ^ acc.length≤9223372036854775807∧acc.length≤19∧k'=.int .i64 n∧s=.string ⟨acc.toArray⟩∧Zg0 n acc=Zg0 k.toNat []∧Below w.heap.size w wr) (fun k' _ _=>(intOf k').toNat)
 case atStart=>exact ⟨k.toNat,[],by simp;omega,by simp,by rw [Int.toNat_of_nonneg (by omega)],rfl,rfl,Below.refl _ _⟩
 case round =>
  obtain ⟨n,acc,hn,hl,rfl,rfl,hd,hb⟩:=hrel;have HD:=Lib.hid hd;have HN:=Lib.hid hn;have hn1:n≤9223372036854775807:=Nat.le_trans (Nat.le_mul_of_pos_right n (Nat.pow_pos (by omega))) hn;clear hd hn
  by_cases hlt:0<n
  ·have hcv:=Zph (P:=prog) wr 119 9 5 (48+(n:Int) % 10) (by omega) (by omega) Tryz.underlying119 Tryz.underlying5 Tryz.underlying9
   have hl2:=ZkI HN.out hlt
   go_wp2
   go_roundw
   case rel=>exact ⟨n / 10,(48+UInt8.ofNat (n % 10))::acc,Zl0 HN.out,by simp;omega,by go_num,rfl,by rw [← HD.out,ZlZ hlt],hb.alloc hb.size _⟩
   case measure=>simp [intOf];omega
  ·have hn0:n=0:=by omega
   subst hn0;have hfin:=Lib.hid (HD.out.symm.trans (ZkH acc))
   go_wp2
   go_ret
   refine ⟨?_,hb⟩;unfold QF;rw [hfin.out]
   rfl
theorem ZdY (ao:Option Addr) (len cap B:Nat) (cs:List Value) (k:Int) (w:World) (hk0:0<k) (hk1:k≤1000000000000) (hlen:len≤1048576) (hpos:0<len) (hown:w.ownsRow B 9 1 (.slice ao len cap) len cs) :
  Calls prog 37 #[.slice ao len cap,.int .i64 k] w fun e w'=>e=.returned (.int .i64 (k+(len:Int)*1))∧w'.ownsRow B 9 1 (.slice ao len cap) len ((Z9 QF 1 k len).flatMap Zt)∧w.grownBy w' (Value.slice ao len cap).ownBlock:=by
 ·obtain ⟨ao',cap',hv,hcl,_,hg⟩:=Yq hown
  obtain ⟨g,rfl,hgB,hgs⟩:=hg hpos;simp only [Value.slice.injEq,true_and] at hv;obtain ⟨rfl,rfl⟩:=hv;have hml:=ZB QF 1 k len;have hF0:Q6 Zt 1 B 9 w g len cap (Z9 QF 1 k len) 0:=Q6.start hown;clear hown
  go_enter func37,ntmps37
  go_wp2
  go_loopw [1,5] (fun k' i wr=>∃ j:Nat,j≤len∧i=.int .i64 j∧k'=.int .i64 (k+(j:Int)*1)∧Q6 Zt 1 B 9 wr g len cap (Z9 QF 1 k len) j∧w.grownBy wr (some g)) (fun _ i _=>len - (intOf i).toNat)
  case atStart=>exact ⟨0,Nat.zero_le _,rfl,by simp,hF0,JW _ _⟩
  case round =>
   obtain ⟨j,hj,rfl,rfl,hf,hgr⟩:=hrel
   by_cases hlt:j<len
   ·have hx:=Lib.hid (UA QF 1 k len j hlt)
    simp only [Int.mul_one] at hx;obtain ⟨rest,hrest,hown⟩:=hf;have hcs:=Lib.hid (show ∃ rest':List Value,rest'.length=(len - j)*1∧((Z9 QF 1 k len).take j).flatMap Zt++rest=((Z9 QF 1 k len).take j).flatMap Zt++rest' from ⟨rest,hrest,rfl⟩);have hlen2:j*1+1≤(((Z9 QF 1 k len).take j).flatMap Zt++rest).length:=by
     rw [List.length_append,XT _ _ encS_len,List.length_take,hml,hrest];omega
    have hdef:∃ C,C=((Z9 QF 1 k len).take j).flatMap Zt++rest:=⟨_,rfl⟩;obtain ⟨C,hC⟩:=hdef;rw [← hC] at hown hlen2;rw [← hC] at hcs;have HC:=Lib.hid hC;clear hC hrest hml hF0;have hL:j+1≤C.length:=by omega
    have HT:=JU hown (j) 1 (hL);obtain ⟨q0,hq0⟩:=Option.isSome_iff_exists.1 (HT 0 (by omega)).1;have hz0:=(HT 0 (by omega)).2;simp only [Nat.add_zero] at hq0 hz0;clear HT
    go_wp2_with fail
    refine (ZcC _ _ (by omega) (by omega)).mono ?_;rintro e w1 ⟨rfl,hb1⟩;have ho1:=X8 hown hb1 (Nat.le_refl _);have hgr1:=X3 hgr (Zhz hb1 (Nat.le_refl _) (some g));clear hown hq0 hz0;have hL1:j+1≤(C).length:=by simpa using hL
    have HT:=JU ho1 (j) 1 (hL1);obtain ⟨q0,hq0⟩:=Option.isSome_iff_exists.1 (HT 0 (by omega)).1;have hz0:=(HT 0 (by omega)).2;simp only [Nat.add_zero] at hq0 hz0;clear HT
    go_wp2
    have hp0:=ho1.stored (j+0) (.string (QF (k+(j:Int))));simp only [Nat.add_zero] at hp0;have hgE:=(X3 hgr1 hp0.2);have hoE:=hp0.1;have hsp:(C.set (j) (.string (QF (k+(j:Int)))))=YK C (j*1) (Zt (QF (k+(j:Int)))):=by
     show _=YK C (j*1) [.string (QF (k+(j:Int)))];rw [Nat.mul_one,ZbK _ _ _ (by omega)]
    rw [hsp] at hoE;have hf3:=Q6.next encS_len (ZB QF 1 k len) hx.out hcs.out hoE
    go_roundw
    case rel=>exact ⟨j+1,by omega,by go_num,by go_num,hf3,hgE⟩
    case measure=>simp [intOf];omega
   ·have hk':j=len:=by omega
    subst hk';have hfd:=Q6.done hf hml;rw [hml] at hfd
    go_wp2
    go_ret
    exact ⟨rfl,hfd,hgr⟩
theorem Zde (ao:Option Addr) (cap:Nat) (k:Int) (w:World) :
  Calls prog 37 #[.slice ao 0 cap,.int .i64 k] w fun e w'=>e=.returned (.int .i64 k)∧w=w':=by
 go_enter func37,ntmps37
 go_wp2
 go_loop [1,5] (fun k' i=>i=.int .i64 0∧k'=.int .i64 k) (fun _ _=>0)
 case atStart=>exact ⟨rfl,rfl⟩
 case round =>
  obtain ⟨rfl,rfl⟩:=hrel
  go_wp2
  go_ret
  exact ⟨rfl,rfl⟩
theorem ZfX (ao:Option Addr) (cap:Nat) (B B1:Nat) (xs:List ByteArray) (k:Int) (w:World) (hk0:0<k) (hk1:k≤1000000000000) (hlen:xs.length≤1048576) (h:RowO Zt 1 9 w B B1 (.slice ao xs.length cap) xs) :
  Calls prog 37 #[.slice ao xs.length cap,.int .i64 k] w fun e w'=>e=.returned (.int .i64 (k+(xs.length:Int)*1))∧RowO Zt 1 9 w' B B1 (.slice ao xs.length cap) (Z9 QF 1 k xs.length)∧w.grownBy w' (Value.rowBlock (.slice ao xs.length cap)):=by
 have hlt:=h.lt;obtain ⟨ao',cap',hv,hc,hg⟩:=h;simp only [Value.slice.injEq,true_and] at hv;obtain ⟨rfl,rfl⟩:=hv
 by_cases hpos:0<xs.length
 ·rcases hc with ⟨_,hx⟩|hown
  ·rw [hx] at hpos;exact absurd hpos (Nat.lt_irrefl _)
  ·obtain ⟨ao',cap',hv,hcl,_,_⟩:=Yq hown
   simp only [Value.slice.injEq,true_and] at hv;obtain ⟨rfl,rfl⟩:=hv;refine (ZdY ao xs.length cap B _ k w hk0 hk1 hlen hpos hown).mono ?_;rintro e w' ⟨rfl,h1,h2⟩;rw [Qa (by omega)];refine ⟨rfl,⟨ao,cap,by rw [ZB],.inr (by rw [ZB];exact h1),hg⟩,h2⟩
 ·have hx:xs=[]:=List.length_eq_zero_iff.1 (by omega)
  subst hx;refine (Zde ao cap k w).mono ?_;rintro e w' ⟨rfl,rfl⟩;refine ⟨by simp,⟨ao,cap,by rw [ZB],?_,hg⟩,JW _ _⟩;rcases hc with ⟨h0,_⟩|h0
  ·exact .inl ⟨h0,rfl⟩
  ·right
   rw [ZB]
   simpa [Z9] using h0
theorem ZdZ (ao:Option Addr) (len cap:Nat) (k:Int) (w:World) (hk0:0<k) (hk1:k≤1000000000000) (hlen:len≤1048576) (hr:Rd Zt 1 w ao len (Z9 QF 1 k len)) :
  Calls prog 40 #[.slice ao len cap,.int .i64 k] w fun e w'=>e=.returned (.int .i64 (k+(len:Int)*1))∧Below w.heap.size w w':=by
 go_enter func40,ntmps40
 go_wp2
 go_loopw [1,5] (fun k' i wr=>∃ j:Nat,j≤len∧i=.int .i64 j∧k'=.int .i64 (k+(j:Int)*1)∧Below w.heap.size w wr) (fun _ i _=>len - (intOf i).toNat)
 case atStart=>exact ⟨0,Nat.zero_le _,rfl,by simp,Below.refl _ _⟩
 case round =>
  obtain ⟨j,hj,rfl,rfl,hb⟩:=hrel
  by_cases hlt:j<len
  ·obtain ⟨b,off,x,hx0,rfl,hbl,hrg⟩:=hr.at_ j (by rw [hr.len];exact hlt)
   obtain rfl:=Option.some.inj (hx0.symm.trans (UA QF 1 k len j hlt));clear hx0;have hrg2:=Zq hrg hb hbl;have hbl2:b<wr.heap.size:=Nat.lt_of_lt_of_le hbl hb.size;simp only [Nat.mul_one,Int.mul_one] at hrg2;have c0:wr.cell? ⟨b,off+j,none⟩=some (.string (QF (k+(j:Int)))):=hrg2 0 _ rfl;clear hrg hrg2
   go_wp2_with fail
   go_region_with (first|(go_at_call 68;refine (ZcC _ _ (by omega) (by omega)).mono ?_;rintro e w1 ⟨rfl,hb_1⟩;have c1_0:=(hb_1.cell (p:=⟨b,off+j,none⟩) hbl2).trans c0;have hbl_1:b<w1.heap.size:=Nat.lt_of_lt_of_le hbl2 hb_1.size;have hbw_1:=hb.drew.trans (hb_1.mono hb.size)))
   all_goals
    go_wp2
    go_roundw
    case rel=>exact ⟨j+1,by omega,by go_num,by go_num,hbw_1⟩
    case measure=>simp [intOf];omega
  ·have hk':j=len:=by omega
   subst hk'
   go_wp2
   go_ret
   exact ⟨rfl,hb⟩
theorem Zl1:ZbA prog 23 3 1 8:=by
 obtain ⟨i0,hi,hz0,hz1,hz2⟩:=info_parts (P:=prog) (e:=3) (z:=.int .i64 0) (size:=1) (bytes:=8) (by kernel_rfl);exact ⟨Tryz.underlying23,⟨i0,_,hi,hz0,hz1,hz2,rfl⟩,by decide⟩
theorem XN (n:Int) (h0:0≤n) (h1:n≤9223372036854775807) (w0:World):Calls prog 84 #[.int .i64 n] w0 fun e w'=>e=.returned (.string (ZM n.toNat))∧Below w0.heap.size w0 w':=by
 obtain ⟨m,rfl⟩:∃ m:Nat,n=(m:Int):=⟨n.toNat,by omega⟩;rw [Int.toNat_natCast];exact Zgp m (by omega) w0
def Zdf:ByteArray:=⟨#[46]⟩
def Z5 (p:PtrD):ByteArray:=bif p.ok then (bif p.hole then ⟨#[45]⟩ else ZX p.aA++Zdf++ZX p.ah++Zdf++ZX p.al++Zdf++ZX p.ax++Zdf++ZX p.ak) else ByteArray.empty
theorem ZcD {p:PtrD} (h:p.ok=false):Z5 p=ByteArray.empty:=by unfold Z5;rw [h];rfl
theorem QO {p:PtrD} (h:p.ok=true) (h2:p.hole=true):Z5 p=⟨#[45]⟩:=by unfold Z5;rw [h,h2];rfl
theorem Vy {p:PtrD} (h:p.ok=true) (h2:p.hole=false):Z5 p=ZX p.aA++Zdf++ZX p.ah++Zdf++ZX p.al++Zdf++ZX p.ax++Zdf++ZX p.ak:=by unfold Z5;rw [h,h2];rfl
theorem Zl2:Zdf.size=1:=rfl
theorem ZcE (p:PtrD):(Z5 p).size≤49:=by
 have h1:=YB p.aA;have h2:=YB p.ah;have h3:=YB p.al;have h4:=YB p.ax;have h5:=YB p.ak
 cases h:p.ok with
 | false=>rw [ZcD h];exact Nat.zero_le _
 | true =>
  cases hh:p.hole with
  | true=>rw [QO h hh];decide
  | false=>rw [Vy h hh];simp only [Z7,Zl2];omega
theorem PtrD.ok_all {p:PtrD} (h:p.ok=true) (h2:p.hole=false):8≤p.aA∧p.aA≤63∧1≤p.ah∧p.ah≤900∧1≤p.al∧p.al≤128∧0≤p.ax∧p.ax≤99460728∧0≤p.ak∧p.ak≤2:=by
 unfold PtrD.ok at h;rw [h2,Bool.false_or] at h;simp only [Bool.and_eq_true] at h;have h1:=Zo h.1.1.1.1;have h3:=Zo h.1.1.1.2;have h4:=Zo h.1.1.2;have h5:=Zo h.1.2;have h6:=Zo h.2
 omega
def Zg1 (x:Option Addr):List Value:=[.pointer x]
theorem Xx (x:Option Addr):(Zg1 x).length=1:=rfl
theorem ZoI (a b c d e s:ByteArray):JR [a,b,c,d,e] s=a++s++b++s++c++s++d++s++e:=by
 apply Xc
 show Go.Lib.join _ _=_;simp only [List.map_cons,List.map_nil,Go.Lib.join_cons,Go.Lib.joinTail,Z3,List.flatten_cons,List.flatten_nil,List.append_nil,List.append_assoc]
theorem Zgq (b:Nat) (w0:World):Calls prog 134 #[.pointer (some ⟨b,0,none⟩)] w0 fun e w'=>∃ ao cp,e=.returned (.slice ao 5 cp)∧St w0 [Zd Zg1 1 159 (.slice ao 5 cp) [(some ⟨b,0+0,none⟩),(some ⟨b,0+1,none⟩),(some ⟨b,0+2,none⟩),(some ⟨b,0+3,none⟩),(some ⟨b,0+4,none⟩)]] w':=by
 have E:=Bx.mk (St.start w0);refine ent func134 ntmps134 ?_;refine xsr<|xr 1 rfl<|xne<|xsq ?_;intro a O;refine Uc 15 (by kernel_rfl) (by kernel_rfl) E.o ?_;simp only [List.take_succ_cons,List.take_zero,List.drop_succ_cons,List.drop_zero];intro w1 E;replace E:=Bx.mk E;refine ZH rfl O rfl rfl (Yf rfl (O.ev rfl)) ?_;clear O a;intro a O;refine ZH rfl O rfl rfl (Yt rfl (O.ev rfl)) ?_;clear O a;intro a O;refine ZH rfl O rfl rfl (yfa 0 rfl (O.ev rfl)) ?_;clear O a;intro a O;refine ZH rfl O rfl rfl (Yf rfl (O.ev rfl)) ?_;clear O a;intro a O;refine ZH rfl O rfl rfl (Yt rfl (O.ev rfl)) ?_;clear O a;intro a O;refine ZH rfl O rfl rfl (yfa 1 rfl (O.ev rfl)) ?_;clear O a;intro a O;refine ZH rfl O rfl rfl (Yf rfl (O.ev rfl)) ?_;clear O a;intro a O;refine ZH rfl O rfl rfl (Yt rfl (O.ev rfl)) ?_;clear O a;intro a O;refine ZH rfl O rfl rfl (yfa 2 rfl (O.ev rfl)) ?_;clear O a;intro a O;refine ZH rfl O rfl rfl (Yf rfl (O.ev rfl)) ?_;clear O a;intro a O;refine ZH rfl O rfl rfl (Yt rfl (O.ev rfl)) ?_;clear O a;intro a O;refine ZH rfl O rfl rfl (yfa 3 rfl (O.ev rfl)) ?_;clear O a;intro a O;refine ZH rfl O rfl rfl (Yf rfl (O.ev rfl)) ?_;clear O a;intro a O;refine ZH rfl O rfl rfl (Yt rfl (O.ev rfl)) ?_;clear O a;intro a O;refine ZH rfl O rfl rfl (yfa 4 rfl (O.ev rfl)) ?_;clear O a;intro a O;refine wpStill_nil ?_;revert a;refine ybs Zg1 159 1 [(some ⟨b,0+0,none⟩),(some ⟨b,0+1,none⟩),(some ⟨b,0+2,none⟩),(some ⟨b,0+3,none⟩),(some ⟨b,0+4,none⟩)] E ?_;clear E;intro b1 w2 E;refine xr 1 rfl<|xne<|xre<|xb1 results134 rfl ?_;exact ⟨_,_,rfl,E.o⟩
theorem Ve (p:PtrD) (w0:World) (hT:Xq w0):Calls prog 103 #[pV p] w0 fun e w'=>e=.returned (.string (Z5 p))∧Below w0.heap.size w0 w':=by
 have HT:=Bx.mk hT;clear hT;have E:=Bx.mk (St.start w0);refine ent func103 ntmps103 ?_;refine xsr ?_;refine ybx E ?_;clear E;intro w1 b1 E;refine xr 1 rfl<|xne<|xsq<|xbl<|xsr<|Xw 0 5 E rfl rfl ?_;refine ycB (Xm p _) func59 E ?_;clear E;intro w2 E;refine xr 2 rfl<|xne<|xcs 6 rfl (fun cc1=>?_) fun cc1=>?_;refine xct rfl<|xsr<|xr 1 rfl<|xne<|xre<|xbr<|xtr<|xb1 results103 rfl ?_;exact ⟨by rw [ZcD (by simpa using cc1)];rfl,E.o.bel⟩;refine xcf rfl<|xsr<|Xw 0 5 E rfl rfl ?_;refine ycB (Ye p _) func60 E ?_;clear E;intro w3 E;refine xr 1 rfl<|xne<|xcs 10 rfl (fun cc2=>?_) fun cc2=>?_;refine xct rfl<|xsr<|xr 1 rfl<|xne<|xre<|xbr<|xtr<|xb1 results103 rfl ?_;exact ⟨by rw [QO (by simpa using cc1) cc2],E.o.bel⟩;refine xcf rfl<|xsk<|xeb<|xet<|xsr<|xr 1 rfl<|xne<|xsq<|xsr ?_;refine yc (Zgq b1 _) func134 ?_;rintro _ w4 ⟨ao2,cp2,rfl,hs⟩;refine ⟨_,rfl,?_⟩;replace E:=E.ad hs;clear hs;refine xy rfl (vn 159 1 rfl)<|xr 1 rfl<|xne<|xbl ?_;intro a O;refine XI 6 ?_;refine wp_seq ?_;obtain ⟨g3,rfl,_,_,_,_⟩:=E.o.rowOpen 0 rfl (Nat.succ_pos _);revert a;refine xrl<|xr 1 rfl<|xne<|xsq ?_;intro a O;replace O:=O.know (k:=16) (c:=true) rfl (by decide);revert a;refine xct rfl<|xsk<|xet<|xsq<|xbl<|xsr<|xy rfl (vx 159 0 1 rfl)<|xy rfl (ve Xx E.o 0 0 rfl rfl rfl rfl)<|xr 1 rfl<|xne<|xrl<|xr 3 rfl<|Xl 1 E rfl rfl ?_;refine ycB (QD p.aA _ (HT.o.below E.o.bel)) func102 E ?_;clear E;intro w5 E;refine ybs Zt 9 1 [ZX p.aA] E ?_;clear E;intro b4 w6 E;replace E:=Bx.mk (E.o.nilRow Zt 1 9 none);refine yap XR encS_len E 0 (St.rdN E.o encS_len 1 rfl) (Zy _) ?_;clear E;intro ao6 cp7 w7 E;refine xr 1 rfl<|xni<|xeb<|xet<|xrl<|xy rfl (fun a O=>ZW (r:=1) rfl (O.ev rfl) (O.ev rfl) (by decide))<|xr 1 rfl<|xne ?_;intro a O;refine Ym 5 ?_;revert a;refine xsr<|xr 1 rfl<|xne<|xsq ?_;intro a O;replace O:=O.know (k:=16) (c:=true) rfl (by decide);revert a;refine xct rfl<|xsk<|xet<|xsq<|xbl<|xsr<|xy rfl (vx 159 1 1 rfl)<|xy rfl (ve Xx E.o 2 1 rfl rfl rfl rfl)<|xr 1 rfl<|xne<|xrl<|xr 3 rfl<|Xl 3 E rfl rfl ?_;refine ycB (QD p.ah _ (HT.o.below E.o.bel)) func102 E ?_;clear E;intro w8 E;refine ybs Zt 9 1 [ZX p.ah] E ?_;clear E;intro b8 w9 E;refine yap XR encS_len E 1 (St.rdN E.o encS_len 0 rfl) (Zy _) ?_;clear E;intro ao9 cp10 w10 E;refine xr 1 rfl<|xni<|xeb<|xet<|xrl<|xy rfl (fun a O=>ZW (r:=2) rfl (O.ev rfl) (O.ev rfl) (by decide))<|xr 1 rfl<|xne ?_;intro a O;refine Ym 4 ?_;revert a;refine xsr<|xr 1 rfl<|xne<|xsq ?_;intro a O;replace O:=O.know (k:=16) (c:=true) rfl (by decide);revert a;refine xct rfl<|xsk<|xet<|xsq<|xbl<|xsr<|xy rfl (vx 159 2 1 rfl)<|xy rfl (ve Xx E.o 3 2 rfl rfl rfl rfl)<|xr 1 rfl<|xne<|xrl<|xr 3 rfl<|Xl 4 E rfl rfl ?_;refine ycB (QD p.al _ (HT.o.below E.o.bel)) func102 E ?_;clear E;intro w11 E;refine ybs Zt 9 1 [ZX p.al] E ?_;clear E;intro b11 w12 E;refine yap XR encS_len E 2 (St.rdN E.o encS_len 0 rfl) (Zy _) ?_;clear E;intro ao12 cp13 w13 E;refine xr 1 rfl<|xni<|xeb<|xet<|xrl<|xy rfl (fun a O=>ZW (r:=3) rfl (O.ev rfl) (O.ev rfl) (by decide))<|xr 1 rfl<|xne ?_;intro a O;refine Ym 3 ?_;revert a;refine xsr<|xr 1 rfl<|xne<|xsq ?_;intro a O;replace O:=O.know (k:=16) (c:=true) rfl (by decide);revert a;refine xct rfl<|xsk<|xet<|xsq<|xbl<|xsr<|xy rfl (vx 159 3 1 rfl)<|xy rfl (ve Xx E.o 4 3 rfl rfl rfl rfl)<|xr 1 rfl<|xne<|xrl<|xr 3 rfl<|Xl 5 E rfl rfl ?_;refine ycB (QD p.ax _ (HT.o.below E.o.bel)) func102 E ?_;clear E;intro w14 E;refine ybs Zt 9 1 [ZX p.ax] E ?_;clear E;intro b14 w15 E;refine yap XR encS_len E 3 (St.rdN E.o encS_len 0 rfl) (Zy _) ?_;clear E;intro ao15 cp16 w16 E;refine xr 1 rfl<|xni<|xeb<|xet<|xrl<|xy rfl (fun a O=>ZW (r:=4) rfl (O.ev rfl) (O.ev rfl) (by decide))<|xr 1 rfl<|xne ?_;intro a O;refine Ym 2 ?_;revert a;refine xsr<|xr 1 rfl<|xne<|xsq ?_;intro a O;replace O:=O.know (k:=16) (c:=true) rfl (by decide);revert a;refine xct rfl<|xsk<|xet<|xsq<|xbl<|xsr<|xy rfl (vx 159 4 1 rfl)<|xy rfl (ve Xx E.o 5 4 rfl rfl rfl rfl)<|xr 1 rfl<|xne<|xrl<|xr 3 rfl<|Xl 6 E rfl rfl ?_;refine ycB (QD p.ak _ (HT.o.below E.o.bel)) func102 E ?_;clear E;intro w17 E;refine ybs Zt 9 1 [ZX p.ak] E ?_;clear E;intro b17 w18 E;refine yap XR encS_len E 4 (St.rdN E.o encS_len 0 rfl) (Zy _) ?_;clear E;intro ao18 cp19 w19 E;refine xr 1 rfl<|xni<|xeb<|xet<|xrl<|xy rfl (fun a O=>ZW (r:=5) rfl (O.ev rfl) (O.ev rfl) (by decide))<|xr 1 rfl<|xne ?_;intro a O;refine Ym 1 ?_;revert a;refine xsr<|xr 1 rfl<|xne<|xsq ?_;intro a O;replace O:=O.know (k:=16) (c:=false) rfl (by decide);revert a;refine xcf rfl<|xex<|xtx<|xtx<|xbh<|xet<|xsr<|xr 1 rfl ?_;refine ycB (ZhQ _ _ _ (((((([])++([ZX p.aA]))++([ZX p.ah]))++([ZX p.al]))++([ZX p.ax]))++([ZX p.ak])) (⟨#[46]⟩:ByteArray) _ (St.rdN E.o encS_len 4 rfl) (St.capLe E.o 4 rfl) (by simp) (Zcv (Zcv (Zcv (Zcv (Zcv Vc (YO (Nat.le_trans (YB _) (by decide)) Vc)) (YO (Nat.le_trans (YB _) (by decide)) Vc)) (YO (Nat.le_trans (YB _) (by decide)) Vc)) (YO (Nat.le_trans (YB _) (by decide)) Vc)) (YO (Nat.le_trans (YB _) (by decide)) Vc)) (by decide)) func135 E ?_;clear E;intro w20 E;refine xr 1 rfl<|xne<|xre<|xb1 results103 rfl ?_;exact ⟨by rw [Vy (by simpa using cc1) cc2];simp only [List.nil_append,List.cons_append,List.singleton_append];rw [ZoI];rfl,E.o.bel⟩
theorem Ug (p:PtrD) (w0:World):Calls prog 85 #[pV p] w0 fun e w'=>e=.returned (.string (Z5 p))∧Below w0.heap.size w0 w':=by
 have E:=Bx.mk (St.start w0);refine ent func85 ntmps85 ?_;refine xsr ?_;refine ybx E ?_;clear E;intro w1 b1 E;refine xr 1 rfl<|xne<|xsq<|xsr<|Xw 0 5 E rfl rfl ?_;refine ycB (ZZ p _) func48 E ?_;clear E;intro w2 E;refine xr 1 rfl<|xne<|xcs 5 rfl (fun cc1=>?_) fun cc1=>?_;refine xct rfl<|xsr<|xr 1 rfl<|xne<|xre<|xtr<|xb1 results85 rfl ?_;exact ⟨by rw [ZcD (by simpa using cc1)];rfl,E.o.bel⟩;refine xcf rfl<|xsk<|xet<|xsq<|xsr<|Xw 0 5 E rfl rfl ?_;refine ycB (ZL p _) func49 E ?_;clear E;intro w3 E;refine xne<|xcs 7 rfl (fun cc2=>?_) fun cc2=>?_;refine xct rfl<|xsr<|xr 1 rfl<|xne<|xre<|xtr<|xb1 results85 rfl ?_;exact ⟨by rw [QO (by simpa using cc1) cc2],E.o.bel⟩;refine xcf rfl<|xsk<|xet<|xsq ?_;have hpb:=PtrD.ok_all (p:=p) (by simpa using cc1) cc2;have zfAt:(ZM p.aA.toNat).size≤19:=Vb (by omega);have zfBirth:(ZM p.ah.toNat).size≤19:=Vb (by omega);have zfSize:(ZM p.al.toNat).size≤19:=Vb (by omega);have zfSum:(ZM p.ax.toNat).size≤19:=Vb (by omega);have zfLevel:(ZM p.ak.toNat).size≤19:=Vb (by omega);intro a O;refine Yr (by kernel_rfl) (by kernel_rfl) E.o ?_;revert a;refine Qf 0 rfl<|Ql 0 rfl rfl ?_;refine yq (fun _ E=>XN p.aA (by omega) (by omega) _) func84 ?_;refine xq rfl (fun E a O=>Y9 rfl (O.ev rfl) (O.ev rfl) (by (try simp only [Uf,Z7]);omega))<|Qf 1 rfl<|Ql 0 rfl rfl ?_;refine yq (fun _ E=>XN p.ah (by omega) (by omega) _) func84 ?_;refine xq rfl (fun E a O=>Y9 rfl (O.ev rfl) (O.ev rfl) (by (try simp only [Uf,Z7]);omega))<|xq rfl (fun E a O=>Y9 rfl (O.ev rfl) (O.ev rfl) (by (try simp only [Uf,Z7]);omega))<|Qf 2 rfl<|Ql 0 rfl rfl ?_;refine yq (fun _ E=>XN p.al (by omega) (by omega) _) func84 ?_;refine xq rfl (fun E a O=>Y9 rfl (O.ev rfl) (O.ev rfl) (by (try simp only [Uf,Z7]);omega))<|xq rfl (fun E a O=>Y9 rfl (O.ev rfl) (O.ev rfl) (by (try simp only [Uf,Z7]);omega))<|Qf 3 rfl<|Ql 0 rfl rfl ?_;refine yq (fun _ E=>XN p.ax (by omega) (by omega) _) func84 ?_;refine xq rfl (fun E a O=>Y9 rfl (O.ev rfl) (O.ev rfl) (by (try simp only [Uf,Z7]);omega))<|xq rfl (fun E a O=>Y9 rfl (O.ev rfl) (O.ev rfl) (by (try simp only [Uf,Z7]);omega))<|Qf 4 rfl<|Ql 0 rfl rfl ?_;refine yq (fun _ E=>XN p.ak (by omega) (by omega) _) func84 ?_;refine xq rfl (fun E a O=>Y9 rfl (O.ev rfl) (O.ev rfl) (by (try simp only [Uf,Z7]);omega))<|xqr 1 rfl ?_;intro a O;refine wpQuiet_nil ?_;intro w4 E;replace E:=Bx.mk E;revert a;refine xet<|xre<|xb1 results85 rfl ?_;exact ⟨by rw [Vy (by simpa using cc1) cc2,XF (n:=p.aA) (by omega) (by omega),XF (n:=p.ah) (by omega) (by omega),XF (n:=p.al) (by omega) (by omega),XF (n:=p.ax) (by omega) (by omega),XF (n:=p.ak) (by omega) (by omega)];rfl,E.o.bel⟩
theorem Yi {a b:ByteArray} (h:(a.toList == b.toList)=true):a=b:=by
 have h:=eq_of_beq h;rw [ByteArray.toList_eq,ByteArray.toList_eq] at h;exact ByteArray.ext (Array.toList_inj.1 h)
section
variable {P:Program} {w:World} {o:Oper} {a:Act} {t:TypeId} {x y z:Operand}
theorem Ze0 (ho:o.op=.slice t x (some y) (some z) none) {b:ByteArray} (hx:a.eval x=.string b) {k1 k2:IntKind} {m n:Int} (hy:a.eval y=.int k1 m) (hz:a.eval z=.int k2 n) (hu:P.underlying t=some .string) {i j:Nat} (hm:m=(i:Int)) (hn:n=(j:Int)) (hij:i≤j) (hj:j≤b.size):Yl P w o a (.string (b.extract i j)):=by
 subst hm;subst hn;have h1:((i:Int)≤(j:Int)):=by omega
 have h2:((j:Int)≤(b.size:Int)):=by omega
 unfold Yl execOp;simp only [ho,hx,hy,hz,Option.map_some,Option.map_none,Instr.sliceAt,Instr.slice,Sem.run_bind,run_underlying hu w,Result.andThen_ok];simp [Instr.slice,Instr.sliceBounds,Instr.sliceBound,asIntOf,go_sem,run_underlying hu w,h1,h2];rw [if_pos hj,if_pos hij]
end
theorem ZoJ {a b:UInt8} (h:((a.toNat:Int) == (b.toNat:Int))=true):a=b:=by
 have:=eq_of_beq h;exact UInt8.toNat_inj.1 (by omega)
theorem ZoK {a b:UInt8} (h:((a.toNat:Int) == (b.toNat:Int))=false):a≠b:=fun e=>by rw [e] at h;simp at h
def X1 (w:World):Prop:=∃ m,w.cell? ⟨1,0,none⟩=some (.int .i64 m)
theorem X1.below {w w':World} (h:X1 w) (hb:Below w.heap.size w w'):X1 w':=by
 obtain ⟨m,hm⟩:=h;have hlt:1<w.heap.size:=World.block_lt_of_cell? w _ hm;exact ⟨m,(hb.cell (p:=⟨1,0,none⟩) hlt).trans hm⟩
theorem Zgr (s:ByteArray) (c:UInt8) (w0:World) (hs:s.size≤1099511627776):Calls prog 137 #[.string s,.int .u8 (c.toNat:Int)] w0 fun e w'=>∃ ao cp,e=.returned (.slice ao (Zm s c).length cp)∧St w0 [Zd Zt 1 9 (.slice ao (Zm s c).length cp) (Zm s c)] w':=by
 have E:=Bx.mk (St.start w0);refine ent func137 ntmps137 ?_;refine xsr<|xr 1 rfl<|xne<|xsr ?_;refine yem 9 1 E ?_;clear E;intro w1 b1 E;refine xr 1 rfl<|xne<|xsr<|xr 1 rfl<|xne<|xsq<|xsr<|xr 1 rfl<|xne<|xbl ?_;replace E:=Bx.mk (E.o.nilRow Zt 1 9 (some ⟨b1,0,none⟩));intro a O;refine ZD (ι:=Nat) (fun k a w=>∃ (ao:Option Addr) (cp:Nat) (xs:List ByteArray),(k≤s.size∧xs=(Yo s c k).1)∧Fr 35 a [(0,.string s),(1,.int .u8 (c.toNat:Int)),(5,.slice ao xs.length cp),(6,.int .i64 ((Yo s c k).2:Int)),(7,.int .i64 (k:Int))]∧St w0 ([Zd Zt 1 9 (.slice ao xs.length cp) xs]) w) (fun k=>s.size - k) 0 ⟨_,_,[],⟨Nat.zero_le _,rfl⟩,O.ls _,E.o⟩ ?_;clear O E;clear a;rintro k a w2 ⟨ao,cp,xs,⟨hk,hq⟩,O,E⟩;replace E:=Bx.mk E;have hfl:=Zcw s c k;have hml:=ZbP s c k;have hxl:xs.length=(Yo s c k).1.length:=by rw [hq]
 revert a;refine xsq<|xsr<|xr 2 rfl<|xy rfl (fun a O=>YN rfl (O.ev rfl) (by kernel_rfl))<|xr 1 rfl<|xne<|xcd 12 rfl (fun _ dcc1=>?_) fun _ dcc1=>?_
 refine xct rfl<|xsk<|xet<|xsq<|xbl<|xsr<|xr 2 rfl<|xy rfl (fun a O=>XU (i:=k) rfl (O.ev rfl) (O.ev rfl) (by kernel_rfl) (by omega) (by omega))<|xr 2 rfl<|xne<|xce 19 rfl (fun cc2 dcc2=>?_) fun cc2 dcc2=>?_;refine xct rfl<|xsr<|xr 4 rfl<|xy rfl (fun a O=>Ze0 (i:=(Yo s c k).2) (j:=k) rfl (O.ev rfl) (O.ev rfl) (O.ev rfl) (by kernel_rfl) (by omega) (by omega) (by omega) (by omega)) ?_;refine ybs Zt 9 1 [s.extract ((Yo s c k).2) k] E ?_;clear E;intro b2 w3 E;refine yap XR encS_len E 1 (St.rdN E.o encS_len 0 rfl) (Zy _) ?_;clear E;intro ao3 cp4 w4 E;refine xr 1 rfl<|xne<|xrl<|xr 1 rfl<|xy rfl (vad rfl)<|xr 1 rfl<|xni<|xeb<|xet<|xrl<|xr 1 rfl<|xy rfl (vad rfl)<|xr 1 rfl<|xne ?_;have hst:=Zbh (s:=s) (c:=c) (k:=k) (ZoJ cc2);have hz:xs.length+[s.extract (Yo s c k).2 k].length=(xs++[s.extract (Yo s c k).2 k]).length:=(List.length_append ..).symm;intro a O;rw [hz] at E O;have hnext:xs++[s.extract (Yo s c k).2 k]=(Yo s c (k+1)).1:=by rw [hst,hq]
 replace E:=E.pks [1];exact ⟨k+1,⟨_,_,xs++[s.extract (Yo s c k).2 k],⟨by omega,hnext⟩,O.less _ ⟨rfl,rfl,rfl,(by rw [hst];rfl),rfl,trivial⟩,(E.o.erase 1)⟩,(by omega)⟩;refine xcf rfl<|xsk<|xeb<|xet<|xrl<|xr 1 rfl<|xy rfl (vad rfl)<|xr 1 rfl<|xne ?_;have hst:=V0 (s:=s) (c:=c) (k:=k) (ZoK cc2);have hnext:xs=(Yo s c (k+1)).1:=by rw [hst,hq]
 intro a O;exact ⟨k+1,⟨_,_,xs,⟨by omega,hnext⟩,O.less _ ⟨rfl,rfl,rfl,(by rw [hst];rfl),rfl,trivial⟩,E.o⟩,(by omega)⟩;refine xcf rfl<|xex<|xtx<|xtx<|xbh<|xet<|xsr<|xr 3 rfl<|xy rfl (fun a O=>ZbR (k:=(Yo s c k).2) rfl (O.ev rfl) (O.ev rfl) (by kernel_rfl) (by omega) (by omega)) ?_;refine ybs Zt 9 1 [s.extract ((Yo s c k).2) s.size] E ?_;clear E;intro b5 w5 E;refine yap XR encS_len E 1 (St.rdN E.o encS_len 0 rfl) (Zy _) ?_;clear E;intro ao6 cp7 w6 E;refine xr 1 rfl<|xne<|xre<|xb1 results137 rfl ?_;replace E:=E.pks [1];obtain rfl:k=s.size:=by omega
 have hcb:xs++[s.extract (Yo s c s.size).2 s.size]=ZnL s c:=by rw [hq];rfl
 have hz:xs.length+[s.extract (Yo s c s.size).2 s.size].length=(ZnL s c).length:=by rw [← hcb,List.length_append]
 refine ⟨ao6,cp7,?_,?_⟩;rw [hz,ZdK];have HT2:=(E.o.erase 1);rw [hz,hcb,ZdK] at HT2;exact HT2
theorem ZoL {w:World} (h:w.ShapedOpen prog):X1 w:=ZeU.s1_3 w h
theorem Zgs (s:ByteArray) (c:UInt8) (w:World) (hs:s.size<4294967281) (hM:X1 w):Calls prog 161 #[.string s,.string ⟨#[c]⟩] w fun e w'=>∃ ao cp,e=.returned (.slice ao (Zm s c).length cp)∧St w [Zd Zt 1 9 (.slice ao (Zm s c).length cp) (Zm s c)] w':=by
 obtain ⟨m,hm⟩:=hM;refine (Any.strings_Split { ZeU with } ZeU.i9 s ⟨#[c]⟩ m w hs hm (Nat.le_refl 1)).mono ?_;rintro e w' ⟨rfl,rfl⟩;have hl:Go.Lib.countB s ⟨#[c]⟩+1=(Zm s c).length:=by rw [← ZbD,Go.Lib.splitB_all ⟨#[c]⟩ (Nat.le_refl 1) 0 _ s rfl]
 rw [hl,ZbD];refine ⟨_,_,rfl,?_⟩;have hm2:(Zm s c).length≤maxLen:=by
  have h1:=ZeS s c;have h2:=List.count_le_length (a:=c) (l:=s.data.toList);have h3:=Zg s;unfold maxLen;omega
 refine (St.start w).rowNew (enc:=Zt) (size:=1) (ys:=Zm s c) ((Below.refl _ _).alloc (Nat.le_refl _) _) (ZY w _ _ rfl) (Nat.le_refl _) (by simp) (Nat.le_refl _) hm2 ?_;rw [Nat.mul_one,List.take_of_length_le (by simp),List.map_eq_flatMap];rfl
section
variable {P:Program} {w:World} {o:Oper} {a:Act} {t t':TypeId} {x y:Operand}
theorem Zl3 (ho:o.op=.binOp .neq t x (.const .nilIface) t') (hu:P.underlying t=some (.interface (P.methodsAt t))) (hx:a.eval x=.nilIface):Yl P w o a (.bool false):=by
 have hy:a.eval (.const .nilIface)=.nilIface:=rfl;simp [Yl,execOp,ho,hx,hy,eqGuard,binOp,run_equal_nil_nil w t hu]
theorem Zl4 (ho:o.op=.binOp .neq t x (.const .nilIface) t') (hu:P.underlying t=some (.interface (P.methodsAt t))) {te:TypeId} {pe:Value} (hx:a.eval x=.iface te pe):Yl P w o a (.bool true):=by
 have hy:a.eval (.const .nilIface)=.nilIface:=rfl;simp [Yl,execOp,ho,hx,hy,eqGuard,binOp,run_equal_held_nil w t te pe hu]
end
def X2 (w:World):Prop:=∃ te pe,w.cell? ⟨2,0,none⟩=some (.iface te pe)
theorem X2.below {w w':World} (h:X2 w) (hb:Below w.heap.size w w'):X2 w':=by
 obtain ⟨te,pe,hm⟩:=h;have hlt:2<w.heap.size:=World.block_lt_of_cell? w _ hm;exact ⟨te,pe,(hb.cell (p:=⟨2,0,none⟩) hlt).trans hm⟩
theorem ZkJ (s:ByteArray) (w:World) (hl:s.size≤18) (hE:X2 w):Calls prog 159 #[.string s] w fun e w'=>(∃ n,Go.Lib.atoi s.data.toList=some n∧e=.returned (.tuple #[.int .i64 n,.nilIface])∧Below w.heap.size w w')∨(∃ te pe,Go.Lib.atoi s.data.toList=none∧e=.returned (.tuple #[.int .i64 0,.iface te pe])∧Below w.heap.size w w'):=by
 cases h:Go.Lib.atoi s.data.toList with
 | some n =>
  refine (Any.strconv_Atoi ZnI s n hl h w).mono ?_;rintro e w' ⟨rfl,t,rfl⟩;exact .inl ⟨n,rfl,rfl,Go.Lib.bytesWorld_below _ _ _⟩
 | none =>
  obtain ⟨te,pe,hv⟩:=hE;refine (Any.strconv_Atoi_err ZlP s hl h (.iface te pe) w hv (.inr ⟨te,pe,rfl⟩)).mono ?_;rintro e w' ⟨N,rfl,_,_,hb⟩;exact .inr ⟨_,_,rfl,rfl,hb⟩
theorem Zl5 {b:UInt8} (h1:48≤(b.toNat:Int)) (h2:(b.toNat:Int)≤57):Go.Lib.digitVal b=some (b.toNat - 48):=by unfold Go.Lib.digitVal;rw [if_pos (by omega)]
theorem Zbj {b:UInt8} (h:¬ (48≤(b.toNat:Int)∧(b.toNat:Int)≤57)):Go.Lib.digitVal b=none:=by unfold Go.Lib.digitVal;rw [if_neg (by omega)]
theorem Jq {s:ByteArray} (h:0<s.size):(s.data.toList.head? = some 48) ↔ ((s.get! 0).toNat:Int)=48:=by
 rw [List.head?_eq_getElem?,Uq h]
 constructor
 ·intro e;rw [Option.some.inj e];rfl
 ·intro e;congr 1;exact UInt8.toNat_inj.1 (by show (s.get! 0).toNat=48;omega)
theorem ZnN {s:ByteArray} {k n:Nat} (hk:k≤s.size) (h9:k≤9) (h:Go.Lib.decFrom 0 (s.data.toList.take k)=some n):n≤999999999:=by
 have hz:=Zg s;have:=ZbQ k _ n (by rw [List.length_take];omega) h;have:n<10 ^ 9:=Nat.lt_of_lt_of_le this (Nat.pow_le_pow_right (by omega) h9)
 omega
theorem Zl6:∀ (l:List UInt8) (acc n j:Nat),Go.Lib.decFrom acc l=some n→j<l.length→∃ b d,l[j]? = some b∧Go.Lib.digitVal b=some d
 | b::t,acc,n,j,h,hj=>by
  have h:(match Go.Lib.digitVal b with|some d=>Go.Lib.decFrom (acc*10+d) t|none=>none)=some n:=h
  cases h2:Go.Lib.digitVal b with
  | none=>rw [h2] at h;cases h
  | some d =>
   rw [h2] at h
   cases j with
   | zero=>exact ⟨b,d,rfl,h2⟩
   | succ j=>exact Zl6 t _ n j h (by simpa using hj)
theorem V7 {s:ByteArray} {k n:Nat} (h:Go.Lib.decFrom 0 (s.data.toList.take k)=some n) (hk:1<k∧k≤s.size):∃ d,Go.Lib.digitVal (s.get! 1)=some d:=by
 have hz:=Zg s;obtain ⟨b,d,h1,h2⟩:=Zl6 _ 0 n 1 h (by rw [List.length_take];omega);rw [List.getElem?_take,if_pos (by omega),Uq (by omega)] at h1;rw [Option.some.inj h1];exact ⟨d,h2⟩
theorem Zgt (s:ByteArray) (w0:World) (hs:s.size≤1099511627776):Calls prog 136 #[.string s] w0 fun e w'=>∃ n k,l1S s n k∧n≤999999999∧e=.returned (.tuple #[.int .i64 (n:Int),.int .i64 (k:Int)])∧Below w0.heap.size w0 w':=by
 have E:=Bx.mk (St.start w0);refine ent func136 ntmps136 ?_;refine xsr<|xr 2 rfl<|xne<|xsr<|xr 1 rfl<|xne<|xsr<|xr 1 rfl<|xne<|xsq<|xbl ?_;intro a O;refine ZD (ι:=Nat) (fun k a w=>∃ (n:Nat),(k≤s.size∧k≤9∧Go.Lib.decFrom 0 (s.data.toList.take k)=some n)∧Fr 45 a [(0,.string s),(4,.int .i64 (n:Int)),(5,.int .i64 (k:Int))]∧St w0 ([]) w) (fun k=>9 - k) 0 ⟨0,⟨Nat.zero_le _,Nat.zero_le _,rfl⟩,O.ls _,E.o⟩ ?_;clear O E;clear a;rintro k a w1 ⟨n,⟨hk,hk9,hd⟩,O,E⟩;replace E:=Bx.mk E;have hn9:=ZnN hk hk9 hd;revert a;refine xsq<|xsr<|xr 2 rfl<|xy rfl (fun a O=>YN rfl (O.ev rfl) (by kernel_rfl))<|xr 2 rfl<|xcd 10 rfl (fun _ dcc1=>?_) fun _ dcc1=>?_
 refine xr 4 rfl<|xcd 14 rfl (fun _ dcc2=>?_) fun _ dcc2=>?_;refine xr 2 rfl<|xy rfl (fun a O=>XU (i:=k) rfl (O.ev rfl) (O.ev rfl) (by kernel_rfl) (by omega) (by omega))<|xr 3 rfl<|xcd 20 rfl (fun _ dcc3=>?_) fun _ dcc3=>?_;refine xr 2 rfl<|xy rfl (fun a O=>XU (i:=k) rfl (O.ev rfl) (O.ev rfl) (by kernel_rfl) (by omega) (by omega))<|xr 2 rfl<|xne<|xcd 25 rfl (fun _ dcc4=>?_) fun _ dcc4=>?_;refine xct rfl<|xsk<|xet<|xbl<|xsr<|xr 1 rfl<|xy rfl (fun a O=>Uv rfl (O.ev rfl) (O.ev rfl) (Qt (by omega)))<|xr 2 rfl<|xy rfl (fun a O=>XU (i:=k) rfl (O.ev rfl) (O.ev rfl) (by kernel_rfl) (by omega) (by omega))<|xy rfl (fun a O=>XE (r:=((s.get! k).toNat:Int) - 48) rfl (O.ev rfl) (O.ev rfl) (IntWalk.u8_in _ (by omega)))<|xy rfl (fun a O=>Zda (n:=(((s.get! k).toNat:Int) - 48)) rfl (O.ev rfl) (by omega) (by kernel_rfl) (by kernel_rfl))<|xy rfl (fun a O=>ZW (r:=((n*10+((s.get! k).toNat - 48):Nat):Int)) rfl (O.ev rfl) (O.ev rfl) ((Qt (by omega)).trans (by omega)))<|xr 1 rfl<|xne<|xrl<|xr 1 rfl<|xy rfl (vad rfl)<|xr 1 rfl<|xni<|xeb<|xet ?_;have hdg:=Zl5 (b:=s.get! k) (by omega) (by omega);have hd2:=Go.Lib.decFrom_take s.data.toList k 0 n _ _ hd (Uq (by omega)) hdg;intro a O;exact ⟨k+1,⟨n*10+((s.get! k).toNat - 48),⟨by omega,by omega,hd2⟩,O.less _ ⟨rfl,rfl,rfl,trivial⟩,E.o⟩,(by omega)⟩;refine xcf rfl<|xex<|xtx<|xtx<|xbh<|xet<|xsq<|xsr<|xr 3 rfl<|xcd 38 rfl (fun _ dcc5=>?_) fun _ dcc5=>?_;refine xr 1 rfl<|xy rfl (fun a O=>XU (i:=0) rfl (O.ev rfl) (O.ev rfl) (by kernel_rfl) (by omega) (by omega))<|xr 2 rfl<|xne<|xce 42 rfl (fun _ dcc6=>?_) fun _ dcc6=>?_;refine xct rfl<|xsr<|xr 2 rfl<|xne<|xre<|xtr<|xb2 results136 rfl rfl ?_;have hfirst:s.data.toList.head? = some 48:=(Jq (by omega)).2 (by omega);have h1k:Go.Lib.decFrom 0 (s.data.toList.take k)=some n:=hd;obtain ⟨d,hd1⟩:=V7 hd (by omega);exact ⟨0,1,.inr ⟨rfl,rfl,hfirst,s.get! 1,d,Uq (by omega),hd1⟩,by omega,rfl,E.o.bel⟩;refine xcf rfl<|xsk<|xet<|xsr<|xr 4 rfl<|xne<|xre<|xb2 results136 rfl rfl ?_;exact ⟨n,k,.inl ⟨hk9,hk,hd,.inr (.inr ⟨s.get! k,Uq (by omega),Zbj (by omega)⟩),fun h=>absurd ((Jq (by omega)).1 h.2) (by omega)⟩,hn9,rfl,E.o.bel⟩;refine xr 4 rfl<|xne<|xcf rfl<|xsk<|xet<|xsr<|xr 4 rfl<|xne<|xre<|xb2 results136 rfl rfl ?_;exact ⟨n,k,.inl ⟨hk9,hk,hd,.inr (.inr ⟨s.get! k,Uq (by omega),Zbj (by omega)⟩),fun h=>absurd h.1 (by omega)⟩,hn9,rfl,E.o.bel⟩;refine xr 5 rfl<|xne<|xcf rfl<|xex<|xtx<|xtx<|xbh<|xet<|xsq<|xsr<|xr 3 rfl<|xcd 38 rfl (fun _ dcc7=>?_) fun _ dcc7=>?_;refine xr 1 rfl<|xy rfl (fun a O=>XU (i:=0) rfl (O.ev rfl) (O.ev rfl) (by kernel_rfl) (by omega) (by omega))<|xr 2 rfl<|xne<|xce 42 rfl (fun _ dcc8=>?_) fun _ dcc8=>?_;refine xct rfl<|xsr<|xr 2 rfl<|xne<|xre<|xtr<|xb2 results136 rfl rfl ?_;have hfirst:s.data.toList.head? = some 48:=(Jq (by omega)).2 (by omega);have h1k:Go.Lib.decFrom 0 (s.data.toList.take k)=some n:=hd;obtain ⟨d,hd1⟩:=V7 hd (by omega);exact ⟨0,1,.inr ⟨rfl,rfl,hfirst,s.get! 1,d,Uq (by omega),hd1⟩,by omega,rfl,E.o.bel⟩;refine xcf rfl<|xsk<|xet<|xsr<|xr 4 rfl<|xne<|xre<|xb2 results136 rfl rfl ?_;exact ⟨n,k,.inl ⟨hk9,hk,hd,.inr (.inr ⟨s.get! k,Uq (by omega),Zbj (by omega)⟩),fun h=>absurd ((Jq (by omega)).1 h.2) (by omega)⟩,hn9,rfl,E.o.bel⟩;refine xr 4 rfl<|xne<|xcf rfl<|xsk<|xet<|xsr<|xr 4 rfl<|xne<|xre<|xb2 results136 rfl rfl ?_;exact ⟨n,k,.inl ⟨hk9,hk,hd,.inr (.inr ⟨s.get! k,Uq (by omega),Zbj (by omega)⟩),fun h=>absurd h.1 (by omega)⟩,hn9,rfl,E.o.bel⟩;refine xr 11 rfl<|xne<|xcf rfl<|xex<|xtx<|xtx<|xbh<|xet<|xsq<|xsr<|xr 3 rfl<|xcd 38 rfl (fun _ dcc9=>?_) fun _ dcc9=>?_;refine xr 1 rfl<|xy rfl (fun a O=>XU (i:=0) rfl (O.ev rfl) (O.ev rfl) (by kernel_rfl) (by omega) (by omega))<|xr 2 rfl<|xne<|xce 42 rfl (fun _ dcc10=>?_) fun _ dcc10=>?_;refine xct rfl<|xsr<|xr 2 rfl<|xne<|xre<|xtr<|xb2 results136 rfl rfl ?_;have hfirst:s.data.toList.head? = some 48:=(Jq (by omega)).2 (by omega);have h1k:Go.Lib.decFrom 0 (s.data.toList.take k)=some n:=hd;obtain ⟨d,hd1⟩:=V7 hd (by omega);exact ⟨0,1,.inr ⟨rfl,rfl,hfirst,s.get! 1,d,Uq (by omega),hd1⟩,by omega,rfl,E.o.bel⟩;refine xcf rfl<|xsk<|xet<|xsr<|xr 4 rfl<|xne<|xre<|xb2 results136 rfl rfl ?_;exact ⟨n,k,.inl ⟨hk9,hk,hd,.inr (.inl (by omega)),fun h=>absurd ((Jq (by omega)).1 h.2) (by omega)⟩,hn9,rfl,E.o.bel⟩;refine xr 4 rfl<|xne<|xcf rfl<|xsk<|xet<|xsr<|xr 4 rfl<|xne<|xre<|xb2 results136 rfl rfl ?_;exact ⟨n,k,.inl ⟨hk9,hk,hd,.inr (.inl (by omega)),fun h=>absurd h.1 (by omega)⟩,hn9,rfl,E.o.bel⟩;refine xr 15 rfl<|xne<|xcf rfl<|xex<|xtx<|xtx<|xbh<|xet<|xsq<|xsr<|xr 3 rfl<|xcd 38 rfl (fun _ dcc11=>?_) fun _ dcc11=>?_;refine xr 1 rfl<|xy rfl (fun a O=>XU (i:=0) rfl (O.ev rfl) (O.ev rfl) (by kernel_rfl) (by omega) (by omega))<|xr 2 rfl<|xne<|xce 42 rfl (fun _ dcc12=>?_) fun _ dcc12=>?_;refine xct rfl<|xsr<|xr 2 rfl<|xne<|xre<|xtr<|xb2 results136 rfl rfl ?_;have hfirst:s.data.toList.head? = some 48:=(Jq (by omega)).2 (by omega);have h1k:Go.Lib.decFrom 0 (s.data.toList.take k)=some n:=hd;obtain ⟨d,hd1⟩:=V7 hd (by omega);exact ⟨0,1,.inr ⟨rfl,rfl,hfirst,s.get! 1,d,Uq (by omega),hd1⟩,by omega,rfl,E.o.bel⟩;refine xcf rfl<|xsk<|xet<|xsr<|xr 4 rfl<|xne<|xre<|xb2 results136 rfl rfl ?_;exact ⟨n,k,.inl ⟨hk9,hk,hd,.inl (by omega),fun h=>absurd ((Jq (by omega)).1 h.2) (by omega)⟩,hn9,rfl,E.o.bel⟩;refine xr 4 rfl<|xne<|xcf rfl<|xsk<|xet<|xsr<|xr 4 rfl<|xne<|xre<|xb2 results136 rfl rfl ?_;exact ⟨n,k,.inl ⟨hk9,hk,hd,.inl (by omega),fun h=>absurd h.1 (by omega)⟩,hn9,rfl,E.o.bel⟩
theorem ZaD (s:ByteArray) (w0:World) (hs:s.size≤1099511627776):Calls prog 105 #[.string s] w0 fun e w'=>((∃ n:Nat,Jk s=some n∧e=.returned (.tuple #[.int .i64 (n:Int),.bool true])∧Below w0.heap.size w0 w')∨(Jk s=none∧e=.returned (.tuple #[.int .i64 0,.bool false])∧Below w0.heap.size w0 w')):=by
 have E:=Bx.mk (St.start w0);refine ent func105 ntmps105 ?_;refine xsr<|xr 2 rfl<|xne<|xsr<|xr 1 rfl ?_;refine yc (Zgt s _ (by omega)) func136 ?_;rintro _ w1 ⟨n,k,hl1,hn9,rfl,hb⟩;refine ⟨_,rfl,?_⟩;replace E:=Bx.mk (E.o.later hb);clear hb;refine xr 5 rfl<|xne<|xsq<|xsr<|xr 3 rfl<|xce 13 rfl (fun _ dcc1=>?_) fun _ dcc1=>?_;refine xr 5 rfl<|xne<|xct rfl<|xsr<|xr 2 rfl<|xne<|xre<|xtr<|xb2 results105 rfl rfl ?_;exact .inr ⟨ZlW hl1 (by omega),rfl,E.o.bel⟩;refine xr 2 rfl<|xy rfl (fun a O=>YN rfl (O.ev rfl) (by kernel_rfl))<|xr 2 rfl<|xne<|xcn 18 rfl (fun _ dcc2=>?_) fun _ dcc2=>?_;refine xct rfl<|xsr<|xr 2 rfl<|xne<|xre<|xtr<|xb2 results105 rfl rfl ?_;exact .inr ⟨ZlW hl1 (by omega),rfl,E.o.bel⟩;refine xcf rfl<|xsk<|xet<|xsr<|xr 3 rfl<|xne<|xre<|xb2 results105 rfl rfl ?_;exact .inl ⟨n,ZjY hl1 (by omega) (by omega),rfl,E.o.bel⟩
theorem ZV (s:ByteArray) (w0:World) (hT:Xq w0) (hE:X2 w0):Calls prog 144 #[.string s] w0 fun e w'=>((∃ n:Nat,Jk s=some n∧e=.returned (.tuple #[.int .i64 (n:Int),.bool true])∧Below w0.heap.size w0 w')∨(Jk s=none∧e=.returned (.tuple #[.int .i64 0,.bool false])∧Below w0.heap.size w0 w')):=by
 have HT:=Bx.mk hT;clear hT;have HE:=Bx.mk hE;clear hE;have E:=Bx.mk (St.start w0);refine ent func144 ntmps144 ?_;refine xsr<|xr 2 rfl<|xne<|xsq<|xsr<|xr 1 rfl<|xy rfl (fun a O=>YN rfl (O.ev rfl) (by kernel_rfl))<|xr 1 rfl<|xne<|xcd 8 rfl (fun _ dcc1=>?_) fun _ dcc1=>?_;refine xct rfl<|xsr<|xr 2 rfl<|xne<|xre<|xtr<|xb2 results144 rfl rfl ?_;exact .inr ⟨Zej fun m hm e=>by have:=V2 hm;rw [← e] at this;omega,rfl,E.o.bel⟩;refine xcf rfl<|xsk<|xet<|xsr<|xr 1 rfl ?_;refine yc (ZkJ s _ (by omega) (HE.o.below E.o.bel)) func159 ?_;rintro _ w1 (⟨n,hat,rfl,hb⟩|⟨te,pe,hat,rfl,hb⟩);refine ⟨_,rfl,?_⟩;replace E:=Bx.mk (E.o.later hb);clear hb;refine xr 5 rfl<|xne<|xsq<|xsr<|xr 1 rfl<|xy rfl (fun a O=>Zl3 rfl (by kernel_rfl) (O.ev rfl))<|xr 2 rfl ?_;refine Ji (QD n _ (HT.o.below E.o.bel)) func102 E ?_;clear E;intro w2 E;refine xr 1 rfl<|xy rfl (fun a O=>Jg rfl (O.ev rfl) (O.ev rfl))<|xr 1 rfl<|xne<|xcs 21 rfl (fun cc2=>?_) fun cc2=>?_;refine xct rfl<|xsr<|xr 2 rfl<|xne<|xre<|xtr<|xb2 results144 rfl rfl ?_;exact .inr ⟨Zej fun m hm e=>by rw [e,ZhR] at hat;obtain rfl:=Option.some.inj hat;rw [XF (by omega) (by omega),Int.toNat_natCast,← e] at cc2;simp at cc2,rfl,E.o.bel⟩;refine xcf rfl<|xsk<|xet<|xsr<|xr 3 rfl<|xne<|xre<|xb2 results144 rfl rfl ?_;obtain ⟨m,rfl,hg⟩:=ZlV hat (Yi (by simpa using cc2));exact .inl ⟨m,hg,rfl,E.o.bel⟩;refine ⟨_,rfl,?_⟩;replace E:=Bx.mk (E.o.later hb);clear hb;refine xr 5 rfl<|xne<|xsq<|xsr<|xr 1 rfl<|xy rfl (fun a O=>Zl4 rfl (by kernel_rfl) (O.ev rfl))<|xr 6 rfl<|xne<|xct rfl<|xsr<|xr 2 rfl<|xne<|xre<|xtr<|xb2 results144 rfl rfl ?_;exact .inr ⟨Zej fun m hm e=>by rw [e,ZhR] at hat;exact absurd hat (by simp),rfl,E.o.bel⟩
theorem Zg2 {α β:Type} (f:α→β) (ys:List α) (d:α) {k:Nat} (h:k<ys.length):(ys.take k).map f++[f (ys.getD k d)]=(ys.take (k+1)).map f:=by
 rw [List.take_add_one,List.getElem?_eq_getElem h,List.map_append];simp [List.getD,h]
structure Zf where
  ac:PtrD
  az:Int
  am:Int
abbrev tL (t:Zf):List Value:=[.int .i64 t.ac.aA,.int .i64 t.ac.ah,.int .i64 t.ac.al,.int .i64 t.ac.ax,.int .i64 t.ac.ak,.int .i64 t.az,.int .i64 t.am]
abbrev tV (t:Zf):Value:=.agg #[.int .i64 t.ac.aA,.int .i64 t.ac.ah,.int .i64 t.ac.al,.int .i64 t.ac.ax,.int .i64 t.ac.ak,.int .i64 t.az,.int .i64 t.am]
def Zf.cells (t:Zf):List Value:=t.ac.cells++[.int .i64 t.az,.int .i64 t.am]
def US (t:Zf):List ByteArray:=[Z5 t.ac,ZX t.az,ZX t.am]
theorem X7 (a0:Option Addr) (n c0:Nat) (ys:List Int) (w0:World) (hT:Xq w0) (hl:ys.length≤1000) (hR:Rd Zu 1 w0 a0 n ys):Calls prog 65 #[.slice a0 n c0] w0 fun e w'=>∃ ao cp,e=.returned (.slice ao ys.length cp)∧St w0 [Zd Zt 1 9 (.slice ao ys.length cp) (ys.map ZX)] w':=by
 obtain rfl:=hR.len;obtain ⟨g0,o0,r0⟩:=hR.opn;have R0:=Bx.mk r0;clear r0 hR;have HT:=Bx.mk hT;clear hT;have E:=Bx.mk (St.start w0);refine Q9 func65 rfl ntmps65 [(0,.slice a0 ys.length c0)] ⟨rfl,trivial⟩ rfl ?_;refine xsr<|xr 1 rfl<|xne<|xsr<|xr 1 rfl<|xne<|xsq<|xsr<|xr 1 rfl<|xy rfl (vn 3 1 rfl)<|xr 1 rfl<|xne<|xbl ?_;replace E:=Bx.mk (E.o.nilRow Zt 1 9 none);intro a O;refine ZD (ι:=Nat) (fun k a w=>∃ (ao:Option Addr) (cp:Nat) (xs:List ByteArray),(k≤ys.length∧xs=(ys.take k).map ZX)∧Fr 19 a [(6,.slice a0 ys.length c0),(7,.int .i64 (ys.length:Int)),(3,.slice ao xs.length cp),(8,.int .i64 (k:Int))]∧St w0 ([Zd Zt 1 9 (.slice ao xs.length cp) xs]) w) (fun k=>ys.length - k) 0 ⟨_,_,[],⟨Nat.zero_le _,rfl⟩,O.ls _,E.o⟩ ?_;clear O E;clear a;rintro k a w1 ⟨ao,cp,xs,⟨hk,hq⟩,O,E⟩;replace E:=Bx.mk E;have hxl:xs.length=k:=by rw [hq];simp;omega
 revert a;refine xsr<|xr 1 rfl<|xne<|xsq<|xcd 9 rfl (fun _ dcc1=>?_) fun _ dcc1=>?_
 refine xct rfl<|xsk<|xet<|xsq<|xbl<|xsr<|xy rfl (vxr 3 k 1 rfl (R0.out.ao k (by omega)))<|xy rfl (fun a O=>ylo (v:=.int .i64 (ys.getD k 0)) rfl (O.ev rfl) (R0.out.elem1 E.o (Zh (xs:=ys) (j:=k) (d:=0) (by omega)) rfl))<|xr 1 rfl<|xne<|xrl<|xr 2 rfl ?_;refine ycB (QD (ys.getD k 0) _ (HT.o.below E.o.bel)) func102 E ?_;clear E;intro w2 E;refine ybs Zt 9 1 [ZX (ys.getD k 0)] E ?_;clear E;intro b1 w3 E;refine yap XR encS_len E 1 (St.rdN E.o encS_len 0 rfl) (Zy _) ?_;clear E;intro ao2 cp3 w4 E;refine xr 1 rfl<|xni<|xeb<|xet<|xrl<|xy rfl (vad rfl)<|xr 1 rfl<|xne ?_;have hz:xs.length+([ZX (ys.getD k 0)]).length=(xs++([ZX (ys.getD k 0)])).length:=(List.length_append ..).symm;intro a O;rw [hz] at E O;have hnext:xs++([ZX (ys.getD k 0)])=(ys.take (k+1)).map ZX:=by rw [hq];exact Zg2 ZX ys 0 (by omega)
 replace E:=E.pks [1];exact ⟨k+1,⟨_,_,xs++([ZX (ys.getD k 0)]),⟨by omega,hnext⟩,O.less _ ⟨rfl,rfl,rfl,rfl,trivial⟩,(E.o.erase 1)⟩,(by omega)⟩;refine xcf rfl<|xex<|xtx<|xtx<|xbh<|xet<|xsr<|xr 2 rfl<|xne<|xre<|xb1 results65 rfl ?_;replace E:=E.pks [0];obtain rfl:k=ys.length:=by omega
 rw [List.take_length] at hq;subst hq;exact ⟨_,_,by rw [List.length_map],by rw [← List.length_map (f:=ZX)];exact E.o⟩
theorem JD (t:Zf) (w0:World) (hT:Xq w0):Calls prog 66 #[tV t] w0 fun e w'=>∃ ao cp,e=.returned (.slice ao 3 cp)∧St w0 [Zd Zt 1 9 (.slice ao 3 cp) (US t)] w':=by
 have HT:=Bx.mk hT;clear hT;have E:=Bx.mk (St.start w0);refine ent func66 ntmps66 ?_;refine xsr ?_;refine ybx E ?_;clear E;intro w1 b1 E;refine xr 1 rfl<|xne<|xsq ?_;refine hld [] E ?_;clear E;intro w2 E U;refine Hf 0 0 E rfl<|Hw 1 0 5 E rfl rfl<|Hf 4 5 E rfl<|Hl 5 0 E rfl rfl<|Hf 6 6 E rfl<|Hl 7 0 E rfl rfl ?_;refine Zdb 2 8 ?_ ?_;refine yoB (Ve t.ac _ (HT.o.below U.o.bel)) func103 ?_;intro w3 hb;replace E:=Bx.mk (E.o.later hb);replace U:=Bx.mk (U.o.later hb);clear hb;refine onb E.o ?_;refine Zdb 3 8 ?_ ?_;intro a O;refine Yc (enc:=Zt) (e:=9) (size:=1) rfl rfl O rfl rfl rfl (ps:=[(0,.string (Z5 t.ac))]) rfl (cells:=[.string (Z5 t.ac)]) (by kernel_rfl) [Z5 t.ac] rfl rfl (by unfold maxLen;omega) rfl U.o E.o ?_;clear O E U a;intro b2 a w5 O U E;replace E:=Bx.mk E;replace U:=Bx.mk U;refine ⟨E.o,?_⟩;revert a;refine ZI 8 ?_;intro a O;refine Yc (enc:=Zu) (e:=3) (size:=1) rfl rfl O rfl rfl rfl (ps:=[(0,.int .i64 t.az),(1,.int .i64 t.am)]) rfl (cells:=[.int .i64 t.az,.int .i64 t.am]) (by kernel_rfl) [t.az,t.am] rfl rfl (by unfold maxLen;omega) rfl U.o E.o ?_;clear O E U a;intro b3 a w7 O U E;replace E:=Bx.mk E;replace U:=Bx.mk U;refine ⟨E.o,?_⟩;revert a;refine ZI 9 ?_;refine yo (X7 _ _ _ ([t.az,t.am]) _ (HT.o.below U.o.bel) (by simp) (St.rdN U.o encI_len 0 rfl)) func65 ?_;rintro _ w9 ⟨ao4,cp4,rfl,hs⟩;refine ⟨_,rfl,?_⟩;replace E:=Bx.mk (E.o.later hs.bel);replace U:=U.ad hs;clear hs;intro a O;replace U:=U.nm;refine ⟨E.o,?_⟩;revert a;refine ZI 10 ?_;intro a O;refine Y2 rfl rfl O rfl rfl rfl (O.ev rfl) (O.ev rfl) XR encS_len U.o 2 (xs:=[Z5 t.ac]) rfl (ys:=([t.az,t.am]).map ZX) (St.rdN U.o encS_len 0 rfl) (Zy _) (by unfold maxLen;(try simp only [List.length_append,List.length_cons,List.length_nil,List.nil_append,List.length_map]);omega) (by (try simp only [List.length_append,List.length_cons,List.length_nil,List.nil_append,List.length_map]);omega) ?_;clear O E U a;intro ao5 cp6 w11 a O U;replace U:=Bx.mk U;replace U:=U.nm;have E:=U.ers [2,1,0];refine ⟨E.o,?_⟩;revert a;refine Hp 11 E rfl ?_;refine hdn ?_;replace E:=U;clear U;refine xet<|xre<|xb1 results66 rfl ?_;replace E:=E.pks [2];exact ⟨_,_,rfl,(E.o.erS [3,2,1])⟩;intro a O;refine Yc (enc:=Zu) (e:=3) (size:=1) rfl rfl O rfl rfl rfl (ps:=[(0,.int .i64 t.az),(1,.int .i64 t.am)]) rfl (cells:=[.int .i64 t.az,.int .i64 t.am]) (by kernel_rfl) [t.az,t.am] rfl rfl (by unfold maxLen;omega) rfl U.o E.o ?_;clear O E U a;intro b7 a w13 O U E;replace E:=Bx.mk E;replace U:=Bx.mk U;refine ⟨E.o,?_⟩;revert a;refine Zdb 3 9 ?_ ?_;intro a O;refine Yc (enc:=Zt) (e:=9) (size:=1) rfl rfl O rfl rfl rfl (ps:=[(0,.string (Z5 t.ac))]) rfl (cells:=[.string (Z5 t.ac)]) (by kernel_rfl) [Z5 t.ac] rfl rfl (by unfold maxLen;omega) rfl U.o E.o ?_;clear O E U a;intro b8 a w15 O U E;replace E:=Bx.mk E;replace U:=Bx.mk U;refine ⟨E.o,?_⟩;revert a;refine ZI 9 ?_;refine yo (X7 _ _ _ ([t.az,t.am]) _ (HT.o.below U.o.bel) (by simp) (St.rdN U.o encI_len 1 rfl)) func65 ?_;rintro _ w17 ⟨ao9,cp9,rfl,hs⟩;refine ⟨_,rfl,?_⟩;replace E:=Bx.mk (E.o.later hs.bel);replace U:=U.ad hs;clear hs;intro a O;replace U:=U.nm;refine ⟨E.o,?_⟩;revert a;refine ZI 10 ?_;intro a O;refine Y2 rfl rfl O rfl rfl rfl (O.ev rfl) (O.ev rfl) XR encS_len U.o 1 (xs:=[Z5 t.ac]) rfl (ys:=([t.az,t.am]).map ZX) (St.rdN U.o encS_len 0 rfl) (Zy _) (by unfold maxLen;(try simp only [List.length_append,List.length_cons,List.length_nil,List.nil_append,List.length_map]);omega) (by (try simp only [List.length_append,List.length_cons,List.length_nil,List.nil_append,List.length_map]);omega) ?_;clear O E U a;intro ao10 cp11 w19 a O U;replace U:=Bx.mk U;replace U:=U.nm;have E:=U.ers [2,1,0];refine ⟨E.o,?_⟩;revert a;refine Hp 11 E rfl ?_;refine hdn ?_;replace E:=U;clear U;refine xet<|xre<|xb1 results66 rfl ?_;replace E:=E.pks [1];exact ⟨_,_,rfl,(E.o.erS [3,2,1])⟩;refine yo (X7 _ _ _ ([t.az,t.am]) _ (HT.o.below U.o.bel) (by simp) (St.rdN U.o encI_len 0 rfl)) func65 ?_;rintro _ w21 ⟨ao12,cp12,rfl,hs⟩;refine ⟨_,rfl,?_⟩;replace E:=Bx.mk (E.o.later hs.bel);replace U:=U.ad hs;clear hs;intro a O;replace U:=U.nm;refine ⟨E.o,?_⟩;revert a;refine ZI 3 ?_;intro a O;refine Yc (enc:=Zt) (e:=9) (size:=1) rfl rfl O rfl rfl rfl (ps:=[(0,.string (Z5 t.ac))]) rfl (cells:=[.string (Z5 t.ac)]) (by kernel_rfl) [Z5 t.ac] rfl rfl (by unfold maxLen;omega) rfl U.o E.o ?_;clear O E U a;intro b13 a w23 O U E;replace E:=Bx.mk E;replace U:=Bx.mk U;refine ⟨E.o,?_⟩;revert a;refine ZI 10 ?_;intro a O;refine Y2 rfl rfl O rfl rfl rfl (O.ev rfl) (O.ev rfl) XR encS_len U.o 0 (xs:=[Z5 t.ac]) rfl (ys:=([t.az,t.am]).map ZX) (St.rdN U.o encS_len 1 rfl) (Zy _) (by unfold maxLen;(try simp only [List.length_append,List.length_cons,List.length_nil,List.nil_append,List.length_map]);omega) (by (try simp only [List.length_append,List.length_cons,List.length_nil,List.nil_append,List.length_map]);omega) ?_;clear O E U a;intro ao14 cp15 w25 a O U;replace U:=Bx.mk U;replace U:=U.nm;have E:=U.ers [2,1,0];refine ⟨E.o,?_⟩;revert a;refine Hp 11 E rfl ?_;refine hdn ?_;replace E:=U;clear U;refine xet<|xre<|xb1 results66 rfl ?_;replace E:=E.pks [0];exact ⟨_,_,rfl,(E.o.erS [3,2,1])⟩;intro a O;refine Yc (enc:=Zu) (e:=3) (size:=1) rfl rfl O rfl rfl rfl (ps:=[(0,.int .i64 t.az),(1,.int .i64 t.am)]) rfl (cells:=[.int .i64 t.az,.int .i64 t.am]) (by kernel_rfl) [t.az,t.am] rfl rfl (by unfold maxLen;omega) rfl U.o E.o ?_;clear O E U a;intro b16 a w27 O U E;replace E:=Bx.mk E;replace U:=Bx.mk U;refine ⟨E.o,?_⟩;revert a;refine ZI 2 ?_;refine yoB (Ve t.ac _ (HT.o.below U.o.bel)) func103 ?_;intro w28 hb;replace E:=Bx.mk (E.o.later hb);replace U:=Bx.mk (U.o.later hb);clear hb;refine onb E.o ?_;refine Zdb 3 9 ?_ ?_;intro a O;refine Yc (enc:=Zt) (e:=9) (size:=1) rfl rfl O rfl rfl rfl (ps:=[(0,.string (Z5 t.ac))]) rfl (cells:=[.string (Z5 t.ac)]) (by kernel_rfl) [Z5 t.ac] rfl rfl (by unfold maxLen;omega) rfl U.o E.o ?_;clear O E U a;intro b17 a w30 O U E;replace E:=Bx.mk E;replace U:=Bx.mk U;refine ⟨E.o,?_⟩;revert a;refine ZI 9 ?_;refine yo (X7 _ _ _ ([t.az,t.am]) _ (HT.o.below U.o.bel) (by simp) (St.rdN U.o encI_len 1 rfl)) func65 ?_;rintro _ w32 ⟨ao18,cp18,rfl,hs⟩;refine ⟨_,rfl,?_⟩;replace E:=Bx.mk (E.o.later hs.bel);replace U:=U.ad hs;clear hs;intro a O;replace U:=U.nm;refine ⟨E.o,?_⟩;revert a;refine ZI 10 ?_;intro a O;refine Y2 rfl rfl O rfl rfl rfl (O.ev rfl) (O.ev rfl) XR encS_len U.o 1 (xs:=[Z5 t.ac]) rfl (ys:=([t.az,t.am]).map ZX) (St.rdN U.o encS_len 0 rfl) (Zy _) (by unfold maxLen;(try simp only [List.length_append,List.length_cons,List.length_nil,List.nil_append,List.length_map]);omega) (by (try simp only [List.length_append,List.length_cons,List.length_nil,List.nil_append,List.length_map]);omega) ?_;clear O E U a;intro ao19 cp20 w34 a O U;replace U:=Bx.mk U;replace U:=U.nm;have E:=U.ers [2,1,0];refine ⟨E.o,?_⟩;revert a;refine Hp 11 E rfl ?_;refine hdn ?_;replace E:=U;clear U;refine xet<|xre<|xb1 results66 rfl ?_;replace E:=E.pks [1];exact ⟨_,_,rfl,(E.o.erS [3,2,1])⟩;refine yo (X7 _ _ _ ([t.az,t.am]) _ (HT.o.below U.o.bel) (by simp) (St.rdN U.o encI_len 0 rfl)) func65 ?_;rintro _ w36 ⟨ao21,cp21,rfl,hs⟩;refine ⟨_,rfl,?_⟩;replace E:=Bx.mk (E.o.later hs.bel);replace U:=U.ad hs;clear hs;intro a O;replace U:=U.nm;refine ⟨E.o,?_⟩;revert a;refine ZI 3 ?_;intro a O;refine Yc (enc:=Zt) (e:=9) (size:=1) rfl rfl O rfl rfl rfl (ps:=[(0,.string (Z5 t.ac))]) rfl (cells:=[.string (Z5 t.ac)]) (by kernel_rfl) [Z5 t.ac] rfl rfl (by unfold maxLen;omega) rfl U.o E.o ?_;clear O E U a;intro b22 a w38 O U E;replace E:=Bx.mk E;replace U:=Bx.mk U;refine ⟨E.o,?_⟩;revert a;refine ZI 10 ?_;intro a O;refine Y2 rfl rfl O rfl rfl rfl (O.ev rfl) (O.ev rfl) XR encS_len U.o 0 (xs:=[Z5 t.ac]) rfl (ys:=([t.az,t.am]).map ZX) (St.rdN U.o encS_len 1 rfl) (Zy _) (by unfold maxLen;(try simp only [List.length_append,List.length_cons,List.length_nil,List.nil_append,List.length_map]);omega) (by (try simp only [List.length_append,List.length_cons,List.length_nil,List.nil_append,List.length_map]);omega) ?_;clear O E U a;intro ao23 cp24 w40 a O U;replace U:=Bx.mk U;replace U:=U.nm;have E:=U.ers [2,1,0];refine ⟨E.o,?_⟩;revert a;refine Hp 11 E rfl ?_;refine hdn ?_;replace E:=U;clear U;refine xet<|xre<|xb1 results66 rfl ?_;replace E:=E.pks [0];exact ⟨_,_,rfl,(E.o.erS [3,2,1])⟩
theorem Yp (t:Zf):(US t).length=3:=rfl
theorem ZdN (c:UInt8):∀ l:List UInt8,(c ∉ l∧index l [c]=-1)∨∃ d t,l=d++c::t∧c ∉ d∧index l [c]=(d.length:Int)
 | []=>.inl ⟨by simp,rfl⟩
 | b::l=>by
  by_cases hb:b=c
  ·subst hb
   refine .inr ⟨[],l,rfl,by simp,?_⟩;unfold index;rw [if_pos (by simp [List.isPrefixOf])];rfl
  ·have hi:index (b::l) [c]=if index l [c] == -1 then -1 else index l [c]+1:=by
    conv=>lhs;unfold index
    rw [if_neg (by simp [List.isPrefixOf];exact fun e=>hb e.symm)]
   rcases ZdN c l with ⟨h1,h2⟩|⟨d,t,rfl,h2,h3⟩
   ·exact .inl ⟨by simp [h1];exact fun e=>hb e.symm,by rw [hi,h2];rfl⟩
   ·refine .inr ⟨b::d,t,rfl,by simp [h2];exact fun e=>hb e.symm,?_⟩
    rw [hi,h3,if_neg (by simp)]
    rfl
theorem ZkK (c:UInt8) (l:List UInt8):(c ∉ l∧(cut l [c]).2.2=false)∨∃ d t,l=d++c::t∧c ∉ d∧cut l [c]=(d,t,true):=by
 rcases ZdN c l with ⟨h1,h2⟩|⟨d,t,rfl,h2,h3⟩
 ·refine .inl ⟨h1,?_⟩
  unfold cut;rw [h2];rfl
 ·refine .inr ⟨d,t,rfl,h2,?_⟩
  unfold cut;rw [h3,if_pos (by omega),Int.toNat_natCast];have e1:(d++c::t).take d.length=d:=by simp
  have e2:(d++c::t).drop (d.length+[c].length)=t:=by simp [List.drop_append]
  rw [e1,e2]
theorem ZkL (l:List ByteArray):∀ a:ByteArray,l.foldl (fun a s=>a++ZM s.size++Zdc++s) a=a++Yk l:=by
 induction l with
 | nil=>exact fun a=>Xc (by rw [Z3];simp [Yk])
 | cons y ys ih =>
  intro a;have h1:=ih (a++ZM y.size++Zdc++y);have h2:=ih (ByteArray.empty++ZM y.size++Zdc++y);unfold Yk;rw [List.foldl_cons,List.foldl_cons,h1,h2];exact Xc (by simp only [Z3,List.append_assoc];simp)
theorem XW (y:ByteArray) (ys:List ByteArray):(Yk (y::ys)).data.toList=(ZM y.size).data.toList++58::(y.data.toList++(Yk ys).data.toList):=by
 have h:=ZkL ys (ByteArray.empty++ZM y.size++Zdc++y);have e:Yk (y::ys)=ByteArray.empty++ZM y.size++Zdc++y++Yk ys:=h;rw [e];simp only [Z3,List.append_assoc];simp [Zdc]
theorem Vz:Yk []=ByteArray.empty:=rfl
theorem Zl7 (xs ys:List ByteArray):(Yk (xs++ys)).data.toList=(Yk xs).data.toList++(Yk ys).data.toList:=by
 induction xs with
 | nil=>simp [Vz]
 | cons x xs ih=>rw [List.cons_append,XW,XW,ih];simp
theorem VA (n:Nat):(58:UInt8) ∉ (ZM n).data.toList:=by
 intro hx;rw [Yx] at hx;obtain ⟨d,hd⟩:=JZ n 58 hx;obtain ⟨h1,h10⟩:=JY hd;have hn:(UInt8.ofNat (48+d)).toNat=48+d:=by rw [UInt8.toNat_ofNat'];omega
 rw [← h1] at hn;have:(58:UInt8).toNat=58:=rfl
 omega
theorem Zg3 {a b c d:List UInt8} (ha:(58:UInt8) ∉ a) (hc:(58:UInt8) ∉ c) (h:a++58::b=c++58::d):a=c∧b=d:=by
 induction a generalizing c with
 | nil =>
  cases c with
  | nil=>simpa using h
  | cons x c=>simp at h;exact absurd (by simp [h.1]) hc
 | cons x a ih =>
  cases c with
  | nil=>simp at h;exact absurd (by simp [h.1]) ha
  | cons y c =>
   simp only [List.cons_append,List.cons.injEq] at h;obtain ⟨h1,h2⟩:=ih (fun hm=>ha (by simp [hm])) (fun hm=>hc (by simp [hm])) h.2;exact ⟨by rw [h.1,h1],h2⟩
theorem ZhV {m n:Nat} (h:ZM m=ZM n):m=n:=by
 have h1:=JC m;have h2:=JC n;rw [← Yx,h,Yx] at h1;exact Option.some.inj (h1.symm.trans h2)
theorem ZhW {y:ByteArray} {ys:List ByteArray} {d t:List UInt8} (h:(Yk (y::ys)).data.toList=d++58::t) (hd:(58:UInt8) ∉ d):d=(ZM y.size).data.toList∧t=y.data.toList++(Yk ys).data.toList:=by
 rw [XW] at h;have:=Zg3 (VA _) hd h;exact ⟨this.1.symm,this.2.symm⟩
theorem Zg4 (y:ByteArray) (ys:List ByteArray):(Yk (y::ys)).data.toList≠[]:=by rw [XW];simp
theorem ZaE {xs ys:List ByteArray} (h:Yk xs=Yk ys):xs=ys:=by
 induction xs generalizing ys with
 | nil =>
  cases ys with
  | nil=>rfl
  | cons y ys=>exact absurd (by rw [← h];rfl) (Zg4 y ys)
 | cons x xs ih =>
  cases ys with
  | nil=>exact absurd (by rw [h];rfl) (Zg4 x xs)
  | cons y ys =>
   have h1:=ZhW (y:=x) (ys:=xs) (d:=(ZM y.size).data.toList) (t:=y.data.toList++(Yk ys).data.toList) (by rw [h,XW]) (VA _);have hz:x.size=y.size:=ZhV (Xc h1.1.symm);have h2:=h1.2;have hl:y.data.toList.length=x.data.toList.length:=by rw [← Zg,← Zg,hz]
   have h3:=List.append_inj h2 hl;rw [Xc h3.1,ih (Xc h3.2.symm)]
structure IsRec (s:ByteArray) (l:List ByteArray):Prop where
  is:Yk l=s
  many:l.length≤60
theorem IsRec.one {s:ByteArray} {l m:List ByteArray} (h:IsRec s l) (k:IsRec s m):l=m:=ZaE (h.is.trans k.is.symm)
structure U0 (s:ByteArray) (ys:List ByteArray) (rest:ByteArray):Prop where
  is:s.data.toList=(Yk ys).data.toList++rest.data.toList
theorem U0.zero (s:ByteArray):U0 s [] s:=⟨by simp [Vz]⟩
theorem U0.done {s rest:ByteArray} {ys:List ByteArray} (h:U0 s ys rest) (h0:(rest.toList == (⟨#[]⟩:ByteArray).toList)=true):Yk ys=s:=by
 obtain rfl:=Yi h0;exact Xc (by rw [h.is];simp)
theorem U0.size {s rest:ByteArray} {ys:List ByteArray} (h:U0 s ys rest):rest.size≤s.size:=by
 have:=congrArg List.length h.is;rw [List.length_append,← Zg,← Zg,← Zg] at this
 omega
theorem U0.left {s rest:ByteArray} {ys l:List ByteArray} (h:U0 s ys rest) (hl:Yk l=s):∃ ws,l=ys++ws∧Yk ws=rest:=by
 have key:∀ (ys l:List ByteArray) (r:List UInt8),(Yk l).data.toList=(Yk ys).data.toList++r→∃ ws,l=ys++ws∧(Yk ws).data.toList=r:=by
  intro ys
  induction ys with
  | nil=>exact fun l r e=>⟨l,rfl,by simpa [Vz] using e⟩
  | cons y ys ih =>
   intro l r e
   cases l with
   | nil=>rw [XW,Vz] at e;simp at e
   | cons x xs =>
    rw [XW y ys] at e;have h1:=ZhW (y:=x) (ys:=xs) (d:=(ZM y.size).data.toList) (t:=y.data.toList++(Yk ys).data.toList++r) (by rw [e];simp) (VA _);have hz:x.size=y.size:=ZhV (Xc h1.1.symm);have hlen:y.data.toList.length=x.data.toList.length:=by rw [← Zg,← Zg,hz]
    have h3:=List.append_inj (by rw [← List.append_assoc];exact h1.2) hlen;obtain ⟨ws,e1,e2⟩:=ih xs r h3.2.symm;exact ⟨ws,by rw [← Xc h3.1,e1];rfl,e2⟩
 obtain ⟨ws,e1,e2⟩:=key ys l rest.data.toList (by rw [hl,h.is]);exact ⟨ws,e1,Xc e2⟩
theorem U0.step {s rest num tail:ByteArray} {ys:List ByteArray} {n:Nat} (h:U0 s ys rest) (hc:rest.data.toList=num.data.toList++58::tail.data.toList) (hn:Jk num=some n) (hz:n≤tail.size):U0 s (ys++[tail.extract 0 n]) (tail.extract n tail.size):=by
 have hs:=(Qn hn).2;have hsz:(tail.extract 0 n).size=n:=by rw [ByteArray.size_extract];omega
 refine ⟨?_⟩;rw [h.is,Zl7,XW,hsz,Vz,hc,hs,Y3,Y3];have e1:(tail.data.toList.drop 0).take (n - 0)=tail.data.toList.take n:=by simp
 have e2:(tail.data.toList.drop n).take (tail.size - n)=tail.data.toList.drop n:=List.take_of_length_le (by rw [List.length_drop,← Zg];exact Nat.le_refl _);rw [e1,e2]
 simp
theorem U0.go {s rest:ByteArray} {ys l:List ByteArray} (h:U0 s ys rest) (hl:Yk l=s) (hs:s.size≤2048) (h60:l.length≤60) (hne:(rest.toList == (⟨#[]⟩:ByteArray).toList)=false):∃ (y:ByteArray) (ws:List ByteArray),l=ys++y::ws∧rest.data.toList=(ZM y.size).data.toList++58::(y.data.toList++(Yk ws).data.toList)∧Jk (ZM y.size)=some y.size∧ys.length<60:=by
 obtain ⟨ws,e1,e2⟩:=h.left hl
 cases ws with
 | nil =>
  rw [Vz] at e2;rw [← e2] at hne;rw [show (ByteArray.empty.toList == (⟨#[]⟩:ByteArray).toList)=true from beq_self_eq_true (a:=ByteArray.empty.toList)] at hne
  cases hne
 | cons y ws =>
  have hr:rest.data.toList=(ZM y.size).data.toList++58::(y.data.toList++(Yk ws).data.toList):=by rw [← e2,XW]
  refine ⟨y,ws,e1,hr,ZaA ?_,?_⟩
  ·have h2:=h.size
   have h3:=congrArg List.length hr;rw [List.length_append,List.length_cons,List.length_append] at h3;have h4:=Zg rest;have h5:=Zg y
   omega
  ·rw [e1,List.length_append,List.length_cons] at h60;omega
def Zjb:Go.Shelf.Ren:=⟨fun|145=>157|217=>190|219=>179|220=>168|224=>192|225=>191|266=>199|267=>193|314=>200|n=>n,fun|3=>3|4=>4|5=>5|9=>9|46=>192|51=>190|59=>174|146=>214|n=>n,fun|1=>1|n=>n⟩
theorem ZoM:Go.Proofs.Lays.n145 prog Zjb:={
 mixed:=by kernel_rfl
 f145:=Tryz.func157.trans (congrArg some (by kernel_rfl))
 f217:=Tryz.func190.trans (congrArg some (by kernel_rfl))
 f219:=Tryz.func179.trans (congrArg some (by kernel_rfl))
 f220:=Tryz.func168.trans (congrArg some (by kernel_rfl))
 f224:=Tryz.func192.trans (congrArg some (by kernel_rfl))
 f225:=Tryz.func191.trans (congrArg some (by kernel_rfl))
 f266:=Tryz.func199.trans (congrArg some (by kernel_rfl))
 f267:=Tryz.func193.trans (congrArg some (by kernel_rfl))
 f314:=Tryz.func200.trans (congrArg some (by kernel_rfl))
 t3:=Tryz.underlying3
 a3:=Tryz.isAgg3
 z3:=Tryz.sizeOf3
 v3:=Tryz.zeroValue3
 t4:=Tryz.underlying4
 a4:=Tryz.isAgg4
 z4:=Tryz.sizeOf4
 v4:=Tryz.zeroValue4
 t5:=Tryz.underlying5
 a5:=Tryz.isAgg5
 z5:=Tryz.sizeOf5
 v5:=Tryz.zeroValue5
 t9:=Tryz.underlying9
 a9:=Tryz.isAgg9
 z9:=Tryz.sizeOf9
 v9:=Tryz.zeroValue9
 t46:=Tryz.underlying192
 a46:=Tryz.isAgg192
 z46:=Tryz.sizeOf192
 v46:=Tryz.zeroValue192
 t51:=Tryz.underlying190
 a51:=Tryz.isAgg190
 z51:=Tryz.sizeOf190
 v51:=Tryz.zeroValue190
 t59:=Tryz.underlying174
 a59:=Tryz.isAgg174
 z59:=Tryz.sizeOf174
 v59:=Tryz.zeroValue174
 t146:=Tryz.underlying214
 a146:=Tryz.isAgg214
 z146:=Tryz.sizeOf214
 v146:=Tryz.zeroValue214
 g1:=by kernel_rfl }
def Zg5:Go.Shelf.Ren:=⟨fun|316=>169|n=>n,fun|0=>0|3=>3|4=>4|5=>5|9=>9|37=>119|127=>156|n=>n,fun|n=>n⟩
theorem Zl8:Go.Proofs.LaysM.n316 prog Zg5:={
 mixed:=by kernel_rfl
 f316:=Tryz.func169.trans (congrArg some (by kernel_rfl))
 t0:=Tryz.underlying0
 a0:=Tryz.isAgg0
 z0:=Tryz.sizeOf0
 v0:=Tryz.zeroValue0
 t3:=Tryz.underlying3
 a3:=Tryz.isAgg3
 z3:=Tryz.sizeOf3
 v3:=Tryz.zeroValue3
 t4:=Tryz.underlying4
 a4:=Tryz.isAgg4
 z4:=Tryz.sizeOf4
 v4:=Tryz.zeroValue4
 t9:=Tryz.underlying9
 a9:=Tryz.isAgg9
 z9:=Tryz.sizeOf9
 v9:=Tryz.zeroValue9
 t37:=Tryz.underlying119
 a37:=Tryz.isAgg119
 z37:=Tryz.sizeOf119
 v37:=Tryz.zeroValue119
 t127:=Tryz.underlying156
 a127:=Tryz.isAgg156
 z127:=Tryz.sizeOf156
 v127:=Tryz.zeroValue156
 t5:=Tryz.underlying5
 a5:=Tryz.isAgg5
 z5:=Tryz.sizeOf5
 v5:=Tryz.zeroValue5
 i0:=by kernel_rfl
 i3:=by kernel_rfl
 i4:=by kernel_rfl
 i5:=by kernel_rfl
 i9:=by kernel_rfl
 i37:=by kernel_rfl
 i127:=by kernel_rfl }
theorem ZnO (s:ByteArray) (w:World) (hM:X1 w) (hs:s.size≤4294967280):Calls prog 157 #[.string s,.string ⟨#[58]⟩] w fun e w'=>((58:UInt8) ∉ s.data.toList∧(∃ b a:ByteArray,e=.returned (.tuple #[.string b,.string a,.bool false]))∧Below w.heap.size w w')∨(∃ num tail:ByteArray,s.data.toList=num.data.toList++58::tail.data.toList∧(58:UInt8) ∉ num.data.toList∧e=.returned (.tuple #[.string num,.string tail,.bool true])∧Below w.heap.size w w'):=by
 obtain ⟨m,hm⟩:=hM;refine (Any.strings_Cut ZoM s ⟨#[58]⟩ m w (by omega) hm).mono ?_;rintro e w' ⟨rfl,n,rfl⟩;rcases ZkK 58 s.data.toList with ⟨h1,h2⟩|⟨d,t,h1,h2,h3⟩
 ·refine .inl ⟨h1,⟨⟨(Go.Lib.cut s.data.toList [58]).1.toArray⟩,⟨(Go.Lib.cut s.data.toList [58]).2.1.toArray⟩,?_⟩,ZU _ _ _⟩
  show Ending.returned (.tuple #[_,_,.bool (Go.Lib.cut s.data.toList [58]).2.2])=_;rw [h2]
 ·refine .inr ⟨⟨d.toArray⟩,⟨t.toArray⟩,h1,h2,?_,ZU _ _ _⟩
  show Ending.returned (.tuple #[.string ⟨(Go.Lib.cut s.data.toList [58]).1.toArray⟩,.string ⟨(Go.Lib.cut s.data.toList [58]).2.1.toArray⟩,.bool (Go.Lib.cut s.data.toList [58]).2.2])=_;rw [h3]
theorem Zjc (s:ByteArray) (w0:World) (hs:s.size≤281474976710656):Calls prog 158 #[.string s] w0 fun e w'=>e=.returned (.string s)∧Below w0.heap.size w0 w':=by
 have E:=Bx.mk (St.start w0);refine ent func158 ntmps158 ?_;refine xsr<|xr 1 rfl<|xne<|xsr<|xr 1 rfl ?_;refine ycB (Any.stringslite_Clone Zl8 s _ (by omega)) func169 E ?_;clear E;intro w1 E;refine xr 1 rfl<|xne<|xre<|xb1 results158 rfl ?_;exact ⟨rfl,E.o.bel⟩
theorem ZfY (s:ByteArray) (w0:World) (hT:Xq w0) (hM:X1 w0) (hE:X2 w0) (hs:s.size≤9223372036854775807):Calls prog 143 #[.string s] w0 fun e w'=>(∃ xs,IsRec s xs∧s.size≤2048∧∃ ao cp,e=.returned (.tuple #[.slice ao xs.length cp,.bool true])∧St w0 [Zd Zt 1 9 (.slice ao xs.length cp) xs] w')∨((∀ l,IsRec s l→s.size≤2048→False)∧e=.returned (.tuple #[.slice none 0 0,.bool false])∧Below w0.heap.size w0 w'):=by
 have HT:=Bx.mk hT;have HM:=Bx.mk hM;have HE:=Bx.mk hE;clear hT hM hE;have E:=Bx.mk (St.start w0);refine ent func143 ntmps143 ?_;refine xsr<|xr 2 rfl<|xne<|xsq<|xsr<|xr 1 rfl<|xy rfl (fun a O=>YN rfl (O.ev rfl) (by kernel_rfl))<|xr 1 rfl<|xne<|xcd 13 rfl (fun _ dcc1=>?_) fun _ dcc1=>?_;refine xct rfl<|xsr<|xr 2 rfl<|xne<|xre<|xtr<|xb2 results143 rfl rfl ?_;exact .inr ⟨fun l h h2=>absurd h2 (by omega),rfl,E.o.bel⟩;refine xcf rfl<|xsk<|xet<|xsq ?_;have hsz:s.size≤2048:=by omega
 refine xrl<|xr 1 rfl<|xne<|xsq<|xsr<|xr 2 rfl<|xne<|xbl ?_;replace E:=Bx.mk (E.o.nilRow Zt 1 9 none);intro a O;refine ZD (ι:=Nat) (fun k a w=>∃ (ao:Option Addr) (cp:Nat) (xs:List ByteArray) (rest:ByteArray),(k=rest.size∧U0 s xs rest∧xs.length≤60)∧Fr 56 a [(0,.string s),(4,.slice ao xs.length cp),(5,.string rest)]∧St w0 ([Zd Zt 1 9 (.slice ao xs.length cp) xs]) w) (fun k=>k) s.size ⟨_,_,[],s,⟨rfl,U0.zero s,Nat.zero_le _⟩,O.ls _,E.o⟩ ?_;clear O E;clear a;rintro k a w1 ⟨ao,cp,xs,rest,⟨hkr,hto,hxl⟩,O,E⟩;replace E:=Bx.mk E;have hrs:=hto.size;revert a;refine xsq<|xsr<|xr 1 rfl<|xy rfl (fun a O=>Jg rfl (O.ev rfl) (O.ev rfl))<|xne<|xcs 16 rfl (fun cc2=>?_) fun cc2=>?_
 have hre:(rest.toList == (⟨#[]⟩:ByteArray).toList)=false:=by simpa using cc2
 refine xct rfl<|xsk<|xet<|xbl<|xsr<|xr 1 rfl ?_;refine yc (ZnO rest _ (HM.o.below E.o.bel) (by omega)) func157 ?_;rintro _ w2 (⟨h58,⟨cb,ca,rfl⟩,hb⟩|⟨num,tail,hcut,h58,rfl,hb⟩);refine ⟨_,rfl,?_⟩;replace E:=Bx.mk (E.o.later hb);clear hb;refine xr 7 rfl<|xne<|xsr<|xr 1 rfl ?_;refine yc (ZV cb _ (HT.o.below E.o.bel) (HE.o.below E.o.bel)) func144 ?_;rintro _ w3 (⟨n,hng,rfl,hb⟩|⟨hng,rfl,hb⟩);refine ⟨_,rfl,?_⟩;replace E:=Bx.mk (E.o.later hb);clear hb;refine xr 5 rfl<|xne<|xsq<|xsr<|xr 17 rfl<|xne<|xct rfl<|xsr<|xr 2 rfl<|xne<|xre<|xtr<|xbr<|xtr<|xbr<|xtr<|xb2 results143 rfl rfl ?_;refine .inr ⟨fun l h h2=>?_,rfl,E.o.bel⟩;obtain ⟨y,ws,e1,e2,e3,e4⟩:=hto.go h.is h2 h.many hre;exact h58 (by rw [e2];simp);refine ⟨_,rfl,?_⟩;replace E:=Bx.mk (E.o.later hb);clear hb;refine xr 5 rfl<|xne<|xsq<|xsr<|xr 17 rfl<|xne<|xct rfl<|xsr<|xr 2 rfl<|xne<|xre<|xtr<|xbr<|xtr<|xbr<|xtr<|xb2 results143 rfl rfl ?_;refine .inr ⟨fun l h h2=>?_,rfl,E.o.bel⟩;obtain ⟨y,ws,e1,e2,e3,e4⟩:=hto.go h.is h2 h.many hre;exact h58 (by rw [e2];simp);refine ⟨_,rfl,?_⟩;replace E:=Bx.mk (E.o.later hb);clear hb;have htl:tail.size≤2048:=by have h1:=congrArg List.length hcut;rw [List.length_append,List.length_cons] at h1;have h2:=Zg rest;have h3:=Zg tail;have h4:=hto.size;omega
 refine xr 7 rfl<|xne<|xsr<|xr 1 rfl ?_;refine yc (ZV num _ (HT.o.below E.o.bel) (HE.o.below E.o.bel)) func144 ?_;rintro _ w4 (⟨n,hng,rfl,hb⟩|⟨hng,rfl,hb⟩);refine ⟨_,rfl,?_⟩;replace E:=Bx.mk (E.o.later hb);clear hb;refine xr 5 rfl<|xne<|xsq<|xsr<|xr 9 rfl<|xy rfl (fun a O=>YN rfl (O.ev rfl) (by kernel_rfl))<|xr 3 rfl<|xcd 40 rfl (fun _ dcc3=>?_) fun _ dcc3=>?_;refine xr 4 rfl<|xne<|xct rfl<|xsr<|xr 2 rfl<|xne<|xre<|xtr<|xbr<|xtr<|xbr<|xtr<|xb2 results143 rfl rfl ?_;refine .inr ⟨fun l h h2=>?_,rfl,E.o.bel⟩;obtain ⟨y,ws,e1,e2,e3,e4⟩:=hto.go h.is h2 h.many hre;have e5:=Zg3 (VA y.size) h58 (e2.symm.trans hcut);rw [Xc e5.1] at e3;have e6:=Option.some.inj (e3.symm.trans hng);have e7:=congrArg List.length e5.2;rw [List.length_append] at e7;have e8:=Zg y;have e9:=Zg tail;omega;refine xr 1 rfl<|xy rfl (vn 9 1 rfl)<|xr 2 rfl<|xne<|xce 44 rfl (fun _ dcc4=>?_) fun _ dcc4=>?_;refine xct rfl<|xsr<|xr 2 rfl<|xne<|xre<|xtr<|xbr<|xtr<|xbr<|xtr<|xb2 results143 rfl rfl ?_;refine .inr ⟨fun l h h2=>?_,rfl,E.o.bel⟩;obtain ⟨y,ws,e1,e2,e3,e4⟩:=hto.go h.is h2 h.many hre;have e5:=Zg3 (VA y.size) h58 (e2.symm.trans hcut);rw [Xc e5.1] at e3;have e6:=Option.some.inj (e3.symm.trans hng);have e7:=congrArg List.length e5.2;rw [List.length_append] at e7;have e8:=Zg y;have e9:=Zg tail;omega;refine xcf rfl<|xsk<|xet<|xsr<|xr 3 rfl<|xy rfl (fun a O=>Zi8 (k:=n) rfl (O.ev rfl) (O.ev rfl) (by kernel_rfl) (by omega) (by omega)) ?_;refine ycB (Zjc (tail.extract 0 n) _ (by rw [ByteArray.size_extract];omega)) func158 E ?_;clear E;intro w5 E;refine ybs Zt 9 1 [tail.extract 0 n] E ?_;clear E;intro b1 w6 E;refine yap XR encS_len E 1 (St.rdN E.o encS_len 0 rfl) (Zy _) ?_;clear E;intro ao2 cp3 w7 E;refine xr 1 rfl<|xne<|xrl<|xr 2 rfl<|xy rfl (fun a O=>ZbR (k:=n) rfl (O.ev rfl) (O.ev rfl) (by kernel_rfl) (by omega) (by omega))<|xr 1 rfl<|xni<|xeb<|xet ?_;have hz:xs.length+([tail.extract 0 n]).length=(xs++([tail.extract 0 n])).length:=(List.length_append ..).symm;intro a O;rw [hz] at E O;have hto2:=hto.step hcut hng (by omega);have hlt:(tail.extract n tail.size).size<rest.size:=by have h1:=congrArg List.length hcut;rw [List.length_append,List.length_cons] at h1;have h2:=Zg rest;have h3:=Zg tail;rw [ByteArray.size_extract];omega
 replace E:=E.pks [1];exact ⟨(tail.extract n tail.size).size,⟨_,_,xs++([tail.extract 0 n]),tail.extract n tail.size,⟨rfl,hto2,by rw [List.length_append,List.length_cons,List.length_nil];omega⟩,O.less _ ⟨rfl,rfl,rfl,trivial⟩,(E.o.erase 1)⟩,(by rw [hkr];exact hlt)⟩;refine ⟨_,rfl,?_⟩;replace E:=Bx.mk (E.o.later hb);clear hb;refine xr 5 rfl<|xne<|xsq<|xsr<|xr 17 rfl<|xne<|xct rfl<|xsr<|xr 2 rfl<|xne<|xre<|xtr<|xbr<|xtr<|xbr<|xtr<|xb2 results143 rfl rfl ?_;refine .inr ⟨fun l h h2=>?_,rfl,E.o.bel⟩;obtain ⟨y,ws,e1,e2,e3,e4⟩:=hto.go h.is h2 h.many hre;have e5:=Zg3 (VA y.size) h58 (e2.symm.trans hcut);rw [Xc e5.1] at e3;rw [e3] at hng;cases hng;have hre:(rest.toList == (⟨#[]⟩:ByteArray).toList)=true:=by simpa using cc2
 refine xcf rfl<|xex<|xtx<|xtx<|xbh<|xet<|xsr<|xr 3 rfl<|xne<|xre<|xb2 results143 rfl rfl ?_;replace E:=E.pks [0];exact .inl ⟨xs,⟨hto.done hre,hxl⟩,hsz,_,_,rfl,E.o⟩
end Go.Proofs.YtenejpbnncbilaaGreatDoor
