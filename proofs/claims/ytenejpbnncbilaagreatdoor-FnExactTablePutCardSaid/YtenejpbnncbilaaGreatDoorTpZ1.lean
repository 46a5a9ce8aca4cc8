/- A part of the proof in YtenejpbnncbilaaGreatDoorTpZ7. -/
import Derived.ArgAppend
import Derived.BigQuiet
import Derived.BigRegion
import Derived.Deep.AppendLies
import Derived.Deep.MidRow
import Derived.Deep.Quiet
import Derived.Deep.QuietTactic
import Derived.Deep.RegionWith
import Derived.IntWalk
import Derived.Lib.Hide
import Derived.Lib.LazyBuf
import Derived.Orders
import Derived.OrdersHeld
import Derived.Still
import Derived.StillTail
import Derived.StillTailTactics
import Derived.Test.YtenejpbnncbilaaGreatDoorRows
import Derived.WalkKit
import Derived.WalkLawsBesides
import Derived.WalkSpells
namespace Go.Proofs.YtenejpbnncbilaaGreatDoor
open Go.Proofs.Tryz
set_option linter.unusedVariables false
set_option linter.unusedSimpArgs false
set_option maxHeartbeats 1000000
set_option maxRecDepth 100000
open Go.RowKit
theorem Qu {k:IntKind} {a b:Int} (h:a=b):Ending.returned (.int k a)=.returned (.int k b):=by rw [h]
theorem Zr {a b:Bool} (h:a=b):Ending.returned (.bool a)=.returned (.bool b):=by rw [h]
theorem Zow {W w1:World} (hb:Below W.heap.size W w1):(∀ b o,b<W.heap.size→w1.cell? ⟨b,o,none⟩=W.cell? ⟨b,o,none⟩)∧(∀ b o,b<W.heap.size→w1.frozen? ⟨b,o,none⟩=W.frozen? ⟨b,o,none⟩) :=
 ⟨fun b o h=>hb.cell (p:=⟨b,o,none⟩) h,fun b o h=>hb.frozen (p:=⟨b,o,none⟩) h⟩
section
variable {α:Type}
theorem XT (enc:α→List Value) (size:Nat) (he:∀ x,(enc x).length=size) (xs:List α):(xs.flatMap enc).length=xs.length*size:=by
 induction xs with
 | nil=>simp
 | cons x r ih=>simp [List.flatMap_cons,he,ih,Nat.add_mul,Nat.add_comm]
theorem Zc7 (enc:α→List Value) (size:Nat) (he:∀ x,(enc x).length=size) (xs:List α) (i:Nat):(xs.flatMap enc).drop (i*size)=(xs.drop i).flatMap enc:=by
 induction xs generalizing i with
 | nil=>simp
 | cons x r ih =>
  cases i with
  | zero=>simp
  | succ i =>
   rw [List.flatMap_cons,List.drop_append,he,show (i+1)*size - size=i*size by rw [Nat.add_mul];omega,ih];rw [List.drop_of_length_le (by rw [he,Nat.add_mul];omega)]
   simp
theorem Zko (enc:α→List Value) (size:Nat) (he:∀ x,(enc x).length=size) (xs:List α) (i:Nat):(xs.flatMap enc).take (i*size)=(xs.take i).flatMap enc:=by
 induction xs generalizing i with
 | nil=>simp
 | cons x r ih =>
  cases i with
  | zero=>simp
  | succ i =>
   rw [List.flatMap_cons,List.take_append,he,show (i+1)*size - size=i*size by rw [Nat.add_mul];omega,ih];rw [List.take_of_length_le (by rw [he,Nat.add_mul];omega)]
   simp
theorem Zlv (enc:α→List Value) (size:Nat) (he:∀ x,(enc x).length=size) (xs:List α) (i:Nat) (h:i<xs.length) (j:Nat) (v:Value) (hv:(enc xs[i])[j]? = some v):(xs.flatMap enc)[i*size+j]? = some v:=by
 rw [← List.getElem?_drop,Zc7 enc size he,List.drop_eq_getElem_cons h,List.flatMap_cons,List.getElem?_append_left (List.getElem?_eq_some_iff.1 hv).1,hv]
theorem Zf7 (enc:α→List Value) (xs:List α) (k:Nat) (h:k<xs.length):(xs.take (k+1)).flatMap enc=(xs.take k).flatMap enc++enc xs[k]:=by
 rw [List.take_succ_eq_append_getElem h,List.flatMap_append];simp
end
structure Rd {α:Type} (enc:α→List Value) (size:Nat) (w:World) (ao:Option Addr) (len:Nat) (xs:List α):Prop where
  len:xs.length=len
  at_:∀ i (_:i<xs.length),∃ b off x,xs[i]? = some x∧ao=some ⟨b,off,none⟩∧b<w.heap.size∧w.rangeAt b (off+i*size) (enc x)
theorem Zq {B:Nat} {w w':World} {b o:Nat} {cs:List Value} (h:w.rangeAt b o cs) (hb:Below B w w') (hB:b<B):w'.rangeAt b o cs :=
 fun j v hv=>(hb.cell (p:=⟨b,o+j,none⟩) hB).trans (h j v hv)
theorem Rd.below {α:Type} {enc:α→List Value} {size:Nat} {w w':World} {ao:Option Addr} {len:Nat} {xs:List α} (h:Rd enc size w ao len xs) (hb:Below w.heap.size w w'):Rd enc size w' ao len xs :=
 ⟨h.len,fun i hi=>by
  obtain ⟨b,off,x,hx,e,hlt,hr⟩:=h.at_ i hi;exact ⟨b,off,x,hx,e,Nat.lt_of_lt_of_le hlt hb.size,Zq hr hb hlt⟩⟩
theorem Yq {w:World} {B:Nat} {e:TypeId} {size:Nat} {v:Value} {n:Nat} {xs:List Value} (h:w.ownsRow B e size v n xs):∃ ao cap,v=.slice ao n cap∧n≤cap∧cap≤maxLen∧(0<n→∃ g,ao=some ⟨g,0,none⟩∧B≤g∧g<w.heap.size):=by
 rcases h.2 with ⟨rfl,rfl⟩|⟨g,cap,cur,rfl,hB,hg,hn,hc,_⟩
 ·exact ⟨none,0,rfl,Nat.le_refl _,Nat.zero_le _,fun h=>absurd h (Nat.lt_irrefl _)⟩
 ·exact ⟨_,cap,rfl,hn,hc,fun _=>⟨g,rfl,hB,(Array.getElem?_eq_some_iff.1 hg).1⟩⟩
theorem Znw {α:Type} {enc:α→List Value} {size:Nat} (he:∀ x,(enc x).length=size) {w:World} {B:Nat} {e:TypeId} {ao:Option Addr} {n cap:Nat} {xs:List α} (h:w.ownsRow B e size (.slice ao n cap) xs.length (xs.flatMap enc)) :
  n=xs.length∧Rd enc size w ao n xs:=by
 rcases h.2 with ⟨hv,hn⟩|⟨g,cap',cur,hv,hB,hg,hn,hc,hs,ht⟩
 ·simp only [Value.slice.injEq] at hv
  obtain ⟨rfl,rfl,rfl⟩:=hv;exact ⟨hn.symm,hn,fun i hi=>by omega⟩
 ·simp only [Value.slice.injEq] at hv
  obtain ⟨rfl,rfl,rfl⟩:=hv;refine ⟨rfl,rfl,fun i hi=>⟨g,0,xs[i],List.getElem?_eq_getElem hi,rfl,(Array.getElem?_eq_some_iff.1 hg).1,fun j u hu=>?_⟩⟩;have:=Zlv enc size he xs i hi j u hu;rw [← ht,List.getElem?_take] at this;rw [Nat.zero_add,cell_of_row w g _ cur e (0,0) hg]
  split at this
  ·simpa using this
  ·cases this
theorem X8 {w w':World} {B C:Nat} {e:TypeId} {size:Nat} {v:Value} {n:Nat} {xs:List Value} (h:w.ownsRow B e size v n xs) (hb:Below C w w') (hC:w.heap.size≤C):w'.ownsRow B e size v n xs:=by
 refine ⟨h.1,?_⟩;rcases h.2 with hn|⟨g,cap,cur,rfl,hB,hg,rest⟩
 ·exact .inl hn
 ·have:=(Array.getElem?_eq_some_iff.1 hg).1
  exact .inr ⟨g,cap,cur,rfl,hB,(hb.block g (by omega)).trans hg,rest⟩
theorem ZgS {w:World} {B:Nat} {e:TypeId} {size:Nat} {v:Value} {n:Nat} {xs:List Value} (h:w.ownsRow B e size v n xs) {p:Addr} (hp:p.block<B) (u:Value):(w.setCell p u).ownsRow B e size v n xs:=ownsRow_setCell_below h hp u
theorem Zkp {w:World} {B B':Nat} {e:TypeId} {size:Nat} {v:Value} {n:Nat} {xs:List Value} (h:w.ownsRow B e size v n xs) (hB:B'≤B):w.ownsRow B' e size v n xs:=by
 refine ⟨h.1,?_⟩;rcases h.2 with hn|⟨g,cap,cur,rfl,hBg,rest⟩
 ·exact .inl hn
 ·exact .inr ⟨g,cap,cur,rfl,Nat.le_trans hB hBg,rest⟩
def YK (xs:List Value) (o:Nat) (vs:List Value):List Value:=xs.take o++vs++xs.drop (o+vs.length)
theorem Qy (xs:List Value) (o:Nat) (v:Value) (vs:List Value) (h:o+(vs.length+1)≤xs.length):YK (xs.set o v) (o+1) vs=YK xs o (v::vs):=by
 unfold YK;have e1:(xs.set o v).take (o+1)=xs.take o++[v]:=by
  rw [List.take_succ_eq_append_getElem (by simp;omega)];simp [List.take_set];exact List.set_eq_of_length_le (by rw [List.length_take];omega)
 have e2:(xs.set o v).drop (o+1+vs.length)=xs.drop (o+(vs.length+1)):=by
  rw [List.drop_set_of_lt (by omega)]
  congr 1;omega
 rw [e1,e2]
 simp
theorem Vo {B:Nat} {e:TypeId} {size:Nat} {g n cap:Nat}:∀ (vs:List Value) (o:Nat) (w:World) (xs:List Value),w.ownsRow B e size (.slice (some ⟨g,0,none⟩) n cap) n xs→o+vs.length≤xs.length →
  (w.setCells g o vs).ownsRow B e size (.slice (some ⟨g,0,none⟩) n cap) n (YK xs o vs)∧w.grownBy (w.setCells g o vs) (some g)
 | [],o,w,xs,h,_=>by
  refine ⟨?_,⟨rfl,rfl,rfl,Nat.le_refl _,fun _ _ _=>rfl⟩⟩;have:YK xs o []=xs:=by unfold YK;simp
  rw [this];exact h
 | v::vs,o,w,xs,h,hl=>by
  simp only [List.length_cons] at hl;obtain ⟨h1,h2⟩:=h.stored o v;obtain ⟨h3,h4⟩:=Vo vs (o+1) _ (xs.set o v) h1 (by simp;omega);rw [Qy xs o v vs hl] at h3;exact ⟨h3,⟨h4.os.trans h2.os,h4.tape.trans h2.tape,h4.output.trans h2.output,Nat.le_trans h2.size h4.size,fun k hk hne=>(h4.block k (Nat.lt_of_lt_of_le hk h2.size) hne).trans (h2.block k hk hne)⟩⟩
theorem JU {w:World} {B:Nat} {e:TypeId} {size:Nat} {g n cap:Nat} {xs:List Value} (h:w.ownsRow B e size (.slice (some ⟨g,0,none⟩) n cap) n xs) (o m:Nat) (hm:o+m≤xs.length):w.there g o m:=fun j hj =>
 ⟨by rw [h.cellAt (o+j) (by rw [← h.1];omega),List.getElem?_eq_getElem (by omega)];rfl,h.frozenAt _⟩
def JV {α:Type} (enc:α→List Value) (size:Nat) (B:Nat) (e:TypeId) (w:World) (g n:Nat) (xs:List α) (k:Nat):Prop :=
 ∃ rest:List Value,rest.length=(n - k)*size∧w.ownsRow B e size (.slice (some ⟨g,0,none⟩) n n) n ((xs.take k).flatMap enc++rest)
theorem JV.start {α:Type} {enc:α→List Value} {size B:Nat} {e:TypeId} {w:World} {g n:Nat} {xs:List α} {cs:List Value} (h:w.ownsRow B e size (.slice (some ⟨g,0,none⟩) n n) n cs):JV enc size B e w g n xs 0 :=
 ⟨cs,by rw [h.1];simp,by simpa using h⟩
theorem JV.there {α:Type} {enc:α→List Value} {size B:Nat} {e:TypeId} {w:World} {g n k:Nat} {xs:List α} (he:∀ x,(enc x).length=size) (h:JV enc size B e w g n xs k) (hn:xs.length=n) (hk:k<n):w.there g (k*size) size:=by
 obtain ⟨rest,hr,ho⟩:=h;refine JU ho _ _ ?_;have:(n - k)*size=size+(n - k - 1)*size:=by rw [show n - k=(n - k - 1)+1 by omega,Nat.add_mul];simp;omega
 rw [List.length_append,XT enc size he,List.length_take,Nat.min_eq_left (by omega),hr];omega
theorem JV.step {α:Type} {enc:α→List Value} {size B:Nat} {e:TypeId} {w:World} {g n k:Nat} {xs:List α} (he:∀ x,(enc x).length=size) (h:JV enc size B e w g n xs k) (hn:xs.length=n) {x:α} (hx:xs[k]? = some x) :
  JV enc size B e (w.setCells g (k*size) (enc x)) g n xs (k+1)∧w.grownBy (w.setCells g (k*size) (enc x)) (some g):=by
 obtain ⟨hk,rfl⟩:=List.getElem?_eq_some_iff.1 hx;obtain ⟨rest,hr,ho⟩:=h;have hl:((xs.take k).flatMap enc).length=k*size:=by rw [XT enc size he,List.length_take,Nat.min_eq_left (by omega)]
 have hd:(n - k)*size=size+(n - k - 1)*size:=by rw [show n - k=(n - k - 1)+1 by omega,Nat.add_mul];simp;omega
 obtain ⟨h1,h2⟩:=Vo (enc xs[k]) (k*size) w _ ho (by rw [he,List.length_append,hl,hr];omega);refine ⟨⟨rest.drop size,by rw [List.length_drop,hr];rw [show n - (k+1)=n - k - 1 by omega];omega,?_⟩,h2⟩;have:YK ((xs.take k).flatMap enc++rest) (k*size) (enc xs[k])=(xs.take (k+1)).flatMap enc++rest.drop size:=by
  unfold YK;rw [Zf7 enc xs k hk,List.take_append,hl,List.take_of_length_le (by omega),Nat.sub_self,List.take_zero,List.append_nil,he,List.drop_append,hl];rw [List.drop_of_length_le (by omega),show k*size+size - k*size=size by omega]
  simp
 rw [this] at h1;exact h1
theorem JV.done {α:Type} {enc:α→List Value} {size B:Nat} {e:TypeId} {w:World} {g n:Nat} {xs:List α} (h:JV enc size B e w g n xs n) (hn:xs.length=n):w.ownsRow B e size (.slice (some ⟨g,0,none⟩) n n) xs.length (xs.flatMap enc):=by
 obtain ⟨rest,hr,ho⟩:=h;rw [Nat.sub_self,Nat.zero_mul] at hr;rw [List.length_eq_zero_iff.1 hr,List.append_nil,List.take_of_length_le (by omega)] at ho;rw [hn];exact ho
theorem JV.below {α:Type} {enc:α→List Value} {size B C:Nat} {e:TypeId} {w w':World} {g n k:Nat} {xs:List α} (h:JV enc size B e w g n xs k) (hb:Below C w w') (hC:w.heap.size≤C):JV enc size B e w' g n xs k:=by
 obtain ⟨rest,hr,ho⟩:=h;exact ⟨rest,hr,X8 ho hb hC⟩
def Q6 {α:Type} (enc:α→List Value) (size:Nat) (B:Nat) (e:TypeId) (w:World) (g n cap:Nat) (xs:List α) (k:Nat):Prop :=
 ∃ rest:List Value,rest.length=(n - k)*size∧w.ownsRow B e size (.slice (some ⟨g,0,none⟩) n cap) n ((xs.take k).flatMap enc++rest)
theorem Q6.start {α:Type} {enc:α→List Value} {size B:Nat} {e:TypeId} {w:World} {g n cap:Nat} {xs:List α} {cs:List Value} (h:w.ownsRow B e size (.slice (some ⟨g,0,none⟩) n cap) n cs):Q6 enc size B e w g n cap xs 0 :=
 ⟨cs,by rw [h.1];simp,by simpa using h⟩
theorem Q6.done {α:Type} {enc:α→List Value} {size B:Nat} {e:TypeId} {w:World} {g n cap:Nat} {xs:List α} (h:Q6 enc size B e w g n cap xs n) (hn:xs.length=n):w.ownsRow B e size (.slice (some ⟨g,0,none⟩) n cap) xs.length (xs.flatMap enc):=by
 obtain ⟨rest,hr,ho⟩:=h;rw [Nat.sub_self,Nat.zero_mul] at hr;rw [List.length_eq_zero_iff.1 hr,List.append_nil,List.take_of_length_le (by omega)] at ho;rw [hn];exact ho
def Qz (l:Int) (n:Nat):Int:=if l<n then -1 else l - n
theorem YR {l:Int} {n:Nat} (h:l<n):Qz l n=-1:=if_pos h
theorem Xs {l:Int} {n:Nat} (h:(n:Int)≤l):Qz l n=l - n:=if_neg (by omega)
def tot {α:Type} (f:α→Nat):List α→Nat
 | []=>0
 | x::r=>f x+tot f r
theorem Zeq {α:Type} (f:α→Nat) (a b:List α):tot f (a++b)=tot f a+tot f b:=by
 induction a with
 | nil=>simp [tot]
 | cons x r ih=>simp [tot,ih,Nat.add_assoc]
theorem Zlw {α:Type} (f:α→Nat) (a:List α) (k:Nat) {x:α} (hx:a[k]? = some x):tot f (a.take (k+1))=tot f (a.take k)+f x:=by
 obtain ⟨h,rfl⟩:=List.getElem?_eq_some_iff.1 hx;rw [List.take_succ_eq_append_getElem h,Zeq];simp [tot]
theorem Zhy {α:Type} (f:α→Nat) (a:List α) (k:Nat):tot f (a.take k)≤tot f a:=by
 have h:=Zeq f (a.take k) (a.drop k);rw [List.take_append_drop] at h;omega
def Zu (n:Int):List Value:=[.int .i64 n]
theorem encI_len (n:Int):(Zu n).length=1:=rfl
def Zt (s:ByteArray):List Value:=[.string s]
theorem encS_len (s:ByteArray):(Zt s).length=1:=rfl
theorem ZU (B:Nat) (w:World) (n:Nat):Below B w (w.drewN n):=⟨rfl,rfl,rfl,Nat.le_refl _,fun _ _=>rfl⟩
theorem Zc {w:World} {b:Nat} {cs:Array Value} {t:TypeId} {fr:Nat × Nat} (h:w.heap[b]? = some (.cells cs t fr)) (i:Nat):w.cell? ⟨b,i,none⟩=cs[i]?:=by simp [World.cell?,h]
theorem ZE {w:World} {b:Nat} {cs:Array Value} {t:TypeId} (h:w.heap[b]? = some (.cells cs t (0,0))) (i:Nat):w.frozen? ⟨b,i,none⟩=false:=by simp [World.frozen?,h]
theorem ZY (w:World) (o:Obj) (n:Nat) (hn:n=w.heap.size):(w.alloc o).heap[n]? = some o:=by subst hn;exact heap_alloc_new w o
theorem Xp {w:World} {b:Nat} {x:Obj} (h:w.heap[b]? = some x) (o:Obj):(w.alloc o).heap[b]? = some x:=by
 rw [Below.heap_alloc w o b (Array.getElem?_eq_some_iff.1 h).1];exact h
theorem Ut {w:World} {b i:Nat} {cs:Array Value} {t:TypeId} (h:w.heap[b]? = some (.cells cs t (0,0))) (v:Value):(w.setCell ⟨b,i,none⟩ v).heap[b]? = some (.cells (cs.setIfInBounds i v) t (0,0)):=by
 rw [setCell_eq_setRow w b i cs t (0,0) v h];exact setRow_heap w b _ _ t _ h
theorem ZK {w:World} {b:Nat} {x:Obj} (h:w.heap[b]? = some x) {p:Addr} (hp:b≠p.block) (v:Value):(w.setCell p v).heap[b]? = some x:=(Below.heap_setCell w p v b hp).trans h
theorem Xt {w:World} {b:Nat} {x:Obj} (h:w.heap[b]? = some x):b<w.heap.size:=(Array.getElem?_eq_some_iff.1 h).1
theorem Ze {w w':World} {C b:Nat} {x:Obj} (h:w.heap[b]? = some x) (hb:Below C w w') (hC:w.heap.size≤C):w'.heap[b]? = some x:=(hb.block b (Nat.lt_of_lt_of_le (Xt h) hC)).trans h
theorem Zf8 {w w':World} {b:Nat} {x:Obj} {row:Option Nat} (h:w.heap[b]? = some x) (hg:w.grownBy w' row) (hr:some b≠row):w'.heap[b]? = some x:=(hg.block b (Xt h) hr).trans h
def RdS {α:Type} (enc:α→List Value) (size:Nat) (w:World) (v:Value) (xs:List α):Prop:=∃ ao cap,v=.slice ao xs.length cap∧Rd enc size w ao xs.length xs
def Value.rowBlock:Value→Option Nat
 | .slice (some a) _ cap=>if cap=0 then none else some a.block
 | _=>none
theorem X9 {v:Value} {g:Nat} (h:Value.rowBlock v=some g):v.ownBlock=some g:=by
 unfold Value.rowBlock at h
 split at h
 ·split at h
  ·cases h
  ·exact h
 ·cases h
theorem Qa {ao:Option Addr} {n cap:Nat} (h:cap≠0):Value.rowBlock (.slice ao n cap)=(Value.slice ao n cap).ownBlock:=by
 cases ao with
 | none=>rfl
 | some a=>simp [Value.rowBlock,Value.ownBlock,h]
theorem Q7 (ao:Option Addr) (n:Nat):Value.rowBlock (.slice ao n 0)=none:=by
 cases ao <;> simp [Value.rowBlock]
def RowO {α:Type} (enc:α→List Value) (size:Nat) (e:TypeId) (w:World) (B B1:Nat) (v:Value) (xs:List α):Prop :=
 ∃ ao cap,v=.slice ao xs.length cap∧((cap=0∧xs=[])∨w.ownsRow B e size v xs.length (xs.flatMap enc))∧∀ g,Value.rowBlock v=some g→g<B1
theorem RowO.mk {α:Type} {enc:α→List Value} {size:Nat} {e:TypeId} {w:World} {B B1:Nat} {v:Value} {xs:List α} (ho:w.ownsRow B e size v xs.length (xs.flatMap enc)) (hg:∀ g,v.ownBlock=some g→g<B1):RowO enc size e w B B1 v xs:=by
 obtain ⟨ao,cap,rfl,_⟩:=Yq ho;exact ⟨ao,cap,rfl,.inr ho,fun g h=>hg g (X9 h)⟩
theorem RowO.empty {α:Type} (enc:α→List Value) (size:Nat) (e:TypeId) (w:World) (B B1:Nat) (ao:Option Addr):RowO enc size e w B B1 (.slice ao 0 0) ([]:List α) :=
 ⟨ao,0,rfl,.inl ⟨rfl,rfl⟩,fun g h=>by rw [Q7] at h;cases h⟩
theorem RowO.rd {α:Type} {enc:α→List Value} {size:Nat} (he:∀ x,(enc x).length=size) {e:TypeId} {w:World} {B B1:Nat} {v:Value} {xs:List α} (h:RowO enc size e w B B1 v xs):RdS enc size w v xs:=by
 obtain ⟨ao,cap,rfl,ho|ho,_⟩:=h
 ·obtain ⟨rfl,rfl⟩:=ho
  exact ⟨ao,0,rfl,⟨rfl,fun i hi=>absurd hi (Nat.not_lt_zero _)⟩⟩
 ·exact ⟨ao,cap,rfl,(Znw he ho).2⟩
theorem RowO.by {α:Type} {enc:α→List Value} {size:Nat} {e:TypeId} {w w':World} {B B1:Nat} {v:Value} {xs:List α} (h:RowO enc size e w B B1 v xs)
  (hk:(Value.rowBlock v=v.ownBlock)→w.ownsRow B e size v xs.length (xs.flatMap enc)→w'.ownsRow B e size v xs.length (xs.flatMap enc)):RowO enc size e w' B B1 v xs:=by
 obtain ⟨ao,cap,rfl,ho|ho,hg⟩:=h
 ·exact ⟨ao,cap,rfl,.inl ho,hg⟩
 ·by_cases h0:cap=0
  ·obtain ⟨ao',cap',hv,hle,_⟩:=Yq ho
   simp only [Value.slice.injEq,true_and] at hv;obtain ⟨rfl,rfl⟩:=hv;refine ⟨ao,cap,rfl,.inl ⟨h0,List.length_eq_zero_iff.1 (by omega)⟩,hg⟩
  ·exact ⟨ao,cap,rfl,.inr (hk (Qa h0) ho),hg⟩
theorem RowO.below {α:Type} {enc:α→List Value} {size:Nat} {e:TypeId} {w w':World} {B B1 C:Nat} {v:Value} {xs:List α} (h:RowO enc size e w B B1 v xs) (hb:Below C w w') (hC:w.heap.size≤C):RowO enc size e w' B B1 v xs :=
 h.by fun _ ho=>X8 ho hb hC
theorem RowO.mono {α:Type} {enc:α→List Value} {size:Nat} {e:TypeId} {w:World} {B B1 B' B1':Nat} {v:Value} {xs:List α} (h:RowO enc size e w B B1 v xs) (hB:B'≤B) (hB1:B1≤B1'):RowO enc size e w B' B1' v xs:=by
 obtain ⟨ao,cap,rfl,ho,hg⟩:=h;exact ⟨ao,cap,rfl,ho.imp id fun ho=>Zkp ho hB,fun g h=>Nat.lt_of_lt_of_le (hg g h) hB1⟩
theorem RowO.set {α:Type} {enc:α→List Value} {size:Nat} {e:TypeId} {w:World} {B B1:Nat} {v:Value} {xs:List α} (h:RowO enc size e w B B1 v xs) {p:Addr} (hp:p.block<B) (u:Value):RowO enc size e (w.setCell p u) B B1 v xs :=
 h.by fun _ ho=>ZgS ho hp u
theorem RowO.grown {α:Type} {enc:α→List Value} {size:Nat} {e:TypeId} {w w':World} {B B1:Nat} {v:Value} {xs:List α} {row:Option Nat} (h:RowO enc size e w B B1 v xs) (hg:w.grownBy w' row) (hne:Value.rowBlock v=none∨Value.rowBlock v≠row):RowO enc size e w' B B1 v xs:=by
 exact h.by fun hq ho=>ho.kept hg (by rw [← hq];exact hne)
theorem RowO.lt {α:Type} {enc:α→List Value} {size:Nat} {e:TypeId} {w:World} {B B1:Nat} {v:Value} {xs:List α} (h:RowO enc size e w B B1 v xs):∀ g,Value.rowBlock v=some g→B≤g∧g<B1∧g<w.heap.size:=by
 obtain ⟨ao,cap,rfl,ho|ho,hb⟩:=h
 ·obtain ⟨rfl,_⟩:=ho
  intro g hg;rw [Q7] at hg;cases hg
 ·exact fun g hg=>⟨(ho.lt g (X9 hg)).1,hb g hg,(ho.lt g (X9 hg)).2⟩
def YD (a b:Value):Prop:=Value.rowBlock a=none∨Value.rowBlock a≠Value.rowBlock b
theorem YD.of_lt {a b:Value} {m:Nat} (ha:∀ g,Value.rowBlock a=some g→g<m) (hb:∀ g,Value.rowBlock b=some g→m≤g):YD a b:=by
 unfold YD
 cases h:Value.rowBlock a with
 | none=>exact .inl rfl
 | some g =>
  right
  intro e;have h1:=ha g h;have h2:=hb g e.symm
  omega
theorem YD.symm {a b:Value} (h:YD a b):YD b a:=by
 unfold YD at h ⊢;rcases h with h|h
 ·cases hb:Value.rowBlock b with
  | none=>exact .inl rfl
  | some g=>right;rw [h];simp
 ·exact .inr (fun e=>h e.symm)
theorem Q6.next {α:Type} {enc:α→List Value} {size B:Nat} {e:TypeId} {w':World} {g n cap k:Nat} {xs:List α} {cs:List Value} (he:∀ x,(enc x).length=size) (hn:xs.length=n) {x:α} (hx:xs[k]? = some x)
  (hc:∃ rest:List Value,rest.length=(n - k)*size∧cs=(xs.take k).flatMap enc++rest) (ho:w'.ownsRow B e size (.slice (some ⟨g,0,none⟩) n cap) n (YK cs (k*size) (enc x))):Q6 enc size B e w' g n cap xs (k+1):=by
 obtain ⟨hk,rfl⟩:=List.getElem?_eq_some_iff.1 hx;obtain ⟨rest,hr,rfl⟩:=hc;have hl:((xs.take k).flatMap enc).length=k*size:=by rw [XT enc size he,List.length_take,Nat.min_eq_left (by omega)]
 have hd:(n - k)*size=size+(n - k - 1)*size:=by rw [show n - k=(n - k - 1)+1 by omega,Nat.add_mul];simp;omega
 refine ⟨rest.drop size,by rw [List.length_drop,hr];rw [show n - (k+1)=n - k - 1 by omega];omega,?_⟩;have:YK ((xs.take k).flatMap enc++rest) (k*size) (enc xs[k])=(xs.take (k+1)).flatMap enc++rest.drop size:=by
  unfold YK;rw [Zf7 enc xs k hk,List.take_append,hl,List.take_of_length_le (by omega),Nat.sub_self,List.take_zero,List.append_nil,he,List.drop_append,hl];rw [List.drop_of_length_le (by omega),show k*size+size - k*size=size by omega]
  simp
 rw [this] at ho;exact ho
def Z9 {α:Type} (mk:Int→α) (c:Int) (k:Int) (n:Nat):List α:=(List.range n).map fun (i:Nat)=>mk (k+(i:Int)*c)
theorem ZB {α:Type} (mk:Int→α) (c:Int) (k:Int) (n:Nat):(Z9 mk c k n).length=n:=by simp [Z9]
theorem UA {α:Type} (mk:Int→α) (c:Int) (k:Int) (n i:Nat) (h:i<n):(Z9 mk c k n)[i]? = some (mk (k+(i:Int)*c)):=by simp [Z9,h]
theorem X3 {w a b:World} {row:Option Nat} (h1:w.grownBy a row) (h2:a.grownBy b row):w.grownBy b row :=
 ⟨h2.os.trans h1.os,h2.tape.trans h1.tape,h2.output.trans h1.output,Nat.le_trans h1.size h2.size,fun k hk hne=>(h2.block k (Nat.lt_of_lt_of_le hk h1.size) hne).trans (h1.block k hk hne)⟩
theorem Zhz {w w':World} {C:Nat} (h:Below C w w') (hC:w.heap.size≤C) (row:Option Nat):w.grownBy w' row:=⟨h.os,h.tape,h.output,h.size,fun k hk _=>h.block k (by omega)⟩
theorem JW (w:World) (row:Option Nat):w.grownBy w row:=⟨rfl,rfl,rfl,Nat.le_refl _,fun _ _ _=>rfl⟩
theorem ZbK (xs:List Value) (o:Nat) (v:Value) (h:o<xs.length):YK xs o [v]=xs.set o v:=by
 rw [← Qy xs o v [] (by simp;omega)];unfold YK
 simp
structure YA (B B1:Nat) (w w':World):Prop where
  os:w'.os=w.os
  tape:w'.tape=w.tape
  output:w'.output=w.output
  size:w.heap.size≤w'.heap.size
  block:∀ k,k<w.heap.size→(k<B∨B1≤k)→w'.heap[k]? = w.heap[k]?
theorem YA.refl (B B1:Nat) (w:World):YA B B1 w w:=⟨rfl,rfl,rfl,Nat.le_refl _,fun _ _ _=>rfl⟩
theorem YA.trans {B B1:Nat} {a b c:World} (h:YA B B1 a b) (k:YA B B1 b c):YA B B1 a c :=
 ⟨k.os.trans h.os,k.tape.trans h.tape,k.output.trans h.output,Nat.le_trans h.size k.size,fun i hi ho=>(k.block i (Nat.lt_of_lt_of_le hi h.size) ho).trans (h.block i hi ho)⟩
theorem YA.grown {B B1:Nat} {w w':World} {v:Value} (hg:w.grownBy w' (Value.rowBlock v)) (hv:∀ g,Value.rowBlock v=some g→B≤g∧g<B1):YA B B1 w w' :=
 ⟨hg.os,hg.tape,hg.output,hg.size,fun k hk ho=>hg.block k hk (fun e=>by have:=hv k e.symm;omega)⟩
theorem YA.of_below {B B1 C:Nat} {w w':World} (h:Below C w w') (hC:w.heap.size≤C):YA B B1 w w':=⟨h.os,h.tape,h.output,h.size,fun k hk _=>h.block k (by omega)⟩
theorem RowO.outside {α:Type} {enc:α→List Value} {size:Nat} {e:TypeId} {w w':World} {B B1 C C1:Nat} {v:Value} {xs:List α} (h:RowO enc size e w B B1 v xs) (ho:YA C C1 w w') (hap:B1≤C∨C1≤B):RowO enc size e w' B B1 v xs:=by
 have hlt:=h.lt;refine h.by fun hq ⟨hl,hh⟩=>⟨hl,?_⟩
 rcases hh with hn|⟨g,cap',cur,hv,hB,hgg,rest⟩
 ·exact .inl hn
 ·have h1:=hlt g (by rw [hq,hv];rfl)
  exact .inr ⟨g,cap',cur,hv,hB,(ho.block g (Xt hgg) (by omega)).trans hgg,rest⟩
theorem XJ (w:World) (o:Obj):(w.alloc o).heap.size=w.heap.size+1:=by simp
theorem Jz (w:World) (a:Addr) (u:Value):(w.setCell a u).heap.size=w.heap.size:=by simp [World.setCell]
structure Z1 (vs:List Value) (w w':World):Prop where
  os:w'.os=w.os
  tape:w'.tape=w.tape
  output:w'.output=w.output
  size:w.heap.size≤w'.heap.size
  block:∀ k,k<w.heap.size→(∀ v ∈ vs,Value.rowBlock v≠some k)→w'.heap[k]? = w.heap[k]?
theorem Z1.trans {vs:List Value} {a b c:World} (h:Z1 vs a b) (k:Z1 vs b c):Z1 vs a c :=
 ⟨k.os.trans h.os,k.tape.trans h.tape,k.output.trans h.output,Nat.le_trans h.size k.size,fun i hi ho=>(k.block i (Nat.lt_of_lt_of_le hi h.size) ho).trans (h.block i hi ho)⟩
theorem Z1.mono {vs us:List Value} {w w':World} (h:Z1 vs w w') (hs:∀ v ∈ vs,v ∈ us):Z1 us w w' :=
 ⟨h.os,h.tape,h.output,h.size,fun k hk ho=>h.block k hk (fun v hv=>ho v (hs v hv))⟩
theorem Z1.one {w w':World} {v:Value} (hg:w.grownBy w' (Value.rowBlock v)):Z1 [v] w w' :=
 ⟨hg.os,hg.tape,hg.output,hg.size,fun k hk ho=>hg.block k hk (fun e=>ho v (by simp) e.symm)⟩
theorem Z1.of_below {vs:List Value} {C:Nat} {w w':World} (h:Below C w w') (hC:w.heap.size≤C):Z1 vs w w':=⟨h.os,h.tape,h.output,h.size,fun k hk _=>h.block k (by omega)⟩
theorem Z1.alloc (vs:List Value) (w:World) (o:Obj):Z1 vs w (w.alloc o):=Z1.of_below (C:=w.heap.size) ((Below.refl _ _).alloc (Nat.le_refl _) o) (Nat.le_refl _)
theorem Z1.outside {vs:List Value} {B B1:Nat} {w w':World} (h:Z1 vs w w') (hv:∀ v ∈ vs,∀ g,Value.rowBlock v=some g→B≤g∧g<B1):YA B B1 w w' :=
 ⟨h.os,h.tape,h.output,h.size,fun k hk ho=>h.block k hk (fun v hvs e=>by have:=hv v hvs k e;omega)⟩
theorem Za8 {vs:List Value} {w w':World} {b:Nat} {x:Obj} (h:w.heap[b]? = some x) (hg:Z1 vs w w') (hv:∀ v ∈ vs,Value.rowBlock v≠some b):w'.heap[b]? = some x:=(hg.block b (Xt h) hv).trans h
theorem RowO.all {α:Type} {enc:α→List Value} {size:Nat} {e:TypeId} {w w':World} {B B1:Nat} {v:Value} {xs:List α} {vs:List Value} (h:RowO enc size e w B B1 v xs) (ho:Z1 vs w w') (hap:∀ u ∈ vs,YD v u):RowO enc size e w' B B1 v xs:=by
 refine h.by fun hq ⟨hl,hh⟩=>⟨hl,?_⟩
 rcases hh with hn|⟨g,cap',cur,hv,hB,hgg,rest⟩
 ·exact .inl hn
 ·have h1:Value.rowBlock v=some g:=by rw [hq,hv];rfl
  refine .inr ⟨g,cap',cur,hv,hB,(ho.block g (Xt hgg) (fun u hu e=>?_)).trans hgg,rest⟩;rcases hap u hu with h2|h2
  ·rw [h1] at h2;cases h2
  ·exact h2 (by rw [h1,e])
theorem Zlx {p:Value→Prop} {a:Value} (ha:p a):∀ v ∈ [a],p v:=by simp [ha]
theorem Znx {p:Value→Prop} {a b:Value} (ha:p a) (hb:p b):∀ v ∈ [a,b],p v:=by simp [ha,hb]
theorem Zpx {p:Value→Prop} {a b c d e:Value} (ha:p a) (hb:p b) (hc:p c) (hd:p d) (he:p e):∀ v ∈ [a,b,c,d,e],p v:=by simp [ha,hb,hc,hd,he]
theorem Zo3 (a b:Int):(if a<b then b else a)=max a b:=by rw [Int.max_def];split <;> split <;> omega
structure PtrD where
  aA:Int
  ah:Int
  al:Int
  ax:Int
  ak:Int
abbrev pL (p:PtrD):List Value:=[.int .i64 p.aA,.int .i64 p.ah,.int .i64 p.al,.int .i64 p.ax,.int .i64 p.ak]
abbrev pV (p:PtrD):Value:=.agg #[.int .i64 p.aA,.int .i64 p.ah,.int .i64 p.al,.int .i64 p.ax,.int .i64 p.ak]
def PtrD.cells (x:PtrD):List Value:=[.int .i64 x.aA,.int .i64 x.ah,.int .i64 x.al,.int .i64 x.ax,.int .i64 x.ak]
theorem PtrD.cells_len (x:PtrD):x.cells.length=5:=rfl
theorem PtrD.at_ {w:World} {b o:Nat} {x:PtrD} (h:w.rangeAt b o x.cells) :
  w.cell? ⟨b,o,none⟩=some (.int .i64 x.aA)∧w.cell? ⟨b,o+1,none⟩=some (.int .i64 x.ah)∧w.cell? ⟨b,o+2,none⟩=some (.int .i64 x.al)∧w.cell? ⟨b,o+3,none⟩=some (.int .i64 x.ax)∧w.cell? ⟨b,o+4,none⟩=some (.int .i64 x.ak) :=
 ⟨h 0 _ rfl,h 1 _ rfl,h 2 _ rfl,h 3 _ rfl,h 4 _ rfl⟩
theorem Zf9 (x:PtrD) (w:World) :
  Calls prog 26 #[.agg #[.int .i64 x.aA,.int .i64 x.ah,.int .i64 x.al,.int .i64 x.ax,.int .i64 x.ak]] w fun e w'=>e=.returned (.agg #[.int .i64 x.aA,.int .i64 x.ah,.int .i64 x.al,.int .i64 x.ax,.int .i64 x.ak])∧Below w.heap.size w w':=by
 go_enter func26,ntmps26
 go_wp2
 refine bodyPost_ret (v:=.agg #[.int .i64 x.aA,.int .i64 x.ah,.int .i64 x.al,.int .i64 x.ax,.int .i64 x.ak]) (by simp [results,results26,go_sem]) rfl ⟨rfl,?_⟩;exact (((Below.refl _ _).alloc (Nat.le_refl _) _).alloc (by simp) _).alloc (by simp;omega) _
theorem Zga (x:PtrD) (w:World) :
  Calls prog 36 #[.agg #[.int .i64 x.aA,.int .i64 x.ah,.int .i64 x.al,.int .i64 x.ax,.int .i64 x.ak],.agg #[.int .i64 x.aA,.int .i64 x.ah,.int .i64 x.al,.int .i64 x.ax,.int .i64 x.ak]] w fun e w'=>e=.returned (.bool true)∧Below w.heap.size w w':=by
 go_enter func36,ntmps36
 go_wp2
 go_ret
 exact ⟨rfl,((Below.refl _ _).alloc (Nat.le_refl _) _).alloc (by simp) _⟩
theorem Zer (ao:Option Addr) (len cap:Nat) (l:Int) (w:World) (hl0:0≤l) (hl1:l≤1048576) (hlen:len≤9223372036854775807) :
  Calls prog 16 #[.slice ao len cap,.int .i64 l] w fun e w'=>e=.returned (.int .i64 (Qz l len))∧Below w.heap.size w w':=by
 by_cases hln:l<len
 ·have H:=Lib.hid (YR hln)
  go_enter func16,ntmps16
  go_wp2
  go_ret
  exact ⟨Qu H.out.symm,Below.refl _ _⟩
 ·have H:=Lib.hid (Xs (Int.not_lt.1 hln))
  go_enter func16,ntmps16
  go_wp2
  go_ret
  exact ⟨Qu H.out.symm,Below.refl _ _⟩
theorem Tryz.infoPtrS:(Tryz.prog.info? 40).map (fun i=>(i.zero,i.size,i.bytes))=some (some (.agg #[.int .i64 0,.int .i64 0,.int .i64 0,.int .i64 0,.int .i64 0]),5,40):=by kernel_rfl
theorem Zes (ao:Option Addr) (len cap:Nat) (xs:List PtrD) (w:World) (hlen:len≤1048576) (hr:Rd PtrD.cells 5 w ao len xs) :
  Calls prog 25 #[.slice ao len cap] w fun e w'=>e=.returned (.slice (some ⟨w.heap.size,0,none⟩) len len)∧w'.ownsRow w.heap.size 40 5 (.slice (some ⟨w.heap.size,0,none⟩) len len) xs.length (xs.flatMap PtrD.cells)∧Below w.heap.size w w':=by
 obtain ⟨i0,hi,hz0,hz1,hz2⟩:=info_parts Tryz.infoPtrS
 go_enter func25,ntmps25
 go_wp2_with (refine wpList_make_full _ rfl (.tmp 6) (.tmp 6) 37 rfl w.heap.size 40 i0 _ 5 Tryz.underlying37 hi hz0 hz1 .i64 .i64 _ _ len rfl rfl rfl rfl ?b2 ?b3 ?b4 ?_)
 case b2=>rw [hz2];omega
 case b3=>unfold maxLen;omega
 case b4=>exact Nat.le_refl _
 intro w1 hown hg;have hb0:Below w.heap.size w w1:=(Below.refl _ _).grown hg (Nat.le_refl _) (by simp);have hs1:w.heap.size+1≤w1.heap.size:=(hown.lt w.heap.size (by simp [Value.ownBlock])).2;have hfill:=JV.start (xs:=xs) (enc:=PtrD.cells) hown;clear hown
 go_wp2
 go_loopw [4] (fun i wr=>∃ k:Nat,k≤len∧i=.int .i64 k∧JV PtrD.cells 5 w.heap.size 40 wr w.heap.size len xs k∧Below w.heap.size w wr∧w.heap.size+1≤wr.heap.size) (fun i _=>len - (intOf i).toNat)
 case atStart=>exact ⟨0,Nat.zero_le _,rfl,hfill,hb0,hs1⟩
 case round =>
  obtain ⟨k,hk,rfl,hf,hb,hsz⟩:=hrel
  by_cases hlt:k<len
  ·have hkx:k<xs.length:=by rw [hr.len];exact hlt
   obtain ⟨b,off,x,hx0,rfl,hbl,hrg⟩:=hr.at_ k hkx;obtain ⟨c0,c1,c2,c3,c4⟩:=PtrD.at_ (Zq hrg hb hbl);have hx:=Lib.hid hx0;clear hx0
   go_wp2_with fail
   refine (Zf9 x _).mono ?_;rintro e w2 ⟨rfl,hb2⟩;have hf2:=hf.below hb2 (Nat.le_refl _);have ht2:=JV.there PtrD.cells_len hf2 hr.len hlt;obtain ⟨hf3,hg3⟩:=JV.step PtrD.cells_len hf2 hr.len hx.out
   go_wp2_with (refine wpList_store_mid rfl 40 (.tmp 21) (.tmp 20) rfl w.heap.size (k*5) _ rfl rfl ?c0 ?c1 ?c2 ?_)
   case c0=>exact ht2
   case c1=>kernel_rfl
   case c2=>simp [Value.oneCell']
   go_roundw
   case rel=>exact ⟨k+1,by omega,by go_num,hf3,(hb.trans (hb2.mono hb.size)).grown hg3 (by have:=hb2.size;omega) (by intro j hj;cases hj;exact Nat.le_refl _),by have h3:=hg3.size;simp only [PtrD.cells] at h3;have:=hb2.size;omega⟩
   case measure=>simp [intOf];omega
  ·have hk':k=len:=by omega
   subst hk'
   go_wp2
   go_ret
   exact ⟨rfl,JV.done hf hr.len,hb⟩
theorem Zet (ao bo:Option Addr) (len cap cap2:Nat) (xs:List PtrD) (w:World) (hlen:len≤1048576) (hr:Rd PtrD.cells 5 w ao len xs) (hr2:Rd PtrD.cells 5 w bo len xs) :
  Calls prog 35 #[.slice ao len cap,.slice bo len cap2] w fun e w'=>e=.returned (.bool true)∧Below w.heap.size w w':=by
 go_enter func35,ntmps35
 go_wp2
 go_loopw [5] (fun i wr=>∃ k:Nat,k≤len∧i=.int .i64 k∧Below w.heap.size w wr) (fun i _=>len - (intOf i).toNat)
 case atStart=>exact ⟨0,Nat.zero_le _,rfl,Below.refl _ _⟩
 case round =>
  obtain ⟨k,hk,rfl,hb⟩:=hrel
  by_cases hlt:k<len
  ·have hkx:k<xs.length:=by rw [hr.len];exact hlt
   obtain ⟨b,off,x,hx0,rfl,hbl,hrg⟩:=hr.at_ k hkx;obtain ⟨c0,c1,c2,c3,c4⟩:=PtrD.at_ (Zq hrg hb hbl);obtain ⟨b2,off2,x2,hx2,rfl,hbl2,hrg2⟩:=hr2.at_ k hkx;obtain rfl:x=x2:=Option.some.inj (hx0.symm.trans hx2);obtain ⟨d0,d1,d2,d3,d4⟩:=PtrD.at_ (Zq hrg2 hb hbl2);clear hx0 hx2
   go_wp2_with fail
   go_still_tail 8,(by kernel_rfl)
   change wpList _ _ _ _ _ wr.drew
   have hb1:=hb.drew;have hsz:=hb1.size;generalize wr.drew=w1 at hb1 hsz ⊢
   go_wp2_with fail
   refine (Zga x _).mono ?_;rintro e w2 ⟨rfl,hb2⟩
   go_wp2
   go_roundw
   case rel=>exact ⟨k+1,by omega,by go_num,hb1.trans (hb2.mono hsz)⟩
   case measure=>simp [intOf];omega
  ·go_wp2
   go_ret
   exact ⟨rfl,hb⟩
def inB (n lo hi:Int):Bool:=decide (lo≤n) && decide (n≤hi)
theorem Zo {n lo hi:Int} (h:inB n lo hi=true):lo≤n∧n≤hi:=by simpa [inB] using h
theorem JA {n lo hi:Int} (h:lo≤n) (k:n≤hi):inB n lo hi=true:=by simp [inB,h,k]
theorem YY (a b c:Int) (w:World) :
  Calls prog 18 #[.int .i64 a,.int .i64 b,.int .i64 c] w fun e w'=>e=.returned (.bool (inB a b c))∧w=w':=by
 by_cases h1:b≤a
 ·have H:Hid (inB a b c=decide (a≤c)):=by show _=_;simp [inB,h1]
  go_enter func18,ntmps18
  go_wp2
  all_goals (go_ret;exact ⟨Zr H.out.symm,rfl⟩)
 ·have H:Hid (inB a b c=false):=by show _=_;simp [inB,h1]
  go_enter func18,ntmps18
  go_wp2
  all_goals (go_ret;exact ⟨Zr H.out.symm,rfl⟩)
theorem Yd (a b c:Int) (w:World) :
  Calls prog 28 #[.int .i64 a,.int .i64 b,.int .i64 c] w fun e w'=>e=.returned (.bool (inB a b c))∧w=w':=by
 by_cases h1:b≤a
 ·have H:Hid (inB a b c=decide (a≤c)):=by show _=_;simp [inB,h1]
  go_enter func28,ntmps28
  go_wp2
  all_goals (go_ret;exact ⟨Zr H.out.symm,rfl⟩)
 ·have H:Hid (inB a b c=false):=by show _=_;simp [inB,h1]
  go_enter func28,ntmps28
  go_wp2
  all_goals (go_ret;exact ⟨Zr H.out.symm,rfl⟩)
theorem QM (a:Int) (w:World) :
  Calls prog 76 #[.int .i64 a] w fun e w'=>e=.returned (.bool (inB a 8 63))∧w=w':=by
 go_enter func76,ntmps76
 go_wp2_with fail
 refine (YY _ _ _ _).mono ?_;rintro e w' ⟨rfl,rfl⟩
 go_wp2
 go_ret
 exact ⟨rfl,rfl⟩
theorem Zkq (a:Int) (w:World) :
  Calls prog 88 #[.int .i64 a] w fun e w'=>e=.returned (.bool (inB a 8 63))∧w=w':=by
 go_enter func88,ntmps88
 go_wp2_with fail
 refine (Yd _ _ _ _).mono ?_;rintro e w' ⟨rfl,rfl⟩
 go_wp2
 go_ret
 exact ⟨rfl,rfl⟩
def PtrD.hole (p:PtrD):Bool:=p.aA == 0 && p.ah == 0 && p.al == 0 && p.ax == 0 && p.ak == 0
def PtrD.ok (p:PtrD):Bool:=p.hole || inB p.aA 8 63 && inB p.ah 1 900 && inB p.al 1 128 && inB p.ax 0 99460728 && inB p.ak 0 2
theorem ZL (p:PtrD) (w:World) :
  Calls prog 49 #[.agg #[.int .i64 p.aA,.int .i64 p.ah,.int .i64 p.al,.int .i64 p.ax,.int .i64 p.ak]] w fun e w'=>e=.returned (.bool p.hole)∧Below w.heap.size w w':=by
 go_enter func49,ntmps49
 go_wp2
 all_goals
  go_ret
  refine ⟨Zr ?_,(Below.refl _ _).alloc (Nat.le_refl _) _⟩;unfold PtrD.hole;simp [*]
theorem Ye (p:PtrD) (w:World) :
  Calls prog 60 #[.agg #[.int .i64 p.aA,.int .i64 p.ah,.int .i64 p.al,.int .i64 p.ax,.int .i64 p.ak]] w fun e w'=>e=.returned (.bool p.hole)∧Below w.heap.size w w':=by
 go_enter func60,ntmps60
 go_wp2
 all_goals
  go_ret
  refine ⟨Zr ?_,(Below.refl _ _).alloc (Nat.le_refl _) _⟩;unfold PtrD.hole;simp [*]
theorem ZZ (p:PtrD) (w:World) :
  Calls prog 48 #[.agg #[.int .i64 p.aA,.int .i64 p.ah,.int .i64 p.al,.int .i64 p.ax,.int .i64 p.ak]] w fun e w'=>e=.returned (.bool p.ok)∧Below w.heap.size w w':=by
 go_enter func48,ntmps48
 go_wp2_with (first|(go_at_call 49;refine (ZL p _).mono ?_;rintro e w1 ⟨rfl,hb1⟩;obtain ⟨hc1,_⟩:=Zow hb1)|(go_at_call 76;refine (QM _ _).mono ?_;rintro e w' ⟨rfl,rfl⟩)|(go_at_call 18;refine (YY _ _ _ _).mono ?_;rintro e w' ⟨rfl,rfl⟩))
 all_goals
  go_ret
  refine ⟨Zr ?_,((Below.refl _ _).alloc (Nat.le_refl _) _).trans (hb1.mono (by simp))⟩;unfold PtrD.ok;simp [*]
theorem Xm (p:PtrD) (w:World) :
  Calls prog 59 #[.agg #[.int .i64 p.aA,.int .i64 p.ah,.int .i64 p.al,.int .i64 p.ax,.int .i64 p.ak]] w fun e w'=>e=.returned (.bool p.ok)∧Below w.heap.size w w':=by
 go_enter func59,ntmps59
 go_wp2_with (first|(go_at_call 60;refine (Ye p _).mono ?_;rintro e w1 ⟨rfl,hb1⟩;obtain ⟨hc1,_⟩:=Zow hb1)|(go_at_call 88;refine (Zkq _ _).mono ?_;rintro e w' ⟨rfl,rfl⟩)|(go_at_call 28;refine (Yd _ _ _ _).mono ?_;rintro e w' ⟨rfl,rfl⟩))
 all_goals
  go_ret
  refine ⟨Zr ?_,((Below.refl _ _).alloc (Nat.le_refl _) _).trans (hb1.mono (by simp))⟩;unfold PtrD.ok;simp [*]
theorem Zeu (ao:Option Addr) (len cap:Nat) (l:Int) (w:World) (hl0:0≤l) (hl1:l≤1048576) (hlen:len≤9223372036854775807) :
  Calls prog 43 #[.slice ao len cap,.int .i64 l] w fun e w'=>e=.returned (.int .i64 (Qz l len))∧Below w.heap.size w w':=by
 by_cases hln:l<len
 ·have H:=Lib.hid (YR hln)
  go_enter func43,ntmps43
  go_wp2
  go_ret
  exact ⟨Qu H.out.symm,Below.refl _ _⟩
 ·have H:=Lib.hid (Xs (Int.not_lt.1 hln))
  go_enter func43,ntmps43
  go_wp2
  go_ret
  exact ⟨Qu H.out.symm,Below.refl _ _⟩
theorem Tryz.infoIntS:(Tryz.prog.info? 3).map (fun i=>(i.zero,i.size,i.bytes))=some (some (.int .i64 0),1,8):=by kernel_rfl
theorem Zev (ao:Option Addr) (len cap:Nat) (xs:List Int) (w:World) (hlen:len≤1048576) (hr:Rd Zu 1 w ao len xs) :
  Calls prog 55 #[.slice ao len cap] w fun e w'=>e=.returned (.slice (some ⟨w.heap.size,0,none⟩) len len)∧w'.ownsRow w.heap.size 3 1 (.slice (some ⟨w.heap.size,0,none⟩) len len) xs.length (xs.flatMap Zu)∧Below w.heap.size w w':=by
 obtain ⟨i0,hi,hz0,hz1,hz2⟩:=info_parts Tryz.infoIntS
 go_enter func55,ntmps55
 go_wp2_with (refine wpList_make_full _ rfl (.tmp 6) (.tmp 6) 23 rfl w.heap.size 3 i0 _ 1 Tryz.underlying23 hi hz0 hz1 .i64 .i64 _ _ len rfl rfl rfl rfl ?b2 ?b3 ?b4 ?_)
 case b2=>rw [hz2];omega
 case b3=>unfold maxLen;omega
 case b4=>exact Nat.le_refl _
 intro w1 hown hg;have hb0:Below w.heap.size w w1:=(Below.refl _ _).grown hg (Nat.le_refl _) (by simp);have hs1:w.heap.size+1≤w1.heap.size:=(hown.lt w.heap.size (by simp [Value.ownBlock])).2;have hfill:=JV.start (xs:=xs) (enc:=Zu) hown;clear hown
 go_wp2
 go_loopw [4] (fun i wr=>∃ k:Nat,k≤len∧i=.int .i64 k∧JV Zu 1 w.heap.size 3 wr w.heap.size len xs k∧Below w.heap.size w wr∧w.heap.size+1≤wr.heap.size) (fun i _=>len - (intOf i).toNat)
 case atStart=>exact ⟨0,Nat.zero_le _,rfl,hfill,hb0,hs1⟩
 case round =>
  obtain ⟨k,hk,rfl,hf,hb,hsz⟩:=hrel
  by_cases hlt:k<len
  ·have hkx:k<xs.length:=by rw [hr.len];exact hlt
   obtain ⟨b,off,x,hx0,rfl,hbl,hrg⟩:=hr.at_ k hkx;have c0:=(Zq hrg hb hbl) 0 _ rfl;simp only [Nat.mul_one,Nat.add_zero] at c0;have hx:=Lib.hid hx0;clear hx0;have ht2:=JV.there encI_len hf hr.len hlt;obtain ⟨u0,hu0⟩:=Option.isSome_iff_exists.1 (ht2 0 (by omega)).1;have hu1:=(ht2 0 (by omega)).2;simp only [Nat.mul_one,Nat.add_zero] at hu0 hu1;obtain ⟨hf3,hg3⟩:=JV.step encI_len hf hr.len hx.out;simp only [Nat.mul_one] at hf3 hg3;clear ht2
   go_wp2
   go_roundw
   case rel=>exact ⟨k+1,by omega,by go_num,hf3,hb.grown hg3 (by omega) (by intro j hj;cases hj;exact Nat.le_refl _),Nat.le_trans hsz hg3.size⟩
   case measure=>simp [intOf];omega
  ·have hk':k=len:=by omega
   subst hk'
   go_wp2
   go_ret
   exact ⟨rfl,JV.done hf hr.len,hb⟩
theorem Zew (ao bo:Option Addr) (len cap cap2:Nat) (xs:List Int) (w:World) (hlen:len≤1048576) (hr:Rd Zu 1 w ao len xs) (hr2:Rd Zu 1 w bo len xs) :
  Calls prog 67 #[.slice ao len cap,.slice bo len cap2] w fun e w'=>e=.returned (.bool true)∧Below w.heap.size w w':=by
 go_enter func67,ntmps67
 go_wp2
 go_loopw [5] (fun i wr=>∃ k:Nat,k≤len∧i=.int .i64 k∧Below w.heap.size w wr) (fun i _=>len - (intOf i).toNat)
 case atStart=>exact ⟨0,Nat.zero_le _,rfl,Below.refl _ _⟩
 case round =>
  obtain ⟨k,hk,rfl,hb⟩:=hrel
  by_cases hlt:k<len
  ·have hkx:k<xs.length:=by rw [hr.len];exact hlt
   obtain ⟨b,off,x,hx0,rfl,hbl,hrg⟩:=hr.at_ k hkx;have c0:=(Zq hrg hb hbl) 0 _ rfl;simp only [Nat.mul_one,Nat.add_zero] at c0;obtain ⟨b2,off2,x2,hx2,rfl,hbl2,hrg2⟩:=hr2.at_ k hkx;obtain rfl:x=x2:=Option.some.inj (hx0.symm.trans hx2);have d0:=(Zq hrg2 hb hbl2) 0 _ rfl;simp only [Nat.mul_one,Nat.add_zero] at d0;clear hx0 hx2
   go_wp2_with fail
   go_quiet (fail)
   go_wp2
   go_roundw
   case rel=>exact ⟨k+1,by omega,by go_num,hb.trans (ZU _ _ _)⟩
   case measure=>simp [intOf];omega
  ·go_wp2
   go_ret
   exact ⟨rfl,hb⟩
theorem ZfS (ao:Option Addr) (len cap:Nat) (xs:List ByteArray) (l:Int) (w:World) (hl0:0≤l) (hl1:l≤1048576) (hlen:len≤9223372036854775807) (hr:Rd Zt 1 w ao len xs) (hs:∀ x ∈ xs,x.size≤9223372036854775807) :
  Calls prog 14 #[.slice ao len cap,.int .i64 l] w fun e w'=>e=.returned (.int .i64 (Qz l (len+tot ByteArray.size xs)))∧Below w.heap.size w w':=by
 by_cases hln:l<len
 ·rw [YR (by omega)]
  go_enter func14,ntmps14
  go_wp2
  go_ret
  exact ⟨rfl,Below.refl _ _⟩
 ·go_enter func14,ntmps14
  go_wp2
  go_loopw [1,5] (fun l' i wr=>∃ k:Nat,k≤len∧i=.int .i64 k∧(len+tot ByteArray.size (xs.take k):Nat)≤l∧l'=.int .i64 (l - (len+tot ByteArray.size (xs.take k):Nat))∧Below w.heap.size w wr) (fun _ i _=>len - (intOf i).toNat)
  case atStart=>exact ⟨0,Nat.zero_le _,rfl,by simp [tot];omega,by simp [tot],Below.refl _ _⟩
  case round =>
   obtain ⟨k,hk,rfl,hle,rfl,hb⟩:=hrel
   by_cases hlt:k<len
   ·have hkx:k<xs.length:=by rw [hr.len];exact hlt
    obtain ⟨b,off,x,hx0,rfl,hbl,hrg⟩:=hr.at_ k hkx;have c0:=(Zq hrg hb hbl) 0 _ rfl;simp only [Nat.mul_one,Nat.add_zero] at c0;have hsk0:=hs _ (List.mem_of_getElem? hx0);have H1:=Lib.hid (Zlw ByteArray.size xs k hx0);clear hx0;have hle2:=Zhy ByteArray.size xs (k+1)
    by_cases hc:l - (len+tot ByteArray.size (xs.take k):Nat)<(x.size:Nat)
    ·go_wp2
     go_ret
     exact ⟨Qu (by rw [YR (by have:=H1.out;omega)]),hb⟩
    ·go_wp2
     go_roundw
     case rel=>exact ⟨k+1,by omega,by go_num,by rw [H1.out];omega,by rw [H1.out];congr 1;omega,hb⟩
     case measure=>simp [intOf];omega
   ·have hk':k=len:=by omega
    subst hk';have ht:=Lib.hid (List.take_of_length_le (l:=xs) (i:=k) (by rw [hr.len];exact Nat.le_refl _));rw [ht.out] at hle
    go_wp2
    go_ret
    rw [ht.out];exact ⟨Qu (by rw [Xs hle]),hb⟩
theorem Tryz.infoStringS:(Tryz.prog.info? 9).map (fun i=>(i.zero,i.size,i.bytes))=some (some (.string ByteArray.empty),1,16):=by kernel_rfl
theorem ZfT (ao:Option Addr) (len cap:Nat) (xs:List ByteArray) (w:World) (hlen:len≤1048576) (hr:Rd Zt 1 w ao len xs) :
  Calls prog 23 #[.slice ao len cap] w fun e w'=>e=.returned (.slice (some ⟨w.heap.size,0,none⟩) len len)∧w'.ownsRow w.heap.size 9 1 (.slice (some ⟨w.heap.size,0,none⟩) len len) xs.length (xs.flatMap Zt)∧Below w.heap.size w w':=by
 obtain ⟨i0,hi,hz0,hz1,hz2⟩:=info_parts Tryz.infoStringS
 go_enter func23,ntmps23
 go_wp2_with (refine wpList_make_full _ rfl (.tmp 6) (.tmp 6) 22 rfl w.heap.size 9 i0 _ 1 Tryz.underlying22 hi hz0 hz1 .i64 .i64 _ _ len rfl rfl rfl rfl ?b2 ?b3 ?b4 ?_)
 case b2=>rw [hz2];omega
 case b3=>unfold maxLen;omega
 case b4=>exact Nat.le_refl _
 intro w1 hown hg;have hb0:Below w.heap.size w w1:=(Below.refl _ _).grown hg (Nat.le_refl _) (by simp);have hs1:w.heap.size+1≤w1.heap.size:=(hown.lt w.heap.size (by simp [Value.ownBlock])).2;have hfill:=JV.start (xs:=xs) (enc:=Zt) hown;clear hown
 go_wp2
 go_loopw [4] (fun i wr=>∃ k:Nat,k≤len∧i=.int .i64 k∧JV Zt 1 w.heap.size 9 wr w.heap.size len xs k∧Below w.heap.size w wr∧w.heap.size+1≤wr.heap.size) (fun i _=>len - (intOf i).toNat)
 case atStart=>exact ⟨0,Nat.zero_le _,rfl,hfill,hb0,hs1⟩
 case round =>
  obtain ⟨k,hk,rfl,hf,hb,hsz⟩:=hrel
  by_cases hlt:k<len
  ·have hkx:k<xs.length:=by rw [hr.len];exact hlt
   obtain ⟨b,off,x,hx0,rfl,hbl,hrg⟩:=hr.at_ k hkx;have c0:=(Zq hrg hb hbl) 0 _ rfl;simp only [Nat.mul_one,Nat.add_zero] at c0;have hx:=Lib.hid hx0;clear hx0;have ht2:=JV.there encS_len hf hr.len hlt;obtain ⟨u0,hu0⟩:=Option.isSome_iff_exists.1 (ht2 0 (by omega)).1;have hu1:=(ht2 0 (by omega)).2;simp only [Nat.mul_one,Nat.add_zero] at hu0 hu1;obtain ⟨hf3,hg3⟩:=JV.step encS_len hf hr.len hx.out;simp only [Nat.mul_one] at hf3 hg3;clear ht2
   go_wp2
   go_roundw
   case rel=>exact ⟨k+1,by omega,by go_num,hf3,hb.grown hg3 (by omega) (by intro j hj;cases hj;exact Nat.le_refl _),Nat.le_trans hsz hg3.size⟩
   case measure=>simp [intOf];omega
  ·have hk':k=len:=by omega
   subst hk'
   go_wp2
   go_ret
   exact ⟨rfl,JV.done hf hr.len,hb⟩
theorem ZfU (ao bo:Option Addr) (len cap cap2:Nat) (xs:List ByteArray) (w:World) (hlen:len≤1048576) (hr:Rd Zt 1 w ao len xs) (hr2:Rd Zt 1 w bo len xs) :
  Calls prog 33 #[.slice ao len cap,.slice bo len cap2] w fun e w'=>e=.returned (.bool true)∧Below w.heap.size w w':=by
 go_enter func33,ntmps33
 go_wp2
 go_loopw [5] (fun i wr=>∃ k:Nat,k≤len∧i=.int .i64 k∧Below w.heap.size w wr) (fun i _=>len - (intOf i).toNat)
 case atStart=>exact ⟨0,Nat.zero_le _,rfl,Below.refl _ _⟩
 case round =>
  obtain ⟨k,hk,rfl,hb⟩:=hrel
  by_cases hlt:k<len
  ·have hkx:k<xs.length:=by rw [hr.len];exact hlt
   obtain ⟨b,off,x,hx0,rfl,hbl,hrg⟩:=hr.at_ k hkx;have c0:=(Zq hrg hb hbl) 0 _ rfl;simp only [Nat.mul_one,Nat.add_zero] at c0;obtain ⟨b2,off2,x2,hx2,rfl,hbl2,hrg2⟩:=hr2.at_ k hkx;obtain rfl:x=x2:=Option.some.inj (hx0.symm.trans hx2);have d0:=(Zq hrg2 hb hbl2) 0 _ rfl;simp only [Nat.mul_one,Nat.add_zero] at d0;clear hx0 hx2
   go_wp2_with fail
   go_quiet (fail)
   go_wp2
   go_roundw
   case rel=>exact ⟨k+1,by omega,by go_num,hb.trans (ZU _ _ _)⟩
   case measure=>simp [intOf];omega
  ·go_wp2
   go_ret
   exact ⟨rfl,hb⟩
structure Zp where
  ab:List Int
  ag:List Int
def Zp.Reads (w:World) (v:Value) (x:Zp):Prop:=∃ (a0:Option Addr) (c0:Nat) (a1:Option Addr) (c1:Nat),v=.agg #[.slice a0 x.ab.length c0,.slice a1 x.ag.length c1]∧Rd Zu 1 w a0 x.ab.length x.ab∧Rd Zu 1 w a1 x.ag.length x.ag
def Zp.Own (w:World) (B B1:Nat) (v:Value) (x:Zp):Prop:=∃ (a0:Option Addr) (c0:Nat) (a1:Option Addr) (c1:Nat),v=.agg #[.slice a0 x.ab.length c0,.slice a1 x.ag.length c1]∧RowO Zu 1 3 w B B1 (.slice a0 x.ab.length c0) x.ab∧RowO Zu 1 3 w B B1 (.slice a1 x.ag.length c1) x.ag∧YD (.slice a0 x.ab.length c0) (.slice a1 x.ag.length c1)
def Zp.bulk (x:Zp):Nat:=x.ab.length+x.ag.length
structure Zp.Small (x:Zp):Prop where
  s0_0:x.ab.length≤9223372036854775807
  s1_0:x.ag.length≤9223372036854775807
structure Zp.Fit (x:Zp):Prop where
  f0:x.ab.length≤1048576
  f1:x.ag.length≤1048576
theorem ZhA (v:Value) (x:Zp) (l:Int) (w:World) (hl0:0≤l) (hl1:l≤1048576) (hr:Zp.Reads w v x) (hs:x.Small) :
  Calls prog 15 #[v,.int .i64 l] w fun e w'=>e=.returned (.int .i64 (Qz l x.bulk))∧Below w.heap.size w w':=by
 obtain ⟨a0,c0,a1,c1,rfl,r0,r1⟩:=hr;have hbA:Below w.heap.size w (w.alloc (.cells #[.slice a0 x.ab.length c0,.slice a1 x.ag.length c1] 25)):=(Below.refl _ _).alloc (Nat.le_refl _) _;have hA0:=ZY w (.cells #[.slice a0 x.ab.length c0,.slice a1 x.ag.length c1] 25) _ rfl;obtain ⟨t0,ht0⟩:∃ t:Nat,t=x.ab.length:=⟨_,rfl⟩;obtain ⟨t1,ht1⟩:∃ t:Nat,t=x.ag.length:=⟨_,rfl⟩;have HB:Hid (x.bulk=t0+t1):=by
  show x.bulk=_;simp only [ht0,ht1];unfold Zp.bulk
  omega
 have HT0:=Lib.hid ht0;clear ht0;have HT1:=Lib.hid ht1;clear ht1
 go_enter func15,ntmps15
 go_wp2_with fail
 refine (Zeu _ _ _ _ _ (by omega) (by omega) hs.s0_0).mono ?_;rintro e w1 ⟨rfl,b1⟩;rw [← HT0.out];have hA1:=Ze hA0 b1 (Nat.le_refl _);have hb1:=hbA.trans (b1.mono hbA.size);clear b1 hA0
 by_cases g0:l<(t0:Int)
 ·rw [YR g0]
  go_wp2
  go_ret
  exact ⟨Qu (by rw [HB.out,YR (by omega)]),hb1⟩
 rw [Xs (Int.not_lt.1 g0)];have p1:w1.cell? ⟨w.heap.size,1,none⟩=some (.slice a1 x.ag.length c1):=Zc hA1 1
 go_wp2_with fail
 refine (Zeu _ _ _ _ _ (by omega) (by omega) hs.s1_0).mono ?_;rintro e w2 ⟨rfl,b2⟩;rw [← HT1.out];have hA2:=Ze hA1 b2 (Nat.le_refl _);have hb2:=hb1.trans (b2.mono hb1.size);clear b2 hA1
 by_cases g1:l - t0<(t1:Int)
 ·rw [YR g1]
  go_wp2
  go_ret
  exact ⟨Qu (by rw [HB.out,YR (by omega)]),hb2⟩
 rw [Xs (Int.not_lt.1 g1)]
 go_wp2
 go_ret
 exact ⟨Qu (by rw [HB.out,Xs (by omega)];omega),hb2⟩
theorem ZhB (v:Value) (x:Zp) (w:World) (hf:x.Fit) (hr:Zp.Reads w v x) :
  Calls prog 24 #[v] w fun e w'=>∃ v',e=.returned v'∧Zp.Own w' w.heap.size w'.heap.size v' x∧Below w.heap.size w w':=by
 obtain ⟨a0,c0,a1,c1,rfl,r0,r1⟩:=hr
 go_enter func24,ntmps24
 go_wp2_with fail
 have hb0:Below w.heap.size w (((w.alloc (.cells #[.slice a0 x.ab.length c0,.slice a1 x.ag.length c1] 25)).alloc (.cells #[.slice none 0 0,.slice none 0 0] 36)).alloc (.cells #[.slice none 0 0,.slice none 0 0] 36)):=(((Below.refl _ _).alloc (Nat.le_refl _) _).alloc (by simp) _).alloc (by simp;omega) _;have hA0:(((w.alloc (.cells #[.slice a0 x.ab.length c0,.slice a1 x.ag.length c1] 25)).alloc (.cells #[.slice none 0 0,.slice none 0 0] 36)).alloc (.cells #[.slice none 0 0,.slice none 0 0] 36)).heap[w.heap.size]? = some (.cells #[.slice a0 x.ab.length c0,.slice a1 x.ag.length c1] 25 (0,0)):=Xp (Xp (ZY w _ _ rfl) _) _;have hR0:(((w.alloc (.cells #[.slice a0 x.ab.length c0,.slice a1 x.ag.length c1] 25)).alloc (.cells #[.slice none 0 0,.slice none 0 0] 36)).alloc (.cells #[.slice none 0 0,.slice none 0 0] 36)).heap[w.heap.size+1]? = some (.cells #[.slice none 0 0,.slice none 0 0] 36 (0,0)):=Xp (ZY _ _ (w.heap.size+1) (by simp)) _;have hO0:(((w.alloc (.cells #[.slice a0 x.ab.length c0,.slice a1 x.ag.length c1] 25)).alloc (.cells #[.slice none 0 0,.slice none 0 0] 36)).alloc (.cells #[.slice none 0 0,.slice none 0 0] 36)).heap[w.heap.size+1+1]? = some (.cells #[.slice none 0 0,.slice none 0 0] 36 (0,0)):=ZY _ _ (w.heap.size+1+1) (by simp);have hz0:w.heap.size+1+1<(((w.alloc (.cells #[.slice a0 x.ab.length c0,.slice a1 x.ag.length c1] 25)).alloc (.cells #[.slice none 0 0,.slice none 0 0] 36)).alloc (.cells #[.slice none 0 0,.slice none 0 0] 36)).heap.size:=Xt hO0;refine (Zev _ _ _ x.ab _ hf.f0 (r0.below hb0)).mono ?_;rintro e w1 ⟨rfl,on0,b1⟩;have ro0:RowO Zu 1 3 w1 _ w1.heap.size _ x.ab:=RowO.mk on0 (fun g hg=>(on0.lt g hg).2)
 try simp only [XJ] at ro0
 try simp only [Jz] at ro0
 clear on0;have hbW:=hb0;have hb1:=hbW.trans (b1.mono hbW.size);have hA1:w1.heap[w.heap.size]? = some (.cells #[.slice a0 x.ab.length c0,.slice a1 x.ag.length c1] 25 (0,0)):=Ze hA0 b1 (Nat.le_refl _);have hR1:w1.heap[w.heap.size+1]? = some (.cells #[.slice none 0 0,.slice none 0 0] 36 (0,0)):=Ze hR0 b1 (Nat.le_refl _);have hO1:w1.heap[w.heap.size+1+1]? = some (.cells #[.slice none 0 0,.slice none 0 0] 36 (0,0)):=Ze hO0 b1 (Nat.le_refl _);have hz1:w.heap.size+1+1<w1.heap.size:=Xt hO1;have hs1:=b1.size
 try simp only [XJ] at hs1
 try simp only [Jz] at hs1
 clear b1 hbW hA0 hR0 hO0;have pa1:w1.cell? ⟨w.heap.size,1,none⟩=some (.slice a1 x.ag.length c1):=Zc hA1 1;have po0:w1.cell? ⟨w.heap.size+1+1,0,none⟩=some (.slice none 0 0):=Zc hO1 0;have pf0:=ZE hO1 0
 go_wp2_with fail
 refine (Zev _ _ _ x.ag _ hf.f1 (r1.below (hb1.setCell (p:=⟨w.heap.size+1+1,0,none⟩) (by simp;try omega) (.slice (some ⟨w.heap.size+1+1+1,0,none⟩) x.ab.length x.ab.length)))).mono ?_;rintro e w2 ⟨rfl,on1,b2⟩;have ro1:RowO Zu 1 3 w2 _ w2.heap.size _ x.ag:=RowO.mk on1 (fun g hg=>(on1.lt g hg).2)
 try simp only [XJ] at ro1
 try simp only [Jz] at ro1
 clear on1;have hbW:=(hb1.setCell (p:=⟨w.heap.size+1+1,0,none⟩) (by simp;try omega) (.slice (some ⟨w.heap.size+1+1+1,0,none⟩) x.ab.length x.ab.length));have hb2:=hbW.trans (b2.mono hbW.size);have hA2:w2.heap[w.heap.size]? = some (.cells #[.slice a0 x.ab.length c0,.slice a1 x.ag.length c1] 25 (0,0)):=Ze (ZK hA1 (p:=⟨w.heap.size+1+1,0,none⟩) (by simp;try omega) _) b2 (Nat.le_refl _);have hR2:w2.heap[w.heap.size+1]? = some (.cells #[.slice none 0 0,.slice none 0 0] 36 (0,0)):=Ze (ZK hR1 (p:=⟨w.heap.size+1+1,0,none⟩) (by simp;try omega) _) b2 (Nat.le_refl _);have hO2:w2.heap[w.heap.size+1+1]? = some (.cells #[.slice (some ⟨w.heap.size+1+1+1,0,none⟩) x.ab.length x.ab.length,.slice none 0 0] 36 (0,0)):=Ze (Ut hO1 (i:=0) _) b2 (Nat.le_refl _);have hz2:w.heap.size+1+1<w2.heap.size:=Xt hO2;have ro0:=RowO.below (ro0.set (p:=⟨w.heap.size+1+1,0,none⟩) (by simp;try omega) (.slice (some ⟨w.heap.size+1+1+1,0,none⟩) x.ab.length x.ab.length)) b2 (Nat.le_refl _);have hs2:=b2.size
 try simp only [XJ] at hs2
 try simp only [Jz] at hs2
 clear b2 hbW hA1 hR1 hO1;clear pa1 po0 pf0;have po0:w2.cell? ⟨w.heap.size+1+1,0,none⟩=some (.slice (some ⟨w.heap.size+1+1+1,0,none⟩) x.ab.length x.ab.length):=Zc hO2 0;have pf0:=ZE hO2 0;have po1:w2.cell? ⟨w.heap.size+1+1,1,none⟩=some (.slice none 0 0):=Zc hO2 1;have pf1:=ZE hO2 1;have pr0:w2.cell? ⟨w.heap.size+1,0,none⟩=some (.slice none 0 0):=Zc hR2 0;have pg0:=ZE hR2 0;have pr1:w2.cell? ⟨w.heap.size+1,1,none⟩=some (.slice none 0 0):=Zc hR2 1;have pg1:=ZE hR2 1
 go_wp2
 refine bodyPost_ret (v:=.agg #[.slice (some ⟨w.heap.size+1+1+1,0,none⟩) x.ab.length x.ab.length,.slice (some ⟨w1.heap.size,0,none⟩) x.ag.length x.ag.length]) (by simp [results,results24,go_sem,pr0,pr1]) rfl ?_;refine ⟨_,rfl,⟨_,_,_,_,rfl,?q0,?q1,?q0_1⟩,?_⟩
 case q0 =>
  refine RowO.mono (((ro0.set ?_ _).set ?_ _).set ?_ _) ?_ ?_
  all_goals (first|omega|(simp;done)|(simp;omega))
 case q1 =>
  refine RowO.mono (((ro1.set ?_ _).set ?_ _).set ?_ _) ?_ ?_
  all_goals (first|omega|(simp;done)|(simp;omega))
 case q0_1=>exact YD.of_lt (m:=w1.heap.size) (fun g hg=>(ro0.lt g hg).2.1) (fun g hg=>by have:=(ro1.lt g hg).1;first|exact this|omega|(simp at this;omega))
 refine (Below.setCell (Below.setCell (Below.setCell hb2 ?_ _) ?_ _) ?_ _)
 all_goals (first|omega|(simp;done)|(simp;omega))
theorem ZhC (u v:Value) (x:Zp) (w:World) (hf:x.Fit) (hr:Zp.Reads w u x) (hs:Zp.Reads w v x) :
  Calls prog 34 #[u,v] w fun e w'=>e=.returned (.bool true)∧Below w.heap.size w w':=by
 obtain ⟨a0,c0,a1,c1,rfl,r0,r1⟩:=hr;obtain ⟨b0,d0,b1,d1,rfl,s0,s1⟩:=hs;have hb0:Below w.heap.size w ((w.alloc (.cells #[.slice a0 x.ab.length c0,.slice a1 x.ag.length c1] 36)).alloc (.cells #[.slice b0 x.ab.length d0,.slice b1 x.ag.length d1] 36)):=((Below.refl _ _).alloc (Nat.le_refl _) _).alloc (by simp) _;have hA0:((w.alloc (.cells #[.slice a0 x.ab.length c0,.slice a1 x.ag.length c1] 36)).alloc (.cells #[.slice b0 x.ab.length d0,.slice b1 x.ag.length d1] 36)).heap[w.heap.size]? = some (.cells #[.slice a0 x.ab.length c0,.slice a1 x.ag.length c1] 36 (0,0)):=Xp (ZY w _ _ rfl) _;have hB0:((w.alloc (.cells #[.slice a0 x.ab.length c0,.slice a1 x.ag.length c1] 36)).alloc (.cells #[.slice b0 x.ab.length d0,.slice b1 x.ag.length d1] 36)).heap[w.heap.size+1]? = some (.cells #[.slice b0 x.ab.length d0,.slice b1 x.ag.length d1] 36 (0,0)):=ZY _ _ (w.heap.size+1) (by simp)
 go_enter func34,ntmps34
 go_wp2_with fail
 refine (Zew _ _ _ _ _ x.ab _ hf.f0 (r0.below hb0) (s0.below hb0)).mono ?_;rintro e w1 ⟨rfl,b1⟩;have hb1:=hb0.trans (b1.mono hb0.size);have hA1:=Ze hA0 b1 (Nat.le_refl _);have hB1:=Ze hB0 b1 (Nat.le_refl _);clear b1 hA0 hB0;have p1:w1.cell? ⟨w.heap.size,1,none⟩=some (.slice a1 x.ag.length c1):=Zc hA1 1;have q1:w1.cell? ⟨w.heap.size+1,1,none⟩=some (.slice b1 x.ag.length d1):=Zc hB1 1
 go_wp2_with fail
 refine (Zew _ _ _ _ _ x.ag _ hf.f1 (r1.below hb1) (s1.below hb1)).mono ?_;rintro e w2 ⟨rfl,b2⟩;have hb2:=hb1.trans (b2.mono hb1.size);have hA2:=Ze hA1 b2 (Nat.le_refl _);have hB2:=Ze hB1 b2 (Nat.le_refl _);clear b2 hA1 hB1;clear p1 q1
 go_wp2
 go_ret
 exact ⟨rfl,hb2⟩
def Qv (i:Nat) (r l:Int):Bool:=inB l 0 900 && (inB r 0 l && ((r != 0 || l == 0) && (inB i 8 63 || decide (r≤0))))
def Q1 (s:Zp) (k:Nat):Bool:=(List.range k).all fun i=>Qv i (s.ab.getD i 0) (s.ag.getD i 0)
theorem ZdC (s:Zp) (k:Nat):Q1 s (k+1)=(Q1 s k && Qv k (s.ab.getD k 0) (s.ag.getD k 0)):=by
 simp [Q1,List.range_succ]
theorem Zgb {s:Zp} {k m:Nat} (h:Q1 s m=true) (hk:k<m):Qv k (s.ab.getD k 0) (s.ag.getD k 0)=true:=by
 simp only [Q1,List.all_eq_true] at h;exact h k (List.mem_range.2 hk)
theorem Zex {s:Zp} {k m:Nat} (hk:k<m) (h:Qv k (s.ab.getD k 0) (s.ag.getD k 0)=false):Q1 s m=false:=by
 cases hm:Q1 s m with
 | false=>rfl
 | true=>rw [Zgb hm hk] at h;cases h
def Zp.ok (s:Zp):Bool:=s.ab.length == 64 && s.ag.length == 64 && Q1 s 64
theorem QN {α:Type} {xs:List α} {k:Nat} {x d:α} (h:xs[k]? = some x):xs.getD k d=x:=by simp [List.getD,h]
theorem Zal (v:Value) (s:Zp) (w:World) (hr:Zp.Reads w v s) (hf:s.Fit) :
  Calls prog 71 #[v] w fun e w'=>e=.returned (.bool s.ok)∧Below w.heap.size w w':=by
 obtain ⟨a0,c0,a1,c1,rfl,r0,r1⟩:=hr;have hf0:=hf.f0;have hf1:=hf.f1;have hb0:Below w.heap.size w (w.alloc (.cells #[.slice a0 s.ab.length c0,.slice a1 s.ag.length c1] 36)):=(Below.refl _ _).alloc (Nat.le_refl _) _;have hA0:=ZY w (.cells #[.slice a0 s.ab.length c0,.slice a1 s.ag.length c1] 36) _ rfl
 by_cases h0:s.ab.length=64
 rotate_left
 ·have H:Hid (s.ok=false):=by show _=_;simp [Zp.ok,h0]
  go_enter func71,ntmps71
  go_wp2
  go_ret
  exact ⟨Zr H.out.symm,hb0⟩
 have H0:=Lib.hid h0;have hl0:=h0;rw [h0] at r0 hb0 hA0 ⊢;clear h0
 by_cases h1:s.ag.length=64
 rotate_left
 ·have H:Hid (s.ok=false):=by show _=_;simp [Zp.ok,h1]
  go_enter func71,ntmps71
  go_wp2
  go_ret
  exact ⟨Zr H.out.symm,hb0⟩
 have H:Hid (s.ok=Q1 s 64):=by show _=_;simp [Zp.ok,hl0,h1]
 rw [h1] at r1 hb0 hA0 ⊢;have H1:=Lib.hid h1;clear h1 hl0 hf0 hf1 hf
 go_enter func71,ntmps71
 go_wp2
 go_loopw [3] (fun i wr=>∃ k:Nat,k≤64∧i=.int .i64 k∧Q1 s k=true∧Below w.heap.size w wr∧wr.heap[w.heap.size]? = some (.cells #[.slice a0 64 c0,.slice a1 64 c1] 36 (0,0))) (fun i _=>64 - (intOf i).toNat)
 case atStart=>exact ⟨0,by omega,rfl,rfl,hb0,hA0⟩
 case round =>
  obtain ⟨k,hk,rfl,hok,hb,hA⟩:=hrel;have HOK:=Lib.hid hok;clear hok
  by_cases hlt:k<64
  ·obtain ⟨b,off,r,hx0,rfl,hbl,hrg⟩:=r0.at_ k (by rw [H0.out];exact hlt)
   have d0:=(Zq hrg hb hbl) 0 _ rfl;simp only [Nat.mul_one,Nat.add_zero] at d0;obtain ⟨b2,off2,l,hx1,rfl,hbl2,hrg2⟩:=r1.at_ k (by rw [H1.out];exact hlt);have d1:=(Zq hrg2 hb hbl2) 0 _ rfl;simp only [Nat.mul_one,Nat.add_zero] at d1;have hg0:s.ab.getD k 0=r:=QN hx0;have hg1:s.ag.getD k 0=l:=QN hx1;have p0:wr.cell? ⟨w.heap.size,0,none⟩=some (.slice (some ⟨b,off,none⟩) 64 c0):=Zc hA 0;have p1:wr.cell? ⟨w.heap.size,1,none⟩=some (.slice (some ⟨b2,off2,none⟩) 64 c1):=Zc hA 1;have hlast:Hid (Qv k r l=false→s.ok=false):=fun h=>by rw [H.out];exact Zex hlt (by rw [hg0,hg1];exact h)
   have hnext:Hid (Qv k r l=true→Q1 s (k+1)=true):=fun h=>by rw [ZdC,HOK.out,hg0,hg1,h];rfl
   have HA:=Lib.hid hA;clear hx0 hx1 hg0 hg1 hrg hrg2 hA hA0 hb0
   by_cases g1:inB l 0 900=true
   rotate_left
   ·have g1':inB l 0 900=false:=by simpa using g1
    have HR:Hid (Qv k r l=false):=by show _=_;simp [Qv,g1']
    clear g1
    go_wp2_with fail
    go_quiet ((first|(go_at_call 18;exact Calls.quiet_of_same ((YY _ _ _ _).mono fun _ _ ⟨h1,h2⟩=>⟨h1,h2.symm⟩))|(go_at_call 76;exact Calls.quiet_of_same ((QM _ _).mono fun _ _ ⟨h1,h2⟩=>⟨h1,h2.symm⟩))))
    go_wp2
    go_ret
    exact ⟨Zr (hlast.out HR.out).symm,hb.trans (ZU _ _ _)⟩
   have hl:=Zo g1
   by_cases g2:inB r 0 l=true
   rotate_left
   ·have g2':inB r 0 l=false:=by simpa using g2
    have HR:Hid (Qv k r l=false):=by show _=_;simp [Qv,g2']
    clear g2
    go_wp2_with fail
    go_quiet ((first|(go_at_call 18;exact Calls.quiet_of_same ((YY _ _ _ _).mono fun _ _ ⟨h1,h2⟩=>⟨h1,h2.symm⟩))|(go_at_call 76;exact Calls.quiet_of_same ((QM _ _).mono fun _ _ ⟨h1,h2⟩=>⟨h1,h2.symm⟩))))
    go_wp2
    go_ret
    exact ⟨Zr (hlast.out HR.out).symm,hb.trans (ZU _ _ _)⟩
   have hr2:=Zo g2
   by_cases g3:r=0
   ·subst g3
    by_cases g4:l=0
    ·subst g4
     cases g5:inB (k:Int) 8 63
     ·have HR:Hid (Qv k 0 0=true):=by show _=_;simp [Qv,g1,g2]
      go_wp2_with fail
      go_quiet ((first|(go_at_call 18;exact Calls.quiet_of_same ((YY _ _ _ _).mono fun _ _ ⟨h1,h2⟩=>⟨h1,h2.symm⟩))|(go_at_call 76;exact Calls.quiet_of_same ((QM _ _).mono fun _ _ ⟨h1,h2⟩=>⟨h1,h2.symm⟩))))
      go_wp2
      go_roundw
      case rel=>exact ⟨k+1,by omega,by go_num,hnext.out HR.out,hb.trans (ZU _ _ _),HA.out⟩
      case measure=>simp [intOf];omega
     ·have HR:Hid (Qv k 0 0=true):=by show _=_;simp [Qv,g1,g2]
      go_wp2_with fail
      go_quiet ((first|(go_at_call 18;exact Calls.quiet_of_same ((YY _ _ _ _).mono fun _ _ ⟨h1,h2⟩=>⟨h1,h2.symm⟩))|(go_at_call 76;exact Calls.quiet_of_same ((QM _ _).mono fun _ _ ⟨h1,h2⟩=>⟨h1,h2.symm⟩))))
      go_wp2
      go_roundw
      case rel=>exact ⟨k+1,by omega,by go_num,hnext.out HR.out,hb.trans (ZU _ _ _),HA.out⟩
      case measure=>simp [intOf];omega
    ·have g4':((l:Int) != 0)=true:=by simpa using g4
     have HR:Hid (Qv k 0 l=false):=by show _=_;simp [Qv,g4]
     clear g4
     go_wp2_with fail
     go_quiet ((first|(go_at_call 18;exact Calls.quiet_of_same ((YY _ _ _ _).mono fun _ _ ⟨h1,h2⟩=>⟨h1,h2.symm⟩))|(go_at_call 76;exact Calls.quiet_of_same ((QM _ _).mono fun _ _ ⟨h1,h2⟩=>⟨h1,h2.symm⟩))))
     go_wp2
     go_ret
     exact ⟨Zr (hlast.out HR.out).symm,hb.trans (ZU _ _ _)⟩
   ·have g3':((r:Int) == 0)=false:=by simpa using g3
    have g6:0<r:=by omega
    cases g5:inB (k:Int) 8 63
    ·have HR:Hid (Qv k r l=false):=by show _=_;simp [Qv,g5];omega
     clear g3
     go_wp2_with fail
     go_quiet ((first|(go_at_call 18;exact Calls.quiet_of_same ((YY _ _ _ _).mono fun _ _ ⟨h1,h2⟩=>⟨h1,h2.symm⟩))|(go_at_call 76;exact Calls.quiet_of_same ((QM _ _).mono fun _ _ ⟨h1,h2⟩=>⟨h1,h2.symm⟩))))
     go_wp2
     go_ret
     exact ⟨Zr (hlast.out HR.out).symm,hb.trans (ZU _ _ _)⟩
    ·have HR:Hid (Qv k r l=true):=by show _=_;simp [Qv,g1,g2,g5,g3]
     clear g3
     go_wp2_with fail
     go_quiet ((first|(go_at_call 18;exact Calls.quiet_of_same ((YY _ _ _ _).mono fun _ _ ⟨h1,h2⟩=>⟨h1,h2.symm⟩))|(go_at_call 76;exact Calls.quiet_of_same ((QM _ _).mono fun _ _ ⟨h1,h2⟩=>⟨h1,h2.symm⟩))))
     go_wp2
     go_roundw
     case rel=>exact ⟨k+1,by omega,by go_num,hnext.out HR.out,hb.trans (ZU _ _ _),HA.out⟩
     case measure=>simp [intOf];omega
  ·have hk':k=64:=by omega
   subst hk'
   go_wp2
   go_ret
   exact ⟨Zr (by rw [H.out,HOK.out]),hb⟩
def Qq (i:Nat) (r l:Int):Bool:=inB r 0 900 && (inB l r 900 && ((r != 0 || l == 0) && (decide (r≤0) || !decide ((i:Int)<8))))
theorem Za9 {i:Nat} {r l:Int} (hi:i<64:=by omega):Qv i r l=Qq i r l:=by
 unfold Qv Qq inB;rw [Bool.eq_iff_iff]
 simp
 omega
theorem ZdV (v:Value) (s:Zp) (w:World) (hr:Zp.Reads w v s) (hf:s.Fit) :
  Calls prog 117 #[v] w fun e w'=>e=.returned (.bool s.ok)∧Below w.heap.size w w':=by
 obtain ⟨a0,c0,a1,c1,rfl,r0,r1⟩:=hr;have hf0:=hf.f0;have hf1:=hf.f1;have hb0:Below w.heap.size w (w.alloc (.cells #[.slice a0 s.ab.length c0,.slice a1 s.ag.length c1] 36)):=(Below.refl _ _).alloc (Nat.le_refl _) _;have hA0:=ZY w (.cells #[.slice a0 s.ab.length c0,.slice a1 s.ag.length c1] 36) _ rfl
 by_cases h0:s.ab.length=64
 rotate_left
 ·have H:Hid (s.ok=false):=by show _=_;simp [Zp.ok,h0]
  go_enter func117,ntmps117
  go_wp2
  go_ret
  exact ⟨Zr H.out.symm,hb0⟩
 have H0:=Lib.hid h0;have hl0:=h0;rw [h0] at r0 hb0 hA0 ⊢;clear h0
 by_cases h1:s.ag.length=64
 rotate_left
 ·have H:Hid (s.ok=false):=by show _=_;simp [Zp.ok,h1]
  go_enter func117,ntmps117
  go_wp2
  go_ret
  exact ⟨Zr H.out.symm,hb0⟩
 have H:Hid (s.ok=Q1 s 64):=by show _=_;simp [Zp.ok,hl0,h1]
 rw [h1] at r1 hb0 hA0 ⊢;have H1:=Lib.hid h1;clear h1 hl0 hf0 hf1 hf
 go_enter func117,ntmps117
 go_wp2
 go_loopw [19] (fun i wr=>∃ k:Nat,k≤64∧i=.int .i64 k∧Q1 s k=true∧Below w.heap.size w wr∧wr.heap[w.heap.size]? = some (.cells #[.slice a0 64 c0,.slice a1 64 c1] 36 (0,0))) (fun i _=>64 - (intOf i).toNat)
 case atStart=>exact ⟨0,by omega,rfl,rfl,hb0,hA0⟩
 case round =>
  obtain ⟨k,hk,rfl,hok,hb,hA⟩:=hrel;have HOK:=Lib.hid hok;clear hok
  by_cases hlt:k<64
  ·obtain ⟨b,off,r,hx0,rfl,hbl,hrg⟩:=r0.at_ k (by rw [H0.out];exact hlt)
   have d0:=(Zq hrg hb hbl) 0 _ rfl;simp only [Nat.mul_one,Nat.add_zero] at d0;obtain ⟨b2,off2,l,hx1,rfl,hbl2,hrg2⟩:=r1.at_ k (by rw [H1.out];exact hlt);have d1:=(Zq hrg2 hb hbl2) 0 _ rfl;simp only [Nat.mul_one,Nat.add_zero] at d1;have hg0:s.ab.getD k 0=r:=QN hx0;have hg1:s.ag.getD k 0=l:=QN hx1;have p0:wr.cell? ⟨w.heap.size,0,none⟩=some (.slice (some ⟨b,off,none⟩) 64 c0):=Zc hA 0;have p1:wr.cell? ⟨w.heap.size,1,none⟩=some (.slice (some ⟨b2,off2,none⟩) 64 c1):=Zc hA 1;have hlast:Hid (Qv k r l=false→s.ok=false):=fun h=>by rw [H.out];exact Zex hlt (by rw [hg0,hg1];exact h)
   have hnext:Hid (Qv k r l=true→Q1 s (k+1)=true):=fun h=>by rw [ZdC,HOK.out,hg0,hg1,h];rfl
   have HA:=Lib.hid hA;clear hx0 hx1 hg0 hg1 hrg hrg2 hA hA0 hb0;have hlast:Hid (Qq k r l=false→s.ok=false):=fun h=>hlast.out (by rw [Za9];exact h)
   have hnext:Hid (Qq k r l=true→Q1 s (k+1)=true):=fun h=>hnext.out (by rw [Za9];exact h)
   by_cases g1:inB r 0 900=true
   rotate_left
   ·have g1':inB r 0 900=false:=by simpa using g1
    have HR:Hid (Qq k r l=false):=by show _=_;simp [Qq,g1']
    clear g1
    go_wp2_with (go_at_call 28;refine (Yd _ _ _ _).mono ?_;rintro e w' ⟨rfl,rfl⟩)
    go_ret
    exact ⟨Zr (hlast.out HR.out).symm,hb⟩
   have hr2:=Zo g1
   by_cases g2:inB l r 900=true
   rotate_left
   ·have g2':inB l r 900=false:=by simpa using g2
    have HR:Hid (Qq k r l=false):=by show _=_;simp [Qq,g2']
    clear g2
    go_wp2_with (go_at_call 28;refine (Yd _ _ _ _).mono ?_;rintro e w' ⟨rfl,rfl⟩)
    go_ret
    exact ⟨Zr (hlast.out HR.out).symm,hb⟩
   have hl:=Zo g2
   by_cases g3:r=0
   ·subst g3
    by_cases g4:l=0
    ·subst g4
     have HR:Hid (Qq k 0 0=true):=by show _=_;simp [Qq,g1]
     go_wp2_with (go_at_call 28;refine (Yd _ _ _ _).mono ?_;rintro e w' ⟨rfl,rfl⟩)
     go_roundw
     case rel=>exact ⟨k+1,by omega,by go_num,hnext.out HR.out,hb,HA.out⟩
     case measure=>simp [intOf];omega
    ·have g4':((l:Int) != 0)=true:=by simpa using g4
     have HR:Hid (Qq k 0 l=false):=by show _=_;simp [Qq,g4]
     clear g4
     go_wp2_with (go_at_call 28;refine (Yd _ _ _ _).mono ?_;rintro e w' ⟨rfl,rfl⟩)
     go_ret
     exact ⟨Zr (hlast.out HR.out).symm,hb⟩
   ·have g3':((r:Int) == 0)=false:=by simpa using g3
    have g6:0<r:=by omega
    by_cases g5:(k:Int)<8
    ·have HR:Hid (Qq k r l=false):=by show _=_;simp [Qq,g5,g6]
     clear g3
     go_wp2_with (go_at_call 28;refine (Yd _ _ _ _).mono ?_;rintro e w' ⟨rfl,rfl⟩)
     go_ret
     exact ⟨Zr (hlast.out HR.out).symm,hb⟩
    ·have HR:Hid (Qq k r l=true):=by show _=_;simp [Qq,g1,g2,g5,g3]
     clear g3
     go_wp2_with (go_at_call 28;refine (Yd _ _ _ _).mono ?_;rintro e w' ⟨rfl,rfl⟩)
     go_roundw
     case rel=>exact ⟨k+1,by omega,by go_num,hnext.out HR.out,hb,HA.out⟩
     case measure=>simp [intOf];omega
  ·have hk':k=64:=by omega
   subst hk'
   go_wp2
   go_ret
   exact ⟨Zr (by rw [H.out,HOK.out]),hb⟩
structure Za where
  af:List ByteArray
  aa:Zp
  aq:Int
  ai:List PtrD
  ar:Int
  aj:List PtrD
  au:Bool
abbrev sL (a0:Option Addr) (c0:Nat) (a1:Option Addr) (c1:Nat) (a2:Option Addr) (c2:Nat) (a4:Option Addr) (c4:Nat) (a6:Option Addr) (c6:Nat) (st:Za):List Value:=[.slice a0 st.af.length c0,.slice a1 st.aa.ab.length c1,.slice a2 st.aa.ag.length c2,.int .i64 st.aq,.slice a4 st.ai.length c4,.int .i64 st.ar,.slice a6 st.aj.length c6,.bool st.au]
abbrev sV (a0:Option Addr) (c0:Nat) (a1:Option Addr) (c1:Nat) (a2:Option Addr) (c2:Nat) (a4:Option Addr) (c4:Nat) (a6:Option Addr) (c6:Nat) (st:Za):Value:=.agg #[.slice a0 st.af.length c0,.slice a1 st.aa.ab.length c1,.slice a2 st.aa.ag.length c2,.int .i64 st.aq,.slice a4 st.ai.length c4,.int .i64 st.ar,.slice a6 st.aj.length c6,.bool st.au]
def Za.Reads (w:World) (v:Value) (x:Za):Prop:=∃ (a0:Option Addr) (c0:Nat) (a1:Option Addr) (c1:Nat) (a2:Option Addr) (c2:Nat) (a4:Option Addr) (c4:Nat) (a6:Option Addr) (c6:Nat),v=.agg #[.slice a0 x.af.length c0,.slice a1 x.aa.ab.length c1,.slice a2 x.aa.ag.length c2,.int .i64 x.aq,.slice a4 x.ai.length c4,.int .i64 x.ar,.slice a6 x.aj.length c6,.bool x.au]∧Rd Zt 1 w a0 x.af.length x.af∧Rd Zu 1 w a1 x.aa.ab.length x.aa.ab∧Rd Zu 1 w a2 x.aa.ag.length x.aa.ag∧Rd PtrD.cells 5 w a4 x.ai.length x.ai∧Rd PtrD.cells 5 w a6 x.aj.length x.aj
def Za.Own (w:World) (B B1:Nat) (v:Value) (x:Za):Prop:=∃ (a0:Option Addr) (c0:Nat) (a1:Option Addr) (c1:Nat) (a2:Option Addr) (c2:Nat) (a4:Option Addr) (c4:Nat) (a6:Option Addr) (c6:Nat),v=.agg #[.slice a0 x.af.length c0,.slice a1 x.aa.ab.length c1,.slice a2 x.aa.ag.length c2,.int .i64 x.aq,.slice a4 x.ai.length c4,.int .i64 x.ar,.slice a6 x.aj.length c6,.bool x.au]∧RowO Zt 1 9 w B B1 (.slice a0 x.af.length c0) x.af∧RowO Zu 1 3 w B B1 (.slice a1 x.aa.ab.length c1) x.aa.ab∧RowO Zu 1 3 w B B1 (.slice a2 x.aa.ag.length c2) x.aa.ag∧RowO PtrD.cells 5 40 w B B1 (.slice a4 x.ai.length c4) x.ai∧RowO PtrD.cells 5 40 w B B1 (.slice a6 x.aj.length c6) x.aj∧YD (.slice a0 x.af.length c0) (.slice a1 x.aa.ab.length c1)∧YD (.slice a0 x.af.length c0) (.slice a2 x.aa.ag.length c2)∧YD (.slice a0 x.af.length c0) (.slice a4 x.ai.length c4)∧YD (.slice a0 x.af.length c0) (.slice a6 x.aj.length c6)∧YD (.slice a1 x.aa.ab.length c1) (.slice a2 x.aa.ag.length c2)∧YD (.slice a1 x.aa.ab.length c1) (.slice a4 x.ai.length c4)∧YD (.slice a1 x.aa.ab.length c1) (.slice a6 x.aj.length c6)∧YD (.slice a2 x.aa.ag.length c2) (.slice a4 x.ai.length c4)∧YD (.slice a2 x.aa.ag.length c2) (.slice a6 x.aj.length c6)∧YD (.slice a4 x.ai.length c4) (.slice a6 x.aj.length c6)
theorem Za.Reads.below {w w':World} {v:Value} {x:Za} (h:Za.Reads w v x) (hb:Below w.heap.size w w'):Za.Reads w' v x:=by
 obtain ⟨a0,c0,a1,c1,a2,c2,a4,c4,a6,c6,rfl,r0,r1,r2,r4,r6⟩:=h;exact ⟨a0,c0,a1,c1,a2,c2,a4,c4,a6,c6,rfl,r0.below hb,r1.below hb,r2.below hb,r4.below hb,r6.below hb⟩
theorem Za.Own.rd {w:World} {B B1:Nat} {v:Value} {x:Za} (h:Za.Own w B B1 v x):Za.Reads w v x:=by
 obtain ⟨a0,c0,a1,c1,a2,c2,a4,c4,a6,c6,rfl,r0,r1,r2,r4,r6,p0_1,p0_2,p0_4,p0_6,p1_2,p1_4,p1_6,p2_4,p2_6,p4_6⟩:=h;obtain ⟨u0,e0,k0,d0⟩:=r0.rd encS_len;simp only [Value.slice.injEq,true_and] at k0;obtain ⟨rfl,rfl⟩:=k0;obtain ⟨u1,e1,k1,d1⟩:=r1.rd encI_len;simp only [Value.slice.injEq,true_and] at k1;obtain ⟨rfl,rfl⟩:=k1;obtain ⟨u2,e2,k2,d2⟩:=r2.rd encI_len;simp only [Value.slice.injEq,true_and] at k2;obtain ⟨rfl,rfl⟩:=k2;obtain ⟨u4,e4,k4,d4⟩:=r4.rd PtrD.cells_len;simp only [Value.slice.injEq,true_and] at k4;obtain ⟨rfl,rfl⟩:=k4;obtain ⟨u6,e6,k6,d6⟩:=r6.rd PtrD.cells_len;simp only [Value.slice.injEq,true_and] at k6;obtain ⟨rfl,rfl⟩:=k6;exact ⟨_,_,_,_,_,_,_,_,_,_,rfl,d0,d1,d2,d4,d6⟩
def Za.bulk (x:Za):Nat:=(x.af.length+tot ByteArray.size x.af)+x.aa.ab.length+x.aa.ag.length+x.ai.length+x.aj.length
structure Za.Small (x:Za):Prop where
  s0_0:x.af.length≤9223372036854775807
  s0_1:(∀ e ∈ x.af,e.size≤9223372036854775807)
  s1_0:x.aa.ab.length≤9223372036854775807
  s2_0:x.aa.ag.length≤9223372036854775807
  s4_0:x.ai.length≤9223372036854775807
  s6_0:x.aj.length≤9223372036854775807
structure Za.Fit (x:Za):Prop where
  f0:x.af.length≤1048576
  f1:x.aa.ab.length≤1048576
  f2:x.aa.ag.length≤1048576
  f4:x.ai.length≤1048576
  f6:x.aj.length≤1048576
theorem Za.fit {x:Za} (h:x.bulk≤1048576):x.Fit:=by
 unfold Za.bulk at h;exact ⟨by omega,by omega,by omega,by omega,by omega⟩
theorem ZhD (v:Value) (x:Za) (l:Int) (w:World) (hl0:0≤l) (hl1:l≤1048576) (hr:Za.Reads w v x) (hs:x.Small) :
  Calls prog 4 #[v,.int .i64 l] w fun e w'=>e=.returned (.int .i64 (Qz l x.bulk))∧Below w.heap.size w w':=by
 obtain ⟨a0,c0,a1,c1,a2,c2,a4,c4,a6,c6,rfl,r0,r1,r2,r4,r6⟩:=hr;have hbA:Below w.heap.size w (w.alloc (.cells #[.slice a0 x.af.length c0,.slice a1 x.aa.ab.length c1,.slice a2 x.aa.ag.length c2,.int .i64 x.aq,.slice a4 x.ai.length c4,.int .i64 x.ar,.slice a6 x.aj.length c6,.bool x.au] 28)):=(Below.refl _ _).alloc (Nat.le_refl _) _;have hA0:=ZY w (.cells #[.slice a0 x.af.length c0,.slice a1 x.aa.ab.length c1,.slice a2 x.aa.ag.length c2,.int .i64 x.aq,.slice a4 x.ai.length c4,.int .i64 x.ar,.slice a6 x.aj.length c6,.bool x.au] 28) _ rfl;obtain ⟨t0,ht0⟩:∃ t:Nat,t=(x.af.length+tot ByteArray.size x.af):=⟨_,rfl⟩;obtain ⟨t1,ht1⟩:∃ t:Nat,t=x.aa.bulk:=⟨_,rfl⟩;obtain ⟨t2,ht2⟩:∃ t:Nat,t=x.ai.length:=⟨_,rfl⟩;obtain ⟨t3,ht3⟩:∃ t:Nat,t=x.aj.length:=⟨_,rfl⟩;have HB:Hid (x.bulk=t0+t1+t2+t3):=by
  show x.bulk=_;simp only [ht0,ht1,ht2,ht3];unfold Za.bulk;simp only [Zp.bulk]
  omega
 have HT0:=Lib.hid ht0;clear ht0;have HT1:=Lib.hid ht1;clear ht1;have HT2:=Lib.hid ht2;clear ht2;have HT3:=Lib.hid ht3;clear ht3
 go_enter func4,ntmps4
 go_wp2_with fail
 refine (ZfS _ _ _ x.af _ _ (by omega) (by omega) hs.s0_0 (r0.below hbA) hs.s0_1).mono ?_;rintro e w1 ⟨rfl,b1⟩;rw [← HT0.out];have hA1:=Ze hA0 b1 (Nat.le_refl _);have hb1:=hbA.trans (b1.mono hbA.size);clear b1 hA0
 by_cases g0:l<(t0:Int)
 ·rw [YR g0]
  go_wp2
  go_ret
  exact ⟨Qu (by rw [HB.out,YR (by omega)]),hb1⟩
 rw [Xs (Int.not_lt.1 g0)];have p1:w1.cell? ⟨w.heap.size,1,none⟩=some (.slice a1 x.aa.ab.length c1):=Zc hA1 1;have p2:w1.cell? ⟨w.heap.size,2,none⟩=some (.slice a2 x.aa.ag.length c2):=Zc hA1 2
 go_wp2_with fail
 refine (ZhA _ x.aa _ _ (by omega) (by omega) ⟨_,_,_,_,rfl,r1.below hb1,r2.below hb1⟩ ⟨hs.s1_0,hs.s2_0⟩).mono ?_;rintro e w2 ⟨rfl,b2⟩;rw [← HT1.out];have hA2:=Ze hA1 b2 (Nat.le_refl _);have hb2:=hb1.trans (b2.mono hb1.size);clear b2 hA1
 by_cases g1:l - t0<(t1:Int)
 ·rw [YR g1]
  go_wp2
  go_ret
  exact ⟨Qu (by rw [HB.out,YR (by omega)]),hb2⟩
 rw [Xs (Int.not_lt.1 g1)];have p4:w2.cell? ⟨w.heap.size,4,none⟩=some (.slice a4 x.ai.length c4):=Zc hA2 4
 go_wp2_with fail
 refine (Zer _ _ _ _ _ (by omega) (by omega) hs.s4_0).mono ?_;rintro e w3 ⟨rfl,b3⟩;rw [← HT2.out];have hA3:=Ze hA2 b3 (Nat.le_refl _);have hb3:=hb2.trans (b3.mono hb2.size);clear b3 hA2
 by_cases g2:l - t0 - t1<(t2:Int)
 ·rw [YR g2]
  go_wp2
  go_ret
  exact ⟨Qu (by rw [HB.out,YR (by omega)]),hb3⟩
 rw [Xs (Int.not_lt.1 g2)];have p6:w3.cell? ⟨w.heap.size,6,none⟩=some (.slice a6 x.aj.length c6):=Zc hA3 6
 go_wp2_with fail
 refine (Zer _ _ _ _ _ (by omega) (by omega) hs.s6_0).mono ?_;rintro e w4 ⟨rfl,b4⟩;rw [← HT3.out];have hA4:=Ze hA3 b4 (Nat.le_refl _);have hb4:=hb3.trans (b4.mono hb3.size);clear b4 hA3
 by_cases g3:l - t0 - t1 - t2<(t3:Int)
 ·rw [YR g3]
  go_wp2
  go_ret
  exact ⟨Qu (by rw [HB.out,YR (by omega)]),hb4⟩
 rw [Xs (Int.not_lt.1 g3)]
 go_wp2
 go_ret
 exact ⟨Qu (by rw [HB.out,Xs (by omega)];omega),hb4⟩
theorem U3 (v:Value) (x:Za) (w:World) (hf:x.Fit) (hr:Za.Reads w v x) :
  Calls prog 6 #[v] w fun e w'=>∃ v',e=.returned v'∧Za.Own w' w.heap.size w'.heap.size v' x∧Below w.heap.size w w':=by
 obtain ⟨a0,c0,a1,c1,a2,c2,a4,c4,a6,c6,rfl,r0,r1,r2,r4,r6⟩:=hr
 go_enter func6,ntmps6
 go_wp2_with fail
 have hb0:Below w.heap.size w (((w.alloc (.cells #[.slice a0 x.af.length c0,.slice a1 x.aa.ab.length c1,.slice a2 x.aa.ag.length c2,.int .i64 x.aq,.slice a4 x.ai.length c4,.int .i64 x.ar,.slice a6 x.aj.length c6,.bool x.au] 28)).alloc (.cells #[.slice none 0 0,.slice none 0 0,.slice none 0 0,.int .i64 0,.slice none 0 0,.int .i64 0,.slice none 0 0,.bool false] 39)).alloc (.cells #[.slice none 0 0,.slice none 0 0,.slice none 0 0,.int .i64 0,.slice none 0 0,.int .i64 0,.slice none 0 0,.bool false] 39)):=(((Below.refl _ _).alloc (Nat.le_refl _) _).alloc (by simp) _).alloc (by simp;omega) _;have hA0:(((w.alloc (.cells #[.slice a0 x.af.length c0,.slice a1 x.aa.ab.length c1,.slice a2 x.aa.ag.length c2,.int .i64 x.aq,.slice a4 x.ai.length c4,.int .i64 x.ar,.slice a6 x.aj.length c6,.bool x.au] 28)).alloc (.cells #[.slice none 0 0,.slice none 0 0,.slice none 0 0,.int .i64 0,.slice none 0 0,.int .i64 0,.slice none 0 0,.bool false] 39)).alloc (.cells #[.slice none 0 0,.slice none 0 0,.slice none 0 0,.int .i64 0,.slice none 0 0,.int .i64 0,.slice none 0 0,.bool false] 39)).heap[w.heap.size]? = some (.cells #[.slice a0 x.af.length c0,.slice a1 x.aa.ab.length c1,.slice a2 x.aa.ag.length c2,.int .i64 x.aq,.slice a4 x.ai.length c4,.int .i64 x.ar,.slice a6 x.aj.length c6,.bool x.au] 28 (0,0)):=Xp (Xp (ZY w _ _ rfl) _) _;have hR0:(((w.alloc (.cells #[.slice a0 x.af.length c0,.slice a1 x.aa.ab.length c1,.slice a2 x.aa.ag.length c2,.int .i64 x.aq,.slice a4 x.ai.length c4,.int .i64 x.ar,.slice a6 x.aj.length c6,.bool x.au] 28)).alloc (.cells #[.slice none 0 0,.slice none 0 0,.slice none 0 0,.int .i64 0,.slice none 0 0,.int .i64 0,.slice none 0 0,.bool false] 39)).alloc (.cells #[.slice none 0 0,.slice none 0 0,.slice none 0 0,.int .i64 0,.slice none 0 0,.int .i64 0,.slice none 0 0,.bool false] 39)).heap[w.heap.size+1]? = some (.cells #[.slice none 0 0,.slice none 0 0,.slice none 0 0,.int .i64 0,.slice none 0 0,.int .i64 0,.slice none 0 0,.bool false] 39 (0,0)):=Xp (ZY _ _ (w.heap.size+1) (by simp)) _;have hO0:(((w.alloc (.cells #[.slice a0 x.af.length c0,.slice a1 x.aa.ab.length c1,.slice a2 x.aa.ag.length c2,.int .i64 x.aq,.slice a4 x.ai.length c4,.int .i64 x.ar,.slice a6 x.aj.length c6,.bool x.au] 28)).alloc (.cells #[.slice none 0 0,.slice none 0 0,.slice none 0 0,.int .i64 0,.slice none 0 0,.int .i64 0,.slice none 0 0,.bool false] 39)).alloc (.cells #[.slice none 0 0,.slice none 0 0,.slice none 0 0,.int .i64 0,.slice none 0 0,.int .i64 0,.slice none 0 0,.bool false] 39)).heap[w.heap.size+1+1]? = some (.cells #[.slice none 0 0,.slice none 0 0,.slice none 0 0,.int .i64 0,.slice none 0 0,.int .i64 0,.slice none 0 0,.bool false] 39 (0,0)):=ZY _ _ (w.heap.size+1+1) (by simp);have hz0:w.heap.size+1+1<(((w.alloc (.cells #[.slice a0 x.af.length c0,.slice a1 x.aa.ab.length c1,.slice a2 x.aa.ag.length c2,.int .i64 x.aq,.slice a4 x.ai.length c4,.int .i64 x.ar,.slice a6 x.aj.length c6,.bool x.au] 28)).alloc (.cells #[.slice none 0 0,.slice none 0 0,.slice none 0 0,.int .i64 0,.slice none 0 0,.int .i64 0,.slice none 0 0,.bool false] 39)).alloc (.cells #[.slice none 0 0,.slice none 0 0,.slice none 0 0,.int .i64 0,.slice none 0 0,.int .i64 0,.slice none 0 0,.bool false] 39)).heap.size:=Xt hO0;refine (ZfT _ _ _ x.af _ hf.f0 (r0.below hb0)).mono ?_;rintro e w1 ⟨rfl,on0,b1⟩;have ro0:RowO Zt 1 9 w1 _ w1.heap.size _ x.af:=RowO.mk on0 (fun g hg=>(on0.lt g hg).2)
 try simp only [XJ] at ro0
 try simp only [Jz] at ro0
 clear on0;have hbW:=hb0;have hb1:=hbW.trans (b1.mono hbW.size);have hA1:w1.heap[w.heap.size]? = some (.cells #[.slice a0 x.af.length c0,.slice a1 x.aa.ab.length c1,.slice a2 x.aa.ag.length c2,.int .i64 x.aq,.slice a4 x.ai.length c4,.int .i64 x.ar,.slice a6 x.aj.length c6,.bool x.au] 28 (0,0)):=Ze hA0 b1 (Nat.le_refl _);have hR1:w1.heap[w.heap.size+1]? = some (.cells #[.slice none 0 0,.slice none 0 0,.slice none 0 0,.int .i64 0,.slice none 0 0,.int .i64 0,.slice none 0 0,.bool false] 39 (0,0)):=Ze hR0 b1 (Nat.le_refl _);have hO1:w1.heap[w.heap.size+1+1]? = some (.cells #[.slice none 0 0,.slice none 0 0,.slice none 0 0,.int .i64 0,.slice none 0 0,.int .i64 0,.slice none 0 0,.bool false] 39 (0,0)):=Ze hO0 b1 (Nat.le_refl _);have hz1:w.heap.size+1+1<w1.heap.size:=Xt hO1;have hs1:=b1.size
 try simp only [XJ] at hs1
 try simp only [Jz] at hs1
 clear b1 hbW hA0 hR0 hO0;have pa1:w1.cell? ⟨w.heap.size,1,none⟩=some (.slice a1 x.aa.ab.length c1):=Zc hA1 1;have pa2:w1.cell? ⟨w.heap.size,2,none⟩=some (.slice a2 x.aa.ag.length c2):=Zc hA1 2;have po0:w1.cell? ⟨w.heap.size+1+1,0,none⟩=some (.slice none 0 0):=Zc hO1 0;have pf0:=ZE hO1 0
 go_wp2_with fail
 refine (ZhB _ x.aa _ ⟨hf.f1,hf.f2⟩ ⟨_,_,_,_,rfl,r1.below (hb1.setCell (p:=⟨w.heap.size+1+1,0,none⟩) (by simp;try omega) (.slice (some ⟨w.heap.size+1+1+1,0,none⟩) x.af.length x.af.length)),r2.below (hb1.setCell (p:=⟨w.heap.size+1+1,0,none⟩) (by simp;try omega) (.slice (some ⟨w.heap.size+1+1+1,0,none⟩) x.af.length x.af.length))⟩).mono ?_;rintro e w2 ⟨v2,rfl,ow2,b2⟩;obtain ⟨x1,y1,x2,y2,rfl,ro1,ro2,ap1_2⟩:=ow2
 try simp only [XJ,Jz] at ro1 ro2
 have hbW:=(hb1.setCell (p:=⟨w.heap.size+1+1,0,none⟩) (by simp;try omega) (.slice (some ⟨w.heap.size+1+1+1,0,none⟩) x.af.length x.af.length));have hb2:=hbW.trans (b2.mono hbW.size);have hA2:w2.heap[w.heap.size]? = some (.cells #[.slice a0 x.af.length c0,.slice a1 x.aa.ab.length c1,.slice a2 x.aa.ag.length c2,.int .i64 x.aq,.slice a4 x.ai.length c4,.int .i64 x.ar,.slice a6 x.aj.length c6,.bool x.au] 28 (0,0)):=Ze (ZK hA1 (p:=⟨w.heap.size+1+1,0,none⟩) (by simp;try omega) _) b2 (Nat.le_refl _);have hR2:w2.heap[w.heap.size+1]? = some (.cells #[.slice none 0 0,.slice none 0 0,.slice none 0 0,.int .i64 0,.slice none 0 0,.int .i64 0,.slice none 0 0,.bool false] 39 (0,0)):=Ze (ZK hR1 (p:=⟨w.heap.size+1+1,0,none⟩) (by simp;try omega) _) b2 (Nat.le_refl _);have hO2:w2.heap[w.heap.size+1+1]? = some (.cells #[.slice (some ⟨w.heap.size+1+1+1,0,none⟩) x.af.length x.af.length,.slice none 0 0,.slice none 0 0,.int .i64 0,.slice none 0 0,.int .i64 0,.slice none 0 0,.bool false] 39 (0,0)):=Ze (Ut hO1 (i:=0) _) b2 (Nat.le_refl _);have hz2:w.heap.size+1+1<w2.heap.size:=Xt hO2;have ro0:=RowO.below (ro0.set (p:=⟨w.heap.size+1+1,0,none⟩) (by simp;try omega) (.slice (some ⟨w.heap.size+1+1+1,0,none⟩) x.af.length x.af.length)) b2 (Nat.le_refl _);have hs2:=b2.size
 try simp only [XJ] at hs2
 try simp only [Jz] at hs2
 clear b2 hbW hA1 hR1 hO1;clear pa1 pa2 po0 pf0;have pa3:w2.cell? ⟨w.heap.size,3,none⟩=some (.int .i64 x.aq):=Zc hA2 3;have pa4:w2.cell? ⟨w.heap.size,4,none⟩=some (.slice a4 x.ai.length c4):=Zc hA2 4;have po1:w2.cell? ⟨w.heap.size+1+1,1,none⟩=some (.slice none 0 0):=Zc hO2 1;have pf1:=ZE hO2 1;have po2:w2.cell? ⟨w.heap.size+1+1,2,none⟩=some (.slice none 0 0):=Zc hO2 2;have pf2:=ZE hO2 2;have po3:w2.cell? ⟨w.heap.size+1+1,3,none⟩=some (.int .i64 0):=Zc hO2 3;have pf3:=ZE hO2 3
 go_wp2_with fail
 refine (Zes _ _ _ x.ai _ hf.f4 (r4.below (((hb2.setCell (p:=⟨w.heap.size+1+1,1,none⟩) (by simp;try omega) (.slice x1 x.aa.ab.length y1)).setCell (p:=⟨w.heap.size+1+1,2,none⟩) (by simp;try omega) (.slice x2 x.aa.ag.length y2)).setCell (p:=⟨w.heap.size+1+1,3,none⟩) (by simp;try omega) (.int .i64 x.aq)))).mono ?_;rintro e w3 ⟨rfl,on4,b3⟩;have ro4:RowO PtrD.cells 5 40 w3 _ w3.heap.size _ x.ai:=RowO.mk on4 (fun g hg=>(on4.lt g hg).2)
 try simp only [XJ] at ro4
 try simp only [Jz] at ro4
 clear on4;have hbW:=(((hb2.setCell (p:=⟨w.heap.size+1+1,1,none⟩) (by simp;try omega) (.slice x1 x.aa.ab.length y1)).setCell (p:=⟨w.heap.size+1+1,2,none⟩) (by simp;try omega) (.slice x2 x.aa.ag.length y2)).setCell (p:=⟨w.heap.size+1+1,3,none⟩) (by simp;try omega) (.int .i64 x.aq));have hb3:=hbW.trans (b3.mono hbW.size);have hA3:w3.heap[w.heap.size]? = some (.cells #[.slice a0 x.af.length c0,.slice a1 x.aa.ab.length c1,.slice a2 x.aa.ag.length c2,.int .i64 x.aq,.slice a4 x.ai.length c4,.int .i64 x.ar,.slice a6 x.aj.length c6,.bool x.au] 28 (0,0)):=Ze (ZK (ZK (ZK hA2 (p:=⟨w.heap.size+1+1,1,none⟩) (by simp;try omega) _) (p:=⟨w.heap.size+1+1,2,none⟩) (by simp;try omega) _) (p:=⟨w.heap.size+1+1,3,none⟩) (by simp;try omega) _) b3 (Nat.le_refl _);have hR3:w3.heap[w.heap.size+1]? = some (.cells #[.slice none 0 0,.slice none 0 0,.slice none 0 0,.int .i64 0,.slice none 0 0,.int .i64 0,.slice none 0 0,.bool false] 39 (0,0)):=Ze (ZK (ZK (ZK hR2 (p:=⟨w.heap.size+1+1,1,none⟩) (by simp;try omega) _) (p:=⟨w.heap.size+1+1,2,none⟩) (by simp;try omega) _) (p:=⟨w.heap.size+1+1,3,none⟩) (by simp;try omega) _) b3 (Nat.le_refl _);have hO3:w3.heap[w.heap.size+1+1]? = some (.cells #[.slice (some ⟨w.heap.size+1+1+1,0,none⟩) x.af.length x.af.length,.slice x1 x.aa.ab.length y1,.slice x2 x.aa.ag.length y2,.int .i64 x.aq,.slice none 0 0,.int .i64 0,.slice none 0 0,.bool false] 39 (0,0)):=Ze (Ut (Ut (Ut hO2 (i:=1) _) (i:=2) _) (i:=3) _) b3 (Nat.le_refl _);have hz3:w.heap.size+1+1<w3.heap.size:=Xt hO3;have ro0:=RowO.below (((ro0.set (p:=⟨w.heap.size+1+1,1,none⟩) (by simp;try omega) (.slice x1 x.aa.ab.length y1)).set (p:=⟨w.heap.size+1+1,2,none⟩) (by simp;try omega) (.slice x2 x.aa.ag.length y2)).set (p:=⟨w.heap.size+1+1,3,none⟩) (by simp;try omega) (.int .i64 x.aq)) b3 (Nat.le_refl _);have ro1:=RowO.below (((ro1.set (p:=⟨w.heap.size+1+1,1,none⟩) (by simp;try omega) (.slice x1 x.aa.ab.length y1)).set (p:=⟨w.heap.size+1+1,2,none⟩) (by simp;try omega) (.slice x2 x.aa.ag.length y2)).set (p:=⟨w.heap.size+1+1,3,none⟩) (by simp;try omega) (.int .i64 x.aq)) b3 (Nat.le_refl _);have ro2:=RowO.below (((ro2.set (p:=⟨w.heap.size+1+1,1,none⟩) (by simp;try omega) (.slice x1 x.aa.ab.length y1)).set (p:=⟨w.heap.size+1+1,2,none⟩) (by simp;try omega) (.slice x2 x.aa.ag.length y2)).set (p:=⟨w.heap.size+1+1,3,none⟩) (by simp;try omega) (.int .i64 x.aq)) b3 (Nat.le_refl _);have hs3:=b3.size
 try simp only [XJ] at hs3
 try simp only [Jz] at hs3
 clear b3 hbW hA2 hR2 hO2;clear pa3 pa4 po1 pf1 po2 pf2 po3 pf3;have pa5:w3.cell? ⟨w.heap.size,5,none⟩=some (.int .i64 x.ar):=Zc hA3 5;have pa6:w3.cell? ⟨w.heap.size,6,none⟩=some (.slice a6 x.aj.length c6):=Zc hA3 6;have po4:w3.cell? ⟨w.heap.size+1+1,4,none⟩=some (.slice none 0 0):=Zc hO3 4;have pf4:=ZE hO3 4;have po5:w3.cell? ⟨w.heap.size+1+1,5,none⟩=some (.int .i64 0):=Zc hO3 5;have pf5:=ZE hO3 5
 go_wp2_with fail
 refine (Zes _ _ _ x.aj _ hf.f6 (r6.below ((hb3.setCell (p:=⟨w.heap.size+1+1,4,none⟩) (by simp;try omega) (.slice (some ⟨w2.heap.size,0,none⟩) x.ai.length x.ai.length)).setCell (p:=⟨w.heap.size+1+1,5,none⟩) (by simp;try omega) (.int .i64 x.ar)))).mono ?_;rintro e w4 ⟨rfl,on6,b4⟩;have ro6:RowO PtrD.cells 5 40 w4 _ w4.heap.size _ x.aj:=RowO.mk on6 (fun g hg=>(on6.lt g hg).2)
 try simp only [XJ] at ro6
 try simp only [Jz] at ro6
 clear on6;have hbW:=((hb3.setCell (p:=⟨w.heap.size+1+1,4,none⟩) (by simp;try omega) (.slice (some ⟨w2.heap.size,0,none⟩) x.ai.length x.ai.length)).setCell (p:=⟨w.heap.size+1+1,5,none⟩) (by simp;try omega) (.int .i64 x.ar));have hb4:=hbW.trans (b4.mono hbW.size);have hA4:w4.heap[w.heap.size]? = some (.cells #[.slice a0 x.af.length c0,.slice a1 x.aa.ab.length c1,.slice a2 x.aa.ag.length c2,.int .i64 x.aq,.slice a4 x.ai.length c4,.int .i64 x.ar,.slice a6 x.aj.length c6,.bool x.au] 28 (0,0)):=Ze (ZK (ZK hA3 (p:=⟨w.heap.size+1+1,4,none⟩) (by simp;try omega) _) (p:=⟨w.heap.size+1+1,5,none⟩) (by simp;try omega) _) b4 (Nat.le_refl _);have hR4:w4.heap[w.heap.size+1]? = some (.cells #[.slice none 0 0,.slice none 0 0,.slice none 0 0,.int .i64 0,.slice none 0 0,.int .i64 0,.slice none 0 0,.bool false] 39 (0,0)):=Ze (ZK (ZK hR3 (p:=⟨w.heap.size+1+1,4,none⟩) (by simp;try omega) _) (p:=⟨w.heap.size+1+1,5,none⟩) (by simp;try omega) _) b4 (Nat.le_refl _);have hO4:w4.heap[w.heap.size+1+1]? = some (.cells #[.slice (some ⟨w.heap.size+1+1+1,0,none⟩) x.af.length x.af.length,.slice x1 x.aa.ab.length y1,.slice x2 x.aa.ag.length y2,.int .i64 x.aq,.slice (some ⟨w2.heap.size,0,none⟩) x.ai.length x.ai.length,.int .i64 x.ar,.slice none 0 0,.bool false] 39 (0,0)):=Ze (Ut (Ut hO3 (i:=4) _) (i:=5) _) b4 (Nat.le_refl _);have hz4:w.heap.size+1+1<w4.heap.size:=Xt hO4;have ro0:=RowO.below ((ro0.set (p:=⟨w.heap.size+1+1,4,none⟩) (by simp;try omega) (.slice (some ⟨w2.heap.size,0,none⟩) x.ai.length x.ai.length)).set (p:=⟨w.heap.size+1+1,5,none⟩) (by simp;try omega) (.int .i64 x.ar)) b4 (Nat.le_refl _);have ro1:=RowO.below ((ro1.set (p:=⟨w.heap.size+1+1,4,none⟩) (by simp;try omega) (.slice (some ⟨w2.heap.size,0,none⟩) x.ai.length x.ai.length)).set (p:=⟨w.heap.size+1+1,5,none⟩) (by simp;try omega) (.int .i64 x.ar)) b4 (Nat.le_refl _);have ro2:=RowO.below ((ro2.set (p:=⟨w.heap.size+1+1,4,none⟩) (by simp;try omega) (.slice (some ⟨w2.heap.size,0,none⟩) x.ai.length x.ai.length)).set (p:=⟨w.heap.size+1+1,5,none⟩) (by simp;try omega) (.int .i64 x.ar)) b4 (Nat.le_refl _);have ro4:=RowO.below ((ro4.set (p:=⟨w.heap.size+1+1,4,none⟩) (by simp;try omega) (.slice (some ⟨w2.heap.size,0,none⟩) x.ai.length x.ai.length)).set (p:=⟨w.heap.size+1+1,5,none⟩) (by simp;try omega) (.int .i64 x.ar)) b4 (Nat.le_refl _);have hs4:=b4.size
 try simp only [XJ] at hs4
 try simp only [Jz] at hs4
 clear b4 hbW hA3 hR3 hO3;clear pa5 pa6 po4 pf4 po5 pf5;have pa7:w4.cell? ⟨w.heap.size,7,none⟩=some (.bool x.au):=Zc hA4 7;have po0:w4.cell? ⟨w.heap.size+1+1,0,none⟩=some (.slice (some ⟨w.heap.size+1+1+1,0,none⟩) x.af.length x.af.length):=Zc hO4 0;have pf0:=ZE hO4 0;have po1:w4.cell? ⟨w.heap.size+1+1,1,none⟩=some (.slice x1 x.aa.ab.length y1):=Zc hO4 1;have pf1:=ZE hO4 1;have po2:w4.cell? ⟨w.heap.size+1+1,2,none⟩=some (.slice x2 x.aa.ag.length y2):=Zc hO4 2;have pf2:=ZE hO4 2;have po3:w4.cell? ⟨w.heap.size+1+1,3,none⟩=some (.int .i64 x.aq):=Zc hO4 3;have pf3:=ZE hO4 3;have po4:w4.cell? ⟨w.heap.size+1+1,4,none⟩=some (.slice (some ⟨w2.heap.size,0,none⟩) x.ai.length x.ai.length):=Zc hO4 4;have pf4:=ZE hO4 4;have po5:w4.cell? ⟨w.heap.size+1+1,5,none⟩=some (.int .i64 x.ar):=Zc hO4 5;have pf5:=ZE hO4 5;have po6:w4.cell? ⟨w.heap.size+1+1,6,none⟩=some (.slice none 0 0):=Zc hO4 6;have pf6:=ZE hO4 6;have po7:w4.cell? ⟨w.heap.size+1+1,7,none⟩=some (.bool false):=Zc hO4 7;have pf7:=ZE hO4 7;have pr0:w4.cell? ⟨w.heap.size+1,0,none⟩=some (.slice none 0 0):=Zc hR4 0;have pg0:=ZE hR4 0;have pr1:w4.cell? ⟨w.heap.size+1,1,none⟩=some (.slice none 0 0):=Zc hR4 1;have pg1:=ZE hR4 1;have pr2:w4.cell? ⟨w.heap.size+1,2,none⟩=some (.slice none 0 0):=Zc hR4 2;have pg2:=ZE hR4 2;have pr3:w4.cell? ⟨w.heap.size+1,3,none⟩=some (.int .i64 0):=Zc hR4 3;have pg3:=ZE hR4 3;have pr4:w4.cell? ⟨w.heap.size+1,4,none⟩=some (.slice none 0 0):=Zc hR4 4;have pg4:=ZE hR4 4;have pr5:w4.cell? ⟨w.heap.size+1,5,none⟩=some (.int .i64 0):=Zc hR4 5;have pg5:=ZE hR4 5;have pr6:w4.cell? ⟨w.heap.size+1,6,none⟩=some (.slice none 0 0):=Zc hR4 6;have pg6:=ZE hR4 6;have pr7:w4.cell? ⟨w.heap.size+1,7,none⟩=some (.bool false):=Zc hR4 7;have pg7:=ZE hR4 7
 go_wp2
 refine bodyPost_ret (v:=.agg #[.slice (some ⟨w.heap.size+1+1+1,0,none⟩) x.af.length x.af.length,.slice x1 x.aa.ab.length y1,.slice x2 x.aa.ag.length y2,.int .i64 x.aq,.slice (some ⟨w2.heap.size,0,none⟩) x.ai.length x.ai.length,.int .i64 x.ar,.slice (some ⟨w3.heap.size,0,none⟩) x.aj.length x.aj.length,.bool x.au]) (by simp [results,results6,go_sem,pr0,pr1,pr2,pr3,pr4,pr5,pr6,pr7]) rfl ?_;refine ⟨_,rfl,⟨_,_,_,_,_,_,_,_,_,_,rfl,?q0,?q1,?q2,?q4,?q6,?q0_1,?q0_2,?q0_4,?q0_6,?q1_2,?q1_4,?q1_6,?q2_4,?q2_6,?q4_6⟩,?_⟩
 case q0 =>
  refine RowO.mono ((((((((((ro0.set ?_ _).set ?_ _).set ?_ _).set ?_ _).set ?_ _).set ?_ _).set ?_ _).set ?_ _).set ?_ _).set ?_ _) ?_ ?_
  all_goals (first|omega|(simp;done)|(simp;omega))
 case q1 =>
  refine RowO.mono ((((((((((ro1.set ?_ _).set ?_ _).set ?_ _).set ?_ _).set ?_ _).set ?_ _).set ?_ _).set ?_ _).set ?_ _).set ?_ _) ?_ ?_
  all_goals (first|omega|(simp;done)|(simp;omega))
 case q2 =>
  refine RowO.mono ((((((((((ro2.set ?_ _).set ?_ _).set ?_ _).set ?_ _).set ?_ _).set ?_ _).set ?_ _).set ?_ _).set ?_ _).set ?_ _) ?_ ?_
  all_goals (first|omega|(simp;done)|(simp;omega))
 case q4 =>
  refine RowO.mono ((((((((((ro4.set ?_ _).set ?_ _).set ?_ _).set ?_ _).set ?_ _).set ?_ _).set ?_ _).set ?_ _).set ?_ _).set ?_ _) ?_ ?_
  all_goals (first|omega|(simp;done)|(simp;omega))
 case q6 =>
  refine RowO.mono ((((((((((ro6.set ?_ _).set ?_ _).set ?_ _).set ?_ _).set ?_ _).set ?_ _).set ?_ _).set ?_ _).set ?_ _).set ?_ _) ?_ ?_
  all_goals (first|omega|(simp;done)|(simp;omega))
 case q0_1=>exact YD.of_lt (m:=w1.heap.size) (fun g hg=>(ro0.lt g hg).2.1) (fun g hg=>by have:=(ro1.lt g hg).1;first|exact this|omega|(simp at this;omega))
 case q0_2=>exact YD.of_lt (m:=w1.heap.size) (fun g hg=>(ro0.lt g hg).2.1) (fun g hg=>by have:=(ro2.lt g hg).1;first|exact this|omega|(simp at this;omega))
 case q0_4=>exact YD.of_lt (m:=w1.heap.size) (fun g hg=>(ro0.lt g hg).2.1) (fun g hg=>by have:=(ro4.lt g hg).1;first|exact this|omega|(simp at this;omega))
 case q0_6=>exact YD.of_lt (m:=w1.heap.size) (fun g hg=>(ro0.lt g hg).2.1) (fun g hg=>by have:=(ro6.lt g hg).1;first|exact this|omega|(simp at this;omega))
 case q1_2=>exact ap1_2
 case q1_4=>exact YD.of_lt (m:=w2.heap.size) (fun g hg=>(ro1.lt g hg).2.1) (fun g hg=>by have:=(ro4.lt g hg).1;first|exact this|omega|(simp at this;omega))
 case q1_6=>exact YD.of_lt (m:=w2.heap.size) (fun g hg=>(ro1.lt g hg).2.1) (fun g hg=>by have:=(ro6.lt g hg).1;first|exact this|omega|(simp at this;omega))
 case q2_4=>exact YD.of_lt (m:=w2.heap.size) (fun g hg=>(ro2.lt g hg).2.1) (fun g hg=>by have:=(ro4.lt g hg).1;first|exact this|omega|(simp at this;omega))
 case q2_6=>exact YD.of_lt (m:=w2.heap.size) (fun g hg=>(ro2.lt g hg).2.1) (fun g hg=>by have:=(ro6.lt g hg).1;first|exact this|omega|(simp at this;omega))
 case q4_6=>exact YD.of_lt (m:=w3.heap.size) (fun g hg=>(ro4.lt g hg).2.1) (fun g hg=>by have:=(ro6.lt g hg).1;first|exact this|omega|(simp at this;omega))
 refine (Below.setCell (Below.setCell (Below.setCell (Below.setCell (Below.setCell (Below.setCell (Below.setCell (Below.setCell (Below.setCell (Below.setCell hb4 ?_ _) ?_ _) ?_ _) ?_ _) ?_ _) ?_ _) ?_ _) ?_ _) ?_ _) ?_ _)
 all_goals (first|omega|(simp;done)|(simp;omega))
theorem U4 (u v:Value) (x:Za) (w:World) (hf:x.Fit) (hr:Za.Reads w u x) (hs:Za.Reads w v x) :
  Calls prog 10 #[u,v] w fun e w'=>e=.returned (.bool true)∧Below w.heap.size w w':=by
 obtain ⟨a0,c0,a1,c1,a2,c2,a4,c4,a6,c6,rfl,r0,r1,r2,r4,r6⟩:=hr;obtain ⟨b0,d0,b1,d1,b2,d2,b4,d4,b6,d6,rfl,s0,s1,s2,s4,s6⟩:=hs;have hb0:Below w.heap.size w ((w.alloc (.cells #[.slice a0 x.af.length c0,.slice a1 x.aa.ab.length c1,.slice a2 x.aa.ag.length c2,.int .i64 x.aq,.slice a4 x.ai.length c4,.int .i64 x.ar,.slice a6 x.aj.length c6,.bool x.au] 39)).alloc (.cells #[.slice b0 x.af.length d0,.slice b1 x.aa.ab.length d1,.slice b2 x.aa.ag.length d2,.int .i64 x.aq,.slice b4 x.ai.length d4,.int .i64 x.ar,.slice b6 x.aj.length d6,.bool x.au] 39)):=((Below.refl _ _).alloc (Nat.le_refl _) _).alloc (by simp) _;have hA0:((w.alloc (.cells #[.slice a0 x.af.length c0,.slice a1 x.aa.ab.length c1,.slice a2 x.aa.ag.length c2,.int .i64 x.aq,.slice a4 x.ai.length c4,.int .i64 x.ar,.slice a6 x.aj.length c6,.bool x.au] 39)).alloc (.cells #[.slice b0 x.af.length d0,.slice b1 x.aa.ab.length d1,.slice b2 x.aa.ag.length d2,.int .i64 x.aq,.slice b4 x.ai.length d4,.int .i64 x.ar,.slice b6 x.aj.length d6,.bool x.au] 39)).heap[w.heap.size]? = some (.cells #[.slice a0 x.af.length c0,.slice a1 x.aa.ab.length c1,.slice a2 x.aa.ag.length c2,.int .i64 x.aq,.slice a4 x.ai.length c4,.int .i64 x.ar,.slice a6 x.aj.length c6,.bool x.au] 39 (0,0)):=Xp (ZY w _ _ rfl) _;have hB0:((w.alloc (.cells #[.slice a0 x.af.length c0,.slice a1 x.aa.ab.length c1,.slice a2 x.aa.ag.length c2,.int .i64 x.aq,.slice a4 x.ai.length c4,.int .i64 x.ar,.slice a6 x.aj.length c6,.bool x.au] 39)).alloc (.cells #[.slice b0 x.af.length d0,.slice b1 x.aa.ab.length d1,.slice b2 x.aa.ag.length d2,.int .i64 x.aq,.slice b4 x.ai.length d4,.int .i64 x.ar,.slice b6 x.aj.length d6,.bool x.au] 39)).heap[w.heap.size+1]? = some (.cells #[.slice b0 x.af.length d0,.slice b1 x.aa.ab.length d1,.slice b2 x.aa.ag.length d2,.int .i64 x.aq,.slice b4 x.ai.length d4,.int .i64 x.ar,.slice b6 x.aj.length d6,.bool x.au] 39 (0,0)):=ZY _ _ (w.heap.size+1) (by simp)
 go_enter func10,ntmps10
 go_wp2_with fail
 refine (ZfU _ _ _ _ _ x.af _ hf.f0 (r0.below hb0) (s0.below hb0)).mono ?_;rintro e w1 ⟨rfl,b1⟩;have hb1:=hb0.trans (b1.mono hb0.size);have hA1:=Ze hA0 b1 (Nat.le_refl _);have hB1:=Ze hB0 b1 (Nat.le_refl _);clear b1 hA0 hB0;have p1:w1.cell? ⟨w.heap.size,1,none⟩=some (.slice a1 x.aa.ab.length c1):=Zc hA1 1;have q1:w1.cell? ⟨w.heap.size+1,1,none⟩=some (.slice b1 x.aa.ab.length d1):=Zc hB1 1;have p2:w1.cell? ⟨w.heap.size,2,none⟩=some (.slice a2 x.aa.ag.length c2):=Zc hA1 2;have q2:w1.cell? ⟨w.heap.size+1,2,none⟩=some (.slice b2 x.aa.ag.length d2):=Zc hB1 2
 go_wp2_with fail
 refine (ZhC _ _ x.aa _ ⟨hf.f1,hf.f2⟩ ⟨_,_,_,_,rfl,r1.below hb1,r2.below hb1⟩ ⟨_,_,_,_,rfl,s1.below hb1,s2.below hb1⟩).mono ?_;rintro e w2 ⟨rfl,b2⟩;have hb2:=hb1.trans (b2.mono hb1.size);have hA2:=Ze hA1 b2 (Nat.le_refl _);have hB2:=Ze hB1 b2 (Nat.le_refl _);clear b2 hA1 hB1;clear p1 q1 p2 q2;have p3:w2.cell? ⟨w.heap.size,3,none⟩=some (.int .i64 x.aq):=Zc hA2 3;have q3:w2.cell? ⟨w.heap.size+1,3,none⟩=some (.int .i64 x.aq):=Zc hB2 3;have p4:w2.cell? ⟨w.heap.size,4,none⟩=some (.slice a4 x.ai.length c4):=Zc hA2 4;have q4:w2.cell? ⟨w.heap.size+1,4,none⟩=some (.slice b4 x.ai.length d4):=Zc hB2 4
 go_wp2_with fail
 refine (Zet _ _ _ _ _ x.ai _ hf.f4 (r4.below hb2) (s4.below hb2)).mono ?_;rintro e w3 ⟨rfl,b3⟩;have hb3:=hb2.trans (b3.mono hb2.size);have hA3:=Ze hA2 b3 (Nat.le_refl _);have hB3:=Ze hB2 b3 (Nat.le_refl _);clear b3 hA2 hB2;clear p3 q3 p4 q4;have p5:w3.cell? ⟨w.heap.size,5,none⟩=some (.int .i64 x.ar):=Zc hA3 5;have q5:w3.cell? ⟨w.heap.size+1,5,none⟩=some (.int .i64 x.ar):=Zc hB3 5;have p6:w3.cell? ⟨w.heap.size,6,none⟩=some (.slice a6 x.aj.length c6):=Zc hA3 6;have q6:w3.cell? ⟨w.heap.size+1,6,none⟩=some (.slice b6 x.aj.length d6):=Zc hB3 6
 go_wp2_with fail
 refine (Zet _ _ _ _ _ x.aj _ hf.f6 (r6.below hb3) (s6.below hb3)).mono ?_;rintro e w4 ⟨rfl,b4⟩;have hb4:=hb3.trans (b4.mono hb3.size);have hA4:=Ze hA3 b4 (Nat.le_refl _);have hB4:=Ze hB3 b4 (Nat.le_refl _);clear b4 hA3 hB3;clear p5 q5 p6 q6;have p7:w4.cell? ⟨w.heap.size,7,none⟩=some (.bool x.au):=Zc hA4 7;have q7:w4.cell? ⟨w.heap.size+1,7,none⟩=some (.bool x.au):=Zc hB4 7
 go_wp2
 go_ret
 exact ⟨rfl,hb4⟩
def cnt (ps:List PtrD) (i:Nat):Nat:=(ps.filter fun p=>p.aA == (i:Int)).length
theorem Zey (ps:List PtrD) (p:PtrD) (i:Nat):cnt (ps++[p]) i=cnt ps i+if p.aA=(i:Int) then 1 else 0:=by
 unfold cnt;rw [List.filter_append,List.length_append]
 by_cases h:p.aA=(i:Int) <;> simp [h]
theorem ZgT (ps:List PtrD) (i:Nat):cnt ps i≤ps.length:=List.length_filter_le _ _
theorem ZbL (a b:List PtrD) (i:Nat):cnt (a++b) i=cnt a i+cnt b i:=by simp [cnt,List.filter_append]
theorem Zly (ps:List PtrD) (k i:Nat):cnt (ps.take k) i≤cnt ps i:=by
 have h:=ZbL (ps.take k) (ps.drop k) i;rw [List.take_append_drop] at h;omega
def Xu (ps:List PtrD):List Value:=(List.range 64).map fun i=>.int .i64 (cnt ps i:Nat)
theorem Uu (ps:List PtrD):(Xu ps).length=64:=by simp [Xu]
theorem Qb (ps:List PtrD) (i:Nat) (h:i<64):(Xu ps)[i]? = some (.int .i64 (cnt ps i:Nat)):=by simp [Xu,h]
theorem Vp (ps:List PtrD) (p:PtrD) (a:Nat) (ha:p.aA=(a:Int)) (h:a<64):(Xu ps).set a (.int .i64 ((cnt ps a:Nat)+1))=Xu (ps++[p]):=by
 apply List.ext_getElem?
 intro i
 by_cases hi:i<64
 ·rw [Qb _ _ hi,Zey,List.getElem?_set]
  by_cases hai:a=i
  ·subst hai
   simp [Uu,h,ha]
  ·rw [if_neg hai,Qb _ _ hi,if_neg (by rw [ha];omega)]
   simp
 ·rw [List.getElem?_eq_none (by rw [List.length_set,Uu];omega),List.getElem?_eq_none (by rw [Uu];omega)]
def YZ (p:PtrD) (most:Int):Bool:=p.ok && (!p.hole && decide (p.ah≤most))
def XK (st:Za) (i:Nat):Bool:=decide ((st.af.getD i ByteArray.empty).size≤128) && (((st.af.getD i ByteArray.empty).size == 0) == (st.aa.ab.getD i 0 == 0) && decide (st.aa.ag.getD i 0≤st.aq))
def Qc (st:Za) (k:Nat):Bool:=(List.range k).all fun i=>XK st i
theorem ZdD (st:Za) (k:Nat):Qc st (k+1)=(Qc st k && XK st k):=by simp [Qc,List.range_succ]
theorem Vu {st:Za} {k m:Nat} (h:Qc st m=true) (hk:k<m):XK st k=true:=by
 simp only [Qc,List.all_eq_true] at h;exact h k (List.mem_range.2 hk)
theorem Zez {st:Za} {k m:Nat} (hk:k<m) (h:XK st k=false):Qc st m=false:=by
 cases hm:Qc st m with
 | false=>rfl
 | true=>rw [Vu hm hk] at h;cases h
def Qs (refs:List Int) (ps:List PtrD):Bool:=(List.range 64).all fun i=>decide ((cnt ps i:Int)≤refs.getD i 0)
def Za.ok (st:Za):Bool :=
 st.af.length == 64 && (st.aa.ok && (inB st.aq 1 900 && (inB st.ar 0 (st.aq - 1) && (Qc st 64 &&
  (st.ai.all (fun p=>YZ p (st.aq - 1)) && (st.aj.all (fun p=>YZ p st.ar) && Qs st.aa.ab (st.ai++st.aj)))))))
def Zam (st:Za) (j:Nat):Option PtrD:=(st.ai++st.aj)[j]?
def UK (st:Za) (j:Nat):Int:=if j<st.ai.length then st.aq - 1 else st.ar
structure Zan (st:Za) (j:Nat):Prop where
  each:∀ i p,i<j→Zam st i=some p→YZ p (UK st i)=true
  few:∀ i,i<64→0<cnt ((st.ai++st.aj).take j) i→(cnt ((st.ai++st.aj).take j) i:Int)≤st.aa.ab.getD i 0
theorem Zan.zero (st:Za):Zan st 0:=⟨fun i p h=>absurd h (Nat.not_lt_zero _),fun i hi h=>by simp [cnt] at h⟩
theorem Zck {p:PtrD} {m:Int} (h:YZ p m=true):8≤p.aA∧p.aA≤63∧p.ah≤m∧1≤p.ah∧p.ah≤900:=by
 simp only [YZ,PtrD.ok,Bool.and_eq_true,Bool.or_eq_true,Bool.not_eq_true',decide_eq_true_eq] at h;obtain ⟨h1,h2,h3⟩:=h;rw [h2] at h1;rcases h1 with h1|h1
 ·cases h1
 ·obtain ⟨⟨⟨⟨a,b⟩,_⟩,_⟩,_⟩:=h1
  have:=Zo a;have:=Zo b
  omega
theorem Zan.succ {st:Za} {j:Nat} (h:Zan st j) {p:PtrD} (hp:Zam st j=some p) (hin:YZ p (UK st j)=true) (a:Nat) (ha:p.aA=(a:Int)) (hle:((cnt ((st.ai++st.aj).take j) a+1:Nat):Int)≤st.aa.ab.getD a 0):Zan st (j+1):=by
 obtain ⟨hj,hpe⟩:=List.getElem?_eq_some_iff.1 hp;have hs:(st.ai++st.aj).take (j+1)=(st.ai++st.aj).take j++[p]:=by rw [List.take_succ_eq_append_getElem hj,hpe]
 refine ⟨fun i q hi hq=>?_,fun i hi hc=>?_⟩
 ·by_cases hij:i=j
  ·subst hij
   obtain rfl:=Option.some.inj (hp.symm.trans hq);exact hin
  ·exact h.each i q (by omega) hq
 ·rw [hs,Zey] at hc ⊢
  by_cases hai:p.aA=(i:Int)
  ·have:a=i:=by omega
   subst this;rw [if_pos hai];exact hle
  ·rw [if_neg hai] at hc ⊢
   exact h.few i hi hc
theorem Zan.all {st:Za} (h:Zan st (st.ai++st.aj).length) (hr:∀ i,i<64→0≤st.aa.ab.getD i 0) :
  (st.ai.all (fun p=>YZ p (st.aq - 1)) && (st.aj.all (fun p=>YZ p st.ar) && Qs st.aa.ab (st.ai++st.aj)))=true:=by
 rw [Bool.and_eq_true,Bool.and_eq_true];refine ⟨List.all_eq_true.2 fun p hp=>?_,List.all_eq_true.2 fun p hp=>?_,List.all_eq_true.2 fun i hi=>?_⟩
 ·obtain ⟨i,hi,hpe⟩:=List.mem_iff_getElem.1 hp
  have:=h.each i p (by rw [List.length_append];omega) (by unfold Zam;rw [List.getElem?_append_left hi,List.getElem?_eq_getElem hi,hpe])
  rwa [UK,if_pos hi] at this
 ·obtain ⟨i,hi,hpe⟩:=List.mem_iff_getElem.1 hp
  have:=h.each (st.ai.length+i) p (by rw [List.length_append];omega) (by unfold Zam;rw [List.getElem?_append_right (by omega),Nat.add_sub_cancel_left,List.getElem?_eq_getElem hi,hpe])
  rwa [UK,if_neg (by omega)] at this
 ·have hi':=List.mem_range.1 hi
  simp only [decide_eq_true_eq]
  by_cases hc:0<cnt (st.ai++st.aj) i
  ·have:=h.few i hi' (by rw [List.take_of_length_le (Nat.le_refl _)];exact hc)
   rwa [List.take_of_length_le (Nat.le_refl _)] at this
  ·have:=hr i hi'
   omega
theorem Zgc {st:Za} {j:Nat} {p:PtrD} (hp:Zam st j=some p) (hin:YZ p (UK st j)=false):st.ok=false:=by
 obtain ⟨hj,hpe⟩:=List.getElem?_eq_some_iff.1 hp;unfold Za.ok
 by_cases hg:j<st.ai.length
 ·have hm:p ∈ st.ai:=by rw [← hpe,List.getElem_append_left hg];exact List.getElem_mem _
  have:st.ai.all (fun p=>YZ p (st.aq - 1))=false:=by
   rw [List.all_eq_false];exact ⟨p,hm,by rw [UK,if_pos hg] at hin;simp [hin]⟩
  simp [this]
 ·have hlt:j - st.ai.length<st.aj.length:=by rw [List.length_append] at hj;omega
  have hm:p ∈ st.aj:=by rw [← hpe,List.getElem_append_right (by omega)];exact List.getElem_mem _
  have:st.aj.all (fun p=>YZ p st.ar)=false:=by
   rw [List.all_eq_false];exact ⟨p,hm,by rw [UK,if_neg hg] at hin;simp [hin]⟩
  simp [this]
theorem ZeA {st:Za} {j:Nat} {p:PtrD} (hp:Zam st j=some p) (a:Nat) (ha:p.aA=(a:Int)) (h64:a<64) (hlt:st.aa.ab.getD a 0<((cnt ((st.ai++st.aj).take j) a+1:Nat):Int)):st.ok=false:=by
 obtain ⟨hj,hpe⟩:=List.getElem?_eq_some_iff.1 hp;have hs:(st.ai++st.aj).take (j+1)=(st.ai++st.aj).take j++[p]:=by rw [List.take_succ_eq_append_getElem hj,hpe]
 have h1:=Zly (st.ai++st.aj) (j+1) a;rw [hs,Zey,if_pos ha] at h1;have:Qs st.aa.ab (st.ai++st.aj)=false:=by
  unfold Qs;rw [List.all_eq_false];exact ⟨a,List.mem_range.2 h64,by simp only [decide_eq_true_eq];omega⟩
 unfold Za.ok;simp [this]
structure Zny (st:Za):Prop where
  rows:st.af.length=64
  space:st.aa.ok=true
  txg:1≤st.aq∧st.aq≤900
  keep:0≤st.ar∧st.ar≤st.aq - 1
  each:Qc st 64=true
  gone:st.ai.all (fun p=>YZ p (st.aq - 1))=true
  dead:st.aj.all (fun p=>YZ p st.ar)=true
  owed:Qs st.aa.ab (st.ai++st.aj)=true
theorem Za.ok_spec {st:Za} (h:st.ok=true):Zny st:=by
 simp only [Za.ok,Bool.and_eq_true,beq_iff_eq] at h;obtain ⟨h1,h2,h3,h4,h5,h6,h7,h8⟩:=h;exact ⟨h1,h2,Zo h3,Zo h4,h5,h6,h7,h8⟩
structure Zkr (s:Zp):Prop where
  refs:s.ab.length=64
  last:s.ag.length=64
  each:∀ i,i<64→0≤s.ab.getD i 0∧s.ab.getD i 0≤s.ag.getD i 0∧s.ag.getD i 0≤900∧(s.ab.getD i 0=0→s.ag.getD i 0=0)∧(i<8→s.ab.getD i 0=0)
theorem Zp.ok_spec {s:Zp} (h:s.ok=true):Zkr s:=by
 simp only [Zp.ok,Bool.and_eq_true,beq_iff_eq] at h;obtain ⟨⟨h1,h2⟩,h3⟩:=h;refine ⟨h1,h2,fun i hi=>?_⟩;have h4:=Zgb h3 hi;rw [Za9 hi] at h4;simp only [Qq,Bool.and_eq_true,Bool.or_eq_true,decide_eq_true_eq,bne_iff_ne,beq_iff_eq,Bool.not_eq_true',decide_eq_false_iff_not] at h4;obtain ⟨h5,h6,h7,h8⟩:=h4;have:=Zo h5;have:=Zo h6;refine ⟨by omega,by omega,by omega,fun h0=>?_,fun h0=>?_⟩
 ·rcases h7 with h7|h7
  ·exact absurd h0 h7
  ·exact h7
 ·rcases h8 with h8|h8
  ·omega
  ·omega
theorem Zgd (ps:List PtrD):(madeCells (Value.int .i64 0).cells (64*1)).toList=Xu (ps.take 0):=by
 show (madeCells #[Value.int .i64 0] 64).toList=_;rw [toList_madeCells_one]
 apply List.ext_getElem?
 intro i
 by_cases hi:i<64
 ·rw [Qb _ _ hi,List.getElem?_replicate,if_pos hi];simp [cnt]
 ·rw [List.getElem?_eq_none (by rw [List.length_replicate];omega),List.getElem?_eq_none (by rw [Uu];omega)]
structure Bx (p:Prop):Type where
  out:p
theorem Bx.o {p:Prop} (h:Bx p):p:=h.out
theorem Zlz (b off j:Nat):(⟨b,off,none⟩:Addr).add j=⟨b,off+j,none⟩:=by unfold Addr.add;split <;> simp_all
theorem Rd.news {α:Type} {enc:α→List Value} {size:Nat} (he:∀ x,(enc x).length=size) (hs:0<size) {w:World} {a:Addr} {n:Nat} {xs:List α} (h:Rd enc size w (some a) n xs) :
  ∀ j u,(xs.flatMap enc)[j]? = some u→w.cell? (a.add j)=some u:=by
 intro j u hu;have hj:=(List.getElem?_eq_some_iff.1 hu).1;rw [XT enc size he] at hj;have hi:j / size<xs.length:=(Nat.div_lt_iff_lt_mul hs).2 hj;obtain ⟨b,off,x,hx,e,_,hr⟩:=h.at_ (j / size) hi;obtain rfl:=Option.some.inj e;have hm:=Nat.div_add_mod j size;have hlt:=Nat.mod_lt j hs;rw [Zlz];have hd:(xs.flatMap enc)[j / size*size+j % size]? = some u:=by rw [Nat.mul_comm,hm];exact hu
 rw [← List.getElem?_drop,Zc7 enc size he,List.drop_eq_getElem_cons hi,List.flatMap_cons,List.getElem?_append_left (by rw [he];exact hlt)] at hd;have hxe:xs[j / size]=x:=by rw [List.getElem?_eq_getElem hi] at hx;exact Option.some.inj hx
 rw [hxe] at hd;have:=hr (j % size) u hd;rw [Nat.add_assoc,Nat.mul_comm (j / size),hm] at this;exact this
theorem ZeB {α:Type} {enc:α→List Value} {size:Nat} {w:World} {n:Nat} {xs:List α} (h:Rd enc size w none n xs):xs=[]:=by
 cases xs with
 | nil=>rfl
 | cons x r =>
  obtain ⟨_,_,_,_,e,_⟩:=h.at_ 0 (by simp)
  cases e
theorem Zc8 (w:World) (e:TypeId) (size:Nat):(w.alloc (.cells #[] e)).ownsRow w.heap.size e size (.slice (some ⟨w.heap.size,0,none⟩) 0 0) 0 [] :=
 ⟨by simp,.inr ⟨w.heap.size,0,#[],rfl,Nat.le_refl _,ZY w _ _ rfl,Nat.le_refl _,Nat.zero_le _,by simp,by simp⟩⟩
theorem U5 (xs:List Int):∀ u ∈ xs.flatMap Zu,u.oneCell'=true:=by
 intro u hu;obtain ⟨x,_,hx⟩:=List.mem_flatMap.1 hu;simp only [Zu,List.mem_singleton] at hx;subst hx;rfl
theorem Zy (xs:List ByteArray):∀ u ∈ xs.flatMap Zt,u.oneCell'=true:=by
 intro u hu;obtain ⟨x,_,hx⟩:=List.mem_flatMap.1 hu;simp only [Zt,List.mem_singleton] at hx;subst hx;rfl
theorem ZhE (xs:List PtrD):∀ u ∈ xs.flatMap PtrD.cells,u.oneCell'=true:=by
 intro u hu;obtain ⟨x,_,hx⟩:=List.mem_flatMap.1 hu;simp only [PtrD.cells,List.mem_cons,List.not_mem_nil,or_false] at hx;rcases hx with rfl|rfl|rfl|rfl|rfl <;> rfl
theorem ZeC (ao:Option Addr) (cap:Nat) (xs:List Int) (w:World) (hlen:xs.length≤1048576) (hr:Rd Zu 1 w ao xs.length xs) :
  Calls prog 122 #[.slice ao xs.length cap] w fun e w'=>(∃ ao' cap',e=.returned (.slice ao' xs.length cap')∧RowO Zu 1 3 w' w.heap.size w'.heap.size (.slice ao' xs.length cap') xs)∧Below w.heap.size w w':=by
 have hb1:Below w.heap.size w (w.alloc (.cells #[] 3)):=(Below.refl _ _).alloc (Nat.le_refl _) _;have H1:=Bx.mk hb1;have HN:=Bx.mk (hr.below hb1);clear hb1
 cases ao with
 | none =>
  obtain rfl:=ZeB hr;clear hr;have hq:=fun (w:World)=>run_eql_slice_nil (P:=prog) w 23 3 none 0 cap Tryz.underlying23
  go_enter func122,ntmps122
  go_wp2
  go_ret
  exact ⟨⟨_,_,rfl,RowO.empty _ _ _ _ _ _ _⟩,Below.refl _ _⟩
 | some a =>
  obtain ⟨i0,hi,hz0,hz1,hz2⟩:=info_parts Tryz.infoIntS;clear hr;have hq:=fun (w:World)=>run_eql_slice_nil (P:=prog) w 23 3 (some a) xs.length cap Tryz.underlying23
  go_enter func122,ntmps122
  go_wp2_with (at_builtin;refine wpList_append_own _ rfl (.tmp 5) (.tmp 6) 23 rfl w.heap.size 3 i0 _ 1 8 Tryz.underlying23 hi hz0 hz1 hz2 rfl (by decide) _ 0 [] rfl (Zc8 w 3 1) a xs.length cap (xs.flatMap Zu) rfl (XT _ _ encI_len xs) (HN.out.news encI_len (by decide)) (U5 xs) ?b1 ?b2 ?b3 ?_)
  case b1=>unfold maxLen;omega
  case b2=>omega
  case b3=>simp
  intro v w2 hown hg _;obtain ⟨ao',cap',rfl,_⟩:=Yq hown
  go_wp2
  go_ret
  exact ⟨⟨_,_,rfl,RowO.mk hown (fun g h=>(hown.lt g h).2)⟩,H1.out.grown hg H1.out.size (by simp [Value.ownBlock])⟩
theorem ZiS (ao:Option Addr) (cap:Nat) (xs:List ByteArray) (w:World) (hlen:xs.length≤1048576) (hr:Rd Zt 1 w ao xs.length xs) :
  Calls prog 91 #[.slice ao xs.length cap] w fun e w'=>(∃ ao' cap',e=.returned (.slice ao' xs.length cap')∧RowO Zt 1 9 w' w.heap.size w'.heap.size (.slice ao' xs.length cap') xs)∧Below w.heap.size w w':=by
 have hb1:Below w.heap.size w (w.alloc (.cells #[] 9)):=(Below.refl _ _).alloc (Nat.le_refl _) _;have H1:=Bx.mk hb1;have HN:=Bx.mk (hr.below hb1);clear hb1
 cases ao with
 | none =>
  obtain rfl:=ZeB hr;clear hr;have hq:=fun (w:World)=>run_eql_slice_nil (P:=prog) w 22 9 none 0 cap Tryz.underlying22
  go_enter func91,ntmps91
  go_wp2
  go_ret
  exact ⟨⟨_,_,rfl,RowO.empty _ _ _ _ _ _ _⟩,Below.refl _ _⟩
 | some a =>
  obtain ⟨i0,hi,hz0,hz1,hz2⟩:=info_parts Tryz.infoStringS;clear hr;have hq:=fun (w:World)=>run_eql_slice_nil (P:=prog) w 22 9 (some a) xs.length cap Tryz.underlying22
  go_enter func91,ntmps91
  go_wp2_with (at_builtin;refine wpList_append_own _ rfl (.tmp 5) (.tmp 6) 22 rfl w.heap.size 9 i0 _ 1 16 Tryz.underlying22 hi hz0 hz1 hz2 rfl (by decide) _ 0 [] rfl (Zc8 w 9 1) a xs.length cap (xs.flatMap Zt) rfl (XT _ _ encS_len xs) (HN.out.news encS_len (by decide)) (Zy xs) ?b1 ?b2 ?b3 ?_)
  case b1=>unfold maxLen;omega
  case b2=>omega
  case b3=>simp
  intro v w2 hown hg _;obtain ⟨ao',cap',rfl,_⟩:=Yq hown
  go_wp2
  go_ret
  exact ⟨⟨_,_,rfl,RowO.mk hown (fun g h=>(hown.lt g h).2)⟩,H1.out.grown hg H1.out.size (by simp [Value.ownBlock])⟩
theorem VU (ao:Option Addr) (cap:Nat) (xs:List PtrD) (w:World) (hlen:xs.length≤1048576) (hr:Rd PtrD.cells 5 w ao xs.length xs) :
  Calls prog 90 #[.slice ao xs.length cap] w fun e w'=>(∃ ao' cap',e=.returned (.slice ao' xs.length cap')∧RowO PtrD.cells 5 40 w' w.heap.size w'.heap.size (.slice ao' xs.length cap') xs)∧Below w.heap.size w w':=by
 have hb1:Below w.heap.size w (w.alloc (.cells #[] 40)):=(Below.refl _ _).alloc (Nat.le_refl _) _;have H1:=Bx.mk hb1;have HN:=Bx.mk (hr.below hb1);clear hb1
 cases ao with
 | none =>
  obtain rfl:=ZeB hr;clear hr;have hq:=fun (w:World)=>run_eql_slice_nil (P:=prog) w 37 40 none 0 cap Tryz.underlying37
  go_enter func90,ntmps90
  go_wp2
  go_ret
  exact ⟨⟨_,_,rfl,RowO.empty _ _ _ _ _ _ _⟩,Below.refl _ _⟩
 | some a =>
  obtain ⟨i0,hi,hz0,hz1,hz2⟩:=info_parts Tryz.infoPtrS;clear hr;have hq:=fun (w:World)=>run_eql_slice_nil (P:=prog) w 37 40 (some a) xs.length cap Tryz.underlying37
  go_enter func90,ntmps90
  go_wp2_with (at_builtin;refine wpList_append_own _ rfl (.tmp 5) (.tmp 6) 37 rfl w.heap.size 40 i0 _ 5 40 Tryz.underlying37 hi hz0 hz1 hz2 rfl (by decide) _ 0 [] rfl (Zc8 w 40 5) a xs.length cap (xs.flatMap PtrD.cells) rfl (XT _ _ PtrD.cells_len xs) (HN.out.news PtrD.cells_len (by decide)) (ZhE xs) ?b1 ?b2 ?b3 ?_)
  case b1=>unfold maxLen;omega
  case b2=>omega
  case b3=>simp
  intro v w2 hown hg _;obtain ⟨ao',cap',rfl,_⟩:=Yq hown
  go_wp2
  go_ret
  exact ⟨⟨_,_,rfl,RowO.mk hown (fun g h=>(hown.lt g h).2)⟩,H1.out.grown hg H1.out.size (by simp [Value.ownBlock])⟩
theorem YA.set {B B1:Nat} {w w':World} (h:YA B B1 w w') {p:Addr} (hp:B≤p.block∧p.block<B1) (u:Value):YA B B1 w (w'.setCell p u) :=
 h.trans ⟨rfl,rfl,rfl,by rw [Jz];exact Nat.le_refl _,fun k _ ho=>Below.heap_setCell w' p u k (by omega)⟩
structure Box (w:World) (b n:Nat) (t:TypeId) (v:Value):Prop where
  ex:∃ cs:List Value,v=.agg cs.toArray∧cs.length=n∧(∀ u ∈ cs,u.oneCell'=true)∧w.heap[b]? = some (.cells cs.toArray t (0,0))
structure Cells (n:Nat) (v:Value):Prop where
  ex:∃ cs:List Value,v=.agg cs.toArray∧cs.length=n∧(∀ u ∈ cs,u.oneCell'=true)
theorem Box.below {w w':World} {C b n:Nat} {t:TypeId} {v:Value} (h:Box w b n t v) (hb:Below C w w') (hC:w.heap.size≤C):Box w' b n t v:=by
 obtain ⟨cs,e,hl,h1,hh⟩:=h;exact ⟨cs,e,hl,h1,Ze hh hb hC⟩
theorem Box.new (w:World) (cs:List Value) (t:TypeId) (h1:(cs.all fun u=>u.oneCell')=true) {b:Nat} (hb:b=w.heap.size):Box (w.alloc (.cells cs.toArray t)) b cs.length t (.agg cs.toArray) :=
 ⟨cs,rfl,rfl,fun u hu=>List.all_eq_true.1 h1 u hu,ZY w _ b hb⟩
theorem Box.range {w:World} {b n:Nat} {t:TypeId} {v:Value} (h:Box w b n t v):∃ cs:List Value,v=.agg cs.toArray∧cs.length=n∧w.rangeAt b 0 cs:=by
 obtain ⟨cs,e,hl,h1,hh⟩:=h;exact ⟨cs,e,hl,fun j u hu=>by rw [Zc hh];simpa using hu⟩
theorem Box.cell {w:World} {b n:Nat} {t:TypeId} {l:Array Value} (h:Box w b n t (.agg l)) (i:Nat):w.cell? ⟨b,i,none⟩=l[i]?:=by
 obtain ⟨cs,e,hl,h1,hh⟩:=h;obtain rfl:l=cs.toArray:=by simpa using e
 exact Zc hh i
theorem Box.frozen {w:World} {b n:Nat} {t:TypeId} {v:Value} (h:Box w b n t v) (i:Nat):w.frozen? ⟨b,i,none⟩=false:=by
 obtain ⟨cs,e,hl,h1,hh⟩:=h;exact ZE hh i
theorem VV {b:Nat} {t:TypeId}:∀ (vs:List Value) (o:Nat) (w:World) (cs:List Value),w.heap[b]? = some (.cells cs.toArray t (0,0))→o+vs.length≤cs.length →
  (w.setCells b o vs).heap[b]? = some (.cells (YK cs o vs).toArray t (0,0))∧YA b (b+1) w (w.setCells b o vs)∧(w.setCells b o vs).heap.size=w.heap.size
 | [],o,w,cs,h,_=>by
  refine ⟨?_,YA.refl _ _ _,rfl⟩;have:YK cs o []=cs:=by unfold YK;simp
  rw [this];exact h
 | v::vs,o,w,cs,h,hl=>by
  simp only [List.length_cons] at hl;have h0:(w.setCell ⟨b,o,none⟩ v).heap[b]? = some (.cells (cs.set o v).toArray t (0,0)):=by
   have:=Ut (i:=o) h v
   simpa using this
  obtain ⟨h1,h2,h3⟩:=VV vs (o+1) _ (cs.set o v) h0 (by simp;omega);rw [Qy cs o v vs hl] at h1;exact ⟨h1,((YA.refl b (b+1) w).set ⟨Nat.le_refl _,Nat.lt_succ_self _⟩ v).trans h2,h3.trans (Jz _ _ _)⟩
theorem Box.put {w:World} {b n:Nat} {t:TypeId} {u v:Value} (h:Box w b n t u) (hv:Cells n v):∃ cells:Array Value,v=.agg cells∧cells.size=n∧cells.all (·.oneCell')=true∧w.there b 0 n ∧
  Box (w.setCells b 0 cells.toList) b n t v∧YA b (b+1) w (w.setCells b 0 cells.toList)∧(w.setCells b 0 cells.toList).heap.size=w.heap.size:=by
 obtain ⟨cs,rfl,hl,h1,hh⟩:=h;obtain ⟨ds,rfl,hd,g1⟩:=hv;obtain ⟨k1,k2,k3⟩:=VV ds 0 w cs hh (by omega);have hs:YK cs 0 ds=ds:=by
  unfold YK;rw [List.drop_of_length_le (by omega)]
  simp
 rw [hs] at k1;refine ⟨ds.toArray,rfl,by simpa using hd,all_oneCell_toArray g1,fun j hj=>⟨by rw [Zc hh];simp;omega,ZE hh _⟩,⟨ds,rfl,hd,g1,k1⟩,k2,k3⟩
theorem Box.putField {w:World} {b n:Nat} {t:TypeId} {l:Array Value} (h:Box w b n t (.agg l)) (i:Nat) {u:Value} (hu:u.oneCell'=true):Box (w.setCell ⟨b,i,none⟩ u) b n t (.agg (l.setIfInBounds i u)):=by
 obtain ⟨cs,e,hl,h1,hh⟩:=h;obtain rfl:l=cs.toArray:=by simpa using e
 refine ⟨cs.set i u,by simp,by simp [hl],fun x hx=>?_,by have:=Ut (i:=i) hh u;simpa using this⟩;rcases List.mem_or_eq_of_mem_set hx with h|h
 ·exact h1 x h
 ·rw [h];exact hu
section
variable {P:Program}
theorem ZdW {w:World} {b n:Nat} {t:TypeId} {v:Value} (hb:Box w b n t v) (ty:TypeId) (d:TypeDesc) (hu:P.underlying ty=some d) (hd:d.isRow=true) (hi:(P.info? ty).map (·.size)=some n):(loadVar ty ⟨b,0,none⟩).run P w=.ok v w:=by
 obtain ⟨cs,rfl,rfl,hr⟩:=hb.range;exact run_loadVar_mid w b 0 ty cs d hr hu hd hi
theorem ZeD {w:World} {b n:Nat} {t:TypeId} {v:Value} (hb:Box w b n t v) (ty:TypeId) (d:TypeDesc) (hu:P.underlying ty=some d) (hd:d.isRow=true) (hi:(P.info? ty).map (·.size)=some n):(Instr.loadAt ty (.pointer (some ⟨b,0,none⟩))).run P w=.ok v w:=by
 obtain ⟨cs,rfl,rfl,hr⟩:=hb.range;exact run_loadAt_mid w b 0 ty cs d hr hu hd hi
end
def upd (L:Nat→Bool) (i:Nat):Nat→Bool:=fun j=>if j=i then true else L j
theorem ZlA (a:Act) (d:Option Tmp) (v:Value):(a.put d v).tmps.size=a.tmps.size:=by cases d <;> simp [Act.put]
theorem ZiT (a:Act) (d:Option Tmp) (v:Value):(a.put d v).defers=a.defers:=by cases d <;> rfl
theorem Znz (a:Act) (d:Nat) (v:Value) (k:Nat) (h:k≠d):(a.put (some d) v).tmps[k]? = a.tmps[k]?:=by
 simp [Act.put,Array.getElem?_setIfInBounds,Ne.symm h]
section
variable {P:Program} {o:Oper} {a:Act} {w:World} {K:Act→World→Prop} {Q:Exit→Act→World→Prop}
theorem ZJ {P:Program} {f:FuncId} {fn:Func} {c:Code} (hf:P.funcs[f]? = some fn) (hname:(fn.name == "runtime.NumGoroutine")=false) (hb:fn.body=some c):∀ (args:Array Value) (w:World),(callFunc f args).run P w=.ok (.enter f args) w:=fun args w=>by
 have hn:¬ fn.name = "runtime.NumGoroutine" := by simpa using hname
 simp [callFunc,go_sem,hf,hn,hb]
theorem ZbM (f:FuncId) (xs:Array Operand) (ts:Array TypeId) (ho:o.op=.call { callee:=.value (.func f),args:=xs,argTypes:=ts }) (hc:∀ (args:Array Value) (w:World),(callFunc f args).run P w=.ok (.enter f args) w)
  (h:Calls P f (xs.map a.eval) w fun e w''=>∃ v,e=.returned v∧K (a.put o.dst v) w''):o.wp P a w K Q:=by
 unfold Oper.wp execOp;simp only [ho];have hr:((do let d ← resolve a.eval { callee:=.value (.func f),args:=xs,argTypes:=ts } o.type;invoke d.target d.args):Sem Next).run P w=.ok (.enter f (xs.map a.eval)) w:=by
  simp [resolve,Act.eval,go_sem,hc]
 rw [hr,Oper.upon_enter];refine h.mono fun e w'' ⟨v,he,hk⟩=>?_;subst he;exact hk
theorem ZdE (t:TypeId) (ho:o.op=.alloc t) (Z:Array Value) (hr:(Instr.alloc t true (.tuple #[])).run P w=.ok (.pointer (some ⟨w.heap.size,0,none⟩)) (w.alloc (.cells Z t))) (h:K (a.put o.dst (.pointer (some ⟨w.heap.size,0,none⟩))) (w.alloc (.cells Z t))):o.wp P a w K Q:=by
 unfold Oper.wp execOp;simp only [ho,Sem.run_bind,hr,Result.andThen_ok,Sem.run_pure];exact h
theorem Zcl (ty:TypeId) (x y:Operand) (ho:o.op=.store ty x y)
  (b n:Nat) (t:TypeId) (u v:Value) (hx:a.eval x=.pointer (some ⟨b,0,none⟩)) (hy:a.eval y=v) (hb:Box w b n t u) (hv:Cells n v)
  (hi:(P.info? ty).map (·.size)=some n)
  (h:∀ w',Box w' b n t v→YA b (b+1) w w'→w'.heap.size=w.heap.size→K (a.put o.dst undef) w'):o.wp P a w K Q:=by
 obtain ⟨cells,rfl,rfl,h1,ht,k1,k2,k3⟩:=hb.put hv;exact wp_store_mid ty x y ho b 0 cells hx hy ht hi h1 (h _ k1 k2 k3)
end
structure Asr where
  P:World→List Nat→Prop
  loc:∀ w w' f,w.heap.size≤w'.heap.size→(∀ b,b ∈ f→w'.heap[b]? = w.heap[b]?)→P w f→P w' f
def sepP:List Asr→World→List Nat→Prop
 | [],_,f=>f=[]
 | a::r,w,f=>∃ f1 f2,f=f1++f2∧a.P w f1∧sepP r w f2
theorem UL (rs:List Asr) (w w':World) (hs:w.heap.size≤w'.heap.size):∀ f:List Nat,(∀ b,b ∈ f→w'.heap[b]? = w.heap[b]?)→sepP rs w f→sepP rs w' f:=by
 induction rs with
 | nil=>exact fun _ _ h=>h
 | cons a r ih =>
  rintro f hb ⟨f1,f2,rfl,h1,h2⟩;exact ⟨f1,f2,rfl,a.loc w w' f1 hs (fun b h=>hb b (List.mem_append_left _ h)) h1,ih f2 (fun b h=>hb b (List.mem_append_right _ h)) h2⟩
theorem Xn:∀ (r s:List Asr) (w:World) (f:List Nat),sepP (r++s) w f ↔ ∃ f1 f2,f=f1++f2∧sepP r w f1∧sepP s w f2
 | [],s,w,f=>⟨fun h=>⟨[],f,rfl,rfl,h⟩,fun ⟨f1,f2,e,h1,h2⟩=>by
   have h1:f1=[]:=h1;rw [e,h1];exact h2⟩
 | a::r,s,w,f=>by
  constructor
  ·rintro ⟨f1,f2,rfl,h1,h2⟩
   obtain ⟨g1,g2,rfl,h3,h4⟩:=(Xn r s w f2).1 h2;exact ⟨f1++g1,g2,by simp,⟨f1,g1,rfl,h1,h3⟩,h4⟩
  ·rintro ⟨_,f2,rfl,⟨g1,g2,rfl,h1,h3⟩,h4⟩
   exact ⟨g1,g2++f2,by simp,h1,(Xn r s w _).2 ⟨g2,f2,rfl,h3,h4⟩⟩
theorem Zks {rs rs':List Asr} (hp:rs.Perm rs'):∀ (w:World) (f:List Nat),sepP rs w f→∃ f',f'.Perm f∧sepP rs' w f':=by
 induction hp with
 | nil=>exact fun w f h=>⟨f,List.Perm.refl _,h⟩
 | cons a _ ih =>
  rintro w _ ⟨f1,f2,rfl,h1,h2⟩;obtain ⟨g,hg,h3⟩:=ih w f2 h2;exact ⟨f1++g,hg.append_left f1,f1,g,rfl,h1,h3⟩
 | swap a b l =>
  rintro w _ ⟨f1,_,rfl,h1,⟨f2,f3,rfl,h2,h3⟩⟩;refine ⟨f2++(f1++f3),?_,f2,_,rfl,h2,f1,f3,rfl,h1,h3⟩;rw [← List.append_assoc,← List.append_assoc];exact (List.perm_append_comm).append_right f3
 | trans _ _ ih1 ih2 =>
  intro w f h;obtain ⟨g,hg,h1⟩:=ih1 w f h;obtain ⟨k,hk,h2⟩:=ih2 w g h1;exact ⟨k,hk.trans hg,h2⟩
theorem Zba {α:Type}:∀ (s:List α) (i:Nat) (h:i<s.length),s.Perm (s[i]::s.eraseIdx i)
 | _::_,0,_=>List.Perm.refl _
 | a::s,i+1,h=>((Zba s i (by simpa using h)).cons a).trans (List.Perm.swap _ _ _)
def sepA (rs:List Asr):Asr:=⟨sepP rs,fun w w' f hs=>UL rs w w' hs f⟩
def exA {α:Type} (A:α→Asr):Asr:=⟨fun w f=>∃ x,(A x).P w f,fun w w' f hs hb ⟨x,h⟩=>⟨x,(A x).loc w w' f hs hb h⟩⟩
def pureA (p:Prop):Asr:=⟨fun _ f=>p∧f=[],fun _ _ _ _ _ h=>h⟩
structure St (W:World) (rs:List Asr) (w:World):Prop where
  bel:Below W.heap.size W w
  sep:∃ f,sepP rs w f∧f.Nodup∧∀ b,b ∈ f→W.heap.size≤b∧b<w.heap.size
theorem St.start (w:World):St w [] w:=⟨Below.refl _ _,[],rfl,List.nodup_nil,fun _ h=>by cases h⟩
theorem St.later {W w w':World} {rs:List Asr} (h:St W rs w) (hb:Below w.heap.size w w'):St W rs w':=by
 obtain ⟨f,h1,h2,h3⟩:=h.sep;exact ⟨h.bel.trans (hb.mono h.bel.size),f,UL rs w w' hb.size f (fun b hm=>hb.block b (h3 b hm).2) h1,h2,fun b hm=>⟨(h3 b hm).1,Nat.lt_of_lt_of_le (h3 b hm).2 hb.size⟩⟩
theorem St.drew {W w:World} {rs:List Asr} (h:St W rs w):St W rs w.drew:=h.later (Below.refl _ _).drew
theorem St.add {W w w':World} {rs ns:List Asr} (h:St W rs w) (k:St w ns w'):St W (ns++rs) w':=by
 obtain ⟨f,h1,h2,h3⟩:=(h.later k.bel).sep;obtain ⟨f0,h10,_,h30⟩:=h.sep;obtain ⟨g,k1,k2,k3⟩:=k.sep;refine ⟨h.bel.trans (k.bel.mono h.bel.size),g++f0,(Xn _ _ _ _).2 ⟨g,f0,rfl,k1,UL rs w w' k.bel.size f0 (fun b hm=>k.bel.block b (h30 b hm).2) h10⟩,?_,fun b hm=>?_⟩
 ·rw [List.nodup_append]
  refine ⟨k2,by obtain ⟨f0',h10',h20',_⟩:=h.sep;assumption,fun a ha b hb e=>?_⟩;have:=(k3 a ha).1;have:=(h30 b hb).2
  omega
 ·rcases List.mem_append.1 hm with hm|hm
  ·exact ⟨Nat.le_trans h.bel.size (k3 b hm).1,(k3 b hm).2⟩
  ·exact ⟨(h30 b hm).1,Nat.lt_of_lt_of_le (h30 b hm).2 k.bel.size⟩
theorem St.perm {W w:World} {rs rs':List Asr} (h:St W rs w) (hp:rs.Perm rs'):St W rs' w:=by
 obtain ⟨f,h1,h2,h3⟩:=h.sep;obtain ⟨g,hg,k1⟩:=Zks hp w f h1;exact ⟨h.bel,g,k1,hg.nodup_iff.2 h2,fun b hm=>h3 b (hg.mem_iff.1 hm)⟩
theorem St.drop {W w:World} {r s:List Asr} (h:St W (r++s) w):St W s w:=by
 obtain ⟨f,h1,h2,h3⟩:=h.sep;obtain ⟨f1,f2,rfl,_,k2⟩:=(Xn _ _ _ _).1 h1;exact ⟨h.bel,f2,k2,(List.nodup_append.1 h2).2.1,fun b hm=>h3 b (List.mem_append_right _ hm)⟩
theorem St.tail {W w:World} {a:Asr} {s:List Asr} (h:St W (a::s) w):St W s w:=St.drop (r:=[a]) h
theorem St.erase {W w:World} {s:List Asr} (h:St W s w) (i:Nat):St W (s.eraseIdx i) w:=by
 by_cases hi:i<s.length
 ·exact St.tail (a:=s[i]) (h.perm (Zba s i hi))
 ·rw [List.eraseIdx_of_length_le (by omega)];exact h
theorem St.pick {W w:World} {s:List Asr} (h:St W s w) (i:Nat) {a:Asr} (hi:s[i]? = some a):St W (a::s.eraseIdx i) w:=by
 obtain ⟨hl,rfl⟩:=List.getElem?_eq_some_iff.1 hi;exact h.perm (Zba s i hl)
theorem St.first {W w:World} {a:Asr} {s:List Asr} (h:St W (a::s) w):∃ f,a.P w f∧f.Nodup∧∀ b,b ∈ f→W.heap.size≤b∧b<w.heap.size:=by
 obtain ⟨f,⟨f1,f2,rfl,h1,_⟩,h2,h3⟩:=h.sep;exact ⟨f1,h1,(List.nodup_append.1 h2).1,fun b hm=>h3 b (List.mem_append_left _ hm)⟩
theorem St.get {W w:World} {s:List Asr} (h:St W s w) (i:Nat) {a:Asr} (hi:s[i]? = some a):∃ f,a.P w f∧f.Nodup∧∀ b,b ∈ f→W.heap.size≤b∧b<w.heap.size:=(h.pick i hi).first
theorem St.mut {W w w':World} {a a':Asr} {s:List Asr} (h:St W (a::s) w) (hos:w'.os=w.os) (ht:w'.tape=w.tape) (ho:w'.output=w.output) (hs:w.heap.size≤w'.heap.size)
  (hm:∀ f,a.P w f→f.Nodup→(∀ b,b ∈ f→W.heap.size≤b∧b<w.heap.size)→∃ g,a'.P w' g∧g.Nodup∧(∀ b,b ∈ g→(b ∈ f∨w.heap.size≤b)∧b<w'.heap.size)∧∀ k,k<w.heap.size→k ∉ f→w'.heap[k]? = w.heap[k]?):St W (a'::s) w':=by
 obtain ⟨f,⟨f1,f2,rfl,h1,h4⟩,h2,h3⟩:=h.sep;rw [List.nodup_append] at h2;obtain ⟨g,k1,k2,k3,k4⟩:=hm f1 h1 h2.1 (fun b hb=>h3 b (List.mem_append_left _ hb));refine ⟨⟨hos.trans h.bel.os,ht.trans h.bel.tape,ho.trans h.bel.output,Nat.le_trans h.bel.size hs,fun k hk=>(k4 k (Nat.lt_of_lt_of_le hk h.bel.size) (fun hb=>?_)).trans (h.bel.block k hk)⟩,g++f2,⟨g,f2,rfl,k1,UL s w w' hs f2 (fun b hb=>k4 b (h3 b (List.mem_append_right _ hb)).2 (fun hb1=>h2.2.2 b hb1 b hb rfl)) h4⟩,?_,fun b hb=>?_⟩
 ·have:=(h3 k (List.mem_append_left _ hb)).1;omega
 ·rw [List.nodup_append]
  refine ⟨k2,h2.2.1,fun x hx y hy e=>?_⟩;subst e;rcases (k3 x hx).1 with hx1|hx1
  ·exact h2.2.2 x hx1 x hy rfl
  ·have:=(h3 x (List.mem_append_right _ hy)).2;omega
 ·rcases List.mem_append.1 hb with hb|hb
  ·refine ⟨?_,(k3 b hb).2⟩
   rcases (k3 b hb).1 with hx|hx
   ·exact (h3 b (List.mem_append_left _ hx)).1
   ·have:=h.bel.size;omega
  ·exact ⟨(h3 b (List.mem_append_right _ hb)).1,Nat.lt_of_lt_of_le (h3 b (List.mem_append_right _ hb)).2 hs⟩
theorem St.imp {W w:World} {a a':Asr} {s:List Asr} (h:St W (a::s) w) (hi:∀ f,a.P w f→f.Nodup→(∀ b,b ∈ f→W.heap.size≤b∧b<w.heap.size)→a'.P w f):St W (a'::s) w :=
 h.mut rfl rfl rfl (Nat.le_refl _) fun f h1 h2 h3=>⟨f,hi f h1 h2 h3,h2,fun b hb=>⟨.inl hb,(h3 b hb).2⟩,fun _ _ _=>rfl⟩
theorem St.join {W w:World} {r s:List Asr}:St W (r++s) w ↔ St W (sepA r::s) w:=by
 constructor
 ·intro h
  obtain ⟨f,h1,h2,h3⟩:=h.sep;obtain ⟨f1,f2,rfl,k1,k2⟩:=(Xn _ _ _ _).1 h1;exact ⟨h.bel,_,⟨f1,f2,rfl,k1,k2⟩,h2,h3⟩
 ·intro h
  obtain ⟨f,⟨f1,f2,rfl,k1,k2⟩,h2,h3⟩:=h.sep;exact ⟨h.bel,_,(Xn _ _ _ _).2 ⟨f1,f2,rfl,k1,k2⟩,h2,h3⟩
theorem St.ex {W w:World} {α:Type} {A:α→Asr} {s:List Asr} (h:St W (exA A::s) w):∃ x,St W (A x::s) w:=by
 obtain ⟨f,⟨f1,f2,rfl,⟨x,k1⟩,k2⟩,h2,h3⟩:=h.sep;exact ⟨x,h.bel,_,⟨f1,f2,rfl,k1,k2⟩,h2,h3⟩
theorem St.exI {W w:World} {α:Type} {A:α→Asr} {s:List Asr} (x:α) (h:St W (A x::s) w):St W (exA A::s) w:=by
 obtain ⟨f,⟨f1,f2,rfl,k1,k2⟩,h2,h3⟩:=h.sep;exact ⟨h.bel,_,⟨f1,f2,rfl,⟨x,k1⟩,k2⟩,h2,h3⟩
theorem St.pure {W w:World} {p:Prop} {s:List Asr}:St W (pureA p::s) w ↔ p∧St W s w:=by
 constructor
 ·intro h
  obtain ⟨f,⟨f1,f2,rfl,⟨hp,rfl⟩,k2⟩,h2,h3⟩:=h.sep;exact ⟨hp,h.bel,_,k2,h2,h3⟩
 ·rintro ⟨hp,h⟩
  obtain ⟨f,h1,h2,h3⟩:=h.sep;exact ⟨h.bel,f,⟨[],f,rfl,⟨hp,rfl⟩,h1⟩,h2,h3⟩
def boxA (b n:Nat) (t:TypeId) (v:Value):Asr:=⟨fun w f=>f=[b]∧Box w b n t v,fun w w' f _ hb ⟨e,h⟩=>⟨e,by
 obtain ⟨cs,h1,h2,h3,h4⟩:=h;exact ⟨cs,h1,h2,h3,(hb b (by rw [e];simp)).trans h4⟩⟩⟩
theorem St.box {W w:World} {s:List Asr} (h:St W s w) (i:Nat) {b n:Nat} {t:TypeId} {v:Value} (hi:s[i]? = some (boxA b n t v)):Box w b n t v:=by
 obtain ⟨f,⟨_,hb⟩,_⟩:=h.get i hi;exact hb
theorem St.alloc {W w:World} {s:List Asr} (h:St W s w) (cs:List Value) (t:TypeId) (h1:(cs.all fun u=>u.oneCell')=true):St W (boxA w.heap.size cs.length t (.agg cs.toArray)::s) (w.alloc (.cells cs.toArray t)) :=
 St.add (ns:=[boxA w.heap.size cs.length t (.agg cs.toArray)]) h ⟨(Below.refl _ _).alloc (Nat.le_refl _) _,[w.heap.size],⟨[w.heap.size],[],rfl,⟨rfl,Box.new w cs t h1 rfl⟩,rfl⟩,by simp,fun b hb=>by
  obtain rfl:b=w.heap.size:=by simpa using hb
  exact ⟨Nat.le_refl _,by rw [XJ];omega⟩⟩
theorem ZlB {α:Type} (s:List α) (i:Nat) (a:α) (hi:i<s.length):(a::s.eraseIdx i).Perm (s.set i a):=by
 have h:=(Zba (s.set i a) i (by simpa using hi)).symm;rw [List.eraseIdx_set_eq,List.getElem_set_self] at h;exact h
theorem St.mutAt {W w w':World} {a a':Asr} {s:List Asr} (h:St W s w) (i:Nat) (hi:s[i]? = some a) (hos:w'.os=w.os) (ht:w'.tape=w.tape) (ho:w'.output=w.output) (hs:w.heap.size≤w'.heap.size)
  (hm:∀ f,a.P w f→f.Nodup→(∀ b,b ∈ f→W.heap.size≤b∧b<w.heap.size)→∃ g,a'.P w' g∧g.Nodup∧(∀ b,b ∈ g→(b ∈ f∨w.heap.size≤b)∧b<w'.heap.size)∧∀ k,k<w.heap.size→k ∉ f→w'.heap[k]? = w.heap[k]?):St W (s.set i a') w' :=
 (St.mut (h.pick i hi) hos ht ho hs hm).perm (ZlB s i a' (List.getElem?_eq_some_iff.1 hi).1)
theorem St.putBox {W w w':World} {s:List Asr} (h:St W s w) (i:Nat) {b n:Nat} {t:TypeId} {u v:Value} (hi:s[i]? = some (boxA b n t u)) (hb:Box w' b n t v) (ho:YA b (b+1) w w'):St W (s.set i (boxA b n t v)) w' :=
 h.mutAt i hi ho.os ho.tape ho.output ho.size fun f ⟨e,_⟩ _ h3=>⟨f,⟨e,hb⟩,by rw [e];simp,fun c hc=>⟨.inl hc,Nat.lt_of_lt_of_le (h3 c hc).2 ho.size⟩,fun k hk hn=>ho.block k hk (by rw [e] at hn;simp at hn;omega)⟩
theorem St.putField {W w:World} {s:List Asr} (h:St W s w) (i:Nat) {b n:Nat} {t:TypeId} {l:Array Value} (hi:s[i]? = some (boxA b n t (.agg l))) (k:Nat) {u:Value} (hu:u.oneCell'=true):St W (s.set i (boxA b n t (.agg (l.setIfInBounds k u)))) (w.setCell ⟨b,k,none⟩ u) :=
 h.putBox i hi ((h.box i hi).putField k hu) ((YA.refl _ _ _).set (by simp) _)
def Zd {α:Type} (enc:α→List Value) (size:Nat) (e:TypeId) (v:Value) (xs:List α):Asr :=
 ⟨fun w f=>f=(Value.rowBlock v).toList∧∃ B1,RowO enc size e w 0 B1 v xs,fun w w' f _ hb ⟨e1,B1,h⟩=>⟨e1,B1,by
  refine h.by fun hq ⟨hl,ho⟩=>⟨hl,?_⟩
  rcases ho with ho|⟨g,cap,cur,hv,hB,hg,rest⟩
  ·exact .inl ho
  ·exact .inr ⟨g,cap,cur,hv,hB,(hb g (by rw [e1,hq,hv];simp [Value.ownBlock])).trans hg,rest⟩⟩⟩
theorem RowO.bounds {α:Type} {enc:α→List Value} {size:Nat} {e:TypeId} {w:World} {B B1 C C1:Nat} {v:Value} {xs:List α} (h:RowO enc size e w B B1 v xs) (hb:∀ g,Value.rowBlock v=some g→C≤g∧g<C1):RowO enc size e w C C1 v xs:=by
 obtain ⟨ao,cap,rfl,ho,hg⟩:=h;refine ⟨ao,cap,rfl,?_,fun g h=>(hb g h).2⟩;rcases ho with ho|ho
 ·exact .inl ho
 ·by_cases h0:cap=0
  ·obtain ⟨ao',cap',hv,hle,_⟩:=Yq ho
   simp only [Value.slice.injEq,true_and] at hv;obtain ⟨rfl,rfl⟩:=hv;exact .inl ⟨h0,List.length_eq_zero_iff.1 (by omega)⟩
  ·refine .inr ⟨ho.1,?_⟩
   rcases ho.2 with hn|⟨g,cap',cur,hv,hB,rest⟩
   ·exact .inl hn
   ·have hr:Value.rowBlock (.slice ao xs.length cap)=some g:=by rw [Qa h0,hv];rfl
    exact .inr ⟨g,cap',cur,hv,(hb g hr).1,rest⟩
theorem RowO.opn {α:Type} {enc:α→List Value} {size:Nat} {e:TypeId} {w:World} {B B1:Nat} {ao:Option Addr} {cap:Nat} {xs:List α} (h:RowO enc size e w B B1 (.slice ao xs.length cap) xs) (hpos:0<xs.length) :
  ∃ g,ao=some ⟨g,0,Option.none⟩∧B≤g∧g<B1∧g<w.heap.size∧Value.rowBlock (.slice ao xs.length cap)=some g∧w.ownsRow B e size (.slice (some ⟨g,0,Option.none⟩) xs.length cap) xs.length (xs.flatMap enc):=by
 obtain ⟨ao',cap',hv,hc,hg⟩:=h;simp only [Value.slice.injEq,true_and] at hv;obtain ⟨rfl,rfl⟩:=hv;rcases hc with ⟨_,hx⟩|ho
 ·rw [hx] at hpos;exact absurd hpos (Nat.lt_irrefl _)
 ·obtain ⟨ao',cap',hv,hle,_,hb⟩:=Yq ho
  simp only [Value.slice.injEq,true_and] at hv;obtain ⟨rfl,rfl⟩:=hv;obtain ⟨g,rfl,h1,h2⟩:=hb hpos;have hr:Value.rowBlock (.slice (some ⟨g,0,Option.none⟩) xs.length cap)=some g:=by rw [Qa (by omega)];rfl
  exact ⟨g,rfl,h1,hg g hr,h2,hr,ho⟩
theorem RowO.asr {α:Type} {enc:α→List Value} {size:Nat} {e:TypeId} {w:World} {B B1:Nat} {v:Value} {xs:List α} (h:RowO enc size e w B B1 v xs):(Zd enc size e v xs).P w (Value.rowBlock v).toList :=
 ⟨rfl,B1,h.mono (Nat.zero_le _) (Nat.le_refl _)⟩
theorem VW {α:Type} (o:Option α):o.toList.Nodup:=by cases o <;> simp
theorem RowO.foot {α:Type} {enc:α→List Value} {size:Nat} {e:TypeId} {w:World} {B B1:Nat} {v:Value} {xs:List α} (h:RowO enc size e w B B1 v xs):∀ b,b ∈ (Value.rowBlock v).toList→B≤b∧b<B1∧b<w.heap.size:=fun b hb=>h.lt b (by simpa using hb)
theorem St.row {α:Type} {enc:α→List Value} {size:Nat} {e:TypeId} {W w:World} {v:Value} {xs:List α} {s:List Asr} (h:St W s w) (i:Nat) (hi:s[i]? = some (Zd enc size e v xs)):RowO enc size e w W.heap.size w.heap.size v xs:=by
 obtain ⟨f,⟨e1,B1,hr⟩,_,hb⟩:=h.get i hi;exact hr.bounds fun g hg=>hb g (by rw [e1,hg];simp)
theorem St.rdS {α:Type} {enc:α→List Value} {size:Nat} (he:∀ x,(enc x).length=size) {e:TypeId} {W w:World} {v:Value} {xs:List α} {s:List Asr} (h:St W s w) (i:Nat) (hi:s[i]? = some (Zd enc size e v xs)):RdS enc size w v xs:=(h.row i hi).rd he
theorem St.ofRow {α:Type} {enc:α→List Value} {size:Nat} {e:TypeId} {w w':World} {B1:Nat} {v:Value} {xs:List α} (h:RowO enc size e w' w.heap.size B1 v xs) (hb:Below w.heap.size w w'):St w [Zd enc size e v xs] w' :=
 ⟨hb,_,⟨_,[],(List.append_nil _).symm,h.asr,rfl⟩,VW _,fun b hm=>⟨(h.foot b hm).1,(h.foot b hm).2.2⟩⟩
theorem St.nilRow {α:Type} {W w:World} {s:List Asr} (h:St W s w) (enc:α→List Value) (size:Nat) (e:TypeId) (ao:Option Addr):St W (Zd enc size e (.slice ao 0 0) ([]:List α)::s) w:=by
 obtain ⟨f,h1,h2,h3⟩:=h.sep;exact ⟨h.bel,f,⟨[],f,rfl,⟨by rw [Q7];rfl,0,RowO.empty enc size e w 0 0 ao⟩,h1⟩,h2,h3⟩
theorem St.mutRow {α:Type} {enc:α→List Value} {size:Nat} {e:TypeId} {W w w':World} {v v':Value} {xs ys:List α} {s:List Asr} (h:St W s w) (i:Nat) (hi:s[i]? = some (Zd enc size e v xs)) {B:Nat}
  (hr:RowO enc size e w' B w'.heap.size v' ys) (hg:w.grownBy w' (Value.rowBlock v)) (hn:∀ g,Value.rowBlock v'=some g→Value.rowBlock v=some g∨w.heap.size≤g):St W (s.set i (Zd enc size e v' ys)) w' :=
 h.mutAt i hi hg.os hg.tape hg.output hg.size fun f ⟨e1,_⟩ _ _=>⟨_,hr.asr,VW _,fun b hb=>⟨by
  rcases hn b (by simpa using hb) with h|h
  ·exact .inl (by rw [e1,h];simp)
  ·exact .inr h,(hr.foot b hb).2.2⟩,fun k hk hnk=>hg.block k hk (fun e2=>hnk (by rw [e1,← e2];simp))⟩
theorem ZdF:∀ {vs:List Value},vs.Pairwise YD→(vs.flatMap fun v=>(Value.rowBlock v).toList).Nodup
 | [],_=>List.nodup_nil
 | v::vs,h=>by
  obtain ⟨h1,h2⟩:=List.pairwise_cons.1 h;rw [List.flatMap_cons,List.nodup_append];refine ⟨VW _,ZdF h2,fun a ha b hb e=>?_⟩;subst e;obtain ⟨u,hu,hb⟩:=List.mem_flatMap.1 hb;have ha:Value.rowBlock v=some a:=by simpa using ha
  have hb:Value.rowBlock u=some a:=by simpa using hb
  rcases h1 u hu with h|h
  ·rw [ha] at h;cases h
  ·exact h (ha.trans hb.symm)
theorem ZdG:∀ {vs:List Value},(vs.flatMap fun v=>(Value.rowBlock v).toList).Nodup→vs.Pairwise YD
 | [],_=>List.Pairwise.nil
 | v::vs,h=>by
  rw [List.flatMap_cons,List.nodup_append] at h;refine List.pairwise_cons.2 ⟨fun u hu=>?_,ZdG h.2.1⟩
  cases hv:Value.rowBlock v with
  | none=>exact .inl hv
  | some g =>
   refine .inr fun e=>h.2.2 g (by simp [hv]) g (List.mem_flatMap.2 ⟨u,hu,?_⟩) rfl;rw [← e,hv];simp
theorem RowO.loc {α:Type} {enc:α→List Value} {size:Nat} {e:TypeId} {w w':World} {B B1:Nat} {v:Value} {xs:List α} (h:RowO enc size e w B B1 v xs) (hb:∀ b,B≤b→b<B1→w'.heap[b]? = w.heap[b]?):RowO enc size e w' B B1 v xs:=by
 have hlt:=h.lt;refine h.by fun hq ⟨hl,ho⟩=>⟨hl,?_⟩
 rcases ho with ho|⟨g,cap,cur,hv,hB,hg,rest⟩
 ·exact .inl ho
 ·have h1:=hlt g (by rw [hq,hv];rfl)
  exact .inr ⟨g,cap,cur,hv,hB,(hb g h1.1 h1.2.1).trans hg,rest⟩
section
variable {α:Type} {Own:World→Nat→Nat→Value→α→Prop} {loc:∀ w w' B B1 v x,(∀ b,B≤b→b<B1→w'.heap[b]? = w.heap[b]?)→Own w B B1 v x→Own w' B B1 v x}
def ivA (Own:World→Nat→Nat→Value→α→Prop) (loc:∀ w w' B B1 v x,(∀ b,B≤b→b<B1→w'.heap[b]? = w.heap[b]?)→Own w B B1 v x→Own w' B B1 v x) (B B1:Nat) (v:Value) (x:α):Asr :=
 ⟨fun w f=>f=List.range' B (B1 - B)∧B≤B1∧B1≤w.heap.size∧Own w B B1 v x,fun w w' f hs hb ⟨e,h1,h2,h3⟩=>⟨e,h1,Nat.le_trans h2 hs,loc w w' B B1 v x (fun b hB hB1=>hb b (by rw [e,List.mem_range'_1];omega)) h3⟩⟩
theorem St.ivNew {w w':World} {v:Value} {x:α} (h:Own w' w.heap.size w'.heap.size v x) (hb:Below w.heap.size w w'):St w [ivA Own loc w.heap.size w'.heap.size v x] w' :=
 ⟨hb,_,⟨_,[],(List.append_nil _).symm,⟨rfl,hb.size,Nat.le_refl _,h⟩,rfl⟩,List.nodup_range',fun b hm=>by
  rw [List.mem_range'_1] at hm;have:=hb.size
  omega⟩
theorem St.iv {W w:World} {s:List Asr} (h:St W s w) (i:Nat) {B B1:Nat} {v:Value} {x:α} (hi:s[i]? = some (ivA Own loc B B1 v x)):Own w B B1 v x:=by
 obtain ⟨f,⟨_,_,_,h3⟩,_⟩:=h.get i hi;exact h3
theorem St.ivLe {W w:World} {s:List Asr} (h:St W s w) (i:Nat) {B B1:Nat} {v:Value} {x:α} (hi:s[i]? = some (ivA Own loc B B1 v x)):B1≤w.heap.size:=by
 obtain ⟨f,⟨_,_,h2,_⟩,_⟩:=h.get i hi;exact h2
theorem St.ivMark {W w w':World} {s:List Asr} (h:St W s w) (i:Nat) {B B1:Nat} {v:Value} {x y:α} (hi:s[i]? = some (ivA Own loc B B1 v x)) (ho:Own w' B B1 v y) (hO:YA B B1 w w'):St W (s.set i (ivA Own loc B B1 v y)) w' :=
 h.mutAt i hi hO.os hO.tape hO.output hO.size fun f ⟨e,h1,h2,_⟩ hn hf=>⟨f,⟨e,h1,Nat.le_trans h2 hO.size,ho⟩,hn,fun b hb=>⟨.inl hb,Nat.lt_of_lt_of_le (hf b hb).2 hO.size⟩,fun k hk hn=>hO.block k hk (by
  rw [e,List.mem_range'_1] at hn
  omega)⟩
end
variable {ds:List Deferred}
def lk:List (Nat × Value)→Nat→Option Value
 | [],_=>none
 | (j,v)::r,k=>bif Nat.beq j k then some v else lk r k
structure Fr (N:Nat) (a:Act) (l:List (Nat × Value)) (ds:List Deferred:=[]):Prop where
  sz:a.tmps.size=N
  df:a.defers=ds
  at_:∀ k v,lk l k=some v→a.tmps[k]? = some v
def evO (l:List (Nat × Value)):Operand→Option Value
 | .tmp k=>lk l k
 | .const v=>some v
 | .func f=>some (.func (.func f) #[] #[])
 | .global g=>some (.pointer (some ⟨g,0,none⟩))
theorem Fr.ev {N:Nat} {a:Act} {l:List (Nat × Value)} (h:Fr N a l ds) {x:Operand} {v:Value} (hx:evO l x=some v):a.eval x=v:=by
 cases x with
 | tmp k=>simp only [Act.eval,Array.getD_eq_getD_getElem?,h.at_ k v hx,Option.getD_some]
 | const u=>exact Option.some.inj hx
 | func f=>exact Option.some.inj hx
 | global g=>exact Option.some.inj hx
theorem Fr.put {N:Nat} {a:Act} {l:List (Nat × Value)} (h:Fr N a l ds) {d:Nat} (hd:d<N) (v:Value):Fr N (a.put (some d) v) ((d,v)::l) ds:=by
 refine ⟨by rw [ZlA];exact h.sz,by rw [ZiT];exact h.df,fun k u hu=>?_⟩;unfold lk at hu
 cases hb:Nat.beq d k with
 | true =>
  rw [hb] at hu;obtain rfl:=Nat.eq_of_beq_eq_true hb;obtain rfl:=Option.some.inj hu;have:=h.sz;simp [Act.put,Array.getElem?_setIfInBounds,this,hd]
 | false =>
  rw [hb] at hu;rw [Znz a d v k (fun e=>by subst e;simp at hb)];exact h.at_ k u hu
theorem Fr.sub {N:Nat} {a:Act} {l l':List (Nat × Value)} (h:Fr N a l ds) (hs:∀ p ∈ l',lk l p.1=some p.2):Fr N a l' ds:=by
 refine ⟨h.sz,h.df,fun k v hv=>h.at_ k v ?_⟩;have key:∀ l':List (Nat × Value),(∀ p ∈ l',lk l p.1=some p.2)→lk l' k=some v→lk l k=some v:=by
  intro l'
  induction l' with
  | nil=>intro _ hv;cases hv
  | cons p r ih =>
   obtain ⟨j,u⟩:=p;intro hs hv;unfold lk at hv
   cases hb:Nat.beq j k with
   | true =>
    rw [hb] at hv;obtain rfl:=Nat.eq_of_beq_eq_true hb;rw [hs (j,u) (by simp)];exact hv
   | false =>
    rw [hb] at hv;exact ih (fun p hp=>hs p (by simp [hp])) hv
 exact key l' hs hv
theorem Fr.start {tmps:Array Value} {l:List (Nat × Value)} {N:Nat} (hN:tmps.size=N) (hl:∀ p ∈ l,tmps[p.1]? = some p.2):Fr N { tmps:=tmps,defers:=[] } l:=by
 refine ⟨hN,rfl,fun k v hv=>?_⟩;have key:∀ l:List (Nat × Value),(∀ p ∈ l,tmps[p.1]? = some p.2)→lk l k=some v→tmps[k]? = some v:=by
  intro l
  induction l with
  | nil=>intro _ hv;cases hv
  | cons p r ih =>
   obtain ⟨j,u⟩:=p;intro hs hv;unfold lk at hv
   cases hb:Nat.beq j k with
   | true =>
    rw [hb] at hv;obtain rfl:=Nat.eq_of_beq_eq_true hb;obtain rfl:=Option.some.inj hv;exact hs (j,u) (by simp)
   | false =>
    rw [hb] at hv;exact ih (fun p hp=>hs p (by simp [hp])) hv
 exact key l hl hv
theorem Fr.yield {N:Nat} {a:Act} {l:List (Nat × Value)} (h:Fr N a l ds) {ops:Array Oper} {g d:Nat} (hg:(ops[g]?).bind (·.dst)=some d) {b:Bool} (hb:lk l d=some (.bool b)):yielded ops a.tmps g=some b:=by
 simp [yielded,hg,h.at_ d _ hb]
theorem Jo {o:Oper} {y:Nat→Option Bool} (hg:o.guard=none):Region.wanted o y=true:=by simp [Region.wanted,hg]
theorem Fr.want {N:Nat} {a:Act} {l:List (Nat × Value)} (h:Fr N a l ds) {o:Oper} {ops:Array Oper} {g d:Nat} {b:Bool} (ho:o.guard=some (g,b)) (hg:(ops[g]?).bind (·.dst)=some d) (hb:lk l d=some (.bool b)):Region.wanted o (yielded ops a.tmps)=true:=by
 simp [Region.wanted,ho,h.yield hg hb]
theorem Fr.skip {N:Nat} {a:Act} {l:List (Nat × Value)} (h:Fr N a l ds) {o:Oper} {ops:Array Oper} {g d:Nat} {b c:Bool} (ho:o.guard=some (g,b)) (hg:(ops[g]?).bind (·.dst)=some d) (hb:lk l d=some (.bool c)) (hc:(c == b)=false):Region.wanted o (yielded ops a.tmps)=false:=by
 have:¬ c=b:=by simpa using hc
 simp [Region.wanted,ho,h.yield hg hb,this]
def Yl (P:Program) (w:World) (o:Oper) (a:Act) (v:Value):Prop:=(execOp a.eval o).run P w=.ok (.value v) w
section
variable {P:Program} {w:World} {o:Oper} {a:Act} {x y z:Operand} {t t':TypeId}
theorem Yf (ho:o.op=.move x) {v:Value} (hx:a.eval x=v):Yl P w o a v:=by simp [Yl,execOp,ho,hx]
theorem Zc9 (ho:o.op=.assign x) {v:Value} (hx:a.eval x=v):Yl P w o a v:=by simp [Yl,execOp,ho,hx]
theorem Zkt (ho:o.op=.pick z x y) (hz:a.eval z=.bool true) {v:Value} (hx:a.eval x=v):Yl P w o a v:=by simp [Yl,execOp,ho,hx,hz,asBool]
theorem Zku (ho:o.op=.pick z x y) (hz:a.eval z=.bool false) {v:Value} (hy:a.eval y=v):Yl P w o a v:=by simp [Yl,execOp,ho,hy,hz,asBool]
theorem Q2 (ho:o.op=.unOp .not t x) {b:Bool} (hx:a.eval x=.bool b):Yl P w o a (.bool !b):=by simp [Yl,execOp,ho,hx,Op.unary]
theorem Yt (ho:o.op=.nilCheck x) {p:Addr} (hx:a.eval x=.pointer (some p)):Yl P w o a (.pointer (some p)):=by simp [Yl,execOp,ho,hx]
theorem Z4 {i:Nat} (ho:o.op=.extract x i) {vs:Array Value} (hx:a.eval x=.tuple vs) {v:Value} (hv:vs[i]? = some v):Yl P w o a v:=by simp [Yl,execOp,ho,hx,Instr.extract,hv]
section
variable {k:IntKind} {m n:Int}
theorem ZjP (ho:o.op=.binOp .eql t x y t') (hx:a.eval x=.int k m) (hy:a.eval y=.int k n):Yl P w o a (.bool (m == n)):=by simp [Yl,execOp,ho,hx,hy,eqGuard,binOp,Op.intCmp]
theorem ZnA (ho:o.op=.binOp .neq t x y t') (hx:a.eval x=.int k m) (hy:a.eval y=.int k n):Yl P w o a (.bool (m != n)):=by simp [Yl,execOp,ho,hx,hy,eqGuard,binOp,Op.intCmp]
theorem Zcm (ho:o.op=.binOp .lss t x y t') (hx:a.eval x=.int k m) (hy:a.eval y=.int k n):Yl P w o a (.bool (decide (m<n))):=by simp [Yl,execOp,ho,hx,hy,eqGuard,binOp,Op.intCmp]
theorem VX (ho:o.op=.binOp .leq t x y t') (hx:a.eval x=.int k m) (hy:a.eval y=.int k n):Yl P w o a (.bool (decide (m≤n))):=by simp [Yl,execOp,ho,hx,hy,eqGuard,binOp,Op.intCmp]
theorem Zee (ho:o.op=.binOp .gtr t x y t') (hx:a.eval x=.int k m) (hy:a.eval y=.int k n):Yl P w o a (.bool (decide (n<m))):=by simp [Yl,execOp,ho,hx,hy,eqGuard,binOp,Op.intCmp]
theorem ZnB (ho:o.op=.binOp .geq t x y t') (hx:a.eval x=.int k m) (hy:a.eval y=.int k n):Yl P w o a (.bool (decide (n≤m))):=by simp [Yl,execOp,ho,hx,hy,eqGuard,binOp,Op.intCmp]
theorem ZW (ho:o.op=.binOp .add t x y t') (hx:a.eval x=.int k m) (hy:a.eval y=.int k n) {r:Int} (hr:k.wrap (m+n)=r):Yl P w o a (.int k r):=by simp [Yl,execOp,ho,hx,hy,eqGuard,binOp,Op.intArith,hr]
theorem XE (ho:o.op=.binOp .sub t x y t') (hx:a.eval x=.int k m) (hy:a.eval y=.int k n) {r:Int} (hr:k.wrap (m - n)=r):Yl P w o a (.int k r):=by simp [Yl,execOp,ho,hx,hy,eqGuard,binOp,Op.intArith,hr]
theorem Uv (ho:o.op=.binOp .mul t x y t') (hx:a.eval x=.int k m) (hy:a.eval y=.int k n) {r:Int} (hr:k.wrap (m*n)=r):Yl P w o a (.int k r):=by simp [Yl,execOp,ho,hx,hy,eqGuard,binOp,Op.intArith,hr]
theorem Zef (ho:o.op=.binOp .quo t x y t') (hx:a.eval x=.int k m) (hy:a.eval y=.int k n) (hn:n≠0) {r:Int} (hr:k.wrap (m.tdiv n)=r):Yl P w o a (.int k r):=by simp [Yl,execOp,ho,hx,hy,eqGuard,binOp,Op.intDiv,hn,hr]
theorem Ua (ho:o.op=.binOp .rem t x y t') (hx:a.eval x=.int k m) (hy:a.eval y=.int k n) (hn:n≠0) {r:Int} (hr:m.tmod n=r):Yl P w o a (.int k r):=by simp [Yl,execOp,ho,hx,hy,eqGuard,binOp,Op.intDiv,hn,hr]
end
section
variable {m n:ByteArray}
theorem U6 (ho:o.op=.binOp .eql t x y t') (hx:a.eval x=.string m) (hy:a.eval y=.string n):Yl P w o a (.bool (m.toList == n.toList)):=by simp [Yl,execOp,ho,hx,hy,eqGuard,binOp,Op.stringOp]
theorem Jg (ho:o.op=.binOp .neq t x y t') (hx:a.eval x=.string m) (hy:a.eval y=.string n):Yl P w o a (.bool !(m.toList == n.toList)):=by simp [Yl,execOp,ho,hx,hy,eqGuard,binOp,Op.stringOp]
theorem Y9 (ho:o.op=.binOp .add t x y t') (hx:a.eval x=.string m) (hy:a.eval y=.string n) (hs:m.size+n.size≤9223372036854775807):Yl P w o a (.string (m++n)):=by
 have:¬ (((m.size+n.size:Nat):Int) > IntKind.i64.max):=by show ¬ (_ > (9223372036854775807:Int));omega
 simp [Yl,execOp,ho,hx,hy,eqGuard,binOp,Op.stringOp,this] <;> first|omega|skip
end
def UM (P:Program) (t:TypeId) (i:Nat):Option Nat :=
 match P.underlying t with
 | some (.struct fs)=>match fs[i]? with
  | some f=>match P.info? f.type with
   | some inf=>if inf.size=0 then none else some f.offset
   | none=>none
  | none=>none
 | _=>none
def Yu (P:Program) (t:TypeId):Option (TypeId × Nat) :=
 match P.underlying t with
 | some (.slice e)=>match P.info? e with
  | some inf=>some (e,inf.size)
  | none=>none
 | _=>none
theorem JB {i:Nat} (ho:o.op=.fieldAddr t x i) {b k:Nat} (hx:a.eval x=.pointer (some ⟨b,k,none⟩)) {j:Nat} (hj:UM P t i=some j):Yl P w o a (.pointer (some ⟨b,k+j,none⟩)):=by
 unfold UM at hj
 split at hj
 ·rename_i fs hu
  split at hj
  ·rename_i f hf
   split at hj
   ·rename_i inf hq
    split at hj
    ·cases hj
    ·rename_i hz
     obtain rfl:=Option.some.inj hj;unfold Yl execOp;simp only [ho,hx,Instr.fieldAt,Sem.run_bind,run_underlying hu w,Result.andThen_ok,hf,Instr.sureAddr,Sem.run_pure];simp [fieldPlace,sizeOf,typeInfo,go_sem,hq,hz,Addr.add_mid]
   ·cases hj
  ·cases hj
 ·cases hj
theorem ZG (ho:o.op=.indexAddr t x y) {g off len cap:Nat} (hx:a.eval x=.slice (some ⟨g,off,none⟩) len cap) {k:IntKind} {m:Int} (hy:a.eval y=.int k m) {e:TypeId} {i size:Nat} (hu:Yu P t=some (e,size)) (hm:m=(i:Int)) (hi:i<len):Yl P w o a (.pointer (some ⟨g,off+i*size,none⟩)):=by
 subst hm;unfold Yu at hu
 split at hu
 ·rename_i e' hu'
  split at hu
  ·rename_i inf hq
   obtain ⟨rfl,rfl⟩:=Prod.mk.inj (Option.some.inj hu);have h0:(0:Int)≤(i:Int)∧(i:Int)<(len:Int):=⟨by omega,by omega⟩;unfold Yl execOp;simp only [ho,hx,hy,Instr.indexAt,Sem.run_bind,asIntOf,Sem.run_pure,run_underlying hu' w,Result.andThen_ok,if_pos h0];simp [sizeOf,typeInfo,go_sem,hq,Addr.add_mid,h0]
  ·cases hu
 ·cases hu
theorem Qm (ho:o.op=.indexAddr t x y) {ao:Option Addr} {len cap:Nat} (hx:a.eval x=.slice ao len cap) {k:IntKind} {m:Int} (hy:a.eval y=.int k m) {e:TypeId} {i size:Nat} (hu:Yu P t=some (e,size)) (hm:m=(i:Int)) (hi:i<len) {g off:Nat} (hao:ao=some ⟨g,off,none⟩):Yl P w o a (.pointer (some ⟨g,off+i*size,none⟩)):=by
 subst hao;exact ZG ho hx hy hu hm hi
theorem XU (ho:o.op=.index t x y) {s:ByteArray} (hx:a.eval x=.string s) {k:IntKind} {m:Int} (hy:a.eval y=.int k m) (hu:P.underlying t=some .string) {i:Nat} (hm:m=(i:Int)) (hi:i<s.size):Yl P w o a (.int .u8 ((s.get! i).toNat:Int)):=by
 subst hm;have h1:s[((i:Nat):Int).toNat]? = some (s.get! i):=by
  simp only [Int.toNat_natCast];rw [getElem?_pos s i hi]
  congr 1
  simp [ByteArray.get!,hi]
  rfl
 have h0:(0:Int)≤(i:Int):=by omega
 unfold Yl execOp;simp only [ho,hx,hy,Instr.index,Sem.run_bind,asIntOf,Sem.run_pure,Result.andThen_ok,run_underlying hu w,if_pos h0,h1]
theorem Zda (ho:o.op=.convert t t' x) {n:Int} (hx:a.eval x=.int .u8 n) (hn:0≤n∧n≤255) (hu:P.underlying t=some (.int .u8)) (hu':P.underlying t'=some (.int .i64)):Yl P w o a (.int .i64 n):=by
 unfold Yl execOp;simp only [ho,hx];simp [convert,go_sem,run_underlying hu w,run_underlying hu' w];exact IntWalk.i64_in _ (by omega)
theorem YN (ho:o.op=.call { callee:=.builtin .len,args:=#[x],argTypes:=#[t] }) {s:ByteArray} (hx:a.eval x=.string s) (hu:P.underlying t=some .string):Yl P w o a (.int .i64 s.size):=by
 unfold Yl execOp;simp only [ho,resolve,List.map_toArray,List.map_cons,List.map_nil,hx,Sem.run_bind,Sem.run_pure,Result.andThen_ok,invoke,builtin,Builtin.len_,List.getElem?_toArray,List.getElem?_cons_zero,run_underlying hu w];simp [Builtin.len_,go_sem,run_underlying hu w,goInt]
theorem Xa (ho:o.op=.call { callee:=.builtin .len,args:=#[x],argTypes:=#[t] }) {ao:Option Addr} {n cap:Nat} (hx:a.eval x=.slice ao n cap) {e:TypeId} {size:Nat} (hu:Yu P t=some (e,size)):Yl P w o a (.int .i64 n):=by
 unfold Yu at hu
 split at hu
 ·rename_i e' hu'
  unfold Yl execOp;simp only [ho,resolve,List.map_toArray,List.map_cons,List.map_nil,hx,Sem.run_bind,Sem.run_pure,Result.andThen_ok,invoke,builtin];simp [Builtin.len_,go_sem,run_underlying hu' w,goInt]
 ·cases hu
def Xh (P:Program) (t:TypeId):Bool :=
 (match P.underlying t with
 | some (.struct _)=>false
 | some (.array _ _)=>false
 | some _=>true
 | none=>false) && (match P.info? t with
  | some inf=>decide (inf.size=1)
  | none=>false)
def QA (P:Program) (t:TypeId) (n:Nat):Bool :=
 (match P.underlying t with
 | some (.struct _)=>true
 | some (.array _ _)=>true
 | _=>false) && (match P.info? t with
  | some inf=>decide (inf.size=n)
  | none=>false)
theorem Zcn {P:Program} {t:TypeId} (h:Xh P t=true) (w:World):(isAgg t).run P w=.ok false w:=by
 unfold Xh at h;rw [Bool.and_eq_true] at h;obtain ⟨h,_⟩:=h
 cases hu:P.underlying t with
 | none=>rw [hu] at h;cases h
 | some d =>
  rw [hu] at h;unfold isAgg;rw [Sem.run_bind,run_underlying hu w]
  cases d <;> first|(simp at h;done)|simp
theorem ZhF {P:Program} {t:TypeId} (h:Xh P t=true):(P.info? t).map (·.size)=some 1:=by
 unfold Xh at h;rw [Bool.and_eq_true] at h;obtain ⟨_,h⟩:=h
 cases hq:P.info? t with
 | none=>rw [hq] at h;cases h
 | some inf=>rw [hq] at h;simpa using h
theorem Jh {P:Program} {t:TypeId} {n:Nat} (h:QA P t n=true):(∃ d,P.underlying t=some d∧d.isRow=true)∧(P.info? t).map (·.size)=some n:=by
 unfold QA at h;rw [Bool.and_eq_true] at h;obtain ⟨h1,h2⟩:=h
 constructor
 ·cases hu:P.underlying t with
  | none=>rw [hu] at h1;cases h1
  | some d =>
   rw [hu] at h1;refine ⟨d,rfl,?_⟩
   cases d <;> first|(simp at h1;done)|rfl
 ·cases hq:P.info? t with
  | none=>rw [hq] at h2;cases h2
  | some inf=>rw [hq] at h2;simpa using h2
theorem Yg (ho:o.op=.load t x) {p:Addr} (hx:a.eval x=.pointer (some p)) {v:Value} (hc:w.cell? p=some v) (hs:Xh P t=true):Yl P w o a v:=by
 unfold Yl execOp;simp only [ho,hx,Instr.loadAt,Instr.sureAddr,loadVar,Sem.run_bind,Sem.run_pure,Result.andThen_ok,Zcn hs w];simp [go_sem,hc]
theorem Q8 (ho:o.op=.load t x) {b k:Nat} (hx:a.eval x=.pointer (some ⟨b,k,none⟩)) {cs:List Value} (hc:w.rangeAt b k cs) (hs:QA P t cs.length=true):Yl P w o a (.agg cs.toArray):=by
 obtain ⟨⟨d,hu,hd⟩,hi⟩:=Jh hs;unfold Yl execOp;simp only [ho,hx,Sem.run_bind,run_loadAt_mid w b k t cs d hc hu hd hi,Result.andThen_ok,Sem.run_pure]
theorem ZeE (ho:o.op=.load t x) {b n:Nat} {T:TypeId} {v:Value} (hx:a.eval x=.pointer (some ⟨b,0,none⟩)) (hb:Box w b n T v) (hs:QA P t n=true):Yl P w o a v:=by
 obtain ⟨⟨d,hu,hd⟩,hi⟩:=Jh hs;unfold Yl execOp;simp only [ho,hx,Sem.run_bind,ZeD hb t d hu hd hi,Result.andThen_ok,Sem.run_pure]
theorem ZnC (ho:o.op=.binOp .neq t x y t') {b c:Bool} (hx:a.eval x=.bool b) (hy:a.eval y=.bool c) (hu:P.underlying t=some .bool):Yl P w o a (.bool (!(b == c))):=by
 have h:(Op.equal t (.bool b) (.bool c)).run P w=.ok (b == c) w:=by
  unfold Op.equal Op.maxDepth;rw [Op.equalIn];simp only [Sem.run_bind,run_underlying hu w,Result.andThen_ok,Sem.run_pure]
 unfold Yl execOp;simp only [ho,hx,hy];simp [eqGuard,binOp,h]
theorem ZeF (ho:o.op=.binOp .neq t x y t') {b:Bool} (hx:a.eval x=.bool b) (hy:a.eval y=.bool b) (hu:P.underlying t=some .bool):Yl P w o a (.bool false):=by
 have:=ZnC (P:=P) (w:=w) ho hx hy hu
 simpa using this
def ZiU (P:Program) (t:TypeId) (parts:List (Nat × Value)):Option (Array Value) :=
 match P.info? t with
 | none=>none
 | some inf=>match inf.zero with
  | none=>none
  | some z=>match P.underlying t with
   | some (.struct fs)=>match fs.toList.mapM (fun f=>(P.info? f.type).map fun g=>(f.offset,g.size)) with
    | some places=>Instr.fill (places.toArray[·]?) z.cells parts
    | none=>none
   | _=>none
theorem UN {P:Program} {t:TypeId} {g:TypeInfo} (hq:P.info? t=some g) (w:World):(sizeOf t).run P w=.ok g.size w:=by
 simp [sizeOf,typeInfo,go_sem,hq]
theorem ZeG {P:Program} {t:TypeId} {g:TypeInfo} (hq:P.info? t=some g) {z:Value} (hz:g.zero=some z) (w:World):(zeroValue t).run P w=.ok z w:=by
 simp [zeroValue,typeInfo,go_sem,hq,hz]
theorem ZeH {P:Program} (w:World):∀ (fs:List Field) (places:List (Nat × Nat)),fs.mapM (fun f=>(P.info? f.type).map fun g=>(f.offset,g.size))=some places →
  (fs.mapM (fun f=>do pure (f.offset,← sizeOf f.type)):Sem (List (Nat × Nat))).run P w=.ok places w
 | [],places,h=>by
  obtain rfl:[]=places:=by simpa using h
  simp
 | f::fs,places,h=>by
  rw [List.mapM_cons] at h
  cases hq:P.info? f.type with
  | none=>rw [hq] at h;cases h
  | some g =>
   rw [hq] at h
   cases hr:fs.mapM (fun f=>(P.info? f.type).map fun g=>(f.offset,g.size)) with
   | none=>rw [hr] at h;cases h
   | some ps =>
    rw [hr] at h;obtain rfl:(f.offset,g.size)::ps=places:=by simpa using h
    rw [List.mapM_cons];simp only [Sem.run_bind,UN hq w,Result.andThen_ok,Sem.run_pure,ZeH w fs ps hr]
theorem XL {N:Nat} {l:List (Nat × Value)} (hF:Fr N a l ds) {ps0:Array (Nat × Operand)} (ho:o.op=.build t ps0) {ps:List (Nat × Value)} (hp:ps0.toList.mapM (fun p=>(evO l p.2).map fun v=>(p.1,v))=some ps) {cs:Array Value} (hb:ZiU P t ps=some cs):Yl P w o a (.agg cs):=by
 have hps:(ps0.map fun (i,x)=>(i,a.eval x)).toList=ps:=by
  rw [Array.toList_map];have key:∀ (ys:List (Nat × Operand)) (vs:List (Nat × Value)),ys.mapM (fun p=>(evO l p.2).map fun v=>(p.1,v))=some vs→ys.map (fun (i,x)=>(i,a.eval x))=vs:=by
   intro ys
   induction ys with
   | nil=>intro vs hv;simpa using hv
   | cons y r ih =>
    obtain ⟨yi,yx⟩:=y;intro vs hv;rw [List.mapM_cons] at hv
    cases h1:evO l yx with
    | none=>rw [h1] at hv;cases hv
    | some v =>
     rw [h1] at hv
     cases h2:r.mapM (fun p=>(evO l p.2).map fun v=>(p.1,v)) with
     | none=>rw [h2] at hv;cases hv
     | some us =>
      rw [h2] at hv;obtain rfl:(yi,v)::us=vs:=by simpa using hv
      rw [List.map_cons,ih us h2];show (yi,a.eval yx)::us=_;rw [hF.ev h1]
  exact key _ _ hp
 unfold ZiU at hb
 split at hb
 ·cases hb
 ·rename_i inf hq
  split at hb
  ·cases hb
  ·rename_i z hz
   split at hb
   ·rename_i fs hu
    split at hb
    ·rename_i places hpl
     have hrun:=ZeH (P:=P) w fs.toList places hpl;unfold Yl execOp;simp only [ho];unfold Instr.build;rw [hps];have hm:(fs.mapM (fun f=>do pure (f.offset,← sizeOf f.type)):Sem (Array (Nat × Nat))).run P w=.ok places.toArray w:=by
      have:=Array.mapM_eq_mapM_toList (m:=Sem) (f:=fun f:Field=>do pure (f.offset,← sizeOf f.type)) (xs:=fs);rw [this];simp only [map_eq_pure_bind,Sem.run_bind,hrun,Result.andThen_ok,Sem.run_pure]
     simp only [Sem.run_bind,ZeG hq hz w,Result.andThen_ok,run_underlying hu w,hm,hb,Sem.run_pure]
    ·cases hb
   ·cases hb
end
section
variable {P:Program} {ops:Array Oper} {Q:Exit→Act→World→Prop} {rest:List Oper} {o:Oper} {a:Act} {w W:World} {N:Nat} {l:List (Nat × Value)} {s:List Asr}
theorem Z0 (cs:List Value) (h:(cs.all fun u=>u.oneCell')=true) {n:Nat} (hn:cs.length=n):Cells n (.agg cs.toArray):=⟨cs,rfl,hn,fun u hu=>List.all_eq_true.1 h u hu⟩
theorem Z2 (hg:o.guard=none) (hF:Fr N a l ds) {d:Nat} (hd:o.dst=some d) (hN:Nat.blt d N=true) {v:Value} (hy:Yl P w o a v) (h:∀ a',Fr N a' ((d,v)::l) ds→wpList P ops Q rest a' w):wpList P ops Q (o::rest) a w:=by
 refine wpList_plain hg fun K hK=>?_;unfold Oper.wp;rw [show (execOp a.eval o).run P w=_ from hy];exact hK _ _ (hd ▸ h _ (hF.put (Nat.le_of_ble_eq_true hN) v))
theorem Zo4 (hF:Fr N a l ds) {g dg d:Nat} {b:Bool} (hgd:o.guard=some (g,b)) (hgo:(ops[g]?).bind (·.dst)=some dg) (hgv:lk l dg=some (.bool b)) (hd:o.dst=some d) (hN:Nat.blt d N=true) {v:Value} (hy:Yl P w o a v) (h:∀ a',Fr N a' ((d,v)::l) ds→wpList P ops Q rest a' w):wpList P ops Q (o::rest) a w:=by
 refine wpList_step fun K hK=>?_;rw [if_pos (hF.want hgd hgo hgv)];unfold Oper.wp;rw [show (execOp a.eval o).run P w=_ from hy];exact hK _ _ (hd ▸ h _ (hF.put (Nat.le_of_ble_eq_true hN) v))
theorem Zge {t:TypeId} {inf:TypeInfo} (hq:P.info? t=some inf) {z:Value} (hz:inf.zero=some z) (w:World):(Instr.alloc t true (.tuple #[])).run P w=.ok (.pointer (some ⟨w.heap.size,0,none⟩)) (w.alloc (.cells z.cells t)):=by
 simp [Instr.alloc,zeroValue,typeInfo,newVar,newRow,go_sem,hq,hz]
def Zgf (P:Program) (t:TypeId):Option (List Value):=(P.info? t).bind fun inf=>inf.zero.map fun z=>z.cells.toList
theorem ZR (hg:o.guard=none) (hF:Fr N a l ds) {t:TypeId} (ho:o.op=.alloc t) {d:Nat} (hd:o.dst=some d) (hN:Nat.blt d N=true) {Z:List Value} (hZ:Zgf P t=some Z) (h1:(Z.all fun u=>u.oneCell')=true) (hS:St W s w)
  (h:∀ a' w' b,Fr N a' ((d,.pointer (some ⟨b,0,none⟩))::l) ds→St W (boxA b Z.length t (.agg Z.toArray)::s) w'→wpList P ops Q rest a' w'):wpList P ops Q (o::rest) a w:=by
 unfold Zgf at hZ
 cases hq:P.info? t with
 | none=>rw [hq] at hZ;cases hZ
 | some inf =>
  rw [hq] at hZ;simp only [Option.bind_some] at hZ
  cases hz:inf.zero with
  | none=>rw [hz] at hZ;cases hZ
  | some z =>
   rw [hz] at hZ;have hZ:z.cells.toList=Z:=by simpa using hZ
   have hr:=Zge (P:=P) hq hz w;rw [← Array.toArray_toList (xs:=z.cells),hZ] at hr;refine wpList_plain hg fun K hK=>ZdE t ho Z.toArray hr (hK _ _ (hd ▸ h _ _ _ (hF.put (Nat.le_of_ble_eq_true hN) _) (hS.alloc Z t h1)))
theorem Zax (hg:o.guard=none) (hF:Fr N a l ds) {t:TypeId} {x:Operand} (ho:o.op=.box t x) {v:Value} (hx:a.eval x=v) {Z:List Value} (hv:v.cells=Z.toArray) {d:Nat} (hd:o.dst=some d) (hN:Nat.blt d N=true) (h1:(Z.all fun u=>u.oneCell')=true) (hS:St W s w)
  (h:∀ a' w' b,Fr N a' ((d,.pointer (some ⟨b,0,none⟩))::l) ds→St W (boxA b Z.length t (.agg Z.toArray)::s) w'→wpList P ops Q rest a' w'):wpList P ops Q (o::rest) a w:=by
 refine wpList_plain hg fun K hK=>?_;have hr:(execOp a.eval o).run P w=.ok (.value (.pointer (some ⟨w.heap.size,0,none⟩))) (w.alloc (.cells Z.toArray t)):=by
  unfold execOp;simp only [ho,hx,Instr.box,newVar,hv];simp [newRow,go_sem]
 unfold Oper.wp;rw [hr];exact hK _ _ (hd ▸ h _ _ _ (hF.put (Nat.le_of_ble_eq_true hN) _) (hS.alloc Z t h1))
theorem ZlC (hg:o.guard=none) (hF:Fr N a l ds) {t:TypeId} (ho:o.op=.buildSlice t 0 #[]) {d:Nat} (hd:o.dst=some d) (hN:Nat.blt d N=true) {e:TypeId} {size:Nat} (hu:Yu P t=some (e,size)) (hS:St W s w)
  (h:∀ a' w' b,Fr N a' ((d,.slice (some ⟨b,0,none⟩) 0 0)::l) ds→St W s w'→wpList P ops Q rest a' w'):wpList P ops Q (o::rest) a w:=by
 unfold Yu at hu
 split at hu
 ·rename_i e' hu'
  split at hu
  ·rename_i inf hq
   refine wpList_plain hg fun K hK=>?_;have hr:(execOp a.eval o).run P w=.ok (.value (.slice (some ⟨w.heap.size,0,none⟩) 0 0)) (w.alloc (.cells #[] e')):=by
    unfold execOp;simp only [ho,Instr.buildSlice,Sem.run_bind,run_underlying hu' w,Result.andThen_ok,UN hq w];simp [Instr.fill,newRow,go_sem]
   unfold Oper.wp;rw [hr];exact hK _ _ (hd ▸ h _ _ _ (hF.put (Nat.le_of_ble_eq_true hN) _) (hS.later ((Below.refl _ _).alloc (Nat.le_refl _) _)))
  ·cases hu
 ·cases hu
theorem Z8 (hg:o.guard=none) (hF:Fr N a l ds) {t:TypeId} {x y:Operand} (ho:o.op=.store t x y) (hd:o.dst=none) {b n:Nat} {T:TypeId} {u v:Value} (hx:a.eval x=.pointer (some ⟨b,0,none⟩)) (hy:a.eval y=v) (hS:St W s w) (i:Nat) (hi:s[i]? = some (boxA b n T u)) (hv:Cells n v) (hn:QA P t n=true)
  (h:∀ w',St W (s.set i (boxA b n T v)) w'→wpList P ops Q rest a w'):wpList P ops Q (o::rest) a w:=by
 refine wpList_plain hg fun K hK=>Zcl t x y ho b n T u v hx hy (hS.box i hi) hv (Jh hn).2 fun w' hB hO _=>?_;rw [hd];exact hK _ _ (h w' (hS.putBox i hi hB hO))
theorem ZeI {t:TypeId} (hs:Xh P t=true) {p:Addr} {u v:Value} (hc:w.cell? p=some u) (hf:w.frozen? p=false) (hv:v.oneCell'=true):(Instr.storeAt t (.pointer (some p)) v).run P w=.ok () (w.setCell p v):=by
 have h1:v.cells.size=1∧v.cells.toList=[v]:=by
  cases v <;> first|(simp [Value.oneCell'] at hv;done)|exact ⟨rfl,rfl⟩
 have hsz:=ZhF hs
 cases hq:P.info? t with
 | none=>rw [hq] at hsz;cases hsz
 | some inf =>
  rw [hq] at hsz;have hsz:inf.size=1:=by simpa using hsz
  simp only [Instr.storeAt,Instr.sureAddr,storeVar,h1.1,h1.2];simp [sizeOf,typeInfo,go_sem,hq,hsz,storeCells];rw [run_store P w p v _ hv,hc];simp [hf]
theorem Zgg (hg:o.guard=none) {t:TypeId} {x y:Operand} (ho:o.op=.store t x y) (hd:o.dst=none) {p:Addr} {u v:Value} (hx:a.eval x=.pointer (some p)) (hy:a.eval y=v) (hs:Xh P t=true) (hc:w.cell? p=some u) (hf:w.frozen? p=false) (hv:v.oneCell'=true)
  (h:wpList P ops Q rest a (w.setCell p v)):wpList P ops Q (o::rest) a w:=by
 refine wpList_plain hg fun K hK=>?_;have hr:(execOp a.eval o).run P w=.ok .skip (w.setCell p v):=by
  unfold execOp;simp only [ho,hx,hy];simp [Sem.run_bind,ZeI hs hc hf hv]
 unfold Oper.wp;rw [hr];show K (a.put o.dst undef) _;rw [hd];exact hK _ _ h
theorem ZS (hg:o.guard=none) {t:TypeId} {x y:Operand} (ho:o.op=.store t x y) (hd:o.dst=none) {b k n:Nat} {T:TypeId} {A:Array Value} {v:Value} (hx:a.eval x=.pointer (some ⟨b,k,none⟩)) (hy:a.eval y=v) (hs:Xh P t=true) (hS:St W s w) (i:Nat) (hi:s[i]? = some (boxA b n T (.agg A))) (hk:Nat.blt k A.size=true) (hv:v.oneCell'=true)
  (h:∀ w',St W (s.set i (boxA b n T (.agg (A.setIfInBounds k v)))) w'→wpList P ops Q rest a w'):wpList P ops Q (o::rest) a w:=by
 have hk:k<A.size:=Nat.le_of_ble_eq_true hk;exact Zgg hg ho hd hx hy hs ((hS.box i hi).cell k |>.trans (Array.getElem?_eq_getElem hk)) ((hS.box i hi).frozen k) hv (h _ (hS.putField i hi k hv))
theorem YJ (hg:o.guard=none) (hF:Fr N a l ds) {f:FuncId} {xs:Array Operand} {ts:Array TypeId} (ho:o.op=.call { callee:=.value (.func f),args:=xs,argTypes:=ts }) (hc:∀ (args:Array Value) (w:World),(callFunc f args).run P w=.ok (.enter f args) w)
  {args:Array Value} (hx:xs.toList.mapM (evO l)=some args.toList) {R:Ending→World→Prop} (hR:Calls P f args w R) {d:Nat} (hd:o.dst=some d) (hN:Nat.blt d N=true)
  (h:∀ e w',R e w'→∃ v,e=.returned v∧∀ a',Fr N a' ((d,v)::l) ds→wpList P ops Q rest a' w'):wpList P ops Q (o::rest) a w:=by
 have he:xs.map a.eval=args:=by
  have key:∀ (ys:List Operand) (vs:List Value),ys.mapM (evO l)=some vs→ys.map a.eval=vs:=by
   intro ys
   induction ys with
   | nil=>intro vs hv;simpa using hv
   | cons y r ih =>
    intro vs hv;rw [List.mapM_cons] at hv
    cases h1:evO l y with
    | none=>rw [h1] at hv;cases hv
    | some v =>
     rw [h1] at hv
     cases h2:r.mapM (evO l) with
     | none=>rw [h2] at hv;cases hv
     | some us =>
      rw [h2] at hv;obtain rfl:v::us=vs:=by simpa using hv
      rw [List.map_cons,hF.ev h1,ih us h2]
  apply Array.toList_inj.1
  rw [Array.toList_map];exact key _ _ hx
 refine wpList_plain hg fun K hK=>ZbM f xs ts ho hc ?_;rw [he];refine hR.mono fun e w' hr=>?_;obtain ⟨v,hv,hk⟩:=h e w' hr;exact ⟨v,hv,hK _ _ (hd ▸ hk _ (hF.put (Nat.le_of_ble_eq_true hN) v))⟩
theorem Box.sub {w:World} {b n:Nat} {t:TypeId} {A:Array Value} (h:Box w b n t (.agg A)) (k m:Nat):w.rangeAt b k ((A.toList.drop k).take m):=fun j v hv=>by
 rw [h.cell (k+j)];rw [List.getElem?_take] at hv
 split at hv
 ·rw [List.getElem?_drop] at hv
  simpa using hv
 ·cases hv
end
variable {ds:List Deferred}
section
variable {P:Program} {K:Act→World→Prop} {Q:Exit→Act→World→Prop} {a:Act} {w:World}
theorem Zz (h:K a w):Exit.then K Q .normal a w:=h
theorem YH {i:Nat} (h:Q .normal a w):Exit.inBlock i Q .normal a w:=h
theorem ZC {i:Nat} (h:Q (.exit i) a w):Exit.then K Q (.exit i) a w:=h
theorem Ya (h:Q .ret a w):Exit.then K Q .ret a w:=h
theorem Yn {i:Nat} (h:Q .ret a w):Exit.inBlock i Q .ret a w:=h
theorem Yh {i:Nat} (h:Q .normal a w):Exit.inBlock i Q (.exit i) a w:=by simpa [Exit.inBlock] using h
theorem ZfV {i j:Nat} (hij:Nat.beq j i=false) (h:Q (.exit j) a w):Exit.inBlock i Q (.exit j) a w:=by
 have:¬ j=i:=fun e=>by subst e;simp at hij
 simpa [Exit.inBlock,this] using h
def Zco (P:Program) (a:Act) (w:World):ResultVar→Value→Prop
 | .tmp t,v=>a.tmps.getD t undef=v
 | .cell k t,v=>∃ p,a.tmps.getD k undef=.pointer (some p)∧(loadVar t p).run P w=.ok v w
theorem Fr.res {N:Nat} {l:List (Nat × Value)} (h:Fr N a l ds) {k:Nat} {v:Value} (hk:lk l k=some v):Zco P a w (.tmp k) v:=h.ev (x:=.tmp k) hk
theorem Fr.resBox {N:Nat} {l:List (Nat × Value)} (h:Fr N a l ds) {k t b n:Nat} (hk:lk l k=some (.pointer (some ⟨b,0,none⟩))) {T:TypeId} {v:Value} (hb:Box w b n T v) (ht:QA P t n=true):Zco P a w (.cell k t) v:=by
 obtain ⟨⟨d,hu,hd⟩,hi⟩:=Jh ht;exact ⟨_,h.ev (x:=.tmp k) hk,ZdW hb t d hu hd hi⟩
def ZjQ (tmps:Array Value):ResultVar→Sem Value
 | .tmp t=>pure (tmps.getD t undef)
 | .cell k t=>do loadVar t (← asAddr (tmps.getD k undef))
theorem JX (fn:Func) (tmps:Array Value):results fn tmps=(do let vs ← fn.results.mapM (ZjQ tmps);pure (if h:vs.size=1 then vs[0] else .tuple vs)):=by
 unfold results
 congr 1
theorem Jp {r:ResultVar} {v:Value} (h:Zco P a w r v):(ZjQ a.tmps r).run P w=.ok v w:=by
 cases r with
 | tmp t =>
  have h:a.tmps.getD t undef=v:=h;simp only [ZjQ,Sem.run_pure,h]
 | cell k t =>
  obtain ⟨p,h1,h2⟩:=h;simp only [ZjQ,h1,asAddr,Sem.run_bind,Sem.run_pure,Result.andThen_ok,h2]
theorem ZgU {fn:Func} {R:Ending→World→Prop} {N:Nat} {l:List (Nat × Value)} (hF:Fr N a l) (hr:fn.results=#[]) (h:R (.returned (.tuple #[])) w):bodyPost P fn R .ret a w :=
 ⟨hF.df,_,by rw [JX,hr];simp,h⟩
theorem Qd {fn:Func} {R:Ending→World→Prop} {N:Nat} {l:List (Nat × Value)} (hF:Fr N a l) (hr:fn.results=#[]) (h:R (.returned (.tuple #[])) w):bodyPost P fn R .normal a w :=
 ⟨hF.df,_,by rw [JX,hr];simp,h⟩
theorem Qe {fn:Func} {R:Ending→World→Prop} {N:Nat} {l:List (Nat × Value)} (hF:Fr N a l) {r1:ResultVar} {v1:Value} (hr:fn.results=#[r1]) (h1:Zco P a w r1 v1) (h:R (.returned v1) w):bodyPost P fn R .ret a w :=
 ⟨hF.df,_,by rw [JX,hr];simp [Jp h1],h⟩
theorem Zw {fn:Func} {R:Ending→World→Prop} {N:Nat} {l:List (Nat × Value)} (hF:Fr N a l) {r1 r2:ResultVar} {v1 v2:Value} (hr:fn.results=#[r1,r2]) (h1:Zco P a w r1 v1) (h2:Zco P a w r2 v2) (h:R (.returned (.tuple #[v1,v2])) w):bodyPost P fn R .ret a w :=
 ⟨hF.df,_,by rw [JX,hr];simp [Jp h1,Jp h2],h⟩
theorem ZO {fn:Func} {R:Ending→World→Prop} {N:Nat} {l:List (Nat × Value)} (hF:Fr N a l) {r1 r2 r3:ResultVar} {v1 v2 v3:Value} (hr:fn.results=#[r1,r2,r3]) (h1:Zco P a w r1 v1) (h2:Zco P a w r2 v2) (h3:Zco P a w r3 v3) (h:R (.returned (.tuple #[v1,v2,v3])) w):bodyPost P fn R .ret a w :=
 ⟨hF.df,_,by rw [JX,hr];simp [Jp h1,Jp h2,Jp h3],h⟩
theorem Xi {N:Nat} {l:List (Nat × Value)} (hF:Fr N a l ds) {k:Nat} {x y:Code} (hk:lk l k=some (.bool true)) (h:x.wp P Q a w):(Code.cond (.tmp k) x y).wp P Q a w:=wp_cond_true (hF.ev (x:=.tmp k) hk) h
theorem XV {N:Nat} {l:List (Nat × Value)} (hF:Fr N a l ds) {k:Nat} {x y:Code} (hk:lk l k=some (.bool false)) (h:y.wp P Q a w):(Code.cond (.tmp k) x y).wp P Q a w:=wp_cond_false (hF.ev (x:=.tmp k) hk) h
theorem Fr.know {N:Nat} {l:List (Nat × Value)} (hF:Fr N a l ds) {k:Nat} {t c:Bool} (hk:lk l k=some (.bool t)) (hc:t=c):Fr N a ((k,.bool c)::l) ds:=by
 subst hc;refine ⟨hF.sz,hF.df,fun j v hv=>?_⟩;unfold lk at hv
 cases hb:Nat.beq k j with
 | true =>
  rw [hb] at hv;obtain rfl:=Nat.eq_of_beq_eq_true hb;obtain rfl:=Option.some.inj hv;exact hF.at_ _ _ hk
 | false =>
  rw [hb] at hv;exact hF.at_ j v hv
theorem Fr.cases {G:Prop} {N:Nat} {l:List (Nat × Value)} (hF:Fr N a l ds) (k:Nat) {t:Bool} (hk:lk l k=some (.bool t)) (h1:t=true→Fr N a ((k,.bool true)::l) ds→G) (h2:t=false→Fr N a ((k,.bool false)::l) ds→G):G:=by
 cases t with
 | true=>exact h1 rfl (hF.know hk rfl)
 | false=>exact h2 rfl (hF.know hk rfl)
def ZlD (l:List (Nat × Value)):List (Nat × Value)→Prop
 | []=>True
 | p::r=>lk l p.1=some p.2∧ZlD l r
theorem Fr.less {N:Nat} {l:List (Nat × Value)} (h:Fr N a l ds) (l':List (Nat × Value)) (hs:ZlD l l'):Fr N a l' ds :=
 h.sub fun p hp=>by
  induction l' with
  | nil=>cases hp
  | cons q r ih =>
   rcases List.mem_cons.1 hp with rfl|hp
   ·exact hs.1
   ·exact ih hs.2 hp
def ZeJ (args:Array Value):List (Nat × Value)→Prop
 | []=>True
 | p::r=>args[p.1]? = some p.2∧ZeJ args r
theorem Zgh {f:FuncId} {fn:Func} {c:Code} {args:Array Value} {R:Ending→World→Prop} (hf:P.funcs[f]? = some fn) (hb:fn.body=some c) {N:Nat} (hN:fn.ntmps=N) {l:List (Nat × Value)} (hl:∀ p ∈ l,args[p.1]? = some p.2) (hs:args.size≤N)
  (h:∀ a,Fr N a l→c.wp P (bodyPost P fn R) a w):Calls P f args w R:=by
 refine calls_of_wp hf hb (h _ (Fr.start ?_ fun p hp=>?_))
 ·subst hN;simp;omega
 ·have h1:=hl p hp
  have h2:p.1<args.size:=(Array.getElem?_eq_some_iff.1 h1).1;rw [Array.getElem?_append_left h2];exact h1
theorem U7 {args:Array Value}:∀ {l:List (Nat × Value)},ZeJ args l→∀ p ∈ l,args[p.1]? = some p.2
 | [],_,_,hp=>by cases hp
 | q::r,h,p,hp=>by
  rcases List.mem_cons.1 hp with rfl|hp
  ·exact h.1
  ·exact U7 h.2 p hp
theorem Zgi {p:Nat→Prop} (h:∃ n,p n):∃ n,p n∧∀ m,p m→n≤m:=by
 obtain ⟨n,hn⟩:=h
 induction n using Nat.strongRecOn with
 | _ n ih =>
  by_cases hx:∃ m,m<n∧p m
  ·obtain ⟨m,hm,hp⟩:=hx
   exact ih m hm hp
  ·exact ⟨n,hn,fun m hm=>Nat.le_of_not_lt fun hlt=>hx ⟨m,hlt,hm⟩⟩
theorem ZD {c:Code} {ι:Type} (I:ι→Act→World→Prop) (μ:ι→Nat) (i0:ι) (h0:I i0 a w)
  (round:∀ i a w,I i a w→c.wp P (Exit.then (fun a' w'=>∃ j,I j a' w'∧μ j<μ i) Q) a w):(Code.loop c).wp P Q a w:=by
 classical
 have hex:∀ {a w} {i},I i a w→∃ n i,I i a w∧μ i=n:=fun {a w i} h=>⟨μ i,i,h,rfl⟩
 refine wp_loop (fun a w=>∃ i,I i a w) (fun a w=>if h:∃ n i,I i a w∧μ i=n then Classical.choose (Zgi h) else 0) ⟨i0,h0⟩ fun a w ⟨i,hi⟩=>?_;have hx:=hex hi;obtain ⟨⟨i1,h1,e1⟩,_⟩:=Classical.choose_spec (Zgi hx);refine wp_mono (round i1 a w h1) fun e a' w' hq=>?_
 cases e with
 | normal =>
  obtain ⟨j,hj,hlt⟩:=hq;refine ⟨⟨j,hj⟩,?_⟩;have hx':=hex hj;simp only [dif_pos hx,dif_pos hx'];have:=(Classical.choose_spec (Zgi hx')).2 (μ j) ⟨j,hj,rfl⟩
  omega
 | _=>exact hq
theorem Q9 {f:FuncId} {fn:Func} {c:Code} {args:Array Value} {R:Ending→World→Prop} (hf:P.funcs[f]? = some fn) (hb:fn.body=some c) {N:Nat} (hN:fn.ntmps=N) (l:List (Nat × Value)) (hl:ZeJ args l) (hs:Nat.ble args.size N=true)
  (h:∀ a,Fr N a l→c.wp P (bodyPost P fn R) a w):Calls P f args w R :=
 Zgh hf hb hN (U7 hl) (Nat.le_of_ble_eq_true hs) h
theorem Ub {m n:Int} (hm:0≤m) (_hn:0<n):m.tmod n=m % n:=Int.tmod_eq_emod_of_nonneg hm
theorem Zeg {m n:Int} (hm:0≤m) (hn:0<n) (hb:m≤9223372036854775807):IntKind.i64.wrap (m.tdiv n)=m / n:=by
 rw [Int.tdiv_eq_ediv_of_nonneg hm];have h1:0≤m / n:=Int.ediv_nonneg hm (by omega);have h2:m / n≤m:=Int.ediv_le_self n hm;exact IntWalk.i64_in _ (by omega)
theorem Qt {x:Int} (h:-9223372036854775808≤x∧x≤9223372036854775807):IntKind.i64.wrap x=x:=IntWalk.i64_in _ h
end
section
variable {α:Type} {enc:α→List Value} {size:Nat} {e:TypeId} {W w:World} {s:List Asr}
theorem ZlE (he:∀ x,(enc x).length=size) (xs:List α) (j:Nat) (hj:j<xs.length) (x:α):YK (xs.flatMap enc) (j*size) (enc x)=(xs.set j x).flatMap enc:=by
 unfold YK;rw [Zko enc size he,he,show j*size+size=(j+1)*size by rw [Nat.add_mul];omega,Zc7 enc size he,List.set_eq_take_append_cons_drop,if_pos hj,List.flatMap_append,List.flatMap_cons]
 simp
structure Rg {α:Type} (enc:α→List Value) (size:Nat) (W:World) (ao:Option Addr) (n g off:Nat) (xs:List α):Prop where
  len:n=xs.length
  ao:∀ j,j<n→ao=some ⟨g,off,none⟩
  at_:∀ j x,xs[j]? = some x→g<W.heap.size∧W.rangeAt g (off+j*size) (enc x)
theorem St.rdOf (h:St W s w) (he:∀ x,(enc x).length=size) (i:Nat) {ao:Option Addr} {n cap:Nat} {xs:List α} (hi:s[i]? = some (Zd enc size e (.slice ao n cap) xs)):Rd enc size w ao xs.length xs:=by
 obtain ⟨_,_,e1,r⟩:=h.rdS he i hi;simp only [Value.slice.injEq] at e1;obtain ⟨rfl,rfl,rfl⟩:=e1;exact r
theorem Rd.opn {ao:Option Addr} {n:Nat} {xs:List α} (h:Rd enc size W ao n xs):∃ g off,Rg enc size W ao n g off xs:=by
 by_cases h0:0<xs.length
 ·obtain ⟨b,off,x,_,e1,hlt,_⟩:=h.at_ 0 h0
  refine ⟨b,off,h.len.symm,fun _ _=>e1,fun j x hx=>?_⟩;obtain ⟨b',off',y,hy,e2,_,hr⟩:=h.at_ j (List.getElem?_eq_some_iff.1 hx).1;rw [e1] at e2;simp only [Option.some.injEq,Addr.mk.injEq,and_true] at e2;obtain ⟨rfl,rfl⟩:=e2;obtain rfl:=Option.some.inj (hx.symm.trans hy);exact ⟨hlt,hr⟩
 ·exact ⟨0,0,h.len.symm,fun j hj=>absurd hj (by have:=h.len;omega),fun j x hx=>absurd (List.getElem?_eq_some_iff.1 hx).1 (by omega)⟩
theorem Rg.elem {ao:Option Addr} {n g off:Nat} {xs:List α} (h:Rg enc size W ao n g off xs) (hS:St W s w) {j:Nat} {x:α} (hx:xs[j]? = some x):w.rangeAt g (off+j*size) (enc x) :=
 Zq (h.at_ j x hx).2 hS.bel (h.at_ j x hx).1
theorem Rg.elem1 {enc:α→List Value} {ao:Option Addr} {n g off:Nat} {xs:List α} (h:Rg enc 1 W ao n g off xs) (hS:St W s w) {j:Nat} {x:α} (hx:xs[j]? = some x) {v:Value} (hv:enc x=[v]):w.cell? ⟨g,off+j*1,none⟩=some v:=by
 have:=h.elem hS hx 0 v (by rw [hv];rfl)
 simpa using this
theorem Zh {xs:List α} {d:α} {j:Nat} (h:j<xs.length):xs[j]? = some (xs.getD j d):=by
 rw [List.getElem?_eq_getElem h];simp [List.getD,h]
theorem St.elem (he:∀ x,(enc x).length=size) (h:St W s w) (i:Nat) {g off n cap:Nat} {xs:List α} (hi:s[i]? = some (Zd enc size e (.slice (some ⟨g,off,none⟩) n cap) xs)) {j:Nat} {x:α} (hx:xs[j]? = some x):w.rangeAt g (off+j*size) (enc x):=by
 obtain ⟨ao,cap',hv,hr⟩:=h.rdS he i hi;simp only [Value.slice.injEq] at hv;obtain ⟨rfl,rfl,rfl⟩:=hv;obtain ⟨b,o,y,hy,e1,_,hrg⟩:=hr.at_ j (List.getElem?_eq_some_iff.1 hx).1;simp only [Option.some.injEq,Addr.mk.injEq,and_true] at e1;obtain ⟨rfl,rfl⟩:=e1;obtain rfl:=Option.some.inj (hx.symm.trans hy);exact hrg
theorem St.elem1 {enc:α→List Value} (he:∀ x,(enc x).length=1) (h:St W s w) (i:Nat) {g off n cap:Nat} {xs:List α} (hi:s[i]? = some (Zd enc 1 e (.slice (some ⟨g,off,none⟩) n cap) xs)) {j:Nat} {x:α} (hx:xs[j]? = some x) {v:Value} (hv:enc x=[v]):w.cell? ⟨g,off+j*1,none⟩=some v:=by
 have:=h.elem he i hi hx 0 v (by rw [hv];rfl)
 simpa using this
theorem St.rowOpen (h:St W s w) (i:Nat) {ao:Option Addr} {n cap:Nat} {xs:List α} (hi:s[i]? = some (Zd enc size e (.slice ao n cap) xs)) (hp:0<xs.length) :
  ∃ g,ao=some ⟨g,0,none⟩∧n=xs.length∧Value.rowBlock (.slice ao n cap)=some g∧w.ownsRow W.heap.size e size (.slice (some ⟨g,0,none⟩) n cap) n (xs.flatMap enc)∧g<w.heap.size:=by
 have hr:=h.row i hi;obtain ⟨_,_,hv,_⟩:=id hr;simp only [Value.slice.injEq] at hv;obtain ⟨_,rfl,_⟩:=hv;obtain ⟨g,rfl,_,h2,_,h4,h5⟩:=hr.opn hp;exact ⟨g,rfl,rfl,h4,h5,h2⟩
theorem St.putRow (he:∀ x,(enc x).length=size) (h:St W s w) (i:Nat) {g n cap:Nat} {xs:List α} (hi:s[i]? = some (Zd enc size e (.slice (some ⟨g,0,none⟩) n cap) xs)) {j:Nat} (hj:j<xs.length) (x:α) :
  St W (s.set i (Zd enc size e (.slice (some ⟨g,0,none⟩) n cap) (xs.set j x))) (w.setCells g (j*size) (enc x)):=by
 obtain ⟨g',e1,rfl,hb,ho,hlt⟩:=h.rowOpen i hi (by omega);simp only [Option.some.injEq,Addr.mk.injEq,and_true] at e1;subst e1;have hfl:=XT enc size he xs;have hj2:j*size+size≤xs.length*size:=by rw [← Nat.succ_mul];exact Nat.mul_le_mul_right size hj
 obtain ⟨h1,h2⟩:=Vo (enc x) (j*size) w _ ho (by rw [he,hfl];exact hj2);rw [ZlE he xs j hj x] at h1;refine h.mutRow i hi (B:=W.heap.size) ⟨_,cap,by rw [List.length_set],.inr (by rw [List.length_set];exact h1),fun g' hg'=>?_⟩ (by rw [hb];exact h2) fun g' hg'=>.inl hg';rw [hb] at hg';obtain rfl:=Option.some.inj hg';exact Nat.lt_of_lt_of_le hlt h2.size
section
variable {P:Program} {ops:Array Oper} {Q:Exit→Act→World→Prop} {rest:List Oper} {o:Oper} {a:Act}
theorem ZQ {enc:α→List Value} (he:∀ x,(enc x).length=1) (hg:o.guard=none) {t:TypeId} {x y:Operand} (ho:o.op=.store t x y) (hd:o.dst=none) {g n cap j:Nat} {v:Value} (hx:a.eval x=.pointer (some ⟨g,0+j*1,none⟩)) (hy:a.eval y=v) (hs:Xh P t=true) (hS:St W s w) (i:Nat) {xs:List α}
  (hi:s[i]? = some (Zd enc 1 e (.slice (some ⟨g,0,none⟩) n cap) xs)) (hj:j<xs.length) {z:α} (hz:enc z=[v]) (hv:v.oneCell'=true)
  (h:∀ w',St W (s.set i (Zd enc 1 e (.slice (some ⟨g,0,none⟩) n cap) (xs.set j z))) w'→wpList P ops Q rest a w'):wpList P ops Q (o::rest) a w:=by
 obtain ⟨g',e1,rfl,hb,hw,hlt⟩:=hS.rowOpen i hi (by omega);simp only [Option.some.injEq,Addr.mk.injEq,and_true] at e1;subst e1;have e0:0+j*1=j:=by omega
 have hc:=hS.elem he i hi (List.getElem?_eq_getElem hj);rw [e0] at hx hc;have hc0:w.cell? ⟨g,j,none⟩=some ((enc xs[j])[0]'(by rw [he];omega)):=by
  have:=hc 0 _ (List.getElem?_eq_getElem (by rw [he];omega))
  simpa using this
 have hp:=hS.putRow he i hi hj z;rw [hz,show j*1=j by omega] at hp;exact Zgg hg ho hd hx hy hs hc0 (hw.frozenAt j) hv (h _ hp)
theorem UO (he:∀ x,(enc x).length=size) (hg:o.guard=none) {t:TypeId} {x y:Operand} (ho:o.op=.store t x y) (hd:o.dst=none) {g n cap j:Nat} {A:Array Value} (hx:a.eval x=.pointer (some ⟨g,0+j*size,none⟩)) (hy:a.eval y=.agg A) (hs:QA P t size=true) (hS:St W s w) (i:Nat) {xs:List α}
  (hi:s[i]? = some (Zd enc size e (.slice (some ⟨g,0,none⟩) n cap) xs)) (hj:j<xs.length) {z:α} (hz:A.toList=enc z) (hv:A.all (·.oneCell')=true)
  (h:∀ w',St W (s.set i (Zd enc size e (.slice (some ⟨g,0,none⟩) n cap) (xs.set j z))) w'→wpList P ops Q rest a w'):wpList P ops Q (o::rest) a w:=by
 obtain ⟨g',e1,rfl,hb,hw,hlt⟩:=hS.rowOpen i hi (by omega);simp only [Option.some.injEq,Addr.mk.injEq,and_true] at e1;subst e1;rw [Nat.zero_add] at hx;have hfl:=XT enc size he xs;have hj2:j*size+size≤xs.length*size:=by rw [← Nat.succ_mul];exact Nat.mul_le_mul_right size hj
 have hsz:A.size=size:=by rw [← Array.length_toList,hz,he]
 refine wpList_plain hg fun K hK=>wp_store_mid t x y ho g (j*size) A hx hy (by rw [hsz];exact JU hw _ _ (by rw [hfl];exact hj2)) (by rw [hsz];exact (Jh hs).2) hv ?_;rw [hd,hz];exact hK _ _ (h _ (hS.putRow he i hi hj z))
end
end
variable {ds:List Deferred}
section
variable {P:Program} {ops:Array Oper} {rest:List Oper} {o:Oper} {a:Act} {w W:World} {N:Nat} {l:List (Nat × Value)} {s:List Asr}
section
variable {Q:Act→Prop}
theorem Yr {id:Nat} {Q:Exit→Act→World→Prop} {l:List Oper} (hm:P.follows .mixedOrders=true) (hB:Region.lexB .any l.toArray=true) (hS:St W s w)
  (h:wpQuiet P l.toArray (St W s) (fun a'=>∀ w',St W s w'→Q .normal a' w') l a):(Code.region id l.toArray true).wp P Q a w :=
 wp_region_quiet (C:=St W s) hm hB hS.drew (by simpa using h)
theorem ZiV (hg:o.guard=none) (hF:Fr N a l) {d:Nat} (hd:o.dst=some d) (hN:Nat.blt d N=true) {v:Value} (hy:∀ w,St W s w→Yl P w o a v) (h:∀ a',Fr N a' ((d,v)::l)→wpQuiet P ops (St W s) Q rest a'):wpQuiet P ops (St W s) Q (o::rest) a:=by
 refine wpQuiet_step fun K hK=>?_;rw [if_pos (Jo hg)];refine ⟨v,fun w hw=>?_,hK _ (hd ▸ h _ (hF.put (Nat.le_of_ble_eq_true hN) v))⟩;unfold Oper.quietAt;rw [show (execOp a.eval o).run P w=_ from hy w hw];exact ⟨rfl,rfl⟩
end
theorem Zbb (hF:Fr N a l ds) {xs:Array Operand} {args:Array Value} (hx:xs.toList.mapM (evO l)=some args.toList):xs.map a.eval=args:=by
 have key:∀ (ys:List Operand) (vs:List Value),ys.mapM (evO l)=some vs→ys.map a.eval=vs:=by
  intro ys
  induction ys with
  | nil=>intro vs hv;simpa using hv
  | cons y r ih =>
   intro vs hv;rw [List.mapM_cons] at hv
   cases h1:evO l y with
   | none=>rw [h1] at hv;cases hv
   | some v =>
    rw [h1] at hv
    cases h2:r.mapM (evO l) with
    | none=>rw [h2] at hv;cases hv
    | some us =>
     rw [h2] at hv;obtain rfl:v::us=vs:=by simpa using hv
     rw [List.map_cons,hF.ev h1,ih us h2]
 apply Array.toList_inj.1
 rw [Array.toList_map];exact key _ _ hx
theorem ZhG {f:FuncId} {xs:Array Operand} {ts:Array TypeId} (ho:o.op=.call { callee:=.value (.func f),args:=xs,argTypes:=ts }) (hc:∀ (args:Array Value) (w:World),(callFunc f args).run P w=.ok (.enter f args) w):(execOp a.eval o).run P w=.ok (.enter f (xs.map a.eval)) w:=by
 unfold execOp;simp only [ho];simp [resolve,Act.eval,go_sem,hc]
section
variable {Q:Act→Prop}
theorem ZnD (hg:o.guard=none) (hF:Fr N a l) {f:FuncId} {xs:Array Operand} {ts:Array TypeId} (ho:o.op=.call { callee:=.value (.func f),args:=xs,argTypes:=ts }) (hc:∀ (args:Array Value) (w:World),(callFunc f args).run P w=.ok (.enter f args) w)
  {args:Array Value} (hx:xs.toList.mapM (evO l)=some args.toList) {v:Value} (hR:∀ w,St W s w→Calls P f args w fun e w'=>e=.returned v∧Below w.heap.size w w') {d:Nat} (hd:o.dst=some d) (hN:Nat.blt d N=true)
  (h:∀ a',Fr N a' ((d,v)::l)→wpQuiet P ops (St W s) Q rest a'):wpQuiet P ops (St W s) Q (o::rest) a:=by
 refine wpQuiet_step fun K hK=>?_;rw [if_pos (Jo hg)];refine ⟨v,fun w hw=>?_,hK _ (hd ▸ h _ (hF.put (Nat.le_of_ble_eq_true hN) v))⟩;unfold Oper.quietAt;rw [ZhG ho hc,Zbb hF hx];exact ⟨rfl,(hR w hw).mono fun e w' ⟨he,hb⟩=>⟨he,hw.later hb⟩⟩
theorem ZlF (hF:Fr N a l) {g dg d:Nat} {b:Bool} (hgd:o.guard=some (g,b)) (hgo:(ops[g]?).bind (·.dst)=some dg) (hgv:lk l dg=some (.bool b)) {f:FuncId} {xs:Array Operand} {ts:Array TypeId} (ho:o.op=.call { callee:=.value (.func f),args:=xs,argTypes:=ts }) (hc:∀ (args:Array Value) (w:World),(callFunc f args).run P w=.ok (.enter f args) w)
  {args:Array Value} (hx:xs.toList.mapM (evO l)=some args.toList) {v:Value} (hR:∀ w,St W s w→Calls P f args w fun e w'=>e=.returned v∧Below w.heap.size w w') (hd:o.dst=some d) (hN:Nat.blt d N=true)
  (h:∀ a',Fr N a' ((d,v)::l)→wpQuiet P ops (St W s) Q rest a'):wpQuiet P ops (St W s) Q (o::rest) a:=by
 refine wpQuiet_step fun K hK=>?_;rw [if_pos (hF.want hgd hgo hgv)];refine ⟨v,fun w hw=>?_,hK _ (hd ▸ h _ (hF.put (Nat.le_of_ble_eq_true hN) v))⟩;unfold Oper.quietAt;rw [ZhG ho hc,Zbb hF hx];exact ⟨rfl,(hR w hw).mono fun e w' ⟨he,hb⟩=>⟨he,hw.later hb⟩⟩
end
section
variable {Q:Exit→Act→World→Prop}
theorem Vv (hg:o.guard=none) (hF:Fr N a l ds) {f:FuncId} {xs:Array Operand} {ts:Array TypeId} (ho:o.op=.call { callee:=.value (.func f),args:=xs,argTypes:=ts }) (hc:∀ (args:Array Value) (w:World),(callFunc f args).run P w=.ok (.enter f args) w)
  {args:Array Value} (hx:xs.toList.mapM (evO l)=some args.toList) {v:Value} (hR:Calls P f args w fun e w'=>e=.returned v∧Below w.heap.size w w') {d:Nat} (hd:o.dst=some d) (hN:Nat.blt d N=true) (hS:St W s w)
  (h:∀ w' a',St W s w'→Fr N a' ((d,v)::l) ds→wpList P ops Q rest a' w'):wpList P ops Q (o::rest) a w :=
 YJ hg hF ho hc hx hR hd hN fun _ w' ⟨he,hb⟩=>⟨v,he,fun a' hF'=>h w' a' (hS.later hb) hF'⟩
theorem Zkv (hF:Fr N a l ds) {g dg d:Nat} {b:Bool} (hgd:o.guard=some (g,b)) (hgo:(ops[g]?).bind (·.dst)=some dg) (hgv:lk l dg=some (.bool b)) {f:FuncId} {xs:Array Operand} {ts:Array TypeId} (ho:o.op=.call { callee:=.value (.func f),args:=xs,argTypes:=ts }) (hc:∀ (args:Array Value) (w:World),(callFunc f args).run P w=.ok (.enter f args) w)
  {args:Array Value} (hx:xs.toList.mapM (evO l)=some args.toList) {v:Value} (hR:Calls P f args w fun e w'=>e=.returned v∧Below w.heap.size w w') (hd:o.dst=some d) (hN:Nat.blt d N=true) (hS:St W s w)
  (h:∀ w' a',St W s w'→Fr N a' ((d,v)::l) ds→wpList P ops Q rest a' w'):wpList P ops Q (o::rest) a w:=by
 refine wpList_step fun K hK=>?_;rw [if_pos (hF.want hgd hgo hgv)];refine ZbM f xs ts ho hc ?_;rw [Zbb hF hx];refine hR.mono fun e w' ⟨he,hb⟩=>?_;exact ⟨v,he,hK _ _ (hd ▸ h w' _ (hS.later hb) (hF.put (Nat.le_of_ble_eq_true hN) v))⟩
end
section
variable {Q:Act→Prop}
theorem Uc {id:Nat} {Q:Exit→Act→World→Prop} {l:List Oper} (n:Nat) (hm:P.follows .mixedOrders=true) (hB:Region.lexTailB .any l.toArray n=true) (hS:St W s w)
  (h:∀ w',St W s w'→wpStill P l.toArray w' (fun a'=>wpList P l.toArray Q (l.drop n) a' w') (l.take n) a):(Code.region id l.toArray true).wp P Q a w :=
 wp_region_still_tail n hm hB (h _ hS.drew)
theorem ZH (hg:o.guard=none) (hF:Fr N a l) {d:Nat} (hd:o.dst=some d) (hN:Nat.blt d N=true) {v:Value} (hy:Yl P w o a v) (h:∀ a',Fr N a' ((d,v)::l)→wpStill P ops w Q rest a'):wpStill P ops w Q (o::rest) a:=by
 refine wpStill_step fun K hK=>?_;rw [if_pos (Jo hg)];unfold Oper.still;rw [show (execOp a.eval o).run P w=_ from hy];exact ⟨rfl,hK _ (hd ▸ h _ (hF.put (Nat.le_of_ble_eq_true hN) v))⟩
end
section
variable {Q:Exit→Act→World→Prop} {fuel:Nat} {listed:Array Bool}
theorem ZlG {id:Nat} {l:List Oper} (hm:P.follows .mixedOrders=true) (hS:St W s w.drew)
  (h:wpAnyH P .any l.toArray Q (St W s) l.length (Array.replicate l.length false) a w.drew):(Code.region id l.toArray true).wp P Q a w :=
 wp_region_held (S:=St W s) hm (by simpa using h)
theorem ZoE (i:Nat) (hr:Region.ready .any ops listed=[i]) (h:wpOp P ops Q i (fun a' w'=>St W s w'∧wpAnyH P .any ops Q (St W s) fuel (listed.setIfInBounds i true) a' w') a w):wpAnyH P .any ops Q (St W s) (fuel+1) listed a w:=by
 refine wpAnyH_all hr (by simp) fun j hj=>?_;obtain rfl:j=i:=by simpa using hj
 exact h
theorem ZoF (i k:Nat) (hr:Region.ready .any ops listed=[i,k]) (h:wpOp P ops Q i (fun a' w'=>St W s w'∧wpAnyH P .any ops Q (St W s) fuel (listed.setIfInBounds i true) a' w') a w) (h2:wpOp P ops Q k (fun a' w'=>St W s w'∧wpAnyH P .any ops Q (St W s) fuel (listed.setIfInBounds k true) a' w') a w):wpAnyH P .any ops Q (St W s) (fuel+1) listed a w:=by
 refine wpAnyH_all hr (by simp) fun j hj=>?_;rcases (by simpa using hj:j=i∨j=k) with rfl|rfl
 ·exact h
 ·exact h2
section
variable {oi:Oper} {K:Act→World→Prop}
theorem ZdH {i:Nat} (hi:ops[i]? = some oi) (hg:oi.guard=none) (h:oi.wp P a w K Q):wpOp P ops Q i K a w:=by
 unfold wpOp;simp only [hi];rw [if_pos (Jo hg)];exact .inl h
theorem X4 {i:Nat} (hi:ops[i]? = some oi) (hg:oi.guard=none) {t:TypeId} {x y:Operand} (ho:oi.op=.store t x y) (hd:oi.dst=none) {b n:Nat} {T:TypeId} {u v:Value} (hx:a.eval x=.pointer (some ⟨b,0,none⟩)) (hy:a.eval y=v) {s2:List Asr} (hS:St W s2 w) (j:Nat) (hj:s2[j]? = some (boxA b n T u)) (hv:Cells n v) (hn:QA P t n=true)
  (h:∀ w',St W (s2.set j (boxA b n T v)) w'→K a w'):wpOp P ops Q i K a w:=by
 refine ZdH hi hg (Zcl t x y ho b n T u v hx hy (hS.box j hj) hv (Jh hn).2 fun w' hB hO _=>?_);rw [hd];exact h w' (hS.putBox j hj hB hO)
theorem Zkw {i:Nat} (hi:ops[i]? = some oi) (hg:oi.guard=none) {t:TypeId} {x y:Operand} (ho:oi.op=.store t x y) (hd:oi.dst=none) {b k n:Nat} {T:TypeId} {A:Array Value} {v:Value} (hx:a.eval x=.pointer (some ⟨b,k,none⟩)) (hy:a.eval y=v) (hs:Xh P t=true) {s2:List Asr} (hS:St W s2 w) (j:Nat) (hj:s2[j]? = some (boxA b n T (.agg A))) (hk:Nat.blt k A.size=true) (hv:v.oneCell'=true)
  (h:∀ w',St W (s2.set j (boxA b n T (.agg (A.setIfInBounds k v)))) w'→K a w'):wpOp P ops Q i K a w:=by
 have hk:k<A.size:=Nat.le_of_ble_eq_true hk;refine ZdH hi hg ?_;have hr:(execOp a.eval oi).run P w=.ok .skip (w.setCell ⟨b,k,none⟩ v):=by
  unfold execOp;simp only [ho,hx,hy];simp [Sem.run_bind,ZeI hs ((hS.box j hj).cell k |>.trans (Array.getElem?_eq_getElem hk)) ((hS.box j hj).frozen k) hv]
 unfold Oper.wp;rw [hr];show K (a.put oi.dst undef) _;rw [hd];exact h _ (hS.putField j hj k hv)
theorem ZlH {i:Nat} (hi:ops[i]? = some oi) (hg:oi.guard=none) (hF:Fr N a l) {t:TypeId} (ho:oi.op=.alloc t) {d:Nat} (hd:oi.dst=some d) (hN:Nat.blt d N=true) {Z:List Value} (hZ:Zgf P t=some Z) (h1:(Z.all fun u=>u.oneCell')=true) {s2:List Asr} (hS2:St W s2 w) (hS:St W s w)
  (h:∀ a' w' b,Fr N a' ((d,.pointer (some ⟨b,0,none⟩))::l)→St W (boxA b Z.length t (.agg Z.toArray)::s2) w'→St W s w'→K a' w'):wpOp P ops Q i K a w:=by
 unfold Zgf at hZ
 cases hq:P.info? t with
 | none=>rw [hq] at hZ;cases hZ
 | some inf =>
  rw [hq] at hZ;simp only [Option.bind_some] at hZ
  cases hz:inf.zero with
  | none=>rw [hz] at hZ;cases hZ
  | some z =>
   rw [hz] at hZ;have hZ:z.cells.toList=Z:=by simpa using hZ
   have hr:=Zge (P:=P) hq hz w;rw [← Array.toArray_toList (xs:=z.cells),hZ] at hr;exact ZdH hi hg (ZdE t ho Z.toArray hr (hd ▸ h _ _ _ (hF.put (Nat.le_of_ble_eq_true hN) _) (hS2.alloc Z t h1) (hS.later ((Below.refl _ _).alloc (Nat.le_refl _) _))))
theorem ZjR {i:Nat} (hi:ops[i]? = some oi) (hg:oi.guard=none) (hF:Fr N a l) {f:FuncId} {xs:Array Operand} {ts:Array TypeId} (ho:oi.op=.call { callee:=.value (.func f),args:=xs,argTypes:=ts }) (hc:∀ (args:Array Value) (w:World),(callFunc f args).run P w=.ok (.enter f args) w)
  {args:Array Value} (hx:xs.toList.mapM (evO l)=some args.toList) {R:Ending→World→Prop} (hR:Calls P f args w R) {d:Nat} (hd:oi.dst=some d) (hN:Nat.blt d N=true)
  (h:∀ e w',R e w'→∃ v,e=.returned v∧∀ a',Fr N a' ((d,v)::l)→K a' w'):wpOp P ops Q i K a w:=by
 refine ZdH hi hg (ZbM f xs ts ho hc ?_);rw [Zbb hF hx];refine hR.mono fun e w' hr=>?_;obtain ⟨v,hv,hk⟩:=h e w' hr;exact ⟨v,hv,hd ▸ hk _ (hF.put (Nat.le_of_ble_eq_true hN) v)⟩
theorem ZlI {i:Nat} (hi:ops[i]? = some oi) (hg:oi.guard=none) (hF:Fr N a l) {f:FuncId} {xs:Array Operand} {ts:Array TypeId} (ho:oi.op=.call { callee:=.value (.func f),args:=xs,argTypes:=ts }) (hc:∀ (args:Array Value) (w:World),(callFunc f args).run P w=.ok (.enter f args) w)
  {args:Array Value} (hx:xs.toList.mapM (evO l)=some args.toList) {v:Value} (hR:Calls P f args w fun e w'=>e=.returned v∧Below w.heap.size w w') {d:Nat} (hd:oi.dst=some d) (hN:Nat.blt d N=true)
  (h:∀ w',Below w.heap.size w w'→∀ a',Fr N a' ((d,v)::l)→K a' w'):wpOp P ops Q i K a w :=
 ZjR hi hg hF ho hc hx hR hd hN fun _ w' ⟨he,hb⟩=>⟨v,he,h w' hb⟩
end
theorem ZnE (hr:Region.ready .any ops listed=[]) (h:Q .normal a w):wpAnyH P .any ops Q (St W s) fuel listed a w:=wpAnyH_done hr h fuel
end
end
section
variable {W w w':World} {s:List Asr} {α:Type} {enc:α→List Value} {size:Nat} {e:TypeId}
theorem St.rowBlk (hS:St W s w) (i:Nat) {ao:Option Addr} {n cap:Nat} {xs:List α} (hi:s[i]? = some (Zd enc size e (.slice ao n cap) xs)) :
  n=xs.length∧((cap=0∧xs=[])∨(cap≠0∧∃ g cur,ao=some ⟨g,0,none⟩∧w.heap[g]? = some (.cells cur e (0,0))∧n≤cap∧cap≤maxLen∧cur.size=cap*size∧cur.toList.take (n*size)=xs.flatMap enc∧W.heap.size≤g)):=by
 obtain ⟨ao',cap',hv,hc,_⟩:=hS.row i hi;simp only [Value.slice.injEq] at hv;obtain ⟨rfl,rfl,rfl⟩:=hv;refine ⟨rfl,?_⟩
 by_cases h0:cap=0
 ·rcases hc with h|ho
  ·exact .inl h
  ·obtain ⟨_,_,hv,hle,_⟩:=Yq ho
   simp only [Value.slice.injEq,true_and] at hv;obtain ⟨rfl,rfl⟩:=hv;exact .inl ⟨h0,List.length_eq_zero_iff.1 (by omega)⟩
 ·refine .inr ⟨h0,?_⟩
  rcases hc with h|ho
  ·exact absurd h.1 h0
  ·rcases ho.2 with ⟨hv,_⟩|⟨g,cap',cur,hv,hB,hg,h1,h2,h3,h4⟩
   ·simp only [Value.slice.injEq] at hv
    exact absurd hv.2.2 h0
   ·simp only [Value.slice.injEq,true_and] at hv
    obtain ⟨rfl,rfl⟩:=hv;exact ⟨g,cur,rfl,hg,h1,h2,h3,h4,hB⟩
theorem St.rowNew (hS:St W s w) {g cap:Nat} {cur:Array Value} {ys:List α} (hb:Below w.heap.size w w') (hg:w'.heap[g]? = some (.cells cur e (0,0))) (hw:w.heap.size≤g) (hz:cur.size=cap*size) (hl:ys.length≤cap) (hm:cap≤maxLen)
  (ht:cur.toList.take (ys.length*size)=ys.flatMap enc):St W (Zd enc size e (.slice (some ⟨g,0,none⟩) ys.length cap) ys::s) w':=by
 refine hS.add (ns:=[_]) (St.ofRow (B1:=w'.heap.size) ⟨_,cap,rfl,.inr ⟨?_,.inr ⟨g,cap,cur,rfl,hw,hg,hl,hm,hz,ht⟩⟩,fun g' h=>?_⟩ hb)
 ·rw [← ht,List.length_take];have:ys.length*size≤cap*size:=Nat.mul_le_mul_right size hl;simp;omega
 ·simp only [Value.rowBlock] at h
  split at h
  ·cases h
  ·obtain rfl:=Option.some.inj h;exact Xt hg
end
variable {ds:List Deferred}
section
variable {P:Program} {w:World} {α:Type}
theorem ZdX (t ty e:TypeId) (i:TypeInfo) (ht:P.underlying t=some (.slice e)) (hi:P.info? e=some i) (ao:Option Addr) (n cap:Nat) (hn:n≤cap) (ao2:Option Addr) (c2:Nat) :
  (Builtin.append_ #[t,t] ty #[.slice ao n cap,.slice ao2 0 c2]).run P w=.ok (.slice ao n cap) w:=by
 have hfc:(Builtin.firstCells i.size 0 (.slice ao2 0 c2)).run P w=.ok #[] w:=by
  cases ao2 with
  | none=>simp [Builtin.firstCells]
  | some ad=>exact run_firstCells_some (P:=P) w i.size 0 ad 0 c2 [] (by simp) (by simp)
 cases ao <;> simp [Builtin.append_,run_underlying ht,sizeOf,typeInfo,hi,Builtin.lenOf,hfc,storeCells,hn]
theorem ZlJ (t ty e:TypeId) (i:TypeInfo) (z:Value) (size bytes:Nat) (ht:P.underlying t=some (.slice e)) (hi:P.info? e=some i) (hz:i.zero=some z)
  (hsize:i.size=size) (hby:i.bytes=bytes) (hzs:z.cells.size=size) (hsz:0<size)
  {enc:α→List Value} (he:∀ x,(enc x).length=size) {B B1:Nat} {v:Value} {xs:List α} (h:RowO enc size e w B B1 v xs) (hB:B≤w.heap.size) (ao2:Option Addr) (c2:Nat) (ys:List α)
  (hr:Rd enc size w ao2 ys.length ys) (h1:∀ u ∈ ys.flatMap enc,u.oneCell'=true) (h63:xs.length+ys.length≤maxLen) (hbytes:(xs.length+ys.length)*bytes≤140737488355328) :
  ∃ ao cap w',(Builtin.append_ #[t,t] ty #[v,.slice ao2 ys.length c2]).run P w=.ok (.slice ao (xs.length+ys.length) cap) w'∧RowO enc size e w' B w'.heap.size (.slice ao (xs.length+ys.length) cap) (xs++ys) ∧
   w.grownBy w' (Value.rowBlock v)∧∀ g,Value.rowBlock (.slice ao (xs.length+ys.length) cap)=some g→Value.rowBlock v=some g∨w.heap.size≤g:=by
 by_cases hy:ys=[]
 ·subst hy
  obtain ⟨ao,cap,rfl,ho,hg⟩:=h;have hle:xs.length≤cap:=by
   rcases ho with ho|ho
   ·rw [ho.2];exact Nat.zero_le _
   ·obtain ⟨_,_,hv,hle,_⟩:=Yq ho
    simp only [Value.slice.injEq,true_and] at hv;obtain ⟨rfl,rfl⟩:=hv;exact hle
  refine ⟨ao,cap,w,ZdX t ty e i ht hi ao _ cap hle ao2 c2,?_,⟨rfl,rfl,rfl,Nat.le_refl _,fun _ _ _=>rfl⟩,fun g hg=>.inl hg⟩;have hlt:=RowO.lt (show RowO enc size e w B B1 (.slice ao xs.length cap) xs from ⟨ao,cap,rfl,ho,hg⟩);rw [List.append_nil];exact ⟨ao,cap,rfl,ho,fun g hg=>(hlt g hg).2.2⟩
 ·have hpos:0<ys.length:=List.length_pos_iff.2 hy
  obtain ⟨ad,rfl⟩:∃ ad,ao2=some ad:=by
   cases ao2 with
   | none=>exact absurd (ZeB hr) hy
   | some ad=>exact ⟨ad,rfl⟩
  have hnews:=hr.news he hsz;have hnl:=XT _ _ he ys;obtain ⟨ao,cap,rfl,ho,hg⟩:=h;have hle:(xs++ys).length=xs.length+ys.length:=by simp
  have hfl:(xs++ys).flatMap enc=xs.flatMap enc++ys.flatMap enc:=by simp
  have mkR:∀ {w':World} {C C1:Nat} {v':Value},w'.ownsRow C e size v' (xs.length+ys.length) (xs.flatMap enc++ys.flatMap enc)→(∀ g,v'.ownBlock=some g→g<C1)→RowO enc size e w' C C1 v' (xs++ys):=fun h k=>RowO.mk (by rw [hle,hfl];exact h) k
  by_cases h0:cap=0
  ·have hx:xs=[]:=by
    rcases ho with ho|ho
    ·exact ho.2
    ·obtain ⟨_,_,hv,hle,_⟩:=Yq ho
     simp only [Value.slice.injEq,true_and] at hv;obtain ⟨rfl,rfl⟩:=hv;exact List.length_eq_zero_iff.1 (by omega)
   subst hx;subst h0;rw [Q7]
   cases ao with
   | none =>
    obtain ⟨g,cap,w',hrun,hown,hgr,_,hlt⟩:=run_append_lies (P:=P) (w:=w) t ty w.heap.size e i z size bytes ht hi hz hsize hby hzs hsz (.slice none 0 0) 0 [] ⟨by simp,.inl ⟨rfl,rfl⟩⟩ ad ys.length c2 (ys.flatMap enc) hnl hnews h1 hpos h63 hbytes (Nat.le_refl _) w.heap.size rfl;refine ⟨some ⟨g,0,none⟩,cap,w',hrun,?_,hgr,fun g' h=>?_⟩
    ·refine (mkR (by simpa using hown) (fun g' h=>?_)).mono hB (Nat.le_refl _)
     simp only [Value.ownBlock,Option.some.injEq] at h
     omega
    ·right
     have:=(hown.lt g' (X9 h)).1;exact this
   | some a0 =>
    obtain ⟨v',w',hrun,hown,hgr⟩:=run_append_arg_grows (P:=P) (w:=w) t ty e i z size bytes ht hi hz hsize hby hzs hsz a0 0 0 [] (by simp) (by simp) ad ys.length c2 (ys.flatMap enc) hnl hnews (by omega) h63 hbytes;obtain ⟨ao',cap',rfl,_⟩:=Yq hown;refine ⟨ao',cap',w',hrun,?_,hgr,fun g' h=>?_⟩
    ·refine (mkR (by simpa using hown) (fun g' h=>(hown.lt g' h).2)).mono hB (Nat.le_refl _)
    ·right
     exact (hown.lt g' (X9 h)).1
  ·have ho':w.ownsRow B e size (.slice ao xs.length cap) xs.length (xs.flatMap enc):=by
    rcases ho with ho|ho
    ·exact absurd ho.1 h0
    ·exact ho
   obtain ⟨g,cap',w',hrun,hown,hgr,hor,hlt⟩:=run_append_lies (P:=P) (w:=w) t ty B e i z size bytes ht hi hz hsize hby hzs hsz _ xs.length _ ho' ad ys.length c2 (ys.flatMap enc) hnl hnews h1 hpos h63 hbytes hB w.heap.size rfl;rw [Qa h0];refine ⟨some ⟨g,0,none⟩,cap',w',hrun,?_,hgr,fun g' h=>?_⟩
   ·refine mkR hown (fun g' h=>?_)
    simp only [Value.ownBlock,Option.some.injEq] at h
    omega
   ·have:=X9 h
    simp only [Value.ownBlock,Option.some.injEq] at this;subst this;rcases hor with h|h
    ·exact .inl h
    ·exact .inr (by omega)
end
section
variable {W w:World} {s:List Asr} {α:Type} {enc:α→List Value} {size:Nat} {e:TypeId}
theorem St.capLe (hS:St W s w) (i:Nat) {ao:Option Addr} {n cap:Nat} {xs:List α} (hi:s[i]? = some (Zd enc size e (.slice ao n cap) xs)):xs.length≤cap:=by
 obtain ⟨rfl,⟨rfl,rfl⟩|⟨h0,g,cur,rfl,hg,h1,_⟩⟩:=hS.rowBlk i hi
 ·exact Nat.le_refl _
 ·exact h1
theorem Rd.take {ao:Option Addr} {n:Nat} {xs:List α} (h:Rd enc size w ao n xs) {k:Nat} (hk:k≤xs.length):Rd enc size w ao k (xs.take k):=by
 refine ⟨by rw [List.length_take];omega,fun i hi=>?_⟩;rw [List.length_take] at hi;have:=h.2 i (by omega);rw [List.getElem?_take,if_pos (by omega)];exact this
theorem St.rdN (h:St W s w) (he:∀ x,(enc x).length=size) (i:Nat) {ao:Option Addr} {n cap:Nat} {xs:List α} (hi:s[i]? = some (Zd enc size e (.slice ao n cap) xs)):Rd enc size w ao n xs:=by
 obtain ⟨rfl,_⟩:=h.rowBlk i hi;exact h.rdOf he i hi
theorem Zgj (enc:α→List Value) (size:Nat) (w:World) (ao:Option Addr):Rd enc size w ao 0 []:=⟨rfl,fun i hi=>absurd hi (Nat.not_lt_zero _)⟩
end
structure ZbA (P:Program) (t e:TypeId) (size bytes:Nat):Prop where
  ht:P.underlying t=some (.slice e)
  info:∃ i z,P.info? e=some i∧i.zero=some z∧i.size=size∧i.bytes=bytes∧z.cells.size=size
  pos:0<size
section
variable {P:Program} {ops:Array Oper} {Q:Exit→Act→World→Prop} {rest:List Oper} {o:Oper} {a:Act} {w W:World} {N:Nat} {l:List (Nat × Value)} {s:List Asr} {α:Type} {enc:α→List Value} {size:Nat} {e:TypeId}
theorem St.appL (hS:St W s w) {t:TypeId} {bytes:Nat} (hT:ZbA P t e size bytes) (ty:TypeId) (he:∀ x,(enc x).length=size) (i:Nat) {v:Value} {xs:List α} (hi:s[i]? = some (Zd enc size e v xs)) {ao2:Option Addr} {n c2:Nat} {ys:List α} (hr:Rd enc size w ao2 n ys) (h1:∀ u ∈ ys.flatMap enc,u.oneCell'=true)
  (h63:xs.length+ys.length≤maxLen) (hbytes:(xs.length+ys.length)*bytes≤140737488355328) :
  ∃ ao cap w',(Builtin.append_ #[t,t] ty #[v,.slice ao2 n c2]).run P w=.ok (.slice ao (xs.length+ys.length) cap) w'∧St W (s.set i (Zd enc size e (.slice ao (xs.length+ys.length) cap) (xs++ys))) w':=by
 obtain ⟨i0,z,hi0,hz0,k1,k2,k3⟩:=hT.info;obtain rfl:n=ys.length:=hr.1.symm;obtain ⟨ao,cap,w',hrun,hrow,hgr,hor⟩:=ZlJ (P:=P) t ty e i0 z size bytes hT.ht hi0 hz0 k1 k2 k3 hT.pos he (hS.row i hi) hS.bel.size ao2 c2 ys hr h1 h63 hbytes;exact ⟨ao,cap,w',hrun,hS.mutRow i hi hrow hgr hor⟩
theorem ZjS {t:TypeId} {x y:Operand} (ho:o.op=.call { callee:=.builtin .append,args:=#[x,y],argTypes:=#[t,t] }) {u v r:Value} (hx:a.eval x=u) (hy:a.eval y=v) {w':World} (h:(Builtin.append_ #[t,t] o.type #[u,v]).run P w=.ok r w'):(execOp a.eval o).run P w=.ok (.value r) w':=by
 unfold execOp;simp only [ho,resolve,invoke,builtin,Sem.run_bind,Sem.run_pure,Result.andThen_ok,List.map_toArray,List.map_cons,List.map_nil,hx,hy,h]
theorem Xb (hg:o.guard=none) (hF:Fr N a l ds) {t:TypeId} {x y:Operand} (ho:o.op=.call { callee:=.builtin .append,args:=#[x,y],argTypes:=#[t,t] }) {d:Nat} (hd:o.dst=some d) (hN:Nat.blt d N=true) {v:Value} {ao2:Option Addr} {n c2:Nat} (hx:a.eval x=v) (hy:a.eval y=.slice ao2 n c2)
  {bytes:Nat} (hT:ZbA P t e size bytes) (he:∀ x,(enc x).length=size) (hS:St W s w) (i:Nat) {xs:List α} (hi:s[i]? = some (Zd enc size e v xs)) {ys:List α} (hr:Rd enc size w ao2 n ys) (h1:∀ u ∈ ys.flatMap enc,u.oneCell'=true)
  (h63:xs.length+ys.length≤maxLen) (hbytes:(xs.length+ys.length)*bytes≤140737488355328)
  (h:∀ ao cap w' a',Fr N a' ((d,.slice ao (xs.length+ys.length) cap)::l) ds→St W (s.set i (Zd enc size e (.slice ao (xs.length+ys.length) cap) (xs++ys))) w'→wpList P ops Q rest a' w'):wpList P ops Q (o::rest) a w:=by
 obtain ⟨ao,cap,w',hrun,hS'⟩:=hS.appL hT o.type he i hi (c2:=c2) hr h1 h63 hbytes;refine wpList_plain hg fun K hK=>?_;unfold Oper.wp;rw [ZjS ho hx hy hrun];exact hK _ _ (hd ▸ h _ _ _ _ (hF.put (Nat.le_of_ble_eq_true hN) _) hS')
theorem Y2 {i0:Nat} {K:Act→World→Prop} (hi0:ops[i0]? = some o) (hg:o.guard=none) (hF:Fr N a l) {t:TypeId} {x y:Operand} (ho:o.op=.call { callee:=.builtin .append,args:=#[x,y],argTypes:=#[t,t] }) {d:Nat} (hd:o.dst=some d) (hN:Nat.blt d N=true) {v:Value} {ao2:Option Addr} {n c2:Nat} (hx:a.eval x=v) (hy:a.eval y=.slice ao2 n c2)
  {bytes:Nat} (hT:ZbA P t e size bytes) (he:∀ x,(enc x).length=size) (hS:St W s w) (i:Nat) {xs:List α} (hi:s[i]? = some (Zd enc size e v xs)) {ys:List α} (hr:Rd enc size w ao2 n ys) (h1:∀ u ∈ ys.flatMap enc,u.oneCell'=true)
  (h63:xs.length+ys.length≤maxLen) (hbytes:(xs.length+ys.length)*bytes≤140737488355328)
  (h:∀ ao cap w' a',Fr N a' ((d,.slice ao (xs.length+ys.length) cap)::l)→St W (s.set i (Zd enc size e (.slice ao (xs.length+ys.length) cap) (xs++ys))) w'→K a' w'):wpOp P ops Q i0 K a w:=by
 obtain ⟨ao,cap,w',hrun,hS'⟩:=hS.appL hT o.type he i hi (c2:=c2) hr h1 h63 hbytes;refine ZdH hi0 hg ?_;unfold Oper.wp;rw [ZjS ho hx hy hrun];exact (show K (a.put o.dst _) w' by rw [hd];exact h _ _ _ _ (hF.put (Nat.le_of_ble_eq_true hN) _) hS')
theorem ZlK {i0:Nat} {K:Act→World→Prop} (hi0:ops[i0]? = some o) (hg:o.guard=none) (hF:Fr N a l) {t:TypeId} (ho:o.op=.buildSlice t 0 #[]) {d:Nat} (hd:o.dst=some d) (hN:Nat.blt d N=true) (hu:Yu P t=some (e,size)) {s2:List Asr} (hS2:St W s2 w) (hS:St W s w)
  (h:∀ a' w' b,Fr N a' ((d,.slice (some ⟨b,0,none⟩) 0 0)::l)→St W s2 w'→St W s w'→K a' w'):wpOp P ops Q i0 K a w:=by
 unfold Yu at hu
 split at hu
 ·rename_i e' hu'
  split at hu
  ·rename_i inf hq
   refine ZdH hi0 hg ?_;have hr:(execOp a.eval o).run P w=.ok (.value (.slice (some ⟨w.heap.size,0,none⟩) 0 0)) (w.alloc (.cells #[] e')):=by
    unfold execOp;simp only [ho,Instr.buildSlice,Sem.run_bind,run_underlying hu' w,Result.andThen_ok,UN hq w];simp [Instr.fill,newRow,go_sem]
   unfold Oper.wp;rw [hr];exact (show K (a.put o.dst _) _ by rw [hd];exact h _ _ _ (hF.put (Nat.le_of_ble_eq_true hN) _) (hS2.later ((Below.refl _ _).alloc (Nat.le_refl _) _)) (hS.later ((Below.refl _ _).alloc (Nat.le_refl _) _)))
  ·cases hu
 ·cases hu
theorem ZiW {t:TypeId} {x y:Operand} (ho:o.op=.slice t x none (some y) none) {ao:Option Addr} {n cap:Nat} (hx:a.eval x=.slice ao n cap) {kk:IntKind} {m:Int} (hy:a.eval y=.int kk m) {size:Nat} (hu:Yu P t=some (e,size)) {k:Nat} (hm:m=(k:Int)) (hk:k≤cap):Yl P w o a (.slice ao k cap):=by
 unfold Yu at hu
 split at hu
 ·rename_i e' hu'
  split at hu
  ·rename_i inf hq
   subst hm;have h2:((k:Int)≤(cap:Int)):=by omega
   unfold Yl execOp;simp only [ho,hx,hy,Option.map_some,Option.map_none,Instr.sliceAt,Instr.slice,Sem.run_bind,run_underlying hu' w,Result.andThen_ok];simp [Instr.slice,Instr.sliceBounds,Instr.sliceBound,asIntOf,go_sem,run_underlying hu' w,sizeOf,typeInfo,hq,h2];intro hlt;omega
  ·cases hu
 ·cases hu
theorem ZnF {x y:Operand} {tt:Array TypeId} (ho:o.op=.call { callee:=.builtin .min,args:=#[x,y],argTypes:=tt }) {k:IntKind} {m n:Int} (hx:a.eval x=.int k m) (hy:a.eval y=.int k n):Yl P w o a (.int k (min m n)):=by
 unfold Yl execOp;simp only [ho,resolve,invoke,builtin,Sem.run_bind,Sem.run_pure,Result.andThen_ok,List.map_toArray,List.map_cons,List.map_nil,hx,hy];simp only [Builtin.min_,List.foldlM_cons,List.foldlM_nil,Builtin.min2];simp [go_sem,Int.min_def]
 split <;> split <;> omega
theorem ZnG {x y:Operand} {tt:Array TypeId} (ho:o.op=.call { callee:=.builtin .max,args:=#[x,y],argTypes:=tt }) {k:IntKind} {m n:Int} (hx:a.eval x=.int k m) (hy:a.eval y=.int k n):Yl P w o a (.int k (max m n)):=by
 unfold Yl execOp;simp only [ho,resolve,invoke,builtin,Sem.run_bind,Sem.run_pure,Result.andThen_ok,List.map_toArray,List.map_cons,List.map_nil,hx,hy];simp only [Builtin.max_,List.foldlM_cons,List.foldlM_nil,Builtin.max2];simp [go_sem,Int.max_def]
 split <;> split <;> omega
theorem Fr.skipU (h:Fr N a l ds) {g d:Nat} {b:Bool} (ho:o.guard=some (g,b)) (hg:(ops[g]?).bind (·.dst)=some d) (hb:lk l d=some undef):Region.wanted o (yielded ops a.tmps)=false:=by
 simp [Region.wanted,ho,yielded,hg,h.at_ d _ hb,undef]
theorem ZhH (hF:Fr N a l ds) {ps0:Array (Nat × Operand)} {ps:List (Nat × Value)} (hp:ps0.toList.mapM (fun p=>(evO l p.2).map fun v=>(p.1,v))=some ps):(ps0.map fun (i,x)=>(i,a.eval x)).toList=ps:=by
 rw [Array.toList_map];have key:∀ (ys:List (Nat × Operand)) (vs:List (Nat × Value)),ys.mapM (fun p=>(evO l p.2).map fun v=>(p.1,v))=some vs→ys.map (fun (i,x)=>(i,a.eval x))=vs:=by
  intro ys
  induction ys with
  | nil=>intro vs hv;simpa using hv
  | cons y r ih =>
   obtain ⟨yi,yx⟩:=y;intro vs hv;rw [List.mapM_cons] at hv
   cases h1:evO l yx with
   | none=>rw [h1] at hv;cases hv
   | some v =>
    rw [h1] at hv
    cases h2:r.mapM (fun p=>(evO l p.2).map fun v=>(p.1,v)) with
    | none=>rw [h2] at hv;cases hv
    | some us =>
     rw [h2] at hv;obtain rfl:(yi,v)::us=vs:=by simpa using hv
     rw [List.map_cons,ih us h2];show (yi,a.eval yx)::us=_;rw [hF.ev h1]
 exact key _ _ hp
def Zcp (P:Program) (t:TypeId) (len:Nat) (parts:List (Nat × Value)):Option (TypeId × Nat × List Value) :=
 match P.underlying t with
 | some (.slice e)=>match P.info? e with
  | some inf=>match inf.zero with
   | some z=>if 2 ^ 24<len*inf.size then none else if len*inf.size=0 then none else
    match Instr.fill (fun i=>some (i*inf.size,inf.size)) ((Array.range (len*inf.size)).map (z.cells[· % z.cells.size]!)) parts with
    | some cells=>some (e,inf.size,cells.toList)
    | none=>none
   | none=>none
  | none=>none
 | _=>none
theorem XH (hg:o.guard=none) (hF:Fr N a l ds) {t:TypeId} {len:Nat} {ps0:Array (Nat × Operand)} (ho:o.op=.buildSlice t len ps0) {d:Nat} (hd:o.dst=some d) (hN:Nat.blt d N=true) {ps:List (Nat × Value)} (hp:ps0.toList.mapM (fun p=>(evO l p.2).map fun v=>(p.1,v))=some ps)
  {cells:List Value} (hb:Zcp P t len ps=some (e,size,cells)) (xs:List α) (hl:xs.length=len) (hx:xs.flatMap enc=cells) (hm:len≤maxLen) (hc:cells.length=len*size) (hS:St W s w)
  (h:∀ b a' w',Fr N a' ((d,.slice (some ⟨b,0,none⟩) len len)::l) ds→St W (Zd enc size e (.slice (some ⟨b,0,none⟩) len len) xs::s) w'→wpList P ops Q rest a' w'):wpList P ops Q (o::rest) a w:=by
 have hps:=ZhH hF hp;unfold Zcp at hb
 split at hb
 ·rename_i e' hu
  split at hb
  ·rename_i inf hq
   split at hb
   ·rename_i z hz
    split at hb
    ·cases hb
    ·rename_i hbig
     split at hb
     ·cases hb
     ·rename_i hnz
      split at hb
      ·rename_i cs hf
       simp only [Option.some.injEq,Prod.mk.injEq] at hb;obtain ⟨rfl,rfl,rfl⟩:=hb;refine wpList_plain hg fun K hK=>?_;have hr:(execOp a.eval o).run P w=.ok (.value (.slice (some ⟨w.heap.size,0,none⟩) len len)) (w.alloc (.cells cs e')):=by
        unfold execOp;simp only [ho,Instr.buildSlice,Sem.run_bind,run_underlying hu w,Result.andThen_ok,UN hq w,hps];simp only [if_neg hbig,if_neg hnz,Sem.run_bind,Sem.run_pure,Result.andThen_ok,ZeG hq hz w,hf];simp [newRow,go_sem]
       unfold Oper.wp;rw [hr];refine hK _ _ (hd ▸ h _ _ _ (hF.put (Nat.le_of_ble_eq_true hN) _) ?_);have hn:=hS.rowNew (w':=w.alloc (.cells cs e')) (enc:=enc) (size:=inf.size) (ys:=xs) (cap:=len) ((Below.refl _ _).alloc (Nat.le_refl _) _) (ZY w _ _ rfl) (Nat.le_refl _) (by simpa using hc) (by omega) hm (by rw [hx,hl,List.take_of_length_le (by omega)]);rw [hl] at hn;exact hn
      ·cases hb
   ·cases hb
  ·cases hb
 ·cases hb
theorem Yc {i0:Nat} {K:Act→World→Prop} (hi0:ops[i0]? = some o) (hg:o.guard=none) (hF:Fr N a l) {t:TypeId} {len:Nat} {ps0:Array (Nat × Operand)} (ho:o.op=.buildSlice t len ps0) {d:Nat} (hd:o.dst=some d) (hN:Nat.blt d N=true) {ps:List (Nat × Value)} (hp:ps0.toList.mapM (fun p=>(evO l p.2).map fun v=>(p.1,v))=some ps)
  {cells:List Value} (hb:Zcp P t len ps=some (e,size,cells)) (xs:List α) (hl:xs.length=len) (hx:xs.flatMap enc=cells) (hm:len≤maxLen) (hc:cells.length=len*size) {s2:List Asr} (hS2:St W s2 w) (hS:St W s w)
  (h:∀ b a' w',Fr N a' ((d,.slice (some ⟨b,0,none⟩) len len)::l)→St W (Zd enc size e (.slice (some ⟨b,0,none⟩) len len) xs::s2) w'→St W s w'→K a' w'):wpOp P ops Q i0 K a w:=by
 have hps:=ZhH hF hp;unfold Zcp at hb
 split at hb
 ·rename_i e' hu
  split at hb
  ·rename_i inf hq
   split at hb
   ·rename_i z hz
    split at hb
    ·cases hb
    ·rename_i hbig
     split at hb
     ·cases hb
     ·rename_i hnz
      split at hb
      ·rename_i cs hf
       simp only [Option.some.injEq,Prod.mk.injEq] at hb;obtain ⟨rfl,rfl,rfl⟩:=hb;refine ZdH hi0 hg ?_;have hr:(execOp a.eval o).run P w=.ok (.value (.slice (some ⟨w.heap.size,0,none⟩) len len)) (w.alloc (.cells cs e')):=by
        unfold execOp;simp only [ho,Instr.buildSlice,Sem.run_bind,run_underlying hu w,Result.andThen_ok,UN hq w,hps];simp only [if_neg hbig,if_neg hnz,Sem.run_bind,Sem.run_pure,Result.andThen_ok,ZeG hq hz w,hf];simp [newRow,go_sem]
       unfold Oper.wp;rw [hr];have hn:=hS2.rowNew (w':=w.alloc (.cells cs e')) (enc:=enc) (size:=inf.size) (ys:=xs) (cap:=len) ((Below.refl _ _).alloc (Nat.le_refl _) _) (ZY w _ _ rfl) (Nat.le_refl _) (by simpa using hc) (by omega) hm (by rw [hx,hl,List.take_of_length_le (by omega)]);rw [hl] at hn;exact (show K (a.put o.dst _) _ by rw [hd];exact h _ _ _ (hF.put (Nat.le_of_ble_eq_true hN) _) hn (hS.later ((Below.refl _ _).alloc (Nat.le_refl _) _)))
      ·cases hb
   ·cases hb
  ·cases hb
 ·cases hb
end
section
variable {P:Program} {ops:Array Oper} {Q:Exit→Act→World→Prop} {K:Act→World→Prop} {rest:List Oper} {o:Oper} {a:Act} {w:World} {N:Nat} {l:List (Nat × Value)}
theorem Yj {id:Nat} {l:List Oper} {y:Code} (h:wpList P l.toArray (Exit.then (y.wp P Q) Q) l a w):(Code.seq (Code.region id l.toArray false) y).wp P Q a w:=wp_seq (wp_region_lit h)
theorem Zk (h:K a w):wpList P ops (Exit.then K Q) [] a w:=wpList_nil (Zz h)
theorem Y0 (hF:Fr N a l) (hg:o.guard=none) {d:Nat} (hd:o.dst=some d) (hN:Nat.blt d N=true) {x:Operand} (ho:o.op=.move x) {v:Value} (hx:evO l x=some v) (h:∀ a',Fr N a' ((d,v)::l)→wpList P ops Q rest a' w):wpList P ops Q (o::rest) a w:=Z2 hg hF hd hN (Yf ho (hF.ev hx)) h
theorem Ja (hF:Fr N a l) (hg:o.guard=none) {d:Nat} (hd:o.dst=some d) (hN:Nat.blt d N=true) {x:Operand} (ho:o.op=.assign x) {v:Value} (hx:evO l x=some v) (h:∀ a',Fr N a' ((d,v)::l)→wpList P ops Q rest a' w):wpList P ops Q (o::rest) a w:=Z2 hg hF hd hN (Zc9 ho (hF.ev hx)) h
theorem zm (hF:Fr N a l) {d:Nat} {x:Operand} {v:Value} (h:∀ a',Fr N a' ((d,v)::l)→wpList P ops Q rest a' w) (hg:o.guard=none:=by exact rfl) (hd:o.dst=some d:=by exact rfl) (hN:Nat.blt d N=true:=by exact rfl) (ho:o.op=.move x:=by exact rfl) (hx:evO l x=some v:=by exact rfl):wpList P ops Q (o::rest) a w:=Y0 hF hg hd hN ho hx h
theorem za (hF:Fr N a l) {d:Nat} {x:Operand} {v:Value} (h:∀ a',Fr N a' ((d,v)::l)→wpList P ops Q rest a' w) (hg:o.guard=none:=by exact rfl) (hd:o.dst=some d:=by exact rfl) (hN:Nat.blt d N=true:=by exact rfl) (ho:o.op=.assign x:=by exact rfl) (hx:evO l x=some v:=by exact rfl):wpList P ops Q (o::rest) a w:=Ja hF hg hd hN ho hx h
theorem zy (hF:Fr N a l) {d:Nat} {v:Value} (hy:Yl P w o a v) (h:∀ a',Fr N a' ((d,v)::l)→wpList P ops Q rest a' w) (hg:o.guard=none:=by exact rfl) (hd:o.dst=some d:=by exact rfl) (hN:Nat.blt d N=true:=by exact rfl):wpList P ops Q (o::rest) a w:=Z2 hg hF hd hN hy h
theorem zg (hF:Fr N a l) {g dg d:Nat} {b:Bool} {v:Value} (hy:Yl P w o a v) (h:∀ a',Fr N a' ((d,v)::l)→wpList P ops Q rest a' w) (hgd:o.guard=some (g,b):=by exact rfl) (hgo:(ops[g]?).bind (·.dst)=some dg:=by exact rfl) (hgv:lk l dg=some (.bool b):=by exact rfl) (hd:o.dst=some d:=by exact rfl) (hN:Nat.blt d N=true:=by exact rfl):wpList P ops Q (o::rest) a w:=Zo4 hF hgd hgo hgv hd hN hy h
section
variable {W:World} {s:List Asr} {Q:Act→Prop}
end
section
variable {W:World} {s:List Asr} {Q:Exit→Act→World→Prop} {fuel:Nat} {listed:Array Bool}
end
end
section
variable {P:Program} {w:World} {o:Oper} {a:Act} {x y z:Operand} {t t':TypeId}
theorem ylo (ho:o.op=.load t x) {p:Addr} (hx:a.eval x=.pointer (some p)) {v:Value} (hc:w.cell? p=some v) (hs:Xh P t=true:=by kernel_rfl):Yl P w o a v:=Yg ho hx hc hs
theorem ylr (ho:o.op=.load t x) {b k:Nat} (hx:a.eval x=.pointer (some ⟨b,k,none⟩)) {cs:List Value} (hc:w.rangeAt b k cs) (hs:QA P t cs.length=true:=by kernel_rfl):Yl P w o a (.agg cs.toArray):=Q8 ho hx hc hs
theorem yfa (j:Nat) {i:Nat} (ho:o.op=.fieldAddr t x i) {b k:Nat} (hx:a.eval x=.pointer (some ⟨b,k,none⟩)) (hj:UM P t i=some j:=by kernel_rfl):Yl P w o a (.pointer (some ⟨b,k+j,none⟩)):=JB ho hx hj
end
def ZnH:List Value→Nat→Option Value
 | [],_=>none
 | v::_,0=>some v
 | _::r,i+1=>ZnH r i
theorem ZgV:∀ (xs:List Value) (i:Nat),ZnH xs i=xs[i]?
 | [],_=>rfl
 | _::_,0=>rfl
 | _::r,i+1=>ZgV r i
def Zo5:BinOp→Int→Int→Option Value
 | .eql,m,n=>some (.bool (m == n))
 | .neq,m,n=>some (.bool (m != n))
 | .lss,m,n=>some (.bool (decide (m<n)))
 | .leq,m,n=>some (.bool (decide (m≤n)))
 | .gtr,m,n=>some (.bool (decide (n<m)))
 | .geq,m,n=>some (.bool (decide (n≤m)))
 | _,_,_=>none
def auV (l:List (Nat × Value)):Op→Option Value
 | .move x=>evO l x
 | .assign x=>evO l x
 | .extract x i=>match evO l x with
  | some (.tuple vs)=>ZnH vs.toList i
  | _=>none
 | .nilCheck x=>match evO l x with
  | some (.pointer (some p))=>some (.pointer (some p))
  | _=>none
 | .unOp .not _ x=>match evO l x with
  | some (.bool b)=>some (.bool !b)
  | _=>none
 | .pick z x y=>match evO l z with
  | some (.bool true)=>evO l x
  | some (.bool false)=>evO l y
  | _=>none
 | .binOp op _ x y _=>match evO l x with
  | some (.int k m)=>match evO l y with
   | some (.int k' n)=>match decide (k=k') with
    | true=>Zo5 op m n
    | false=>none
   | _=>none
  | _=>none
 | _=>none
theorem ZiX {P:Program} {w:World} {o:Oper} {a:Act} {N:Nat} {l:List (Nat × Value)} (hF:Fr N a l) {p:Op} (ho:o.op=p) {v:Value} (h:auV l p=some v):Yl P w o a v:=by
 unfold auV at h
 split at h
 ·exact Yf ho (hF.ev h)
 ·exact Zc9 ho (hF.ev h)
 ·split at h
  ·rename_i hx
   exact Z4 ho (hF.ev hx) (by rw [ZgV] at h;simpa using h)
  ·cases h
 ·split at h
  ·rename_i hx
   obtain rfl:=Option.some.inj h;exact Yt ho (hF.ev hx)
  ·cases h
 ·split at h
  ·rename_i hx
   obtain rfl:=Option.some.inj h;exact Q2 ho (hF.ev hx)
  ·cases h
 ·split at h
  ·rename_i hx
   exact Zkt ho (hF.ev hx) (hF.ev h)
  ·rename_i hx
   exact Zku ho (hF.ev hx) (hF.ev h)
  ·cases h
 ·split at h
  ·rename_i hx
   split at h
   ·rename_i hy
    split at h
    ·rename_i hk
     obtain rfl:=of_decide_eq_true hk;unfold Zo5 at h
     split at h
     ·obtain rfl:=Option.some.inj h;exact ZjP ho (hF.ev hx) (hF.ev hy)
     ·obtain rfl:=Option.some.inj h;exact ZnA ho (hF.ev hx) (hF.ev hy)
     ·obtain rfl:=Option.some.inj h;exact Zcm ho (hF.ev hx) (hF.ev hy)
     ·obtain rfl:=Option.some.inj h;exact VX ho (hF.ev hx) (hF.ev hy)
     ·obtain rfl:=Option.some.inj h;exact Zee ho (hF.ev hx) (hF.ev hy)
     ·obtain rfl:=Option.some.inj h;exact ZnB ho (hF.ev hx) (hF.ev hy)
     ·cases h
    ·cases h
   ·cases h
  ·cases h
 ·cases h
def auG (ops:Array Oper) (l:List (Nat × Value)) (o:Oper):Option Bool:=match o.guard with
 | none=>some true
 | some (g,b)=>match (ops[g]?).bind (·.dst) with
  | none=>none
  | some dg=>match lk l dg with
   | some (.bool c)=>some (c == b)
   | some (.tuple vs)=>match vs.toList with
    | []=>some false
    | _=>none
   | _=>none
def auS (N:Nat) (ops:Array Oper) (l:List (Nat × Value)) (o:Oper):Option (Nat × Value):=match o.dst with
 | none=>none
 | some d=>match Nat.blt d N with
  | false=>none
  | true=>match auG ops l o with
   | none=>none
   | some false=>some (d,undef)
   | some true=>match auV l o.op with
    | some v=>some (d,v)
    | none=>none
def auR (N:Nat) (ops:Array Oper):Nat→List Oper→List (Nat × Value)→Option (List Oper × List (Nat × Value))
 | 0,r,l=>some (r,l)
 | _+1,[],_=>none
 | n+1,o::r,l=>match auS N ops l o with
  | some (d,v)=>auR N ops n r ((d,v)::l)
  | none=>none
theorem Zay {ops:Array Oper} {l:List (Nat × Value)} {o:Oper} {a:Act} {N:Nat} (hF:Fr N a l) {c:Bool} (h:auG ops l o=some c):Region.wanted o (yielded ops a.tmps)=c:=by
  unfold auG at h
  split at h
  · rename_i hg
    obtain rfl:=Option.some.inj h;exact Jo hg
  · rename_i g b hg
    split at h
    · cases h
    · rename_i dg hd
      split at h
      · rename_i c' hl
        obtain rfl:=Option.some.inj h
        cases hc:(c' == b) with
        | true => obtain rfl:c'=b:=by simpa using hc
                  exact hF.want hg hd hl
        | false=>exact hF.skip hg hd hl hc
      · rename_i vs hl
        split at h
        · rename_i hv
          obtain rfl:=Option.some.inj h;have:vs=#[]:=by simpa using hv
          subst this;exact hF.skipU hg hd hl
        · cases h
      · cases h
theorem zr (n:Nat) {P:Program} {ops:Array Oper} {Q:Exit→Act→World→Prop} {rest r:List Oper} {a:Act} {w:World} {N:Nat} {l l':List (Nat × Value)} (hF:Fr N a l) (hr:auR N ops n rest l=some (r,l')) (h:∀ a',Fr N a' l'→wpList P ops Q r a' w):wpList P ops Q rest a w:=by
 induction n generalizing rest l a with
 | zero =>
  simp only [auR,Option.some.injEq,Prod.mk.injEq] at hr;obtain ⟨rfl,rfl⟩:=hr;exact h a hF
 | succ n ih =>
  cases rest with
  | nil=>cases hr
  | cons o rest =>
   unfold auR at hr
   split at hr
   ·rename_i d v hs
    unfold auS at hs
    split at hs
    ·cases hs
    ·rename_i d' hd
     split at hs
     ·cases hs
     ·rename_i hN
      split at hs
      ·cases hs
      ·rename_i hg
       simp only [Option.some.injEq,Prod.mk.injEq] at hs;obtain ⟨rfl,rfl⟩:=hs;refine wpList_step fun K hK=>?_;rw [if_neg (by rw [Zay hF hg];simp)];exact hK _ _ (hd ▸ ih (hF.put (Nat.le_of_ble_eq_true hN) undef) hr)
      ·rename_i hg
       split at hs
       ·rename_i v' hv
        simp only [Option.some.injEq,Prod.mk.injEq] at hs;obtain ⟨rfl,rfl⟩:=hs;refine wpList_step fun K hK=>?_;rw [if_pos (Zay hF hg)];unfold Oper.wp;rw [show (execOp a.eval o).run P w=_ from ZiX hF rfl hv];exact hK _ _ (hd ▸ ih (hF.put (Nat.le_of_ble_eq_true hN) _) hr)
       ·cases hs
   ·cases hr
theorem zrq (n:Nat) {P:Program} {ops:Array Oper} {W:World} {s:List Asr} {Q:Act→Prop} {rest r:List Oper} {a:Act} {N:Nat} {l l':List (Nat × Value)} (hF:Fr N a l) (hr:auR N ops n rest l=some (r,l')) (h:∀ a',Fr N a' l'→wpQuiet P ops (St W s) Q r a'):wpQuiet P ops (St W s) Q rest a:=by
 induction n generalizing rest l a with
 | zero =>
  simp only [auR,Option.some.injEq,Prod.mk.injEq] at hr;obtain ⟨rfl,rfl⟩:=hr;exact h a hF
 | succ n ih =>
  cases rest with
  | nil=>cases hr
  | cons o rest =>
   unfold auR at hr
   split at hr
   ·rename_i d v hs
    unfold auS at hs
    split at hs
    ·cases hs
    ·rename_i d' hd
     split at hs
     ·cases hs
     ·rename_i hN
      split at hs
      ·cases hs
      ·rename_i hg
       simp only [Option.some.injEq,Prod.mk.injEq] at hs;obtain ⟨rfl,rfl⟩:=hs;refine wpQuiet_step fun K hK=>?_;rw [if_neg (by rw [Zay hF hg];simp)];exact hK _ (hd ▸ ih (hF.put (Nat.le_of_ble_eq_true hN) undef) hr)
      ·rename_i hg
       split at hs
       ·rename_i v' hv
        simp only [Option.some.injEq,Prod.mk.injEq] at hs;obtain ⟨rfl,rfl⟩:=hs;refine wpQuiet_step fun K hK=>?_;rw [if_pos (Zay hF hg)];refine ⟨_,fun w hw=>?_,hK _ (hd ▸ ih (hF.put (Nat.le_of_ble_eq_true hN) _) hr)⟩;unfold Oper.quietAt;rw [show (execOp a.eval o).run P w=_ from ZiX hF rfl hv];exact ⟨rfl,rfl⟩
       ·cases hs
   ·cases hr
end Go.Proofs.YtenejpbnncbilaaGreatDoor
