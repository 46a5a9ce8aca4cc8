/- FnExactTablePut: for every store, every tree, every number and every node, valid or not, the law returns true and its arguments read behind the call as before. No condition but that the tables of the library that the row lists hold what the program's text lays. -/
import Derived.ChangeMaps5
import Derived.ChangeVars
import Derived.Deep.DeepHandedRow
import Derived.Deep.DeepWitnessRowRef
import Derived.Deep.Slices
import Derived.JoinedCond
import Derived.LaidLaws
import Derived.Lay
import Derived.Lib.LaidTab
import Derived.Lib.LaidU8
import Derived.MakeChecks
import Derived.OpenShut
import Derived.ProofKit
import Derived.Test.YtenejpbnncbilaaGreatDoorCards
import Derived.Test.YtenejpbnncbilaaGreatDoorTie
import Derived.WideKeyMaps2
import Derived.Test.YtenejpbnncbilaaGreatDoorTpZ9
namespace Go.Proofs.YtenejpbnncbilaaGreatDoor
set_option maxHeartbeats 40000000
open Go.Proofs.Tryz
open List (append_nil drop_zero flatMap_cons getD_eq_getElem?_getD getElem?_eq_getElem length length_append length_cons length_map length_nil length_replicate length_set length_take mem_cons mem_cons_of_mem mem_cons_self mem_singleton nil_append replicate)
open Option (getD_some)
set_option linter.unusedVariables false
set_option linter.unusedSimpArgs false
set_option maxRecDepth 100000
open Go.RowKit
open Go.ChangeShapes Go.WideShapes Go.ChangeAt Go.Deep
theorem Tryz.own:ownKnob Tryz.prog.godebug=none:=by kernel_rfl
theorem Tryz.laidOut:laidOutB prog=true:=by kernel_rfl
section
variable {H:Type} {enc:TypeId × Value→H} {P:Program}
theorem ZbJ (hl:laidOutB P=true) {W W':World} (hb:Below W.heap.size W W'):∀ (ts:List TypeId) (vs:List Value) (ds:List (DataW H)) (ps:List MemPlace),
  (∀ t ∈ ts,P.readableRec t=true∧t<P.types.size)→DataW.TrodAll enc P W 0 (fun _=>true) true ts vs ds ps→(∀ x ∈ ps,x.block<W.heap.size) →
  DataW.TrodAll enc P W' 0 (fun b=>decide (b<W.heap.size)) true ts vs ds ps
 | [],[],[],_,_,h,_=>h
 | t::ts,v::vs,d::ds,ps,ht,⟨p,q,h1,h2,e⟩,hlt =>
  ⟨p,q,Below.trod hl (ht t (by simp)).1 (ht t (by simp)).2 h1 hb (fun x hx=>hlt x (by rw [e];exact List.mem_append_left _ hx)),
   ZbJ hl hb ts vs ds q (fun t' h'=>ht t' (by simp [h'])) h2 (fun x hx=>hlt x (by rw [e];exact List.mem_append_right _ hx)),e⟩
theorem Zm6 (hl:laidOutB P=true) {f:Func} {s:ChangeSpec} {apart fresh handsOn:Bool} {W W':World} {args:Array Value} {ds:List (DataW H)} {before:List MemPlace} {tb:TypeId}
  (hvars:s.vars=[]) (hrt:f.resultTypes.toList=[tb]) (hrs:f.resultTypes.size=1) (htb:P.underlying tb=some .bool)
  (hspec:s.fn H (ds++[])={ results:=[.lit (.bool true)],args:=ds })
  (hty0:(f.params.toList.all fun t=>P.readableRec t && decide (t<P.types.size))=true)
  (hW:DataW.Whole enc P f.params.toList s.vars apart W args.toList ds [] before) (hb:Below W.heap.size W W') :
  s.post enc P f apart fresh handsOn false W args (.bool true) W':=by
 have hW':=hW;have hty:∀ t ∈ f.params.toList,P.readableRec t=true∧t<P.types.size:=fun t ht=>by
  have:=List.all_eq_true.1 hty0 t ht
  simpa using this
 obtain ⟨p,q,hA,hV,rfl,_,_⟩:=hW;rw [hvars] at hV;obtain ⟨_,rfl⟩:=trodVars_none hV;have hlt:∀ x ∈ p,x.block<W.heap.size:=fun x hx=>hW'.lt x (List.mem_append_left _ hx)
 refine ⟨ds,[],_,[],p,[],hW',?_,?_,?_,hb.frame _,fun h=>by cases h⟩
 ·rw [hspec,hrt,hrs]
  exact trodAll_mk1 (shut_bool htb true)
 ·rw [hspec]
  exact ZbJ hl hb _ _ _ _ hty hA hlt
 ·rw [hspec,hvars]
  exact rfl
theorem Za6 {α:Type} [Inhabited α] {ef:α→List Value} {size:Nat} {Q:α→Prop} {w:World} {spare:Nat→Bool} {held:Bool} {t e:TypeId} {fuel:Nat} {c:Value} {x:DataW H × List MemPlace} (ht:P.underlying t=some (.slice e)) (hc:P.cellsOf e=size) (hsz:0<size)
  (hel:∀ n cs y,DataW.trod enc P w 0 spare held n e cs=some y→∃ a:α,cs=ef a∧Q a) (h:DataW.trod enc P w 0 spare held fuel t [c]=some x) :
  ∃ ao len cap xs,c=.slice ao len cap∧len≤maxLen∧Rd ef size w ao len xs∧∀ a ∈ xs,Q a:=by
 rcases open_slice ht h with ⟨hcs,_⟩|⟨a,len,cap,m,n,D,Pl,hcs,_,hlc,hcm,hm,_,hi⟩
 ·simp only [List.cons.injEq,and_true] at hcs
  exact ⟨none,0,0,[],hcs,Nat.zero_le _,⟨rfl,fun i hi=>absurd hi (Nat.not_lt_zero _)⟩,by simp⟩
 ·simp only [List.cons.injEq,and_true] at hcs
  have hmle:len≤m:=by rw [hm];split <;> omega
  have key:∀ i,i<len→∃ a0:α,w.cells? 0 (a.add (i*size)) size=some (ef a0)∧Q a0:=by
   intro i hil;obtain ⟨cs',h1,h2⟩:=hi i (by omega);obtain ⟨a0,rfl,hq⟩:=hel _ _ _ h2;rw [hc] at h1;exact ⟨a0,h1,hq⟩
  obtain ⟨f,hf⟩:=choose_lt key;refine ⟨some a,len,cap,(List.range len).map f,hcs,Nat.le_trans hlc hcm,⟨by simp,fun i hil=>?_⟩,?_⟩
  ·simp only [length_map,List.length_range] at hil
   obtain ⟨b,off,spot⟩:=a;obtain ⟨h1,hq⟩:=hf i hil;obtain ⟨_,hlen,hcell⟩:=World.cells?_some h1;have h0:w.cell? (((⟨b,off,spot⟩:Addr).add (i*size)).add 0)=some ((ef (f i))[0]'(by omega)):=by
    rw [hcell 0 hsz,getElem?_eq_getElem (by omega)]
   have hspot:spot=none:=by
    obtain ⟨h10,_⟩:=hf 0 (by omega);obtain ⟨_,hlen0,hcell0⟩:=World.cells?_some h10;have h00:w.cell? (((⟨b,off,spot⟩:Addr).add (0*size)).add 0)=some ((ef (f 0))[0]'(by omega)):=by
     rw [hcell0 0 hsz,getElem?_eq_getElem (by omega)]
    have:=World.cell?_spot h00
    simpa [Addr.add] using this
   subst hspot;refine ⟨b,off,f i,by simp [hil],rfl,?_,fun j v hv=>?_⟩
   ·have:=World.block_lt_of_cell? w _ h0
    simpa [Addr.add_mid] using this
   ·have hj:j<size:=by have:=(List.getElem?_eq_some_iff.1 hv).1;omega
    have:=hcell j hj;rw [Addr.add_mid,Addr.add_mid] at this;rw [this,hv]
  ·intro a0 ha0
   obtain ⟨i,hi',rfl⟩:=List.mem_map.1 ha0;exact (hf i (List.mem_range.1 hi')).2
theorem fld {w:World} {spare:Nat→Bool} {held:Bool} {t:TypeId} {fs:Array Field} {n:Nat} {cs:List Value} {x:DataW H × List MemPlace} (ht:P.underlying t=some (.struct fs)) (h:DataW.trod enc P w 0 spare held n t cs=some x)
  (i:Nat) (f:Field) (hi:fs[i]? = some f) {k:Nat} (hk:P.cellsOf f.type=k) {cs':List Value} (hc:(cs.drop f.offset).take k=cs'):∃ m y,DataW.trod enc P w 0 spare held m f.type cs'=some y:=by
 obtain ⟨xs,m,_,_,_,hx,hf⟩:=DataW.trod_struct ht h;have h1:=hf i f hi;have hlt:i<xs.length:=by rw [hx];exact (Array.getElem?_eq_some_iff.1 hi).1
 rw [hk,hc,getElem?_eq_getElem hlt] at h1;exact ⟨m,_,h1⟩
theorem XM {w:World} {spare:Nat→Bool} {held:Bool} {t:TypeId} {fs:Array Field} {n:Nat} {cs:List Value} {x:DataW H × List MemPlace} (ht:P.underlying t=some (.struct fs)) (h:DataW.trod enc P w 0 spare held n t cs=some x)
  (i:Nat) (f:Field) (hi:fs[i]? = some f) (hk:P.cellsOf f.type=1) (hu:P.underlying f.type=some (.int .i64)) {c:Value} (hc:(cs.drop f.offset).take 1=[c]):∃ a:Int,c=.int .i64 a∧-9223372036854775808≤a∧a≤9223372036854775807:=by
 obtain ⟨m,y,h1⟩:=fld ht h i f hi hk hc;obtain ⟨a,e,_,hw⟩:=DataW.trod_int hu h1;simp [Lit.wf,IntKind.min,IntKind.max,IntKind.signed,IntKind.bits] at hw;exact ⟨a,by simpa using e,by omega,by omega⟩
theorem Zm7 {w:World} {spare:Nat→Bool} {held:Bool} {t:TypeId} {fs:Array Field} {n:Nat} {cs:List Value} {x:DataW H × List MemPlace} (ht:P.underlying t=some (.struct fs)) (h:DataW.trod enc P w 0 spare held n t cs=some x)
  (i:Nat) (f:Field) (hi:fs[i]? = some f) (hk:P.cellsOf f.type=1) (hu:P.underlying f.type=some .bool) {c:Value} (hc:(cs.drop f.offset).take 1=[c]):∃ a:Bool,c=.bool a:=by
 obtain ⟨m,y,h1⟩:=fld ht h i f hi hk hc;obtain ⟨a,e,_⟩:=DataW.trod_bool hu h1;exact ⟨a,by simpa using e⟩
end
theorem Za7 {H:Type} {enc:TypeId × Value→H} {P:Program} {w:World} {spare:Nat→Bool} {held:Bool} {t:TypeId} {fs:Array Field} {n:Nat} {cs:List Value} {x:DataW H × List MemPlace} (ht:P.underlying t=some (.struct fs)) (h:DataW.trod enc P w 0 spare held n t cs=some x) {k:Nat} (hk:P.cellsOf t=k):cs.length=k:=by
 obtain ⟨xs,m,_,_,hl,_⟩:=DataW.trod_struct ht h;exact hl.trans hk
theorem ZoD {α:Type} {l:List α} (h:l.length=5):∃ a b c d e,l=[a,b,c,d,e]:=by
 match l,h with
 | [a,b,c,d,e],_=>exact ⟨a,b,c,d,e,rfl⟩
theorem Zpu {α:Type} {l:List α} (h:l.length=8):∃ a b c d e f g i,l=[a,b,c,d,e,f,g,i]:=by
 match l,h with
 | [a,b,c,d,e,f,g,i],_=>exact ⟨a,b,c,d,e,f,g,i,rfl⟩
theorem Tryz.cellsInt:Tryz.prog.cellsOf 3=1:=by kernel_rfl
theorem Tryz.cellsString:Tryz.prog.cellsOf 9=1:=by kernel_rfl
theorem Tryz.cellsBool:Tryz.prog.cellsOf 4=1:=by kernel_rfl
instance:Inhabited PtrD:=⟨⟨0,0,0,0,0⟩⟩
theorem Tryz.cellsPtr:Tryz.prog.cellsOf 30=5:=by kernel_rfl
theorem Tryz.cellsPtrS:Tryz.prog.cellsOf 26=1:=by kernel_rfl
theorem Tryz.cellsStringS:Tryz.prog.cellsOf 22=1:=by kernel_rfl
theorem Tryz.cellsIntS:Tryz.prog.cellsOf 23=1:=by kernel_rfl
theorem Tryz.cellsSpace:Tryz.prog.cellsOf 25=2:=by kernel_rfl
theorem Tryz.cellsStore:Tryz.prog.cellsOf 28=8:=by kernel_rfl
section
variable {H:Type} {enc:TypeId × Value→H} {w:World} {spare:Nat→Bool} {held:Bool}
theorem PtrD.read (n:Nat) (cs:List Value) (y:DataW H × List MemPlace) (h:DataW.trod enc prog w 0 spare held n 30 cs=some y):∃ a:PtrD,cs=a.cells∧True:=by
 obtain ⟨c0,c1,c2,c3,c4,rfl⟩:=ZoD (Za7 Tryz.underlying30 h Tryz.cellsPtr);obtain ⟨a0,rfl,_⟩:=XM Tryz.underlying30 h 0 _ rfl Tryz.cellsInt Tryz.underlying3 rfl;obtain ⟨a1,rfl,_⟩:=XM Tryz.underlying30 h 1 _ rfl Tryz.cellsInt Tryz.underlying3 rfl;obtain ⟨a2,rfl,_⟩:=XM Tryz.underlying30 h 2 _ rfl Tryz.cellsInt Tryz.underlying3 rfl;obtain ⟨a3,rfl,_⟩:=XM Tryz.underlying30 h 3 _ rfl Tryz.cellsInt Tryz.underlying3 rfl;obtain ⟨a4,rfl,_⟩:=XM Tryz.underlying30 h 4 _ rfl Tryz.cellsInt Tryz.underlying3 rfl;exact ⟨⟨a0,a1,a2,a3,a4⟩,rfl,trivial⟩
theorem ZiO (n:Nat) (cs:List Value) (y:DataW H × List MemPlace) (h:DataW.trod enc prog w 0 spare held n 3 cs=some y):∃ a:Int,cs=Zu a∧(-9223372036854775808≤a∧a≤9223372036854775807):=by
 obtain ⟨a,e,_,hw⟩:=DataW.trod_int Tryz.underlying3 h;simp [Lit.wf,IntKind.min,IntKind.max,IntKind.signed,IntKind.bits] at hw;exact ⟨a,e,by omega,by omega⟩
theorem ZiP (n:Nat) (cs:List Value) (y:DataW H × List MemPlace) (h:DataW.trod enc prog w 0 spare held n 9 cs=some y):∃ a:ByteArray,cs=Zt a∧a.size≤9223372036854775807:=by
 obtain ⟨a,e,_,hw⟩:=DataW.trod_string Tryz.underlying9 h;exact ⟨a,e,by unfold maxLen at hw;omega⟩
theorem Za.read (n:Nat) (cs:List Value) (y:DataW H × List MemPlace) (h:DataW.trod enc prog w 0 spare held n 28 cs=some y):∃ a:Za,Za.Reads w (.agg cs.toArray) a∧a.Small∧-9223372036854775808≤a.aq:=by
 obtain ⟨c0,c1,c2,c3,c4,c5,c6,c7,rfl⟩:=Zpu (Za7 Tryz.underlying28 h Tryz.cellsStore);obtain ⟨m0,y0,h0⟩:=fld Tryz.underlying28 h 0 _ rfl Tryz.cellsStringS (cs':=[c0]) rfl;obtain ⟨ms,ys,hs⟩:=fld Tryz.underlying28 h 1 _ rfl Tryz.cellsSpace (cs':=[c1,c2]) rfl;obtain ⟨m1,y1,h1⟩:=fld Tryz.underlying25 hs 0 _ rfl Tryz.cellsIntS (cs':=[c1]) rfl;obtain ⟨m2,y2,h2⟩:=fld Tryz.underlying25 hs 1 _ rfl Tryz.cellsIntS (cs':=[c2]) rfl;obtain ⟨t,rfl,ht,_⟩:=XM Tryz.underlying28 h 2 _ rfl Tryz.cellsInt Tryz.underlying3 (c:=c3) rfl;obtain ⟨m4,y4,h4⟩:=fld Tryz.underlying28 h 3 _ rfl Tryz.cellsPtrS (cs':=[c4]) rfl;obtain ⟨k,rfl,_⟩:=XM Tryz.underlying28 h 4 _ rfl Tryz.cellsInt Tryz.underlying3 (c:=c5) rfl;obtain ⟨m6,y6,h6⟩:=fld Tryz.underlying28 h 5 _ rfl Tryz.cellsPtrS (cs':=[c6]) rfl;obtain ⟨b,rfl⟩:=Zm7 Tryz.underlying28 h 6 _ rfl Tryz.cellsBool Tryz.underlying4 (c:=c7) rfl;obtain ⟨a0,l0,k0,x0,rfl,b0,r0,q0⟩:=Za6 (ef:=Zt) (size:=1) (Q:=fun a=>a.size≤9223372036854775807) Tryz.underlying22 Tryz.cellsString (by omega) ZiP h0;obtain ⟨a1,l1,k1,x1,rfl,b1,r1,_⟩:=Za6 (ef:=Zu) (size:=1) (Q:=fun a=>-9223372036854775808≤a∧a≤9223372036854775807) Tryz.underlying23 Tryz.cellsInt (by omega) ZiO h1;obtain ⟨a2,l2,k2,x2,rfl,b2,r2,_⟩:=Za6 (ef:=Zu) (size:=1) (Q:=fun a=>-9223372036854775808≤a∧a≤9223372036854775807) Tryz.underlying23 Tryz.cellsInt (by omega) ZiO h2;obtain ⟨a4,l4,k4,x4,rfl,b4,r4,_⟩:=Za6 (ef:=PtrD.cells) (size:=5) (Q:=fun _=>True) Tryz.underlying26 Tryz.cellsPtr (by omega) PtrD.read h4;obtain ⟨a6,l6,k6,x6,rfl,b6,r6,_⟩:=Za6 (ef:=PtrD.cells) (size:=5) (Q:=fun _=>True) Tryz.underlying26 Tryz.cellsPtr (by omega) PtrD.read h6;unfold maxLen at b0 b1 b2 b4 b6;obtain rfl:=r0.len;obtain rfl:=r1.len;obtain rfl:=r2.len;obtain rfl:=r4.len;obtain rfl:=r6.len;exact ⟨⟨x0,⟨x1,x2⟩,t,x4,k,x6,b⟩,⟨a0,k0,a1,k1,a2,k2,a4,k4,a6,k6,rfl,r0,r1,r2,r4,r6⟩,⟨by show x0.length≤_;omega,q0,by show x1.length≤_;omega,by show x2.length≤_;omega,by show x4.length≤_;omega,by show x6.length≤_;omega⟩,ht⟩
end
theorem Tryz.cellsPtrL:Tryz.prog.cellsOf 30=5:=by kernel_rfl
theorem Tryz.cellsTreeL:Tryz.prog.cellsOf 32=7:=by kernel_rfl
theorem ZpE {α:Type} {l:List α} (h:l.length=7):∃ a b c d e f g,l=[a,b,c,d,e,f,g]:=by
 match l,h with
 | [a,b,c,d,e,f,g],_=>exact ⟨a,b,c,d,e,f,g,rfl⟩
section
variable {H:Type} {enc:TypeId × Value→H} {w:World} {spare:Nat→Bool} {held:Bool}
theorem Zpv (n:Nat) (cs:List Value) (y:DataW H × List MemPlace) (h:DataW.trod enc prog w 0 spare held n 30 cs=some y):∃ a:PtrD,cs=a.cells:=by
 obtain ⟨c0,c1,c2,c3,c4,rfl⟩:=ZoD (Za7 Tryz.underlying30 h Tryz.cellsPtrL);obtain ⟨a0,rfl,_⟩:=XM Tryz.underlying30 h 0 _ rfl Tryz.cellsInt Tryz.underlying3 rfl;obtain ⟨a1,rfl,_⟩:=XM Tryz.underlying30 h 1 _ rfl Tryz.cellsInt Tryz.underlying3 rfl;obtain ⟨a2,rfl,_⟩:=XM Tryz.underlying30 h 2 _ rfl Tryz.cellsInt Tryz.underlying3 rfl;obtain ⟨a3,rfl,_⟩:=XM Tryz.underlying30 h 3 _ rfl Tryz.cellsInt Tryz.underlying3 rfl;obtain ⟨a4,rfl,_⟩:=XM Tryz.underlying30 h 4 _ rfl Tryz.cellsInt Tryz.underlying3 rfl;exact ⟨⟨a0,a1,a2,a3,a4⟩,rfl⟩
theorem Zm8 (n:Nat) (cs:List Value) (y:DataW H × List MemPlace) (h:DataW.trod enc prog w 0 spare held n 32 cs=some y):∃ a:Zf,cs=a.cells:=by
 obtain ⟨c0,c1,c2,c3,c4,c5,c6,rfl⟩:=ZpE (Za7 Tryz.underlying32 h Tryz.cellsTreeL);obtain ⟨m0,y0,h0⟩:=fld Tryz.underlying32 h 0 _ rfl Tryz.cellsPtrL (cs':=[c0,c1,c2,c3,c4]) rfl;obtain ⟨a5,rfl,_⟩:=XM Tryz.underlying32 h 1 _ rfl Tryz.cellsInt Tryz.underlying3 rfl;obtain ⟨a6,rfl,_⟩:=XM Tryz.underlying32 h 2 _ rfl Tryz.cellsInt Tryz.underlying3 rfl;obtain ⟨p,hp⟩:=Zpv _ _ _ h0;refine ⟨⟨p,a5,a6⟩,?_⟩;show _=p.cells++_;rw [← hp];rfl
end
theorem Tryz.cellsNodeL:Tryz.prog.cellsOf 34=10:=by kernel_rfl
theorem Zpw {α:Type} {l:List α} (h:l.length=10):∃ a b c d e f g i j k,l=[a,b,c,d,e,f,g,i,j,k]:=by
 match l,h with
 | [a,b,c,d,e,f,g,i,j,k],_=>exact ⟨a,b,c,d,e,f,g,i,j,k,rfl⟩
def Zi.cells (n:Zi):List Value:=[.int .i64 n.aB,.int .i64 n.aC,.int .i64 n.al]++n.aw.cells
section
variable {H:Type} {enc:TypeId × Value→H} {w:World} {spare:Nat→Bool} {held:Bool}
theorem Zo0 (n:Nat) (cs:List Value) (y:DataW H × List MemPlace) (h:DataW.trod enc prog w 0 spare held n 34 cs=some y):∃ a:Zi,cs=a.cells:=by
 obtain ⟨c0,c1,c2,c3,c4,c5,c6,c7,c8,c9,rfl⟩:=Zpw (Za7 Tryz.underlying34 h Tryz.cellsNodeL);obtain ⟨a0,rfl,_⟩:=XM Tryz.underlying34 h 0 _ rfl Tryz.cellsInt Tryz.underlying3 rfl;obtain ⟨a1,rfl,_⟩:=XM Tryz.underlying34 h 1 _ rfl Tryz.cellsInt Tryz.underlying3 rfl;obtain ⟨a2,rfl,_⟩:=XM Tryz.underlying34 h 2 _ rfl Tryz.cellsInt Tryz.underlying3 rfl;obtain ⟨m0,y0,h0⟩:=fld Tryz.underlying34 h 3 _ rfl Tryz.cellsTreeL (cs':=[c3,c4,c5,c6,c7,c8,c9]) rfl;obtain ⟨t,ht⟩:=Zm8 _ _ _ h0;refine ⟨⟨a0,a1,a2,t⟩,?_⟩;show _=[Value.int .i64 a0,.int .i64 a1,.int .i64 a2]++t.cells;rw [← ht];rfl
end
theorem Tryz.gPow:Tryz.prog.globalNamed "internal/strconv.uint64pow10" = some 0:=by kernel_rfl
theorem Tryz.gPowType:(Tryz.prog.globals[0]?).map (·.type)=some 189:=by kernel_rfl
theorem Tryz.cellsPowT:Tryz.prog.cellsOf 189=20:=by kernel_rfl
theorem Tryz.cellsU64:Tryz.prog.cellsOf 181=1:=by kernel_rfl
theorem Zo1 {l:List (String × DataW Unit)} {W:World} (h:laidMet prog l W) (hm:("internal/strconv.uint64pow10", (Rows.laid_internal_strconv_uint64pow10:DataW Unit)) ∈ l):Xq W:=by
 obtain ⟨g,t,cs,fuel,p,h1,h2,h3,h4⟩:=Go.Lib.laidMet.reads h hm;obtain rfl:=Option.some.inj (Tryz.gPow.symm.trans h1);obtain rfl:=Option.some.inj (Tryz.gPowType.symm.trans h2);have hc:=Go.Lib.cells_of_tab (zs:=Go.Lib.pow10Tab) (k:=.u64) Tryz.underlying189 Tryz.underlying181 Tryz.cellsU64 Tryz.cellsPowT (show DataW.trod _ prog W 0 _ false fuel 189 cs.toList=some (Go.Lib.tabData .u64 Go.Lib.pow10Tab,p) from h4);show W.var? prog _=_;rw [h3,← hc]
open Go.WideMaps
theorem Zol {α:Type} {a:Array α} {x:α} (h:a.toList=[x]):a=#[x]:=by cases a;simpa using h
theorem Tryz.gErrS:Tryz.prog.globalNamed "strconv.ErrSyntax" = some 2:=by kernel_rfl
theorem Tryz.gErrSType:(Tryz.prog.globals[2]?).map (·.type)=some 123:=by kernel_rfl
theorem Zo2 {l:List (String × DataW Unit)} {W:World} (h:laidMet prog l W) (hm:("strconv.ErrSyntax", (Rows.laid_strconv_ErrSyntax:DataW Unit)) ∈ l):X2 W:=by
 obtain ⟨g,t,cs,fuel,p,h1,h2,h3,h4⟩:=Go.Lib.laidMet.reads h hm;obtain rfl:=Option.some.inj (Tryz.gErrS.symm.trans h1);obtain rfl:=Option.some.inj (Tryz.gErrSType.symm.trans h2);obtain ⟨_,u,v,hcs,_,_⟩:=iface_of_trod Tryz.underlying123 (show DataW.trod _ prog W 0 _ false fuel 123 cs.toList=some (.iface _ _,p) from h4);refine ⟨u,v,?_⟩;have:=World.var?_cell h1 h3 0;rw [Zol hcs] at this
 simpa using this
theorem YG {a b:Bool} (ha:a=true) (hb:b=true):(a && b)=true:=by rw [ha,hb];rfl
theorem Zlt {P:Program} {f:FuncId} {fn:Func} {s:ChangeSpec} {c:OpenClaim} (h0:(c.wf (OpenSpec.ofChange s))=true) (h1:(laidOutB P)=true) (h2:(mapsRowed P)=true) (h3:(fn.params.all (P.readableRec ·))=true) (h4:(namedTie P c.named s.vars)=true) (h5:((c.stops == []))=true) (h6:((P.stops == []))=true) (h7:((c.knobs == []))=true) (h8:((P.stopKnobs == []))=true) (h9:((c.inPlace == P.inPlace f))=true) (h10:((c.unfollowed == P.unfollowed f))=true) (h11:((c.recurses == P.recurses f))=true) (h12:((c.named == P.varsNamed f))=true) (h13:((c.maps == (fn.params.toList++s.plain.varTypes P).any (P.mapsRec ·)))=true) (h14:((c.ifaces == (fn.params.toList++s.plain.varTypes P).any (P.ifacesRec ·)))=true) (h15:((c.mapsOut == P.mapsAmong fn.resultTypes.toList))=true) (h16:((c.loops == (fn.params.toList++s.plain.varTypes P).any (P.loopsFrom ·)))=true) (h17:((c.wideKeys == (fn.params.toList++s.plain.varTypes P++fn.resultTypes.toList).any (P.wideKeysFrom ·)))=true) (h18:(s.vars.all (P.varReadable ·))=true) (h19:(fn.resultTypes.all (fun t=>P.readableRec t && decide (t<P.types.size)))=true) (h20:((c.ifacesOut == fn.resultTypes.toList.any (P.ifacesRec ·)))=true) (h21:((c.loopsOut == fn.resultTypes.toList.any (P.loopsFrom ·)))=true) (h22:((c.plainKeys == P.plainKeys))=true) (h23:(c.shortTexts.isNone)=true) (h24:(P.stopsHeard)=true) (h25:(P.mayEnter)=true) (h26:((c.lifted == P.liftsFinal))=true) (h27:((P.make == some c.make))=true) (h28:((c.kinds == (if c.domain.isEmpty then [] else fn.params.toList.map fun t=>match P.underlying t with|some (.int k)=>some k|_=>none)))=true) (h29:((c.pinned == c.pinnedBy))=true) (h30:((c.veiled == (fn.params.toList++s.plain.varTypes P++fn.resultTypes.toList).any (P.veiledRec ·)))=true) (h31:(c.veiledFits P fn.params.toList (fn.params.toList++s.plain.varTypes P++fn.resultTypes.toList))=true):joinedFacts P f fn s c=true:=by
 unfold joinedFacts;exact (YG (YG (YG (YG (YG (YG (YG (YG (YG (YG (YG (YG (YG (YG (YG (YG (YG (YG (YG (YG (YG (YG (YG (YG (YG (YG (YG (YG (YG (YG (YG h0 h1) h2) h3) h4) h5) h6) h7) h8) h9) h10) h11) h12) h13) h14) h15) h16) h17) h18) h19) h20) h21) h22) h23) h24) h25) h26) h27) h28) h29) h30) h31)
noncomputable def UY (os:Os):World:=World.laidAll prog os Rows.fnExactTablePutRow.laid
theorem Zm9 (os:Os):laidMetH prog Rows.fnExactTablePutRow.laid ((UY os).forCall (fun _ _=>0) ⟨#[],#[.agg #[.slice none 0 0,.slice none 0 0,.slice none 0 0,.int .i64 0,.slice none 0 0,.int .i64 0,.slice none 0 0,.bool false],.agg #[.int .i64 0,.int .i64 0,.int .i64 0,.int .i64 0,.int .i64 0,.int .i64 0,.int .i64 0],.int .i64 0,.agg #[.int .i64 0,.int .i64 0,.int .i64 0,.int .i64 0,.int .i64 0,.int .i64 0,.int .i64 0,.int .i64 0,.int .i64 0,.int .i64 0]],[]⟩).memory:=by
 rw [MakeChecks.laidMetH_plain _ _ _ (by kernel_rfl)];exact laidMet_laidAll _ (by kernel_rfl) (by kernel_rfl)
theorem ZjN (os:Os) {H:Type} (enc:TypeId × Value→H):∃ x:List (DataW H) × List (DataW H) × List MemPlace,DataW.whole enc prog ((UY os).forCall (fun _ _=>0) ⟨#[],#[.agg #[.slice none 0 0,.slice none 0 0,.slice none 0 0,.int .i64 0,.slice none 0 0,.int .i64 0,.slice none 0 0,.bool false],.agg #[.int .i64 0,.int .i64 0,.int .i64 0,.int .i64 0,.int .i64 0,.int .i64 0,.int .i64 0],.int .i64 0,.agg #[.int .i64 0,.int .i64 0,.int .i64 0,.int .i64 0,.int .i64 0,.int .i64 0,.int .i64 0,.int .i64 0,.int .i64 0,.int .i64 0]],[]⟩).memory Tryz.f3.params.toList Rows.fnExactTablePutSpec.vars false #[.agg #[.slice none 0 0,.slice none 0 0,.slice none 0 0,.int .i64 0,.slice none 0 0,.int .i64 0,.slice none 0 0,.bool false],.agg #[.int .i64 0,.int .i64 0,.int .i64 0,.int .i64 0,.int .i64 0,.int .i64 0,.int .i64 0],.int .i64 0,.agg #[.int .i64 0,.int .i64 0,.int .i64 0,.int .i64 0,.int .i64 0,.int .i64 0,.int .i64 0,.int .i64 0,.int .i64 0,.int .i64 0]].toList 8=some x:=by
 generalize hx:DataW.whole enc prog ((UY os).forCall (fun _ _=>0) ⟨#[],#[.agg #[.slice none 0 0,.slice none 0 0,.slice none 0 0,.int .i64 0,.slice none 0 0,.int .i64 0,.slice none 0 0,.bool false],.agg #[.int .i64 0,.int .i64 0,.int .i64 0,.int .i64 0,.int .i64 0,.int .i64 0,.int .i64 0],.int .i64 0,.agg #[.int .i64 0,.int .i64 0,.int .i64 0,.int .i64 0,.int .i64 0,.int .i64 0,.int .i64 0,.int .i64 0,.int .i64 0,.int .i64 0]],[]⟩).memory Tryz.f3.params.toList Rows.fnExactTablePutSpec.vars false #[.agg #[.slice none 0 0,.slice none 0 0,.slice none 0 0,.int .i64 0,.slice none 0 0,.int .i64 0,.slice none 0 0,.bool false],.agg #[.int .i64 0,.int .i64 0,.int .i64 0,.int .i64 0,.int .i64 0,.int .i64 0,.int .i64 0],.int .i64 0,.agg #[.int .i64 0,.int .i64 0,.int .i64 0,.int .i64 0,.int .i64 0,.int .i64 0,.int .i64 0,.int .i64 0,.int .i64 0,.int .i64 0]].toList 8=o
 cases o with
 | none=>exact absurd (show (DataW.whole enc prog ((UY os).forCall (fun _ _=>0) ⟨#[],#[.agg #[.slice none 0 0,.slice none 0 0,.slice none 0 0,.int .i64 0,.slice none 0 0,.int .i64 0,.slice none 0 0,.bool false],.agg #[.int .i64 0,.int .i64 0,.int .i64 0,.int .i64 0,.int .i64 0,.int .i64 0,.int .i64 0],.int .i64 0,.agg #[.int .i64 0,.int .i64 0,.int .i64 0,.int .i64 0,.int .i64 0,.int .i64 0,.int .i64 0,.int .i64 0,.int .i64 0,.int .i64 0]],[]⟩).memory Tryz.f3.params.toList Rows.fnExactTablePutSpec.vars false #[.agg #[.slice none 0 0,.slice none 0 0,.slice none 0 0,.int .i64 0,.slice none 0 0,.int .i64 0,.slice none 0 0,.bool false],.agg #[.int .i64 0,.int .i64 0,.int .i64 0,.int .i64 0,.int .i64 0,.int .i64 0,.int .i64 0],.int .i64 0,.agg #[.int .i64 0,.int .i64 0,.int .i64 0,.int .i64 0,.int .i64 0,.int .i64 0,.int .i64 0,.int .i64 0,.int .i64 0,.int .i64 0]].toList 8).isSome=true by kernel_rfl) (by rw [hx];simp)
 | some x=>exact ⟨x,rfl⟩
theorem ZiQ (os:Os) (started:os.Started) (H:Type) (enc:TypeId × Value→H) (F:Stop.Interp) :
  ReturnsInHanded {} Tryz.checked os 3 .any ((OpenSpec.ofChange Rows.fnExactTablePutSpec).preRow enc prog Tryz.f3 Rows.fnExactTablePutRow.domain false Rows.fnExactTablePutRow.laid) (((OpenSpec.ofChange Rows.fnExactTablePutSpec).at F).post enc prog Tryz.f3 false true false false):=by
 obtain ⟨x,hx⟩:=ZjN os enc;refine returnsInHanded_of_row (C:=Tryz.checked) (s:=OpenSpec.ofChange Rows.fnExactTablePutSpec) Tryz.own started (by kernel_rfl) func3
  (witness_row_at (enc:=enc) (C:=Tryz.checked) false (UY os) #[.agg #[.slice none 0 0,.slice none 0 0,.slice none 0 0,.int .i64 0,.slice none 0 0,.int .i64 0,.slice none 0 0,.bool false],.agg #[.int .i64 0,.int .i64 0,.int .i64 0,.int .i64 0,.int .i64 0,.int .i64 0,.int .i64 0],.int .i64 0,.agg #[.int .i64 0,.int .i64 0,.int .i64 0,.int .i64 0,.int .i64 0,.int .i64 0,.int .i64 0,.int .i64 0,.int .i64 0,.int .i64 0]] (World.laidAll_os _ _ _) (by kernel_rfl) (by kernel_rfl) (by kernel_rfl)
   (OpenSpec.preRow_of_cond 8 hx (by rfl) (fun k hk=>by cases hk) (by kernel_rfl) (Zm9 os))) ?_
 intro W base args ds gs before hval0 hW _ _ _ hL hSh _;have hval:∀ (j:Nat) t v,Tryz.f3.params[j]? = some t→args[j]? = some v→Value.okWide prog W .any base t v:=hval0;rw [MakeChecks.laidMetH_plain _ _ _ (by kernel_rfl)] at hL;have hT:Xq W:=Zo1 hL (mem_cons_of_mem _ (mem_cons_of_mem _ (mem_cons_self ..)));have hE:X2 W:=Zo2 hL (mem_cons_of_mem _ (mem_cons_of_mem _ (mem_cons_of_mem _ (mem_cons_of_mem _ (mem_cons_of_mem _ (mem_cons_self ..))))));have hM:X1 W:=ZoL hSh;have hW':=hW;obtain ⟨p,q,hA0,hV,rfl,hfz,hnd⟩:=hW;have hA:DataW.TrodAll enc prog W 0 (fun _=>true) true Tryz.f3.params.toList args.toList ds p:=hA0;rw [Tryz.params3] at hA hval;obtain ⟨v0,v1,v2,v3,d0,d1,d2,d3,pa,pb,pc,pd,rfl,rfl,hpp,h0,h1,_,h3⟩:=trodAll_four hA;obtain ⟨rfl,rfl⟩:=trodVars_none hV;obtain ⟨cs,rfl,hcs⟩:=okWide_struct Tryz.underlying28 (hval 0 _ _ rfl rfl);obtain ⟨fuel,hf⟩:=h0;obtain ⟨l⟩:=cs;simp only [Value.cells] at hf;obtain ⟨st,hr,hs,hi⟩:=Za.read _ _ _ hf;obtain ⟨ds1,rfl,hds⟩:=okWide_struct Tryz.underlying32 (hval 1 _ _ rfl rfl);obtain ⟨fuel1,hf1⟩:=h1;obtain ⟨l1⟩:=ds1;simp only [Value.cells] at hf1;obtain ⟨t,rfl⟩:=Zm8 _ _ _ hf1;obtain ⟨k,rfl⟩:=okWide_int Tryz.underlying3 (hval 2 _ _ rfl rfl);obtain ⟨ds3,rfl,hds⟩:=okWide_struct Tryz.underlying34 (hval 3 _ _ rfl rfl);obtain ⟨fuel3,hf3⟩:=h3;obtain ⟨l3⟩:=ds3;simp only [Value.cells] at hf3;obtain ⟨n,rfl⟩:=Zo0 _ _ _ hf3;refine (Zed _ st t k n W hT hM hE hr hs hi).mono fun e W' ⟨he,hb⟩=>?_;subst he;exact ⟨_,rfl,Zm6 Tryz.laidOut rfl rfl rfl Tryz.underlying4 rfl (by kernel_rfl) hW' hb⟩
theorem Zom:(Rows.fnExactTablePutRow.wf (OpenSpec.ofChange (OpenSpec.ofChange Rows.fnExactTablePutSpec).bare))=true:=by kernel_rfl
theorem Zon:(laidOutB prog)=true:=by kernel_rfl
theorem Zoo:(mapsRowed prog)=true:=by kernel_rfl
theorem Zop:(Tryz.f3.params.all (Tryz.prog.readableRec ·))=true:=by kernel_rfl
theorem Zoq:(namedTie prog Rows.fnExactTablePutRow.named (OpenSpec.ofChange Rows.fnExactTablePutSpec).bare.vars)=true:=by kernel_rfl
theorem Zor:((Rows.fnExactTablePutRow.stops == []))=true:=by kernel_rfl
theorem Zos:((Tryz.prog.stops == []))=true:=by kernel_rfl
theorem Zot:((Rows.fnExactTablePutRow.knobs == []))=true:=by kernel_rfl
theorem Zou:((Tryz.prog.stopKnobs == []))=true:=by kernel_rfl
theorem Zov:((Rows.fnExactTablePutRow.inPlace == Tryz.prog.inPlace 3))=true:=by kernel_rfl
theorem Zna:((Rows.fnExactTablePutRow.unfollowed == Tryz.prog.unfollowed 3))=true:=by kernel_rfl
theorem Znb:((Rows.fnExactTablePutRow.recurses == Tryz.prog.recurses 3))=true:=by kernel_rfl
theorem Znc:((Rows.fnExactTablePutRow.named == Tryz.prog.varsNamed 3))=true:=by kernel_rfl
theorem Znd:((Rows.fnExactTablePutRow.maps == (Tryz.f3.params.toList++(OpenSpec.ofChange Rows.fnExactTablePutSpec).bare.plain.varTypes prog).any (Tryz.prog.mapsRec ·)))=true:=by kernel_rfl
theorem Zne:((Rows.fnExactTablePutRow.ifaces == (Tryz.f3.params.toList++(OpenSpec.ofChange Rows.fnExactTablePutSpec).bare.plain.varTypes prog).any (Tryz.prog.ifacesRec ·)))=true:=by kernel_rfl
theorem Znf:((Rows.fnExactTablePutRow.mapsOut == Tryz.prog.mapsAmong Tryz.f3.resultTypes.toList))=true:=by kernel_rfl
theorem Zng:((Rows.fnExactTablePutRow.loops == (Tryz.f3.params.toList++(OpenSpec.ofChange Rows.fnExactTablePutSpec).bare.plain.varTypes prog).any (Tryz.prog.loopsFrom ·)))=true:=by kernel_rfl
theorem Znh:((Rows.fnExactTablePutRow.wideKeys == (Tryz.f3.params.toList++(OpenSpec.ofChange Rows.fnExactTablePutSpec).bare.plain.varTypes prog++Tryz.f3.resultTypes.toList).any (Tryz.prog.wideKeysFrom ·)))=true:=by kernel_rfl
theorem Zni:((OpenSpec.ofChange Rows.fnExactTablePutSpec).bare.vars.all (Tryz.prog.varReadable ·))=true:=by kernel_rfl
theorem Znj:(Tryz.f3.resultTypes.all (fun t=>Tryz.prog.readableRec t && decide (t<Tryz.prog.types.size)))=true:=by kernel_rfl
theorem Znk:((Rows.fnExactTablePutRow.ifacesOut == Tryz.f3.resultTypes.toList.any (Tryz.prog.ifacesRec ·)))=true:=by kernel_rfl
theorem Znl:((Rows.fnExactTablePutRow.loopsOut == Tryz.f3.resultTypes.toList.any (Tryz.prog.loopsFrom ·)))=true:=by kernel_rfl
theorem Znm:((Rows.fnExactTablePutRow.plainKeys == Tryz.prog.plainKeys))=true:=by kernel_rfl
theorem Znn:(Rows.fnExactTablePutRow.shortTexts.isNone)=true:=by kernel_rfl
theorem Zno:(Tryz.prog.stopsHeard)=true:=by kernel_rfl
theorem Znp:(Tryz.prog.mayEnter)=true:=by kernel_rfl
theorem Znq:((Rows.fnExactTablePutRow.lifted == Tryz.prog.liftsFinal))=true:=by kernel_rfl
theorem Znr:((Tryz.prog.make == some Rows.fnExactTablePutRow.make))=true:=by kernel_rfl
theorem Zns:((Rows.fnExactTablePutRow.kinds == (if Rows.fnExactTablePutRow.domain.isEmpty then [] else Tryz.f3.params.toList.map fun t=>match Tryz.prog.underlying t with|some (.int k)=>some k|_=>none)))=true:=by kernel_rfl
theorem Znt:((Rows.fnExactTablePutRow.pinned == Rows.fnExactTablePutRow.pinnedBy))=true:=by kernel_rfl
theorem Znu:((Rows.fnExactTablePutRow.veiled == (Tryz.f3.params.toList++(OpenSpec.ofChange Rows.fnExactTablePutSpec).bare.plain.varTypes prog++Tryz.f3.resultTypes.toList).any (Tryz.prog.veiledRec ·)))=true:=by kernel_rfl
theorem Znv:(Rows.fnExactTablePutRow.veiledFits prog Tryz.f3.params.toList (Tryz.f3.params.toList++(OpenSpec.ofChange Rows.fnExactTablePutSpec).bare.plain.varTypes prog++Tryz.f3.resultTypes.toList))=true:=by kernel_rfl
theorem ZiR:joinedFacts prog 3 Tryz.f3 (OpenSpec.ofChange Rows.fnExactTablePutSpec).bare Rows.fnExactTablePutRow=true:=Zlt Zom Zon Zoo Zop Zoq Zor Zos Zot Zou Zov Zna Znb Znc Znd Zne Znf Zng Znh Zni Znj Znk Znl Znm Znn Zno Znp Znq Znr Zns Znt Znu Znv
theorem Zlu:Rows.FnExactTablePutSaid :=
 OpenClaim.holds_of_cond 3 Tryz.f3 rfl rfl rfl rfl rfl rfl rfl ⟨rfl,rfl,rfl,rfl,rfl⟩ rfl rfl rfl rfl rfl (by kernel_rfl) func3 ZiR
  (of_decide_eq_true (by kernel_rfl)) (by unfold Func.isWrapper;rw [if_neg (of_decide_eq_false (by kernel_rfl))];exact ⟨rfl,rfl⟩)
  (fun os started H enc _ F=>by rw [OpenClaim.pre_eq_preRow];exact ZiQ os started H enc F)
theorem ZjO (f:FuncId) (fn:Func) (hf:Tryz.pinned.checked.prog.funcNamed "loop.example/poolfiles/laws.FnExactTablePut" = some f) (hfn:Tryz.pinned.checked.prog.funcs[f]? = some fn) :
  true=Tryz.pinned.checked.prog.looks []∧∀ (j:Nat) t,fn.params[j]? = some t→Tryz.pinned.checked.prog.wantsStandIn t=false:=by
 obtain rfl:f=3:=Option.some.inj ((show Tryz.prog.funcNamed "loop.example/poolfiles/laws.FnExactTablePut" = some 3 by kernel_rfl).symm.trans hf) |>.symm;obtain rfl:fn=Tryz.f3:=(Option.some.inj (Tryz.func3.symm.trans hfn)).symm;refine ⟨by kernel_rfl,fun j t ht=>?_⟩;have hall:(Tryz.f3.params.toList.all fun u=>!Tryz.prog.wantsStandIn u)=true:=by kernel_rfl
 have hm:t ∈ Tryz.f3.params.toList:=by simpa using Array.mem_of_getElem? ht
 exact (show Tryz.prog.wantsStandIn t=false by simpa using List.all_eq_true.1 hall t hm)
theorem tpR2_card:Rows.FnExactTablePutCardSaid :=
 Claim7.holds_tied_plain_at .later [] _ _ _ _ Zlu (fun _ h=>by cases h) (by kernel_rfl) (fun _ h=>by cases h) fnExactTablePut_row_tie rfl ⟨rfl,rfl⟩ (by kernel_rfl) rfl ZjO (by kernel_rfl)
#print axioms tpR2_card
end Go.Proofs.YtenejpbnncbilaaGreatDoor
