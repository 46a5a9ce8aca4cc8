/- FnExactTablePut: for every store, every tree, every number and every node, valid or not, the law returns true and its arguments read behind the call as before. No condition but that the tables of the library that the row lists hold what the program's text lays. -/
import Derived.ChangeMaps5
import Derived.ChangeVars
import Derived.Deep.DeepHandedRow
import Derived.Deep.DeepWitnessRowRef
import Derived.Deep.Slices
import Derived.JoinedCond
import Derived.LaidLaws
import Derived.Lay
import Derived.Lib.LaidTab
import Derived.Lib.LaidU8
import Derived.MakeChecks
import Derived.OpenShut
import Derived.ProofKit
import Derived.Test.YtenejpbnncbilaaGreatDoorCards
import Derived.Test.YtenejpbnncbilaaGreatDoorTie
import Derived.WideKeyMaps2
import Derived.Test.YtenejpbnncbilaaGreatDoorTpZ6
namespace Go.Proofs.YtenejpbnncbilaaGreatDoor
set_option maxHeartbeats 40000000
open Go.Proofs.Tryz
open List (append_nil drop_zero flatMap_cons getD_eq_getElem?_getD getElem?_eq_getElem length length_append length_cons length_map length_nil length_replicate length_set length_take mem_cons mem_cons_of_mem mem_cons_self mem_singleton nil_append replicate)
open Option (getD_some)
set_option linter.unusedVariables false
set_option linter.unusedSimpArgs false
set_option maxRecDepth 100000
open Go.RowKit
theorem ZiX9 {ds:List Deferred} {P:Program} {w:World} {o:Oper} {a:Act} {N:Nat} {l:List (Nat × Value)} (hF:Fr N a l ds) {p:Op} (ho:o.op=p) {v:Value} (h:auV l p=some v):Yl P w o a v:=by
 unfold auV at h
 split at h
 ·exact Yf ho (hF.ev h)
 ·exact Zc9 ho (hF.ev h)
 ·split at h
  ·rename_i hx
   exact Z4 ho (hF.ev hx) (by rw [ZgV] at h;simpa using h)
  ·cases h
 ·split at h
  ·rename_i hx
   obtain rfl:=Option.some.inj h;exact Yt ho (hF.ev hx)
  ·cases h
 ·split at h
  ·rename_i hx
   obtain rfl:=Option.some.inj h;exact Q2 ho (hF.ev hx)
  ·cases h
 ·split at h
  ·rename_i hx
   exact Zkt ho (hF.ev hx) (hF.ev h)
  ·rename_i hx
   exact Zku ho (hF.ev hx) (hF.ev h)
  ·cases h
 ·split at h
  ·rename_i hx
   split at h
   ·rename_i hy
    split at h
    ·rename_i hk
     obtain rfl:=of_decide_eq_true hk;unfold Zo5 at h
     split at h
     ·obtain rfl:=Option.some.inj h;exact ZjP ho (hF.ev hx) (hF.ev hy)
     ·obtain rfl:=Option.some.inj h;exact ZnA ho (hF.ev hx) (hF.ev hy)
     ·obtain rfl:=Option.some.inj h;exact Zcm ho (hF.ev hx) (hF.ev hy)
     ·obtain rfl:=Option.some.inj h;exact VX ho (hF.ev hx) (hF.ev hy)
     ·obtain rfl:=Option.some.inj h;exact Zee ho (hF.ev hx) (hF.ev hy)
     ·obtain rfl:=Option.some.inj h;exact ZnB ho (hF.ev hx) (hF.ev hy)
     ·cases h
    ·cases h
   ·cases h
  ·cases h
 ·cases h
theorem Zay9 {ds:List Deferred} {ops:Array Oper} {l:List (Nat × Value)} {o:Oper} {a:Act} {N:Nat} (hF:Fr N a l ds) {c:Bool} (h:auG ops l o=some c):Region.wanted o (yielded ops a.tmps)=c:=by
  unfold auG at h
  split at h
  · rename_i hg
    obtain rfl:=Option.some.inj h;exact Jo hg
  · rename_i g b hg
    split at h
    · cases h
    · rename_i dg hd
      split at h
      · rename_i c' hl
        obtain rfl:=Option.some.inj h
        cases hc:(c' == b) with
        | true => obtain rfl:c'=b:=by simpa using hc
                  exact hF.want hg hd hl
        | false=>exact hF.skip hg hd hl hc
      · rename_i vs hl
        split at h
        · rename_i hv
          obtain rfl:=Option.some.inj h;have:vs=#[]:=by simpa using hv
          subst this;exact hF.skipU hg hd hl
        · cases h
      · cases h
theorem zr9 (n:Nat) {ds:List Deferred} {P:Program} {ops:Array Oper} {Q:Exit→Act→World→Prop} {rest r:List Oper} {a:Act} {w:World} {N:Nat} {l l':List (Nat × Value)} (hF:Fr N a l ds) (hr:auR N ops n rest l=some (r,l')) (h:∀ a',Fr N a' l' ds→wpList P ops Q r a' w):wpList P ops Q rest a w:=by
 induction n generalizing rest l a with
 | zero =>
  simp only [auR,Option.some.injEq,Prod.mk.injEq] at hr;obtain ⟨rfl,rfl⟩:=hr;exact h a hF
 | succ n ih =>
  cases rest with
  | nil=>cases hr
  | cons o rest =>
   unfold auR at hr
   split at hr
   ·rename_i d v hs
    unfold auS at hs
    split at hs
    ·cases hs
    ·rename_i d' hd
     split at hs
     ·cases hs
     ·rename_i hN
      split at hs
      ·cases hs
      ·rename_i hg
       simp only [Option.some.injEq,Prod.mk.injEq] at hs;obtain ⟨rfl,rfl⟩:=hs;refine wpList_step fun K hK=>?_;rw [if_neg (by rw [Zay9 hF hg];simp)];exact hK _ _ (hd ▸ ih (hF.put (Nat.le_of_ble_eq_true hN) undef) hr)
      ·rename_i hg
       split at hs
       ·rename_i v' hv
        simp only [Option.some.injEq,Prod.mk.injEq] at hs;obtain ⟨rfl,rfl⟩:=hs;refine wpList_step fun K hK=>?_;rw [if_pos (Zay9 hF hg)];unfold Oper.wp;rw [show (execOp a.eval o).run P w=_ from ZiX9 hF rfl hv];exact hK _ _ (hd ▸ ih (hF.put (Nat.le_of_ble_eq_true hN) _) hr)
       ·cases hs
   ·cases hr
theorem zrq9 (n:Nat) {ds:List Deferred} {P:Program} {ops:Array Oper} {W:World} {s:List Asr} {Q:Act→Prop} {rest r:List Oper} {a:Act} {N:Nat} {l l':List (Nat × Value)} (hF:Fr N a l ds) (hr:auR N ops n rest l=some (r,l')) (h:∀ a',Fr N a' l' ds→wpQuiet P ops (St W s) Q r a'):wpQuiet P ops (St W s) Q rest a:=by
 induction n generalizing rest l a with
 | zero =>
  simp only [auR,Option.some.injEq,Prod.mk.injEq] at hr;obtain ⟨rfl,rfl⟩:=hr;exact h a hF
 | succ n ih =>
  cases rest with
  | nil=>cases hr
  | cons o rest =>
   unfold auR at hr
   split at hr
   ·rename_i d v hs
    unfold auS at hs
    split at hs
    ·cases hs
    ·rename_i d' hd
     split at hs
     ·cases hs
     ·rename_i hN
      split at hs
      ·cases hs
      ·rename_i hg
       simp only [Option.some.injEq,Prod.mk.injEq] at hs;obtain ⟨rfl,rfl⟩:=hs;refine wpQuiet_step fun K hK=>?_;rw [if_neg (by rw [Zay9 hF hg];simp)];exact hK _ (hd ▸ ih (hF.put (Nat.le_of_ble_eq_true hN) undef) hr)
      ·rename_i hg
       split at hs
       ·rename_i v' hv
        simp only [Option.some.injEq,Prod.mk.injEq] at hs;obtain ⟨rfl,rfl⟩:=hs;refine wpQuiet_step fun K hK=>?_;rw [if_pos (Zay9 hF hg)];refine ⟨_,fun w hw=>?_,hK _ (hd ▸ ih (hF.put (Nat.le_of_ble_eq_true hN) _) hr)⟩;unfold Oper.quietAt;rw [show (execOp a.eval o).run P w=_ from ZiX9 hF rfl hv];exact ⟨rfl,rfl⟩
       ·cases hs
   ·cases hr
theorem Zhv (w0 wE w:World) (fE:List Nat) (hE0:w0.heap.size≤wE.heap.size) (hT:Xq w0) (hM:X1 w0) (hE:X2 w0) (b:Nat) (q0:SQ) (t:Zf) (d:Nat) (aoL:Option Addr) (cpL:Nat) (ls:List PtrD) (hd2:d≤2) (htd:t.az=(d:Int)) (hwf:Wf q0.d d t.ac) (hq:q0.d.ok=true) (hlo:∀ p ∈ ls,p.ok=true) (hdp:depthN (ls.length:Int)=2) (hl1:1≤ls.length) (hl16:ls.length≤16) (r:Jw) (hr:r=Zaw t 2 q0.d 2 1 q0.d ls []) (hlive:r.ok=true→Us r.stays (innL q0.d d t.ac) r.st) (hS:St w0 [q0.asr,boxA b 8 39 (.agg #[.slice q0.a0 q0.d.af.length q0.c0,.slice q0.a1 q0.d.aa.ab.length q0.c1,.slice q0.a2 q0.d.aa.ag.length q0.c2,.int .i64 q0.d.aq,.slice q0.a4 q0.d.ai.length q0.c4,.int .i64 q0.d.ar,.slice q0.a6 q0.d.aj.length q0.c6,.bool q0.d.au]),Zd PtrD.cells 5 40 (.slice aoL ls.length cpL) ls,restA w0 wE fE] w):Calls prog 95 #[.pointer (some ⟨b,0,none⟩),.agg #[.int .i64 t.ac.aA,.int .i64 t.ac.ah,.int .i64 t.ac.al,.int .i64 t.ac.ax,.int .i64 t.ac.ak,.int .i64 (d:Int),.int .i64 t.am],.slice aoL ls.length cpL] w fun e w'=>∃ q':SQ,(r.ok=true∧q'.d=Y1 r.stays (innL q0.d d t.ac) r.st∧e=.returned (.tuple #[.agg #[.int .i64 (r.next.getD 0 PtrD.zero).aA,.int .i64 (r.next.getD 0 PtrD.zero).ah,.int .i64 (r.next.getD 0 PtrD.zero).al,.int .i64 (r.next.getD 0 PtrD.zero).ax,.int .i64 (r.next.getD 0 PtrD.zero).ak,.int .i64 2,.int .i64 (ls.length:Int)],.bool true])∨r.ok=false∧e=.returned (.tuple #[.agg #[.int .i64 0,.int .i64 0,.int .i64 0,.int .i64 0,.int .i64 0,.int .i64 0,.int .i64 0],.bool false]))∧St w0 [q'.asr,boxA b 8 39 (.agg #[.slice q'.a0 q'.d.af.length q'.c0,.slice q'.a1 q'.d.aa.ab.length q'.c1,.slice q'.a2 q'.d.aa.ag.length q'.c2,.int .i64 q'.d.aq,.slice q'.a4 q'.d.ai.length q'.c4,.int .i64 q'.d.ar,.slice q'.a6 q'.d.aj.length q'.c6,.bool q'.d.au]),Zd PtrD.cells 5 40 (.slice aoL ls.length cpL) ls,restA w0 wE fE] w':=by
 have HT:=Bx.mk hT;have HM:=Bx.mk hM;have HE:=Bx.mk hE;clear hT hM hE;have hrow:=QU hq;have hdz:=@ZfO ls.length;have hdo:=@Zhr ls.length;have hdt:=@Zhs ls.length;have E:=Bx.mk hS;clear hS;refine Zdy func95 rfl ntmps95 [(0,.pointer (some ⟨b,0,none⟩)),(1,.agg #[.int .i64 t.ac.aA,.int .i64 t.ac.ah,.int .i64 t.ac.al,.int .i64 t.ac.ax,.int .i64 t.ac.ak,.int .i64 (d:Int),.int .i64 t.am]),(2,.slice aoL ls.length cpL)] ⟨rfl,rfl,rfl,trivial⟩ rfl ?_;intro a O;refine Yj ?_;refine Zax rfl O rfl (O.ev rfl) (Z:=[.pointer (some ⟨b,0,none⟩)]) rfl rfl rfl rfl E.o ?_;clear O E a;intro a w1 b51 O E;replace E:=Bx.mk E;refine Zax rfl O rfl (O.ev rfl) (Z:=[.int .i64 t.ac.aA,.int .i64 t.ac.ah,.int .i64 t.ac.al,.int .i64 t.ac.ax,.int .i64 t.ac.ak,.int .i64 (d:Int),.int .i64 t.am]) rfl rfl rfl rfl E.o ?_;clear O E a;intro a w2 b52 O E;replace E:=Bx.mk E;refine ZR rfl O rfl rfl rfl (Z:=[.int .i64 0,.int .i64 0,.int .i64 0,.int .i64 0,.int .i64 0,.int .i64 0,.int .i64 0]) (by kernel_rfl) rfl E.o ?_;clear O E a;intro a w3 b53 O E;replace E:=Bx.mk E;refine ZR rfl O rfl rfl rfl (Z:=[.bool false]) (by kernel_rfl) rfl E.o ?_;clear O E a;intro a w4 b54 O E;replace E:=Bx.mk E;refine Zk ?_;refine Yj ?_;refine zm9 O ?_;clear O a;intro a O;refine zy9 O (Xa (e:=40) (size:=5) rfl (O.ev rfl) (by kernel_rfl)) ?_;clear O a;intro a O;refine Vv rfl O rfl (ZJ func58 (by kernel_rfl) rfl) (args:=#[.int .i64 (ls.length:Int)]) rfl (v:=.int .i64 2) ((Zch hdp _)) rfl rfl E.o ?_;clear O E a;intro w5 a E O;replace E:=Bx.mk E;refine zm9 O ?_;clear O a;intro a O;refine zy9 O (Xa (e:=40) (size:=5) rfl (O.ev rfl) (by kernel_rfl)) ?_;clear O a;intro a O;refine zy9 O (XL O rfl (ps:=[(1,.int .i64 2),(2,.int .i64 (ls.length:Int))]) rfl (cs:=#[.int .i64 0,.int .i64 0,.int .i64 0,.int .i64 0,.int .i64 0,.int .i64 2,.int .i64 (ls.length:Int)]) (by kernel_rfl)) ?_;clear O a;intro a O;refine ZR rfl O rfl rfl rfl (Z:=[.int .i64 0,.int .i64 0,.int .i64 0,.int .i64 0,.int .i64 0,.int .i64 0,.int .i64 0]) (by kernel_rfl) rfl E.o ?_;clear O E a;intro a w6 b55 O E;replace E:=Bx.mk E;refine Z8 rfl O rfl rfl (O.ev rfl) (O.ev rfl) E.o 0 rfl (Z0 [.int .i64 0,.int .i64 0,.int .i64 0,.int .i64 0,.int .i64 0,.int .i64 2,.int .i64 (ls.length:Int)] rfl rfl) (by kernel_rfl) ?_;clear E;intro w7 E;replace E:=Bx.mk E;replace E:=E.nm;refine Zk ?_;refine Yj ?_;refine zy9 O (ylo (v:=.pointer (some ⟨b,0,none⟩)) rfl (O.ev rfl) (((E.o.box 4 rfl).cell 0).trans rfl)) ?_;clear O a;intro a O;refine zy9 O (ylr (cs:=[.int .i64 t.ac.aA,.int .i64 t.ac.ah,.int .i64 t.ac.al,.int .i64 t.ac.ax,.int .i64 t.ac.ak,.int .i64 (d:Int),.int .i64 t.am]) rfl (O.ev rfl) ((E.o.box 3 rfl).sub 0 7)) ?_;clear O a;intro a O;refine YJ rfl O rfl (ZJ func125 (by kernel_rfl) rfl) (args:=#[.pointer (some ⟨b,0,none⟩),.agg #[.int .i64 t.ac.aA,.int .i64 t.ac.ah,.int .i64 t.ac.al,.int .i64 t.ac.ax,.int .i64 t.ac.ak,.int .i64 (d:Int),.int .i64 t.am]]) rfl (Vt q0.a0 q0.c0 q0.a1 q0.c1 q0.a2 q0.c2 q0.a4 q0.c4 q0.a6 q0.c6 q0.d t _ (HT.o.below E.o.bel) (HM.o.below E.o.bel) (HE.o.below E.o.bel) b (E.o.box 6 rfl) (E.o.sqRd 5 rfl) hrow hd2 htd hwf) rfl rfl ?_;rintro _ w8 ⟨aoW,cpW,rfl,hs1⟩;refine ⟨_,rfl,?_⟩;replace E:=Bx.mk (E.o.add hs1);clear hs1 O a;intro a O;replace E:=E.nm;refine ZR rfl O rfl rfl rfl (Z:=[.slice none 0 0]) (by kernel_rfl) rfl E.o ?_;clear O E a;intro a w9 b56 O E;replace E:=Bx.mk E;refine ZS rfl rfl rfl (O.ev rfl) (O.ev rfl) (by kernel_rfl) E.o 0 rfl rfl rfl ?_;clear E;intro w10 E;replace E:=Bx.mk E;replace E:=E.nm;refine Zk ?_;refine Yj ?_;refine ZR rfl O rfl rfl rfl (Z:=[.slice none 0 0]) (by kernel_rfl) rfl E.o ?_;clear O E a;intro a w11 b57 O E;replace E:=Bx.mk E;refine Zk ?_;refine Yj ?_;refine zy9 O (ylo (v:=.pointer (some ⟨b,0,none⟩)) rfl (O.ev rfl) (((E.o.box 7 rfl).cell 0).trans rfl)) ?_;clear O a;intro a O;refine zy9 O (yfa 0 rfl (O.ev rfl)) ?_;clear O a;intro a O;refine zy9 O (ylr (cs:=[.int .i64 t.ac.aA,.int .i64 t.ac.ah,.int .i64 t.ac.al,.int .i64 t.ac.ax,.int .i64 t.ac.ak]) rfl (O.ev rfl) ((E.o.box 6 rfl).sub 0 5)) ?_;clear O a;intro a O;refine zy9 O (yfa 5 rfl (O.ev rfl)) ?_;clear O a;intro a O;refine zy9 O (ylo (v:=.int .i64 (d:Int)) rfl (O.ev rfl) (((E.o.box 6 rfl).cell 5).trans rfl)) ?_;clear O a;intro a O;refine zy9 O (Ue O rfl (cs:=#[.pointer (some ⟨b57,0,none⟩)]) rfl) ?_;clear O a;intro a O;replace E:=E.pks [0];replace E:=Bx.mk ((E.o.nilRow PtrD.cells 5 40 none).pick 1 rfl);replace E:=Bx.mk (St.accIn (xs:=[]) E.o);replace E:=E.nm;replace E:=E.pks [8,9,2];refine YJ rfl O rfl (ZJ func126 (by kernel_rfl) rfl) (args:=#[.pointer (some ⟨b,0,none⟩),pV t.ac,.int .i64 (d:Int),.func (.func 127) #[] #[.pointer (some ⟨b57,0,none⟩)]]) rfl (Zaj q0 w0 HT.o HM.o HE.o hrow b b57 d t.ac hd2 hwf _ _ E.o) rfl rfl ?_;rintro _ w12 ⟨rfl,hs1⟩;refine ⟨_,rfl,?_⟩;replace E:=Bx.mk hs1;clear hs1 O a;intro a O;replace E:=E.nm;refine Zk ?_;refine Yj ?_;refine ZaX rfl O rfl rfl rfl E.o ?_;clear O E a;intro a w13 b58 O E;rw [← Zho] at E;replace E:=Bx.mk E;replace E:=E.nm;refine ZR rfl O rfl rfl rfl (Z:=[.map none]) (by kernel_rfl) rfl E.o ?_;clear O E a;intro a w14 b59 O E;replace E:=Bx.mk E;refine ZS rfl rfl rfl (O.ev rfl) (O.ev rfl) (by kernel_rfl) E.o 0 rfl rfl rfl ?_;clear E;intro w15 E;replace E:=Bx.mk E;replace E:=E.nm;refine Zk ?_;refine Yj ?_;refine zm9 O ?_;clear O a;intro a O;refine YJ rfl O rfl (ZJ func90 (by kernel_rfl) rfl) (args:=#[.slice aoL ls.length cpL]) rfl (Zbs _ _ ls _ (by omega) (St.rdOf E.o PtrD.cells_len 12 rfl)) rfl rfl ?_;rintro _ w16 ⟨ao60,cp60,rfl,hs⟩;refine ⟨_,rfl,?_⟩;replace E:=Bx.mk (E.o.add hs);clear hs O a;intro a O;replace E:=E.nm;refine za9 O ?_;clear O a;intro a O;refine Zk ?_;refine wp_seq ?_;refine Yj ?_;refine ZR rfl O rfl rfl rfl (Z:=[.int .i64 0]) (by kernel_rfl) rfl E.o ?_;clear O E a;intro a w17 b61 O E;replace E:=Bx.mk E;refine ZS rfl rfl rfl (O.ev rfl) (O.ev rfl) (by kernel_rfl) E.o 0 rfl rfl rfl ?_;clear E;intro w18 E;replace E:=Bx.mk E;replace E:=E.nm;refine Zk ?_;refine wp_block ?_;refine XI 3 ?_;refine wp_seq ?_;refine Yj ?_;refine zy9 O (ylo (v:=.int .i64 1) rfl (O.ev rfl) (((E.o.box 0 rfl).cell 0).trans rfl)) ?_;clear O a;intro a O;refine zy9 O (yfa 5 rfl (O.ev rfl)) ?_;clear O a;intro a O;refine zy9 O (ylo (v:=.int .i64 2) rfl (O.ev rfl) (((E.o.box 9 rfl).cell 5).trans rfl)) ?_;clear O a;intro a O;refine zy9 O (VX rfl (O.ev rfl) (O.ev rfl)) ?_;clear O a;intro a O;refine Zk ?_;replace O:=O.know (k:=48) (c:=true) rfl (by decide);refine Xi O rfl ?_;refine wp_skip ?_;refine Zz ?_;refine wp_seq ?_;refine wp_block ?_;refine wp_seq ?_;refine wp_block ?_;have hpz:=Jv ls;replace E:Bx (St w0 ([boxA b61 1 3 (.agg #[.int .i64 1]),Zd PtrD.cells 5 40 (.slice ao60 ((Qx ls 0).length) cp60) (Qx ls 0),boxA b59 1 150 (.agg #[.map (some b58)]),J9 b58 (kfn []),accA b57 (innL q0.d d t.ac),boxA b 8 39 (.agg #[.slice q0.a0 q0.d.af.length q0.c0,.slice q0.a1 q0.d.aa.ab.length q0.c1,.slice q0.a2 q0.d.aa.ag.length q0.c2,.int .i64 q0.d.aq,.slice q0.a4 q0.d.ai.length q0.c4,.int .i64 q0.d.ar,.slice q0.a6 q0.d.aj.length q0.c6,.bool q0.d.au]),SQ.asr q0,boxA b56 1 147 (.agg #[.slice aoW d cpW]),QL aoW cpW d (fun j=>Zx q0.d t d (d - j)),boxA b55 7 42 (.agg #[.int .i64 0,.int .i64 0,.int .i64 0,.int .i64 0,.int .i64 0,.int .i64 2,.int .i64 (ls.length:Int)]),boxA b54 1 4 (.agg #[.bool false]),boxA b53 7 42 (.agg #[.int .i64 0,.int .i64 0,.int .i64 0,.int .i64 0,.int .i64 0,.int .i64 0,.int .i64 0]),boxA b52 7 42 (.agg #[.int .i64 t.ac.aA,.int .i64 t.ac.ah,.int .i64 t.ac.al,.int .i64 t.ac.ax,.int .i64 t.ac.ak,.int .i64 (d:Int),.int .i64 t.am]),boxA b51 1 112 (.agg #[.pointer (some ⟨b,0,none⟩)]),Zd PtrD.cells 5 40 (.slice aoL ls.length cpL) ls,restA w0 wE fE]) _):=⟨by rw [hpz];exact E.o⟩;clear hpz;refine ZD (ι:=Nat) (fun j a w=>∃ (aoP1:Option Addr) (cpP1:Nat),(j≤16 - ls.length)∧Fr 161 a [(0,.pointer (some ⟨b,0,none⟩)),(2,.slice aoL ls.length cpL),(3,.pointer (some ⟨b51,0,none⟩)),(4,.pointer (some ⟨b52,0,none⟩)),(6,.pointer (some ⟨b53,0,none⟩)),(7,.pointer (some ⟨b54,0,none⟩)),(8,.pointer (some ⟨b55,0,none⟩)),(9,.pointer (some ⟨b56,0,none⟩)),(10,.pointer (some ⟨b57,0,none⟩)),(11,.pointer (some ⟨b59,0,none⟩)),(13,.pointer (some ⟨b61,0,none⟩)),(12,.slice aoP1 ((Qx ls j).length) cpP1)] (Q5 [])∧St w0 ([boxA b61 1 3 (.agg #[.int .i64 1]),Zd PtrD.cells 5 40 (.slice aoP1 ((Qx ls j).length) cpP1) (Qx ls j),boxA b59 1 150 (.agg #[.map (some b58)]),J9 b58 (kfn []),accA b57 (innL q0.d d t.ac),boxA b 8 39 (.agg #[.slice q0.a0 q0.d.af.length q0.c0,.slice q0.a1 q0.d.aa.ab.length q0.c1,.slice q0.a2 q0.d.aa.ag.length q0.c2,.int .i64 q0.d.aq,.slice q0.a4 q0.d.ai.length q0.c4,.int .i64 q0.d.ar,.slice q0.a6 q0.d.aj.length q0.c6,.bool q0.d.au]),SQ.asr q0,boxA b56 1 147 (.agg #[.slice aoW d cpW]),QL aoW cpW d (fun j=>Zx q0.d t d (d - j)),boxA b55 7 42 (.agg #[.int .i64 0,.int .i64 0,.int .i64 0,.int .i64 0,.int .i64 0,.int .i64 2,.int .i64 (ls.length:Int)]),boxA b54 1 4 (.agg #[.bool false]),boxA b53 7 42 (.agg #[.int .i64 0,.int .i64 0,.int .i64 0,.int .i64 0,.int .i64 0,.int .i64 0,.int .i64 0]),boxA b52 7 42 (.agg #[.int .i64 t.ac.aA,.int .i64 t.ac.ah,.int .i64 t.ac.al,.int .i64 t.ac.ax,.int .i64 t.ac.ak,.int .i64 (d:Int),.int .i64 t.am]),boxA b51 1 112 (.agg #[.pointer (some ⟨b,0,none⟩)]),Zd PtrD.cells 5 40 (.slice aoL ls.length cpL) ls,restA w0 wE fE]) w) (fun j=>16 - j) 0 ⟨_,_,Nat.zero_le _,O.less _ ⟨rfl,rfl,rfl,rfl,rfl,rfl,rfl,rfl,rfl,rfl,rfl,(by rw [Jv];rfl),trivial⟩,E.o⟩ ?_;clear O E;clear a;rintro j a w19 ⟨aoP1,cpP1,hj,O,E⟩;replace E:=Bx.mk E;have hjl:=Ul ls j;refine wp_seq ?_;refine Yj ?_;refine zm9 O ?_;clear O a;intro a O;refine zy9 O (Xa (e:=40) (size:=5) rfl (O.ev rfl) (by kernel_rfl)) ?_;clear O a;intro a O;refine zy9 O (Ua rfl (O.ev rfl) (O.ev rfl) (by omega) (Ub (by omega) (by omega))) ?_;clear O a;intro a O;refine zr9 2 O rfl ?_;clear O a;intro a O;refine O.cases 55 rfl (fun cc1 _=>?_) fun cc1 _=>?_
 ·clear O;rename_i O
  have dcc1:=of_decide_eq_true cc1;refine zr9 13 O rfl ?_;clear O a;intro a O;refine Zk ?_;refine Xi O rfl ?_;refine wp_skip ?_;refine Zz ?_;refine wp_block ?_;refine wp_region_lit ?_;refine zm9 O ?_;clear O a;intro a O;refine zy9 O (XL O rfl (ps:=[]) rfl (cs:=#[.int .i64 0,.int .i64 0,.int .i64 0,.int .i64 0,.int .i64 0]) (by kernel_rfl)) ?_;clear O a;intro a O;refine XH (enc:=PtrD.cells) (e:=40) (size:=5) rfl O rfl rfl rfl (ps:=[(0,.agg #[.int .i64 0,.int .i64 0,.int .i64 0,.int .i64 0,.int .i64 0])]) rfl (cells:=[.int .i64 0,.int .i64 0,.int .i64 0,.int .i64 0,.int .i64 0]) (by kernel_rfl) [PtrD.zero] rfl rfl (by unfold maxLen;omega) rfl E.o ?_;clear O E a;intro b62 a w20 O E;replace E:=Bx.mk E;refine Xb rfl O rfl rfl rfl (O.ev rfl) (O.ev rfl) Yz PtrD.cells_len E.o 2 (xs:=Qx ls j) rfl (ys:=[PtrD.zero]) (St.rdN E.o PtrD.cells_len 0 rfl) (Zn _) (by unfold maxLen;(try simp only [length_append,length_cons,length_nil,nil_append,length_map]);omega) (by (try simp only [length_append,length_cons,length_nil,nil_append,length_map]);omega) ?_;clear O E a;intro ao63 cp64 w21 a O E;replace E:=Bx.mk E;replace E:=E.nm;refine za9 O ?_;clear O a;intro a O;refine wpList_nil ?_;refine YH ?_;refine Zz ?_;have hz:=VT ls j;rw [hz,VS] at E;rw [hz] at O;replace E:=E.nm;replace E:=Bx.mk (E.o.erase 0);replace E:=E.nm;exact ⟨j+1,⟨_,_,(by omega),O.less _ ⟨rfl,rfl,rfl,rfl,rfl,rfl,rfl,rfl,rfl,rfl,rfl,rfl,trivial⟩,E.o⟩,(by omega)⟩
 ·clear O;rename_i O
  have dcc1:=of_decide_eq_false cc1;refine zg9 O (ylo (v:=.int .i64 1) rfl (O.ev rfl) (((E.o.box 0 rfl).cell 0).trans rfl)) ?_;clear O a;intro a O;refine zr9 2 O rfl ?_;clear O a;intro a O;replace O:=O.know (k:=58) (c:=true) rfl (by decide);refine zg9 O (yfa 5 rfl (O.ev rfl)) ?_;clear O a;intro a O;refine zg9 O (ylo (v:=.int .i64 2) rfl (O.ev rfl) (((E.o.box 9 rfl).cell 5).trans rfl)) ?_;clear O a;intro a O;refine zr9 3 O rfl ?_;clear O a;intro a O;replace O:=O.know (k:=63) (c:=true) rfl (by decide);refine zg9 O (Yf rfl (O.ev rfl)) ?_;clear O a;intro a O;refine zg9 O (Xa (e:=40) (size:=5) rfl (O.ev rfl) (by kernel_rfl)) ?_;clear O a;intro a O;refine zr9 3 O rfl ?_;clear O a;intro a O;refine Zk ?_;refine O.cases 68 rfl (fun cc2 _=>?_) fun cc2 _=>?_
  ·clear O;rename_i O
   have dcc2:=of_decide_eq_true cc2;refine Xi O rfl ?_;refine wp_skip ?_;refine Zz ?_;refine wp_block ?_;refine wp_region_lit ?_;refine zm9 O ?_;clear O a;intro a O;refine zy9 O (XL O rfl (ps:=[]) rfl (cs:=#[.int .i64 0,.int .i64 0,.int .i64 0,.int .i64 0,.int .i64 0]) (by kernel_rfl)) ?_;clear O a;intro a O;refine XH (enc:=PtrD.cells) (e:=40) (size:=5) rfl O rfl rfl rfl (ps:=[(0,.agg #[.int .i64 0,.int .i64 0,.int .i64 0,.int .i64 0,.int .i64 0])]) rfl (cells:=[.int .i64 0,.int .i64 0,.int .i64 0,.int .i64 0,.int .i64 0]) (by kernel_rfl) [PtrD.zero] rfl rfl (by unfold maxLen;omega) rfl E.o ?_;clear O E a;intro b65 a w22 O E;replace E:=Bx.mk E;refine Xb rfl O rfl rfl rfl (O.ev rfl) (O.ev rfl) Yz PtrD.cells_len E.o 2 (xs:=Qx ls j) rfl (ys:=[PtrD.zero]) (St.rdN E.o PtrD.cells_len 0 rfl) (Zn _) (by unfold maxLen;(try simp only [length_append,length_cons,length_nil,nil_append,length_map]);omega) (by (try simp only [length_append,length_cons,length_nil,nil_append,length_map]);omega) ?_;clear O E a;intro ao66 cp67 w23 a O E;replace E:=Bx.mk E;replace E:=E.nm;refine za9 O ?_;clear O a;intro a O;refine wpList_nil ?_;refine YH ?_;refine Zz ?_;have hz:=VT ls j;rw [hz,VS] at E;rw [hz] at O;replace E:=E.nm;replace E:=Bx.mk (E.o.erase 0);replace E:=E.nm;exact ⟨j+1,⟨_,_,(by omega),O.less _ ⟨rfl,rfl,rfl,rfl,rfl,rfl,rfl,rfl,rfl,rfl,rfl,rfl,trivial⟩,E.o⟩,(by omega)⟩
  ·clear O;rename_i O
   have dcc2:=of_decide_eq_false cc2;refine XV O rfl ?_;refine wp_exit ?_;refine ZC ?_;refine ZC ?_;refine Yh ?_;refine Zz ?_;refine wp_seq ?_
   -- padded
   have hpq:Qx ls j=Yw 2 1 ls:=Zm3 (by omega);rw [hpq] at E O;obtain ⟨m1,hm1_1,hm4_1,hpl_1,hpd_1⟩:=ZfL (dp:=2) (lv:=1) (l:=ls) (by omega) (by omega);rw [hpl_1] at E O;replace E:=E.nm;obtain ⟨g68,rfl,_,_,_,_⟩:=E.o.rowOpen 1 rfl (by rw [hpl_1];omega);refine wp_region_lit ?_;refine ZR rfl O rfl rfl rfl (Z:=[.slice none 0 0]) (by kernel_rfl) rfl E.o ?_;clear O E a;intro a w24 b69 O E;replace E:=Bx.mk E;refine Zk ?_;refine wp_seq ?_;refine Yj ?_;refine zm9 O ?_;clear O a;intro a O;refine YJ rfl O rfl (ZJ func128 (by kernel_rfl) rfl) (args:=#[.slice (some ⟨g68,0,none⟩) (4*m1) cpP1,.int .i64 4]) rfl (Zdx _ _ _ _) rfl rfl ?_;rintro _ w25 ⟨c2_1,c3_1,rfl,hs1⟩;refine ⟨_,rfl,?_⟩;replace E:=Bx.mk (E.o.add hs1);clear hs1 O a;intro a O;replace E:=E.nm;refine Zk ?_;refine wp_block ?_;replace E:=E.pks [2];replace E:=Bx.mk ((E.o.nilRow PtrD.cells 5 40 none).pick 1 rfl);replace E:=Bx.mk (St.accIn (xs:=[]) E.o);replace E:=E.nm;replace E:=E.pks [4,4,5,11,11,12,13,14,15,16,13,15,16,13];obtain ⟨r1,hr1⟩:∃ r,r=Yv ((1:Nat):Int) m1 (Yw 2 1 ls) (Zx q0.d t 2 1) q0.d [] []:=⟨_,rfl⟩;refine ZfK rfl (fun r v a W l O=>?_) w0 _ HT.o HM.o HE.o a [] b51 b52 b53 b54 b55 b56 b57 b59 b61 b69 b b58 g68 c2_1 c3_1 aoW cpW cpP1 ls.length q0 t d 2 1 m1 [] (Yw 2 1 ls) (Zx q0.d t 2 1) (fun j=>Zx q0.d t d (d - j)) [accA b57 (innL q0.d d t.ac),Zd PtrD.cells 5 40 (.slice aoL ls.length cpL) ls,restA w0 wE fE] hq hd2 (by omega) (by omega) (by omega) hm4_1 hpl_1 (Uw hlo) (XS.all (Z6.refl _) (J8 htd hwf (by omega) (by omega) (by omega))) (ZfM htd hwf (by omega) (by omega) (by omega) hm4_1 (fun h=>by cases h)) (Zdz htd) (fun B hB=>⟨Zc3,XD,Zdw hE0 (Nat.le_trans (E.o.restLe 18 rfl) hB),trivial⟩) (O.less _ ⟨rfl,rfl,rfl,rfl,rfl,rfl,rfl,rfl,rfl,rfl,rfl,trivial⟩) E.o ?_ ?_
   ·refine Zl ?_ (fun ⟨_,_,h⟩=>h) (by kernel_rfl)
    refine za9 O ?_;clear O;intro a O;refine wpList_nil ?_;exact ⟨rfl,O⟩
   ·intro D1 a w25x q1 hD1 hk1 hq1 E O;rw [← hr1] at hk1 hq1 E;replace E:=Bx.mk E
    replace E:=E.nm;have hfx1:=Zai (n:=1) (W0:=Zx q0.d t 2 1) (m:=m1) (st:=q0.d) (sy:=[]) rfl (Uw hlo) hpl_1 (XS.all (Z6.refl _) (J8 (dp:=2) (lv:=1) htd hwf (by omega) (by omega) (by omega))) hq (by rw [← hr1];exact hk1);rw [← hr1] at hfx1;obtain ⟨hst1_,hok1,hnl1,hno1⟩:=hfx1;rw [← hq1] at hst1_ hok1;have hst1:=Z6.trans (Z6.refl _) hst1_;obtain ⟨aoX1,cpX1,hA9⟩:=E.o.accOut;replace E:=Bx.mk hA9;clear hA9;replace E:=E.nm;refine YH ?_;refine Zz ?_;refine wp_region_lit ?_;refine zy9 O (ylo (v:=.slice aoX1 r1.next.length cpX1) rfl (O.ev rfl) (((E.o.box 0 rfl).cell 0).trans rfl)) ?_;clear O a;intro a O;refine za9 O ?_;clear O a;intro a O;refine wpList_nil ?_;refine YH ?_;refine Zz ?_;refine wp_seq ?_;refine Yj ?_;refine zy9 O (ylo (v:=.int .i64 1) rfl (O.ev rfl) (((E.o.box 13 rfl).cell 0).trans rfl)) ?_;clear O a;intro a O;refine Zk ?_;refine wp_region_lit ?_;refine ZR rfl O rfl rfl rfl (Z:=[.int .i64 0]) (by kernel_rfl) rfl E.o ?_;clear O E a;intro a w26 b70 O E;replace E:=Bx.mk E;refine ZS rfl rfl rfl (O.ev rfl) (O.ev rfl) (by kernel_rfl) E.o 0 rfl rfl rfl ?_;clear E;intro w27 E;replace E:=Bx.mk E;replace E:=E.nm;refine Zk ?_;refine wp_region_lit ?_;refine zy9 O (ylo (v:=.int .i64 1) rfl (O.ev rfl) (((E.o.box 0 rfl).cell 0).trans rfl)) ?_;clear O a;intro a O;refine zy9 O (ZW (r:=2) rfl (O.ev rfl) (O.ev rfl) (by decide)) ?_;clear O a;intro a O;refine ZS rfl rfl rfl (O.ev rfl) (O.ev rfl) (by kernel_rfl) E.o 0 rfl rfl rfl ?_;clear E;intro w28 E;replace E:=Bx.mk E;replace E:=E.nm;refine Zk ?_;refine Ym 2 ?_;refine wp_seq ?_;refine Yj ?_;refine zy9 O (ylo (v:=.int .i64 2) rfl (O.ev rfl) (((E.o.box 0 rfl).cell 0).trans rfl)) ?_;clear O a;intro a O;refine zy9 O (yfa 5 rfl (O.ev rfl)) ?_;clear O a;intro a O;refine zy9 O (ylo (v:=.int .i64 2) rfl (O.ev rfl) (((E.o.box 10 rfl).cell 5).trans rfl)) ?_;clear O a;intro a O;refine zy9 O (VX rfl (O.ev rfl) (O.ev rfl)) ?_;clear O a;intro a O;refine Zk ?_;replace O:=O.know (k:=48) (c:=true) rfl (by decide);refine Xi O rfl ?_;refine wp_skip ?_;refine Zz ?_;refine wp_seq ?_;refine wp_block ?_;refine wp_seq ?_;refine wp_block ?_;have hpz:=Jv r1.next;replace E:Bx (St w0 ([boxA b70 1 3 (.agg #[.int .i64 2]),boxA b69 1 37 (.agg #[.slice aoX1 r1.next.length cpX1]),Zd PtrD.cells 5 40 (.slice aoX1 ((Qx r1.next 0).length) cpX1) (Qx r1.next 0),SQ.asr q1,boxA b 8 39 (.agg #[.slice q1.a0 q1.d.af.length q1.c0,.slice q1.a1 q1.d.aa.ab.length q1.c1,.slice q1.a2 q1.d.aa.ag.length q1.c2,.int .i64 q1.d.aq,.slice q1.a4 q1.d.ai.length q1.c4,.int .i64 q1.d.ar,.slice q1.a6 q1.d.aj.length q1.c6,.bool q1.d.au]),J9 b58 (kfn r1.stays),boxA b51 1 112 (.agg #[.pointer (some ⟨b,0,none⟩)]),boxA b52 7 42 (.agg #[.int .i64 t.ac.aA,.int .i64 t.ac.ah,.int .i64 t.ac.al,.int .i64 t.ac.ax,.int .i64 t.ac.ak,.int .i64 (d:Int),.int .i64 t.am]),boxA b53 7 42 (.agg #[.int .i64 0,.int .i64 0,.int .i64 0,.int .i64 0,.int .i64 0,.int .i64 0,.int .i64 0]),boxA b54 1 4 (.agg #[.bool false]),boxA b55 7 42 (.agg #[.int .i64 0,.int .i64 0,.int .i64 0,.int .i64 0,.int .i64 0,.int .i64 2,.int .i64 (ls.length:Int)]),boxA b56 1 147 (.agg #[.slice aoW d cpW]),QL aoW cpW d (fun j=>Zx q0.d t d (d - j)),boxA b59 1 150 (.agg #[.map (some b58)]),boxA b61 1 3 (.agg #[.int .i64 1]),Zd PtrD.cells 5 40 (.slice (some ⟨g68,0,none⟩) (4*m1) cpP1) (Yw 2 1 ls),objA D1 (.deferred (some [])),accA b57 (innL q0.d d t.ac),Zd PtrD.cells 5 40 (.slice aoL ls.length cpL) ls,restA w0 wE fE]) _):=⟨by rw [hpz];exact E.o⟩;clear hpz;refine ZD (ι:=Nat) (fun j a w=>∃ (aoP2:Option Addr) (cpP2:Nat),(j≤(4 - r1.next.length % 4) % 4)∧Fr 161 a [(3,.pointer (some ⟨b51,0,none⟩)),(4,.pointer (some ⟨b52,0,none⟩)),(6,.pointer (some ⟨b53,0,none⟩)),(7,.pointer (some ⟨b54,0,none⟩)),(8,.pointer (some ⟨b55,0,none⟩)),(9,.pointer (some ⟨b56,0,none⟩)),(10,.pointer (some ⟨b57,0,none⟩)),(11,.pointer (some ⟨b59,0,none⟩)),(13,.pointer (some ⟨b70,0,none⟩)),(12,.slice aoP2 ((Qx r1.next j).length) cpP2)] (Q5 [D1])∧St w0 ([boxA b70 1 3 (.agg #[.int .i64 2]),boxA b69 1 37 (.agg #[.slice aoX1 r1.next.length cpX1]),Zd PtrD.cells 5 40 (.slice aoP2 ((Qx r1.next j).length) cpP2) (Qx r1.next j),SQ.asr q1,boxA b 8 39 (.agg #[.slice q1.a0 q1.d.af.length q1.c0,.slice q1.a1 q1.d.aa.ab.length q1.c1,.slice q1.a2 q1.d.aa.ag.length q1.c2,.int .i64 q1.d.aq,.slice q1.a4 q1.d.ai.length q1.c4,.int .i64 q1.d.ar,.slice q1.a6 q1.d.aj.length q1.c6,.bool q1.d.au]),J9 b58 (kfn r1.stays),boxA b51 1 112 (.agg #[.pointer (some ⟨b,0,none⟩)]),boxA b52 7 42 (.agg #[.int .i64 t.ac.aA,.int .i64 t.ac.ah,.int .i64 t.ac.al,.int .i64 t.ac.ax,.int .i64 t.ac.ak,.int .i64 (d:Int),.int .i64 t.am]),boxA b53 7 42 (.agg #[.int .i64 0,.int .i64 0,.int .i64 0,.int .i64 0,.int .i64 0,.int .i64 0,.int .i64 0]),boxA b54 1 4 (.agg #[.bool false]),boxA b55 7 42 (.agg #[.int .i64 0,.int .i64 0,.int .i64 0,.int .i64 0,.int .i64 0,.int .i64 2,.int .i64 (ls.length:Int)]),boxA b56 1 147 (.agg #[.slice aoW d cpW]),QL aoW cpW d (fun j=>Zx q0.d t d (d - j)),boxA b59 1 150 (.agg #[.map (some b58)]),boxA b61 1 3 (.agg #[.int .i64 1]),Zd PtrD.cells 5 40 (.slice (some ⟨g68,0,none⟩) (4*m1) cpP1) (Yw 2 1 ls),objA D1 (.deferred (some [])),accA b57 (innL q0.d d t.ac),Zd PtrD.cells 5 40 (.slice aoL ls.length cpL) ls,restA w0 wE fE]) w) (fun j=>16 - j) 0 ⟨_,_,Nat.zero_le _,O.less _ ⟨rfl,rfl,rfl,rfl,rfl,rfl,rfl,rfl,rfl,(by rw [Jv];rfl),trivial⟩,E.o⟩ ?_;clear O E;clear a;rintro j a w29 ⟨aoP2,cpP2,hj,O,E⟩;replace E:=Bx.mk E;have hjl:=Ul r1.next j;refine wp_seq ?_;refine Yj ?_;refine zm9 O ?_;clear O a;intro a O;refine zy9 O (Xa (e:=40) (size:=5) rfl (O.ev rfl) (by kernel_rfl)) ?_;clear O a;intro a O;refine zy9 O (Ua rfl (O.ev rfl) (O.ev rfl) (by omega) (Ub (by omega) (by omega))) ?_;clear O a;intro a O;refine zr9 2 O rfl ?_;clear O a;intro a O;refine O.cases 55 rfl (fun cc3 _=>?_) fun cc3 _=>?_
    ·clear O;rename_i O
     have dcc3:=of_decide_eq_true cc3;refine zr9 13 O rfl ?_;clear O a;intro a O;refine Zk ?_;refine Xi O rfl ?_;refine wp_skip ?_;refine Zz ?_;refine wp_block ?_;refine wp_region_lit ?_;refine zm9 O ?_;clear O a;intro a O;refine zy9 O (XL O rfl (ps:=[]) rfl (cs:=#[.int .i64 0,.int .i64 0,.int .i64 0,.int .i64 0,.int .i64 0]) (by kernel_rfl)) ?_;clear O a;intro a O;refine XH (enc:=PtrD.cells) (e:=40) (size:=5) rfl O rfl rfl rfl (ps:=[(0,.agg #[.int .i64 0,.int .i64 0,.int .i64 0,.int .i64 0,.int .i64 0])]) rfl (cells:=[.int .i64 0,.int .i64 0,.int .i64 0,.int .i64 0,.int .i64 0]) (by kernel_rfl) [PtrD.zero] rfl rfl (by unfold maxLen;omega) rfl E.o ?_;clear O E a;intro b71 a w30 O E;replace E:=Bx.mk E;refine Xb rfl O rfl rfl rfl (O.ev rfl) (O.ev rfl) Yz PtrD.cells_len E.o 3 (xs:=Qx r1.next j) rfl (ys:=[PtrD.zero]) (St.rdN E.o PtrD.cells_len 0 rfl) (Zn _) (by unfold maxLen;(try simp only [length_append,length_cons,length_nil,nil_append,length_map]);omega) (by (try simp only [length_append,length_cons,length_nil,nil_append,length_map]);omega) ?_;clear O E a;intro ao72 cp73 w31 a O E;replace E:=Bx.mk E;replace E:=E.nm;refine za9 O ?_;clear O a;intro a O;refine wpList_nil ?_;refine YH ?_;refine Zz ?_;have hz:=VT r1.next j;rw [hz,VS] at E;rw [hz] at O;replace E:=E.nm;replace E:=Bx.mk (E.o.erase 0);replace E:=E.nm;exact ⟨j+1,⟨_,_,(by omega),O.less _ ⟨rfl,rfl,rfl,rfl,rfl,rfl,rfl,rfl,rfl,rfl,trivial⟩,E.o⟩,(by omega)⟩
    ·clear O;rename_i O
     have dcc3:=of_decide_eq_false cc3;refine zg9 O (ylo (v:=.int .i64 2) rfl (O.ev rfl) (((E.o.box 0 rfl).cell 0).trans rfl)) ?_;clear O a;intro a O;refine zr9 2 O rfl ?_;clear O a;intro a O;replace O:=O.know (k:=58) (c:=false) rfl (by decide);refine zr9 10 O rfl ?_;clear O a;intro a O;refine Zk ?_;refine XV O rfl ?_;refine wp_exit ?_;refine ZC ?_;refine ZC ?_;refine Yh ?_;refine Zz ?_;refine wp_seq ?_
     -- padded
     have hpq:Qx r1.next j=Yw 2 2 r1.next:=ZiJ (dp:=2) (lv:=2) (by omega) (by omega) (by omega);rw [hpq] at E O;obtain ⟨m2,hm1_2,hm4_2,hpl_2,hpd_2⟩:=ZfL (dp:=2) (lv:=2) (l:=r1.next) (by omega) (by omega);have hone_2:m2≤1:=by have hq9:=congrArg length hpq;rw [Ul,hpl_2] at hq9;omega
     rw [hpl_2] at E O;replace E:=E.nm;obtain ⟨g74,rfl,_,_,_,_⟩:=E.o.rowOpen 2 rfl (by rw [hpl_2];omega);refine wp_region_lit ?_;refine ZR rfl O rfl rfl rfl (Z:=[.slice none 0 0]) (by kernel_rfl) rfl E.o ?_;clear O E a;intro a w32 b75 O E;replace E:=Bx.mk E;refine Zk ?_;refine wp_seq ?_;refine Yj ?_;refine zm9 O ?_;clear O a;intro a O;refine YJ rfl O rfl (ZJ func128 (by kernel_rfl) rfl) (args:=#[.slice (some ⟨g74,0,none⟩) (4*m2) cpP2,.int .i64 4]) rfl (Zdx _ _ _ _) rfl rfl ?_;rintro _ w33 ⟨c2_2,c3_2,rfl,hs1⟩;refine ⟨_,rfl,?_⟩;replace E:=Bx.mk (E.o.add hs1);clear hs1 O a;intro a O;replace E:=E.nm;refine Zk ?_;refine wp_block ?_;replace E:=Bx.mk (((E.o.erase 18).erase 17).erase 4);replace E:=E.nm;replace E:=E.pks [2];replace E:=Bx.mk ((E.o.nilRow PtrD.cells 5 40 none).pick 1 rfl);replace E:=Bx.mk (St.accIn (xs:=[]) E.o);replace E:=E.nm;replace E:=E.pks [18,18,4,4,6,6,17,17,17,17,17,17,17,17,17,17,17,17];obtain ⟨r2,hr2⟩:∃ r,r=Yv ((2:Nat):Int) m2 (Yw 2 2 r1.next) (Zx q0.d t 2 2) q1.d [] r1.stays:=⟨_,rfl⟩;refine ZfK rfl (fun r v a W l O=>?_) w0 _ HT.o HM.o HE.o a [D1] b51 b52 b53 b54 b55 b56 b57 b59 b70 b75 b b58 g74 c2_2 c3_2 aoW cpW cpP2 ls.length q1 t d 2 2 m2 r1.stays (Yw 2 2 r1.next) (Zx q0.d t 2 2) (fun j=>Zx q0.d t d (d - j)) [accA b57 (innL q0.d d t.ac),Zd PtrD.cells 5 40 (.slice aoL ls.length cpL) ls,objA D1 (.deferred (some [])),restA w0 wE fE] hok1 hd2 (by omega) (by omega) (by omega) hm4_2 hpl_2 (Uw hno1) (XS.all (hst1) (J8 htd hwf (by omega) (by omega) (by omega))) (ZfM htd hwf (by omega) (by omega) (by omega) hm4_2 (fun _=>hone_2)) (Zdz htd) (fun B hB=>⟨Zc3,XD,Zm0 (Nat.lt_of_lt_of_le (E.o.objLt 18 rfl) hB),Zdw hE0 (Nat.le_trans (E.o.restLe 19 rfl) hB),trivial⟩) (O.less _ ⟨rfl,rfl,rfl,rfl,rfl,rfl,rfl,rfl,rfl,rfl,rfl,trivial⟩) E.o ?_ ?_
     ·refine Zl ?_ (fun ⟨_,_,h⟩=>h) (by kernel_rfl)
      refine za9 O ?_;clear O;intro a O;refine wpList_nil ?_;exact ⟨rfl,O⟩
     ·intro D2 a w33x q2 hD2 hk2 hq2 E O;rw [← hr2] at hk2 hq2 E;replace E:=Bx.mk E
      replace E:=E.nm;have hfx2:=Zai (n:=2) (W0:=Zx q0.d t 2 2) (m:=m2) (st:=q1.d) (sy:=r1.stays) rfl (Uw hno1) hpl_2 (XS.all (hst1) (J8 (dp:=2) (lv:=2) htd hwf (by omega) (by omega) (by omega))) hok1 (by rw [← hr2];exact hk2);rw [← hr2] at hfx2;obtain ⟨hst2_,hok2,hnl2,hno2⟩:=hfx2;rw [← hq2] at hst2_ hok2;have hst2:=Z6.trans (hst1) hst2_;obtain ⟨aoX2,cpX2,hA9⟩:=E.o.accOut;replace E:=Bx.mk hA9;clear hA9;replace E:=E.nm;refine YH ?_;refine Zz ?_;refine wp_region_lit ?_;refine zy9 O (ylo (v:=.slice aoX2 r2.next.length cpX2) rfl (O.ev rfl) (((E.o.box 0 rfl).cell 0).trans rfl)) ?_;clear O a;intro a O;refine za9 O ?_;clear O a;intro a O;refine wpList_nil ?_;refine YH ?_;refine Zz ?_;refine wp_seq ?_;refine Yj ?_;refine zy9 O (ylo (v:=.int .i64 2) rfl (O.ev rfl) (((E.o.box 13 rfl).cell 0).trans rfl)) ?_;clear O a;intro a O;refine Zk ?_;refine wp_region_lit ?_;refine ZR rfl O rfl rfl rfl (Z:=[.int .i64 0]) (by kernel_rfl) rfl E.o ?_;clear O E a;intro a w34 b76 O E;replace E:=Bx.mk E;refine ZS rfl rfl rfl (O.ev rfl) (O.ev rfl) (by kernel_rfl) E.o 0 rfl rfl rfl ?_;clear E;intro w35 E;replace E:=Bx.mk E;replace E:=E.nm;refine Zk ?_;refine wp_region_lit ?_;refine zy9 O (ylo (v:=.int .i64 2) rfl (O.ev rfl) (((E.o.box 0 rfl).cell 0).trans rfl)) ?_;clear O a;intro a O;refine zy9 O (ZW (r:=3) rfl (O.ev rfl) (O.ev rfl) (by decide)) ?_;clear O a;intro a O;refine ZS rfl rfl rfl (O.ev rfl) (O.ev rfl) (by kernel_rfl) E.o 0 rfl rfl rfl ?_;clear E;intro w36 E;replace E:=Bx.mk E;replace E:=E.nm;refine Zk ?_;refine Ym 1 ?_;refine wp_seq ?_;refine Yj ?_;refine zy9 O (ylo (v:=.int .i64 3) rfl (O.ev rfl) (((E.o.box 0 rfl).cell 0).trans rfl)) ?_;clear O a;intro a O;refine zy9 O (yfa 5 rfl (O.ev rfl)) ?_;clear O a;intro a O;refine zy9 O (ylo (v:=.int .i64 2) rfl (O.ev rfl) (((E.o.box 10 rfl).cell 5).trans rfl)) ?_;clear O a;intro a O;refine zy9 O (VX rfl (O.ev rfl) (O.ev rfl)) ?_;clear O a;intro a O;refine Zk ?_;replace O:=O.know (k:=48) (c:=false) rfl (by decide);refine XV O rfl ?_;refine wp_exit ?_;refine ZC ?_;refine ZC ?_;refine Yh ?_;refine Zz ?_;refine wp_seq ?_;refine wp_seq ?_;have hil21:=Zc6 hd2 hwf;obtain ⟨inn,hinn⟩:∃ x,x=innL q0.d d t.ac:=⟨_,rfl⟩;rw [← hinn] at E hil21;have hrr:r=(⟨q2.d,r2.next,r2.stays,true⟩:Jw):=by rw [hr];rw [JO (r:=r1) (by rw [hpd_1];exact hr1.symm) hk1,← hq1,JO (r:=r2) (by rw [hpd_2];exact hr2.symm) hk2,hq2];rfl
      have hlive2:=hlive (by rw [hrr]);rw [hrr,← hinn] at hlive2;subst hrr;replace hlive2:Us r2.stays inn q2.d:=hlive2;replace E:=E.pks [17];obtain ⟨aoI,cpI,hA9⟩:=E.o.accOut;replace E:=Bx.mk hA9;clear hA9;replace E:=E.nm;replace E:=E.pks [6,6];refine wp_region_lit ?_;refine zy9 O (ylo (v:=.slice aoI inn.length cpI) rfl (O.ev rfl) (((E.o.box 2 rfl).cell 0).trans rfl)) ?_;clear O a;intro a O;refine zy9 O (Xa (e:=40) (size:=5) rfl (O.ev rfl) (by kernel_rfl)) ?_;clear O a;intro a O;refine zm9 O ?_;clear O a;intro a O;refine Zk ?_;refine wp_block ?_;refine ZD (ι:=Nat) (fun i a w=>∃ (qf:SQ),(i≤inn.length∧qf.d=Y1 r2.stays (inn.take i) q2.d)∧Fr 161 a [(3,.pointer (some ⟨b51,0,none⟩)),(6,.pointer (some ⟨b53,0,none⟩)),(7,.pointer (some ⟨b54,0,none⟩)),(8,.pointer (some ⟨b55,0,none⟩)),(11,.pointer (some ⟨b59,0,none⟩)),(12,.slice aoX2 r2.next.length cpX2),(139,.slice aoI inn.length cpI),(140,.int .i64 (inn.length:Int)),(141,.int .i64 (i:Int))] (Q5 [D2,D1])∧St w0 ([SQ.asr qf,boxA b 8 39 (.agg #[.slice qf.a0 qf.d.af.length qf.c0,.slice qf.a1 qf.d.aa.ab.length qf.c1,.slice qf.a2 qf.d.aa.ag.length qf.c2,.int .i64 qf.d.aq,.slice qf.a4 qf.d.ai.length qf.c4,.int .i64 qf.d.ar,.slice qf.a6 qf.d.aj.length qf.c6,.bool qf.d.au]),boxA b57 1 37 (.agg #[.slice aoI inn.length cpI]),Zd PtrD.cells 5 40 (.slice aoI inn.length cpI) inn,boxA b76 1 3 (.agg #[.int .i64 3]),boxA b75 1 37 (.agg #[.slice aoX2 r2.next.length cpX2]),Zd PtrD.cells 5 40 (.slice aoX2 r2.next.length cpX2) r2.next,J9 b58 (kfn r2.stays),boxA b51 1 112 (.agg #[.pointer (some ⟨b,0,none⟩)]),boxA b52 7 42 (.agg #[.int .i64 t.ac.aA,.int .i64 t.ac.ah,.int .i64 t.ac.al,.int .i64 t.ac.ax,.int .i64 t.ac.ak,.int .i64 (d:Int),.int .i64 t.am]),boxA b53 7 42 (.agg #[.int .i64 0,.int .i64 0,.int .i64 0,.int .i64 0,.int .i64 0,.int .i64 0,.int .i64 0]),boxA b54 1 4 (.agg #[.bool false]),boxA b55 7 42 (.agg #[.int .i64 0,.int .i64 0,.int .i64 0,.int .i64 0,.int .i64 0,.int .i64 2,.int .i64 (ls.length:Int)]),boxA b56 1 147 (.agg #[.slice aoW d cpW]),QL aoW cpW d (fun j=>Zx q0.d t d (d - j)),boxA b59 1 150 (.agg #[.map (some b58)]),boxA b70 1 3 (.agg #[.int .i64 2]),Zd PtrD.cells 5 40 (.slice (some ⟨g74,0,none⟩) (4*m2) cpP2) (Yw 2 2 r1.next),objA D2 (.deferred (some [])),Zd PtrD.cells 5 40 (.slice aoL ls.length cpL) ls,objA D1 (.deferred (some [])),restA w0 wE fE]) w) (fun i=>inn.length - i) 0 ⟨q2,⟨Nat.zero_le _,rfl⟩,O.less _ ⟨rfl,rfl,rfl,rfl,rfl,rfl,rfl,rfl,rfl,trivial⟩,E.o⟩ ?_;clear O E;clear a;rintro i a w37 ⟨qf,⟨hi,hqf⟩,O,E⟩;replace E:=Bx.mk E;refine Yj ?_;refine zy9 O (Zcm rfl (O.ev rfl) (O.ev rfl)) ?_;clear O a;intro a O;refine Zk ?_;refine wp_seq ?_;refine O.cases 142 rfl (fun cc4 _=>?_) fun cc4 _=>?_
      ·clear O;rename_i O
       have dcc4:=of_decide_eq_true cc4;refine Xi O rfl ?_;refine wp_skip ?_;refine Zz ?_;refine wp_seq ?_;refine wp_block ?_;refine wp_seq ?_;obtain ⟨g77,rfl,_,_,_,_⟩:=E.o.rowOpen 3 rfl (by omega);refine wp_region_lit ?_;refine zy9 O (ZG (e:=40) (i:=i) (size:=5) rfl (O.ev rfl) (O.ev rfl) (by kernel_rfl) rfl (by omega)) ?_;clear O a;intro a O;refine zy9 O (ylr (cs:=[.int .i64 ((inn.getD i PtrD.zero).aA),.int .i64 ((inn.getD i PtrD.zero).ah),.int .i64 ((inn.getD i PtrD.zero).al),.int .i64 ((inn.getD i PtrD.zero).ax),.int .i64 ((inn.getD i PtrD.zero).ak)]) rfl (O.ev rfl) (E.o.elem PtrD.cells_len 3 rfl (Zh (xs:=inn) (j:=i) (d:=PtrD.zero) (by omega)))) ?_;clear O a;intro a O;refine ZR rfl O rfl rfl rfl (Z:=[.int .i64 0,.int .i64 0,.int .i64 0,.int .i64 0,.int .i64 0]) (by kernel_rfl) rfl E.o ?_;clear O E a;intro a w38 b78 O E;replace E:=Bx.mk E;refine Z8 rfl O rfl rfl (O.ev rfl) (O.ev rfl) E.o 0 rfl (Z0 [.int .i64 ((inn.getD i PtrD.zero).aA),.int .i64 ((inn.getD i PtrD.zero).ah),.int .i64 ((inn.getD i PtrD.zero).al),.int .i64 ((inn.getD i PtrD.zero).ax),.int .i64 ((inn.getD i PtrD.zero).ak)] rfl rfl) (by kernel_rfl) ?_;clear E;intro w39 E;replace E:=Bx.mk E;replace E:=E.nm;refine Zk ?_;refine Yj ?_;refine zy9 O (ylo (v:=.map (some b58)) rfl (O.ev rfl) (((E.o.box 16 rfl).cell 0).trans rfl)) ?_;clear O a;intro a O;refine zy9 O (ylr (cs:=[.int .i64 ((inn.getD i PtrD.zero).aA),.int .i64 ((inn.getD i PtrD.zero).ah),.int .i64 ((inn.getD i PtrD.zero).al),.int .i64 ((inn.getD i PtrD.zero).ax),.int .i64 ((inn.getD i PtrD.zero).ak)]) rfl (O.ev rfl) ((E.o.box 0 rfl).sub 0 5)) ?_;clear O a;intro a O;refine zy9 O (ZfC (n:=inn.getD i PtrD.zero) rfl (O.ev rfl) (O.ev rfl) Tryz.underlying150 Zhk (u:=.bool false) (by kernel_rfl) (E.o.mapKH 8 rfl) (Zhp _ _)) ?_;clear O a;intro a O;refine zy9 O (Q2 rfl (O.ev rfl)) ?_;clear O a;intro a O;refine Zk ?_;refine O.cases 148 rfl (fun cc5 _=>?_) fun cc5 _=>?_
       ·clear O;rename_i O
        have hkb:YM r2.stays (inn.getD i PtrD.zero)=false:=by simpa using cc5
        have hil:i<inn.length:=by omega
        have hin9:inn.getD i PtrD.zero ∈ innL q0.d d t.ac:=by rw [← hinn];exact YI hil
        have hpo:=(QI hwf _ (JL hwf _ hin9)).1;have hWk:Uk i qf.d:=by rw [hqf];have h9:=UW (sp:=r2.stays) (Ux hok2) (l:=inn.take i) (fun p hp=>(QI hwf _ (JL hwf _ (by rw [← hinn];exact List.mem_of_mem_take hp))).1);rwa [length_take,Nat.min_eq_left (by omega),Nat.zero_add] at h9
        have hlv9:qf.d.aa.ab.getD (inn.getD i PtrD.zero).aA.toNat 0≠0:=by rw [hqf];rw [Zm4 hil] at hlive2;exact Us.at_ hlive2 hkb
        refine Xi O rfl ?_;refine wp_region_lit ?_;refine zy9 O (ylo (v:=.pointer (some ⟨b,0,none⟩)) rfl (O.ev rfl) (((E.o.box 9 rfl).cell 0).trans rfl)) ?_;clear O a;intro a O;refine zy9 O (ylr (cs:=[.int .i64 ((inn.getD i PtrD.zero).aA),.int .i64 ((inn.getD i PtrD.zero).ah),.int .i64 ((inn.getD i PtrD.zero).al),.int .i64 ((inn.getD i PtrD.zero).ax),.int .i64 ((inn.getD i PtrD.zero).ak)]) rfl (O.ev rfl) ((E.o.box 0 rfl).sub 0 5)) ?_;clear O a;intro a O;replace E:=E.pks [2,2];replace E:=Bx.mk E.o.sqOut;replace E:=E.nm;replace E:=E.pks [4,4,4,4,4,5];refine YJ rfl O rfl (ZJ func96 (by kernel_rfl) rfl) (args:=#[.pointer (some ⟨b,0,none⟩),pV (inn.getD i PtrD.zero)]) rfl (Zep w0 _ b qf.a0 qf.c0 qf.a1 qf.c1 qf.a2 qf.c2 qf.a4 qf.c4 qf.a6 qf.c6 qf.d (inn.getD i PtrD.zero) i _ hpo hWk (by omega) (fun _=>hlv9) E.o) rfl rfl ?_;rintro _ w40 ⟨qn,hqn,rfl,hs1⟩;refine ⟨_,rfl,?_⟩;replace E:=Bx.mk hs1;clear hs1 O a;intro a O;replace E:=E.nm;refine wpList_nil ?_;refine YH ?_;refine Zz ?_;refine wp_region_lit ?_;refine zy9 O (ZW rfl (O.ev rfl) (O.ev rfl) (Qt (by omega))) ?_;clear O a;intro a O;refine zm9 O ?_;clear O a;intro a O;refine Zk ?_;have hst:qn.d=Y1 r2.stays (inn.take (i+1)) q2.d:=by rw [Qi (show i<inn.length by omega),Jn,if_neg (by rw [hkb];decide),hqn,hqf]
        replace E:=Bx.mk (E.o.erase 2);replace E:=E.nm;exact ⟨i+1,⟨qn,⟨by omega,hst⟩,O.less _ ⟨rfl,rfl,rfl,rfl,rfl,rfl,rfl,rfl,rfl,trivial⟩,E.o⟩,(by omega)⟩
       ·clear O;rename_i O
        have hkb:YM r2.stays (inn.getD i PtrD.zero)=true:=by simpa using cc5
        refine XV O rfl ?_;refine wp_skip ?_;refine YH ?_;refine Zz ?_;refine wp_region_lit ?_;refine zy9 O (ZW rfl (O.ev rfl) (O.ev rfl) (Qt (by omega))) ?_;clear O a;intro a O;refine zm9 O ?_;clear O a;intro a O;refine Zk ?_;have hst:qf.d=Y1 r2.stays (inn.take (i+1)) q2.d:=by rw [Qi (show i<inn.length by omega),Jn,if_pos hkb,hqf]
        replace E:=Bx.mk (E.o.erase 0);replace E:=E.nm;exact ⟨i+1,⟨qf,⟨by omega,hst⟩,O.less _ ⟨rfl,rfl,rfl,rfl,rfl,rfl,rfl,rfl,rfl,trivial⟩,E.o⟩,(by omega)⟩
      ·clear O;rename_i O
       have dcc4:=of_decide_eq_false cc4;refine XV O rfl ?_;refine wp_exit ?_;refine ZC ?_;refine ZC ?_;refine Yh ?_;refine Zz ?_;refine wp_seq ?_;refine Yj ?_;refine zm9 O ?_;clear O a;intro a O;refine zy9 O (Xa (e:=40) (size:=5) rfl (O.ev rfl) (by kernel_rfl)) ?_;clear O a;intro a O;refine zy9 O (Zee rfl (O.ev rfl) (O.ev rfl)) ?_;clear O a;intro a O;refine Zk ?_;refine O.cases 155 rfl (fun cc6 _=>?_) fun cc6 _=>?_
       ·clear O;rename_i O
        have dcc6:=of_decide_eq_true cc6;refine Xi O rfl ?_;obtain ⟨g79,rfl,_,_,_,_⟩:=E.o.rowOpen 6 rfl (by omega);refine wp_region_lit ?_;refine zm9 O ?_;clear O a;intro a O;refine zy9 O (ZG (e:=40) (i:=0) (size:=5) rfl (O.ev rfl) (O.ev rfl) (by kernel_rfl) rfl (by omega)) ?_;clear O a;intro a O;refine zy9 O (ylr (cs:=[.int .i64 ((r2.next.getD 0 PtrD.zero).aA),.int .i64 ((r2.next.getD 0 PtrD.zero).ah),.int .i64 ((r2.next.getD 0 PtrD.zero).al),.int .i64 ((r2.next.getD 0 PtrD.zero).ax),.int .i64 ((r2.next.getD 0 PtrD.zero).ak)]) rfl (O.ev rfl) (E.o.elem PtrD.cells_len 6 rfl (Zh (xs:=r2.next) (j:=0) (d:=PtrD.zero) (by omega)))) ?_;clear O a;intro a O;refine zy9 O (yfa 0 rfl (O.ev rfl)) ?_;clear O a;intro a O;refine Y7 rfl rfl rfl (O.ev rfl) (O.ev rfl) E.o 12 rfl (by kernel_rfl) rfl (by kernel_rfl) (rs:=[.int .i64 ((r2.next.getD 0 PtrD.zero).aA),.int .i64 ((r2.next.getD 0 PtrD.zero).ah),.int .i64 ((r2.next.getD 0 PtrD.zero).al),.int .i64 ((r2.next.getD 0 PtrD.zero).ax),.int .i64 ((r2.next.getD 0 PtrD.zero).ak),.int .i64 2,.int .i64 (ls.length:Int)]) rfl ?_;clear E;intro w41 E;replace E:=Bx.mk E;replace E:=E.nm;refine Zk ?_;refine Yj ?_;refine zy9 O (ylr (cs:=[.int .i64 ((r2.next.getD 0 PtrD.zero).aA),.int .i64 ((r2.next.getD 0 PtrD.zero).ah),.int .i64 ((r2.next.getD 0 PtrD.zero).al),.int .i64 ((r2.next.getD 0 PtrD.zero).ax),.int .i64 ((r2.next.getD 0 PtrD.zero).ak),.int .i64 2,.int .i64 (ls.length:Int)]) rfl (O.ev rfl) ((E.o.box 12 rfl).sub 0 7)) ?_;clear O a;intro a O;refine Z8 rfl O rfl rfl (O.ev rfl) (O.ev rfl) E.o 10 rfl (Z0 [.int .i64 ((r2.next.getD 0 PtrD.zero).aA),.int .i64 ((r2.next.getD 0 PtrD.zero).ah),.int .i64 ((r2.next.getD 0 PtrD.zero).al),.int .i64 ((r2.next.getD 0 PtrD.zero).ax),.int .i64 ((r2.next.getD 0 PtrD.zero).ak),.int .i64 2,.int .i64 (ls.length:Int)] rfl rfl) (by kernel_rfl) ?_;clear E;intro w42 E;replace E:=Bx.mk E;replace E:=E.nm;refine ZS rfl rfl rfl (O.ev rfl) (O.ev rfl) (by kernel_rfl) E.o 11 rfl rfl rfl ?_;clear E;intro w43 E;replace E:=Bx.mk E;replace E:=E.nm;refine Zk ?_;refine wp_ret ?_;replace E:=E.pks [20,19];refine VQ (Ds:=[D2,D1]) (s:=[SQ.asr qf,boxA b 8 39 (.agg #[.slice qf.a0 qf.d.af.length qf.c0,.slice qf.a1 qf.d.aa.ab.length qf.c1,.slice qf.a2 qf.d.aa.ag.length qf.c2,.int .i64 qf.d.aq,.slice qf.a4 qf.d.ai.length qf.c4,.int .i64 qf.d.ar,.slice qf.a6 qf.d.aj.length qf.c6,.bool qf.d.au]),boxA b57 1 37 (.agg #[.slice aoI inn.length cpI]),Zd PtrD.cells 5 40 (.slice aoI inn.length cpI) inn,boxA b76 1 3 (.agg #[.int .i64 3]),boxA b75 1 37 (.agg #[.slice (some ⟨g79,0,none⟩) r2.next.length cpX2]),Zd PtrD.cells 5 40 (.slice (some ⟨g79,0,none⟩) r2.next.length cpX2) r2.next,J9 b58 (kfn r2.stays),boxA b51 1 112 (.agg #[.pointer (some ⟨b,0,none⟩)]),boxA b52 7 42 (.agg #[.int .i64 t.ac.aA,.int .i64 t.ac.ah,.int .i64 t.ac.al,.int .i64 t.ac.ax,.int .i64 t.ac.ak,.int .i64 (d:Int),.int .i64 t.am]),boxA b53 7 42 (.agg #[.int .i64 ((r2.next.getD 0 PtrD.zero).aA),.int .i64 ((r2.next.getD 0 PtrD.zero).ah),.int .i64 ((r2.next.getD 0 PtrD.zero).al),.int .i64 ((r2.next.getD 0 PtrD.zero).ax),.int .i64 ((r2.next.getD 0 PtrD.zero).ak),.int .i64 2,.int .i64 (ls.length:Int)]),boxA b54 1 4 (.agg #[.bool true]),boxA b55 7 42 (.agg #[.int .i64 ((r2.next.getD 0 PtrD.zero).aA),.int .i64 ((r2.next.getD 0 PtrD.zero).ah),.int .i64 ((r2.next.getD 0 PtrD.zero).al),.int .i64 ((r2.next.getD 0 PtrD.zero).ax),.int .i64 ((r2.next.getD 0 PtrD.zero).ak),.int .i64 2,.int .i64 (ls.length:Int)]),boxA b56 1 147 (.agg #[.slice aoW d cpW]),QL aoW cpW d (fun j=>Zx q0.d t d (d - j)),boxA b59 1 150 (.agg #[.map (some b58)]),boxA b70 1 3 (.agg #[.int .i64 2]),Zd PtrD.cells 5 40 (.slice (some ⟨g74,0,none⟩) (4*m2) cpP2) (Yw 2 2 r1.next),Zd PtrD.cells 5 40 (.slice aoL ls.length cpL) ls,restA w0 wE fE]) O results95 E.o (fun w9 hw=>O.resBox rfl (hw.box 10 rfl) (by kernel_rfl)) (fun w9 hw=>O.resBox1 rfl (hw.box 11 rfl) (by kernel_rfl)) (fun w9 hw=>?_);clear E;have E:=Bx.mk hw;clear hw;replace E:=Bx.mk ((((((((((((((((E.o.erase 17).erase 16).erase 15).erase 14).erase 13).erase 12).erase 11).erase 10).erase 9).erase 8).erase 7).erase 6).erase 5).erase 4).erase 3).erase 2);replace E:=E.nm;replace E:=E.nm;exact ⟨qf,.inl ⟨rfl,by rw [hqf,← hinn,List.take_of_length_le (by omega)],rfl⟩,E.o⟩
       ·clear O;rename_i O
        have dcc6:=of_decide_eq_false cc6
        omega
     ·intro D2 a w43x q2 nx' sy' hD2 hk2 E O;rw [← hr2] at hk2;replace E:=Bx.mk E
      replace E:=E.nm;refine Yn ?_;refine Ya ?_;refine Yn ?_;refine Ya ?_;refine Ya ?_;refine Yn ?_;refine Ya ?_;replace E:=E.pks [17,15];refine VQ (Ds:=[D2,D1]) (s:=[accA b75 nx',SQ.asr q2,boxA b 8 39 (.agg #[.slice q2.a0 q2.d.af.length q2.c0,.slice q2.a1 q2.d.aa.ab.length q2.c1,.slice q2.a2 q2.d.aa.ag.length q2.c2,.int .i64 q2.d.aq,.slice q2.a4 q2.d.ai.length q2.c4,.int .i64 q2.d.ar,.slice q2.a6 q2.d.aj.length q2.c6,.bool q2.d.au]),J9 b58 (kfn sy'),boxA b51 1 112 (.agg #[.pointer (some ⟨b,0,none⟩)]),boxA b52 7 42 (.agg #[.int .i64 t.ac.aA,.int .i64 t.ac.ah,.int .i64 t.ac.al,.int .i64 t.ac.ax,.int .i64 t.ac.ak,.int .i64 (d:Int),.int .i64 t.am]),boxA b53 7 42 (.agg #[.int .i64 0,.int .i64 0,.int .i64 0,.int .i64 0,.int .i64 0,.int .i64 0,.int .i64 0]),boxA b54 1 4 (.agg #[.bool false]),boxA b55 7 42 (.agg #[.int .i64 0,.int .i64 0,.int .i64 0,.int .i64 0,.int .i64 0,.int .i64 2,.int .i64 (ls.length:Int)]),boxA b56 1 147 (.agg #[.slice aoW d cpW]),QL aoW cpW d (fun j=>Zx q0.d t d (d - j)),boxA b59 1 150 (.agg #[.map (some b58)]),boxA b70 1 3 (.agg #[.int .i64 2]),Zd PtrD.cells 5 40 (.slice (some ⟨g74,0,none⟩) (4*m2) cpP2) (Yw 2 2 r1.next),accA b57 (innL q0.d d t.ac),Zd PtrD.cells 5 40 (.slice aoL ls.length cpL) ls,restA w0 wE fE]) O results95 E.o (fun w9 hw=>O.resBox rfl (hw.box 6 rfl) (by kernel_rfl)) (fun w9 hw=>O.resBox1 rfl (hw.box 7 rfl) (by kernel_rfl)) (fun w9 hw=>?_);clear E;have E:=Bx.mk hw;clear hw;replace E:=Bx.mk (((((((((((((E.o.erase 14).erase 13).erase 12).erase 11).erase 10).erase 9).erase 8).erase 7).erase 6).erase 5).erase 4).erase 3).erase 0);replace E:=E.nm;replace E:=E.nm;exact ⟨q2,.inr ⟨by rw [hr,JO (r:=r1) (by rw [hpd_1];exact hr1.symm) hk1,← hq1];exact ZfN (by rw [hpd_2,← hr2];exact hk2),rfl⟩,E.o⟩
   ·intro D1 a w43x q1 nx' sy' hD1 hk1 E O;rw [← hr1] at hk1;replace E:=Bx.mk E
    replace E:=E.nm;refine Yn ?_;refine Ya ?_;refine Yn ?_;refine Ya ?_;refine Ya ?_;refine Yn ?_;refine Ya ?_;replace E:=E.pks [14];refine VQ (Ds:=[D1]) (s:=[accA b69 nx',SQ.asr q1,boxA b 8 39 (.agg #[.slice q1.a0 q1.d.af.length q1.c0,.slice q1.a1 q1.d.aa.ab.length q1.c1,.slice q1.a2 q1.d.aa.ag.length q1.c2,.int .i64 q1.d.aq,.slice q1.a4 q1.d.ai.length q1.c4,.int .i64 q1.d.ar,.slice q1.a6 q1.d.aj.length q1.c6,.bool q1.d.au]),J9 b58 (kfn sy'),boxA b51 1 112 (.agg #[.pointer (some ⟨b,0,none⟩)]),boxA b52 7 42 (.agg #[.int .i64 t.ac.aA,.int .i64 t.ac.ah,.int .i64 t.ac.al,.int .i64 t.ac.ax,.int .i64 t.ac.ak,.int .i64 (d:Int),.int .i64 t.am]),boxA b53 7 42 (.agg #[.int .i64 0,.int .i64 0,.int .i64 0,.int .i64 0,.int .i64 0,.int .i64 0,.int .i64 0]),boxA b54 1 4 (.agg #[.bool false]),boxA b55 7 42 (.agg #[.int .i64 0,.int .i64 0,.int .i64 0,.int .i64 0,.int .i64 0,.int .i64 2,.int .i64 (ls.length:Int)]),boxA b56 1 147 (.agg #[.slice aoW d cpW]),QL aoW cpW d (fun j=>Zx q0.d t d (d - j)),boxA b59 1 150 (.agg #[.map (some b58)]),boxA b61 1 3 (.agg #[.int .i64 1]),Zd PtrD.cells 5 40 (.slice (some ⟨g68,0,none⟩) (4*m1) cpP1) (Yw 2 1 ls),accA b57 (innL q0.d d t.ac),Zd PtrD.cells 5 40 (.slice aoL ls.length cpL) ls,restA w0 wE fE]) O results95 E.o (fun w9 hw=>O.resBox rfl (hw.box 6 rfl) (by kernel_rfl)) (fun w9 hw=>O.resBox1 rfl (hw.box 7 rfl) (by kernel_rfl)) (fun w9 hw=>?_);clear E;have E:=Bx.mk hw;clear hw;replace E:=Bx.mk (((((((((((((E.o.erase 14).erase 13).erase 12).erase 11).erase 10).erase 9).erase 8).erase 7).erase 6).erase 5).erase 4).erase 3).erase 0);replace E:=E.nm;replace E:=E.nm;exact ⟨q1,.inr ⟨by rw [hr];exact ZfN (by rw [hpd_1,← hr1];exact hk1),rfl⟩,E.o⟩
theorem ZdU {st:Za} {many:Int}:∀ {i:Nat} {l:List PtrD},YQ st many i l=true→∀ j,many≤((i+j:Nat):Int)→(l.getD j PtrD.zero).hole=true
 | _,[],_,j,_=>rfl
 | i,p::r,h,j,hj=>by
  have h:(JS st many i p && YQ st many (i+1) r)=true:=h;rw [Bool.and_eq_true] at h
  cases j with
  | zero =>
   show p.hole=true;have h1:=h.1;unfold JS at h1
   cases hh:p.hole with
   | true=>rfl
   | false =>
    rw [hh] at h1;simp only [cond_false,Bool.and_eq_true,decide_eq_true_eq] at h1
    omega
  | succ j=>exact ZdU h.2 j (by omega)
theorem Zpt {st:Za} {t:Zf} {l:List PtrD} (h:leavesF st t=some l) (h0:0≤st.aq):TV st t:=by
 obtain ⟨hd,hw⟩:=Zj3 h h0;obtain ⟨x,ht,hdn,hlb,rfl,hxl,_⟩:=XP h;unfold topB at ht;simp only [Bool.and_eq_true] at ht;have hy:=J3 (st:=st) (n:=depthN t.am) (l:=[t.ac]) (fun p hp=>by rw [mem_singleton.1 hp];exact hw.ok) h0;have hx:=Zen (st:=st) (n:=depthN t.am) (l:=[t.ac]) (fun p hp=>by rw [mem_singleton.1 hp];exact hw);rw [hy.1,hdn,flatMap_cons,List.flatMap_nil,append_nil] at hx;have hx:=Option.some.inj hx;refine ⟨Zo ht.1,hd,hw,fun j hj=>?_⟩;rw [← hx];exact ZdU hlb j (by omega)
theorem ZjJ {st:Za} {t:Zf} {l:List PtrD} (hT:TV st t) (h0:0≤st.aq) (hl:l=(t.ps st).take t.am.toNat) (n:Nat) (hn:t.am.toNat≤n) (h16:n≤16):l++replicate (n - l.length) PtrD.zero=(Zv (t.ps st)).take n:=by
 have hlen:=hT.len;have hw:=hT.wide;have hll:l.length=t.am.toNat:=by rw [hl,length_take];omega
 have htk:l=(Zv (t.ps st)).take t.am.toNat:=by
  unfold Zv;rw [hl,List.take_append_of_le_length hlen.2.2]
 refine List.ext_getElem (by rw [length_append,length_replicate,length_take];omega) fun j h1 h2=>?_;have hj:j<n:=by rw [length_take] at h2;omega
 rw [List.getElem_take]
 by_cases hjl:j<l.length
 ·rw [List.getElem_append_left hjl]
  have h3:j<((Zv (t.ps st)).take t.am.toNat).length:=by rw [← htk];exact hjl
  have:l[j]=((Zv (t.ps st)).take t.am.toNat)[j]:=by simp only [htk]
  rw [this,List.getElem_take]
 ·rw [List.getElem_append_right (by omega),List.getElem_replicate]
  have ho:=ZcX hT (j:=j) (by omega);rw [getD_eq_getElem?_getD,getElem?_eq_getElem (by rw [hw];omega),getD_some] at ho;exact (QP ho).symm
theorem ZfP {f:PtrD→List PtrD}:∀ {K:List PtrD} {j:Nat} {w:PtrD},(∀ q ∈ K,(f q).length=4)→K[j]? = some w→((K.flatMap f).drop (4*j)).take 4=f w
 | [],_,_,_,h=>by cases h
 | a::r,0,w,hl,h=>by
  obtain rfl:a=w:=by simpa using h
  rw [flatMap_cons,Nat.mul_zero,drop_zero,List.take_append_of_le_length (by rw [hl a (mem_cons_self ..)];exact Nat.le_refl _),List.take_of_length_le (by rw [hl a (mem_cons_self ..)];exact Nat.le_refl _)]
 | a::r,j+1,w,hl,h=>by
  have ha:=hl a (mem_cons_self ..);rw [flatMap_cons,show 4*(j+1)=(f a).length+4*j by omega,List.drop_append];have e:(f a).drop ((f a).length+4*j)=[]:=List.drop_eq_nil_of_le (by omega);rw [e,nil_append,Nat.add_sub_cancel_left];exact ZfP (fun q hq=>hl q (mem_cons_of_mem _ hq)) (by simpa using h)
theorem Zls {l:List PtrD} {k j:Nat} {p:PtrD} (h:j≠k / 4):((l.set k p).drop (4*j)).take 4=(l.drop (4*j)).take 4:=by
 refine List.ext_getElem? fun i=>?_;rw [List.getElem?_take,List.getElem?_take]
 split
 ·next hi =>
  rw [List.getElem?_drop,List.getElem?_drop,List.getElem?_set_ne (by omega)]
 ·rfl
theorem ZiK {st:Za}:∀ {n:Nat} {p:PtrD},Wf st n p→∀ q ∈ innL st n p,YL st q=true
 | 0,_,_,_,hq=>by cases hq
 | n+1,p,hw,q,hq=>by
  obtain ⟨ho,_,l,hk,hwl⟩:=hw
  cases hh:p.hole with
  | true=>rw [Jt hh] at hq;cases hq
  | false =>
   rw [QX hh hk] at hq;rcases mem_cons.1 hq with rfl|hq
   ·rcases (Xy hk).2.2 with ⟨h,_⟩|⟨_,_,h,_⟩
    ·rw [hh] at h;cases h
    ·exact h
   ·obtain ⟨x,hx,hq⟩:=List.mem_flatMap.1 hq
    exact ZiK (hwl x hx) q hq
theorem ZiL {st:Za}:∀ {n:Nat} {p:PtrD},Wf st n p→∀ q ∈ allL st n p,YL st q=true
 | 0,p,hw,q,hq=>by
  cases hh:p.hole with
  | true=>rw [Xr hh] at hq;cases hq
  | false=>rw [UF hh,mem_singleton] at hq;rw [hq];exact hw.2.2.2
 | n+1,p,hw,q,hq=>by
  obtain ⟨ho,_,l,hk,hwl⟩:=hw
  cases hh:p.hole with
  | true=>rw [Xr hh] at hq;cases hq
  | false =>
   rw [Qo hh hk] at hq;rcases mem_cons.1 hq with rfl|hq
   ·rcases (Xy hk).2.2 with ⟨h,_⟩|⟨_,_,h,_⟩
    ·rw [hh] at h;cases h
    ·exact h
   ·obtain ⟨x,hx,hq⟩:=List.mem_flatMap.1 hq
    exact ZiL (hwl x hx) q hq
theorem ZjK {st:Za} {t:Zf} {ls K:List PtrD} {k:Nat} (htd:t.az=2) (hw:Wf st 2 t.ac) (hok:st.ok=true) (hlo:∀ p ∈ ls,p.ok=true) (hk:kids st t.ac 2=some K) (hl16:ls.length≤16) (hpc:∀ j w,j≠k→K[j]? = some w→w.hole=false→kids st w 1=some (((Yw 2 1 ls).drop (4*j)).take 4)) (h:(Zaw t 2 st 2 1 st ls []).ok=true) {j:Nat} {w:PtrD} (hj:j≠k) (hwj:K[j]? = some w) (hwh:w.hole=false):YM (Zaw t 2 st 2 1 st ls []).stays w=true:=by
 have htd2:t.az=((2:Nat):Int):=htd;have hpl:(Yw 2 1 ls).length=4*((Yw 2 1 ls).length / 4):=by
  unfold Yw;rw [if_pos ⟨rfl,rfl⟩,length_append,length_replicate];omega
 have hp16:(Yw 2 1 ls).length / 4=4:=by
  unfold Yw;rw [if_pos ⟨rfl,rfl⟩,length_append,length_replicate];omega
 have hold:Zx st t 2 1=K:=by
  obtain ⟨K2,hkS,hk2,_⟩:=VO hw;rw [show kids st t.ac ((1+1:Nat):Int)=some K from hk] at hk2;obtain rfl:=Option.some.inj hk2;unfold Zx;rw [if_pos htd2,if_neg (by omega),show kidsS st t.ac ((2:Nat):Int)=some K from hkS];rfl
 have hjl:j<4:=by
  have:=(List.getElem?_eq_some_iff.1 hwj).1;have:=Y4 hk
  omega
 cases hb:(Yv ((1:Nat):Int) ((Yw 2 1 ls).length / 4) (Yw 2 1 ls) (Zx st t 2 1) st [] []).ok with
 | false=>rw [Zbx rfl hb] at h;rw [hb] at h;cases h
 | true =>
  rw [JO rfl hb] at h ⊢;have h1:=Zb9 (n:=1) rfl hok hpl (Uw hlo) (J8 htd2 hw (Nat.le_refl _) (by omega) (Nat.le_refl _)) hb;have h2:=h1.2 j w (by rw [hp16];exact hjl) (by rw [hold];exact hwj) hwh (hpc j w hj hwj hwh);obtain ⟨r1,hr1⟩:∃ r,r=Yv ((1:Nat):Int) ((Yw 2 1 ls).length / 4) (Yw 2 1 ls) (Zx st t 2 1) st [] []:=⟨_,rfl⟩;have hfx:=Zai (n:=1) rfl (Uw hlo) hpl (J8 htd2 hw (Nat.le_refl _) (by omega) (Nat.le_refl _)) hok hb;rw [← hr1] at h h2 hfx ⊢;obtain ⟨hst,hok1,hnl,hno⟩:=hfx;rw [hp16] at hnl;have hpl2:(Yw 2 2 r1.next).length=4*((Yw 2 2 r1.next).length / 4):=by
   unfold Yw;rw [if_neg (by omega),VM];omega
  cases hb2:(Yv ((2:Nat):Int) ((Yw 2 2 r1.next).length / 4) (Yw 2 2 r1.next) (Zx st t 2 2) r1.st [] r1.stays).ok with
  | false=>rw [Zbx rfl hb2] at h;rw [hb2] at h;cases h
  | true =>
   rw [JO rfl hb2];have h3:=Zb9 (n:=2) rfl hok1 hpl2 (Uw hno) (fun w hw9=>(J8 htd2 hw (by omega) (Nat.le_refl _) (Nat.le_refl _) w hw9).still hst) hb2;exact JN.2 (h3.1 w h2)
structure PutX (st:Za) (t:Zf) (k n:Nat) (text:ByteArray) (old:PtrD) (ls0:List PtrD):Prop where
  ok:st.ok=true
  tv:TV st t
  hk:k<16
  n_:n=max t.am.toNat (k+1)
  sz:inB (text.size:Int) 1 128=true
  ol:old=(Zv (t.ps st)).getD k PtrD.zero
  l0:ls0=(Zv (t.ps st)).take n
  no:old.hole=false→∀ x ∈ (Yb st old).data.toList,x≠44
section
variable {st:Za} {t:Zf} {k n:Nat} {text:ByteArray} {old:PtrD} {ls0:List PtrD}
theorem PutX.h0 (h:PutX st t k n text old ls0):0≤st.aq:=by have:=(Za.ok_spec h.ok).txg;omega
theorem PutX.n16 (h:PutX st t k n text old ls0):n≤16∧k<n∧1≤n∧t.am≤(n:Int)∧max t.am ((k:Int)+1)=(n:Int):=by
 have:=h.tv.many;have:=h.hk;have:=h.n_
 omega
theorem PutX.len (h:PutX st t k n text old ls0):ls0.length=n:=by
 have:=h.n16;rw [h.l0,length_take,h.tv.wide];omega
theorem PutX.oldwf (h:PutX st t k n text old ls0):Wf st 0 old:=by
 refine h.tv.leaf h.h0 old ?_;rw [h.ol];exact YI (by rw [h.tv.wide];exact h.hk)
theorem PutX.old_ok (h:PutX st t k n text old ls0):old.ok=true:=h.oldwf.1
theorem PutX.old_rd (h:PutX st t k n text old ls0):YL st old=true:=h.oldwf.2.2.2
theorem PutX.ls_ok (h:PutX st t k n text old ls0):∀ p ∈ ls0,p.ok=true:=fun p hp=>by
 rw [h.l0] at hp;exact (h.tv.leaf h.h0 p (List.mem_of_mem_take hp)).1
theorem PutX.at_ (h:PutX st t k n text old ls0):ls0.getD k PtrD.zero=old:=by
 have:=h.n16;rw [h.ol,h.l0,getD_eq_getElem?_getD,getD_eq_getElem?_getD,List.getElem?_take_of_lt this.2.1]
theorem PutX.same (h:PutX st t k n text old ls0) (hr:((ZA st old).toList == text.toList)=true) (hg:k<t.am.toNat):Uo st t (t.ps st) k text=⟨st,t,true⟩ :=
 Zft h.ol.symm hr (by omega)
theorem PutX.other (h:PutX st t k n text old ls0) (hr:((ZA st old).toList == text.toList)=true) (hg:¬ k<t.am.toNat):False:=by
 have ho:=ZcX h.tv (j:=k) (by omega);rw [← h.ol] at ho;rw [J1 ho] at hr;have:=Yi hr;have hs:=Zo h.sz;rw [← this] at hs;have h1:ByteArray.empty.size=0:=rfl
 omega
theorem PutX.new (h:PutX st t k n text old ls0) (hr:((ZA st old).toList == text.toList)=false):U2 st old text=Xk st text 0:=ZaV hr fun e=>by have:=Zo h.sz;omega
theorem PutX.full (h:PutX st t k n text old ls0) (hr:((ZA st old).toList == text.toList)=false) (hw:(Xk st text 0).ok=false):(Uo st t (t.ps st) k text).ok=false:=by
 rw [ZgE h.ol.symm hr (s:=(Xk st text 0).st) (p:=(Xk st text 0).p) (by rw [h.new hr,← hw])]
theorem PutX.fresh (h:PutX st t k n text old ls0) (hr:((ZA st old).toList == text.toList)=false) (hw:(Xk st text 0).ok=true):(Xk st text 0).p.eqv old=false:=by
 cases he:(Xk st text 0).p.eqv old with
 | false=>rfl
 | true =>
  have he:=PtrD.eqv_iff.1 he
  by_cases hi:writeAt st text 0<64
  ·rw [QK hi rfl] at he
   have he:X5 ((writeAt st text 0:Nat):Int) st.aq 0 text=old:=he;have hh:old.hole=false:=by
    cases hh:old.hole with
    | false=>rfl
    | true =>
     have h1:old.aA=0:=by rw [QP hh];rfl
     have h2:old.aA=((writeAt st text 0:Nat):Int):=by rw [← he];rfl
     have:=(UI h.ok hi rfl).1
     omega
   have ht:=Zki h.ok h.sz rfl hi rfl h.old_ok hh h.old_rd he;have hf:=h.old_rd;rw [XX hh] at hf;rw [UD hh hf,ht] at hr;simp at hr
  ·rw [Js (by have:=J7 st text 0;omega)] at hw;cases hw
end
structure QY (st:Za) (t:Zf) (k n:Nat) (text:ByteArray) (old:PtrD) (ls0 ls:List PtrD) (s1:Za) (p:PtrD) (dp:Nat) (r:Jw):Prop where
  X:PutX st t k n text old ls0
  hr:((ZA st old).toList == text.toList)=false
  wr:Xk st text 0=⟨s1,p,true⟩
  ls_:ls=ls0.set k p
  dp_:depthN (n:Int)=dp
  r_:r=Zaw t dp s1 dp 1 s1 ls []
section
variable {st s1:Za} {t:Zf} {k n dp:Nat} {text:ByteArray} {old p:PtrD} {ls0 ls:List PtrD} {r:Jw}
theorem QY.still (h:QY st t k n text old ls0 ls s1 p dp r):Z6 st s1:=by
 have:=Z6.write (text:=text) (level:=0) h.X.ok
 rwa [h.wr] at this
theorem QY.grew (h:QY st t k n text old ls0 ls s1 p dp r):VL st s1∧p.ok=true:=by
 have:=ZdS h.X.ok h.X.sz (level:=0) rfl
 rwa [h.wr] at this
theorem QY.ok1 (h:QY st t k n text old ls0 ls s1 p dp r):s1.ok=true:=h.grew.1.ok h.X.ok
theorem QY.wf1 (h:QY st t k n text old ls0 ls s1 p dp r):Wf s1 (depthN t.am) t.ac:=h.still.wf h.grew.1.txg h.X.tv.wf
theorem QY.len (h:QY st t k n text old ls0 ls s1 p dp r):ls.length=n:=by rw [h.ls_,length_set,h.X.len]
theorem QY.oks (h:QY st t k n text old ls0 ls s1 p dp r):∀ q ∈ ls,q.ok=true:=fun q hq=>by
 rw [h.ls_] at hq;rcases List.mem_or_eq_of_mem_set hq with hq|rfl
 ·exact h.X.ls_ok q hq
 ·exact h.grew.2
theorem QY.laid (h:QY st t k n text old ls0 ls s1 p dp r):ZoA s1 r (Jy t dp dp 1 s1 ls []):=by
 rw [h.r_];have:=h.X.n16;exact Zn7 h.X.tv.dep h.wf1 h.ok1 h.oks (by rw [h.len];exact h.dp_) (by rw [h.len];exact this.1)
theorem QY.take (h:QY st t k n text old ls0 ls s1 p dp r):((Zv (t.ps st)).set k p).take n=ls:=by
 rw [h.ls_,h.X.l0,List.take_set]
theorem QY.put (h:QY st t k n text old ls0 ls s1 p dp r):Uo st t (t.ps st) k text=(if (U1 s1 t ((Zv (t.ps st)).set k p) n).ok=true then ⟨(U1 s1 t ((Zv (t.ps st)).set k p) n).st.free old,(U1 s1 t ((Zv (t.ps st)).set k p) n).t,true⟩ else U1 s1 t ((Zv (t.ps st)).set k p) n):=by
 have hp:U2 st old text=⟨s1,p,true⟩:=by rw [h.X.new h.hr,h.wr]
 have hf:=h.X.fresh h.hr (by rw [h.wr]);rw [h.wr] at hf;rw [Jf h.X.ol.symm h.X.n16.2.2.2.2 (fun e=>by rw [h.hr] at e;cases e.1) hp,if_neg (c:=p.eqv old=true) (by rw [show p.eqv old=false from hf];decide)]
theorem QY.bad (h:QY st t k n text old ls0 ls s1 p dp r) (hb:r.ok=false):(Uo st t (t.ps st) k text).ok=false:=by
 have hL:=h.laid;obtain ⟨R,hR⟩:∃ R,R=Jy t dp dp 1 s1 ls []:=⟨_,rfl⟩;rw [← hR] at hL;have e:Jy t (depthN (n:Int)) (depthN (n:Int)) 1 s1 (((Zv (t.ps st)).set k p).take n) []=⟨R.st,R.next,R.stays,false⟩:=by
  rw [h.take,h.dp_,← hR,show false=R.ok by rw [← hL.ok_,hb]]
 rw [h.put,Zkg e];rfl
theorem QY.good (h:QY st t k n text old ls0 ls s1 p dp r) (hb:r.ok=true):Uo st t (t.ps st) k text=⟨(Y1 r.stays (innL s1 (depthN t.am) t.ac) r.st).free old,⟨r.next.getD 0 PtrD.zero,(dp:Nat),n⟩,true⟩:=by
 have hL:=h.laid;obtain ⟨R,hR⟩:∃ R,R=Jy t dp dp 1 s1 ls []:=⟨_,rfl⟩;rw [← hR] at hL;have e:Jy t (depthN (n:Int)) (depthN (n:Int)) 1 s1 (((Zv (t.ps st)).set k p).take n) []=⟨R.st,R.next,R.stays,true⟩:=by
  rw [h.take,h.dp_,← hR,show true=R.ok by rw [← hL.ok_,hb]]
 have hn:∀ q ∈ innL s1 (depthN t.am) t.ac,q.hole=false:=fun q hq=>(QI h.wf1 q (JL h.wf1 q hq)).2
 rw [h.put,Zfs e,if_pos rfl,Zk5 h.X.tv.dep (YU _) h.wf1,Zfz hL.kept hn,hL.st_,h.dp_,← hL.hd hb];have hd0:r.next.headD PtrD.zero=r.next.getD 0 PtrD.zero:=by
  have:=VR (l:=r.next) (k:=0)
  rwa [drop_zero] at this
 rw [hd0]
theorem QY.inn (h:QY st t k n text old ls0 ls s1 p dp r):∀ q ∈ innL s1 (depthN t.am) t.ac,(q.ok=true∧q.hole=false)∧r.st.aa.ab.getD q.aA.toNat 0≠0:=fun q hq=>by
 have h1:=QI h.wf1 q (JL h.wf1 q hq);have hL:=h.laid;exact ⟨h1,ZgK hL.ok h1.1 h1.2 (hL.still.read h1.1 (ZiK h.wf1 q hq))⟩
theorem QY.kept (h:QY st t k n text old ls0 ls s1 p dp r) (hb:r.ok=true):depthN t.am=2→∀ K,kids s1 t.ac 2=some K→∀ j w,j≠k / 4→K[j]? = some w→w.hole=false→YM r.stays w=true:=by
 intro hd2 K hK j w hj hwj hwh;have hdp:dp=2:=by
  have h1:=h.dp_;have h2:=h.X.n16;unfold depthN at h1 hd2
  split at hd2
  ·cases hd2
  ·split at hd2
   ·cases hd2
   ·split at h1
    ·omega
    ·split at h1
     ·omega
     ·exact h1.symm
 have htd:t.az=2:=by have:=h.X.tv.dep;rw [hd2] at this;exact this
 have hw1:Wf s1 2 t.ac:=by have:=h.wf1;rwa [hd2] at this
 have hps:(t.ps st)=K.flatMap (lvL s1 1):=by
  have e:lvL s1 2 t.ac=lvL st 2 t.ac:=by
   have hw0:Wf st 2 t.ac:=by have:=h.X.tv.wf;rwa [hd2] at this
   exact (Wf.stays (by rw [h.grew.1.txg];exact Int.le_refl _) hw0 fun q hq=>h.still q (QI hw0 q hq).1 (QI hw0 q hq).2 (ZiL hw0 q hq)).2.2
  show lvL st (depthN t.am) t.ac=_;rw [hd2,← e];exact VK (n:=1) hK
 have hl4:∀ q ∈ K,(lvL s1 1 q).length=4:=fun q hq=>by
  obtain ⟨_,_,K2,hk2,hw2⟩:=hw1;rw [show kids s1 t.ac ((1+1:Nat):Int)=some K from hK] at hk2;obtain rfl:=Option.some.inj hk2;exact Zhg (hw2 q hq)
 have hwide:Zv (t.ps st)=t.ps st:=by
  have hlen:=h.X.tv.len.1;rw [hd2] at hlen;unfold Zv;rw [show 16 - (t.ps st).length=0 by rw [hlen]];exact append_nil _
 have hpad:Yw 2 1 ls=(t.ps st).set k p:=by
  have h16:=h.X.tv.wide;unfold Yw;rw [if_pos ⟨rfl,rfl⟩,← h.take,hwide,length_take,length_set];rw [hwide] at h16;have hn:=h.X.n16;rw [h16,Nat.min_eq_left hn.1];refine List.ext_getElem (by rw [length_append,length_take,length_replicate,length_set,h16];omega) fun i h1 h2=>?_
  by_cases hi:i<n
  ·rw [List.getElem_append_left (by rw [length_take,length_set,h16];omega),List.getElem_take]
  ·rw [List.getElem_append_right (by rw [length_take,length_set,h16];omega),List.getElem_replicate]
   have ho:=ZcX h.X.tv (j:=i) (by have:=h.X.n_;omega);rw [length_set] at h2;rw [hwide,getD_eq_getElem?_getD,getElem?_eq_getElem h2,getD_some] at ho;rw [List.getElem_set_ne (by omega)];exact (QP ho).symm
 subst hdp;have hb2:(Zaw t 2 s1 2 1 s1 ls []).ok=true:=by rw [← h.r_];exact hb
 rw [h.r_];refine ZjK htd hw1 h.ok1 h.oks hK (by rw [h.len];exact h.X.n16.1) (k:=k / 4) (fun j w hj hwj hwh=>?_) hb2 hj hwj hwh;rw [hpad,Zls hj,hps,ZfP hl4 hwj];obtain ⟨_,_,K2,hk2,hw2⟩:=hw1;rw [show kids s1 t.ac ((1+1:Nat):Int)=some K from hK] at hk2;obtain rfl:=Option.some.inj hk2;obtain ⟨_,_,Kw,hkw,_⟩:=hw2 w (List.mem_of_getElem? hwj);rw [VK (n:=0) hkw,Zb8];exact hkw
theorem QY.live (h:QY st t k n text old ls0 ls s1 p dp r) (hb:r.ok=true):Us r.stays (innL s1 (depthN t.am) t.ac) r.st :=
 ZfA (Ux h.laid.ok) (fun q hq=>⟨(h.inn q hq).1,fun _=>(h.inn q hq).2⟩) (Zk9 (YU _) h.wf1 (j0:=k / 4) (h.kept hb))
theorem QY.last (h:QY st t k n text old ls0 ls s1 p dp r) (hh:old.hole=false):(Y1 r.stays (innL s1 (depthN t.am) t.ac) r.st).aa.ab.getD old.aA.toNat 0≠0:=by
 have hL:=h.laid;have hoo:=h.X.old_ok;obtain ⟨a,_,_,ea⟩:=Vs hoo hh;rw [Zca (Ux hL.ok) (fun q hq=>(h.inn q hq).1.1) fun q hq _ e=>?_]
 ·exact ZgK hL.ok hoo hh (hL.still.read hoo (h.still.read hoo h.X.old_rd))
 ·obtain ⟨m,hm⟩:=Zkk h.wf1 q hq
  have hrow:Yb s1 q=Yb s1 old:=by unfold Yb;rw [e,Int.toNat_natCast]
  rw [hrow,h.still old hoo hh h.X.old_rd] at hm;exact Zhj hm (h.X.no hh)
theorem QY.weak (h:QY st t k n text old ls0 ls s1 p dp r):Uk (innL s1 (depthN t.am) t.ac).length (Y1 r.stays (innL s1 (depthN t.am) t.ac) r.st):=by
 have:=UW (sp:=r.stays) (Ux h.laid.ok) (l:=innL s1 (depthN t.am) t.ac) fun q hq=>(h.inn q hq).1.1
 rwa [Nat.zero_add] at this
end
theorem ZoC {st:Za} {t:Zf} {l:List PtrD} (h:leavesF st t=some l) (h0:0≤st.aq):l=(t.ps st).take t.am.toNat:=by
 obtain ⟨hd,hw⟩:=Zj3 h h0;obtain ⟨x,ht,hdn,hlb,rfl,hxl,_⟩:=XP h;have hy:=J3 (st:=st) (n:=depthN t.am) (l:=[t.ac]) (fun p hp=>by rw [mem_singleton.1 hp];exact hw.ok) h0;have hx:=Zen (st:=st) (n:=depthN t.am) (l:=[t.ac]) (fun p hp=>by rw [mem_singleton.1 hp];exact hw);rw [hy.1,hdn,flatMap_cons,List.flatMap_nil,append_nil] at hx;have hx:=Option.some.inj hx;rw [hx];rfl
theorem PutX.get {st:Za} {t:Zf} {k n:Nat} {text:ByteArray} {old:PtrD} {ls0:List PtrD} (h:PutX st t k n text old ls0):ls0[k]? = some old:=by
 have h1:=h.n16;have:=Zh (xs:=ls0) (j:=k) (d:=PtrD.zero) (by rw [h.len];omega);rw [h.at_] at this;exact this
theorem PutX.pad {st:Za} {t:Zf} {k n:Nat} {text:ByteArray} {old:PtrD} {ls0 l:List PtrD} (h:PutX st t k n text old ls0) (hl:leavesF st t=some l):l.length≤n∧l.length=t.am.toNat∧Qx l (n - l.length)=ls0:=by
 have hlp:=ZoC hl h.h0;have hlen:=h.tv.len;have hll:l.length=t.am.toNat:=by rw [hlp,length_take];omega
 have hn:=h.n_;have h16:=h.n16;refine ⟨by omega,hll,?_⟩;rw [h.l0];exact ZjJ h.tv h.h0 hlp n (by omega) h16.1
end Go.Proofs.YtenejpbnncbilaaGreatDoor
