/- A part of the proof in YtenejpbnncbilaaGreatDoorTpZ7. -/
import Derived.Lib.Bytealg
import Derived.Shelf.Slices.Cells
import Derived.Shelf.Slices.Delete
import Derived.Shelf.Slices.Empties
import Derived.Shelf.Slices.Turned
import Derived.Shelf.Small.Strs
import Derived.Shelf.Spec.SlicesGrow
import Derived.Shelf.Spec.SlicesInsert
import Derived.Shelf.Spec.SlicesInsertGrow
import Derived.Test.YtenejpbnncbilaaGreatDoorTpZ4
namespace Go.Proofs.YtenejpbnncbilaaGreatDoor
set_option maxHeartbeats 4000000
open Go.Proofs.Tryz
open List (append_nil drop_zero flatMap_cons getD_eq_getElem?_getD getElem?_eq_getElem length length_append length_cons length_map length_nil length_replicate length_set length_singleton length_take map_append map_cons mem_append mem_cons mem_cons_of_mem mem_cons_self mem_singleton nil_append not_mem_nil replicate take_zero)
open Option (getD_some map_some)
set_option linter.unusedVariables false
set_option linter.unusedSimpArgs false
set_option maxRecDepth 100000
open Go.RowKit
theorem Zmw (a b:ByteArray):(a++b).data.toList=a.data.toList++b.data.toList:=by simp
theorem ZkY (s:ByteArray):JR [] s=⟨#[]⟩:=rfl
theorem Zb7 (nms:List ByteArray) (s:ByteArray):(JR nms s).data.toList=Go.Lib.join (nms.map (·.data.toList)) s.data.toList:=by unfold JR;simp
theorem ZkZ (x s:ByteArray):JR [x] s=x:=by
 apply Xc
 rw [Zb7];exact Go.Lib.join_one _ _
theorem Zjt (x:ByteArray) (r:List ByteArray) (y s:ByteArray):JR ((x::r)++[y]) s=(JR (x::r) s++s)++y:=by
 apply Xc
 rw [Zmw,Zmw,Zb7,Zb7,map_append,map_cons,List.cons_append,Go.Lib.join_cons,Go.Lib.join_cons];unfold Go.Lib.joinTail;rw [map_append,List.flatten_append];simp [List.append_assoc]
theorem Rd.dropP {α:Type} {enc:α→List Value} {size:Nat} {w:World} {g off n:Nat} {xs:List α} (h:Rd enc size w (some ⟨g,off,none⟩) n xs) {k:Nat} (hk:k≤n):Rd enc size w (some ⟨g,off+k*size,none⟩) (n - k) (xs.drop k):=by
 have hl:=h.len;refine ⟨by rw [List.length_drop];omega,fun i hi=>?_⟩;rw [List.length_drop] at hi;obtain ⟨b,o,x,hx,ha,hb,hr⟩:=h.at_ (k+i) (by omega);simp only [Option.some.injEq,Addr.mk.injEq,and_true] at ha;obtain ⟨rfl,rfl⟩:=ha;refine ⟨g,off+k*size,x,by rw [List.getElem?_drop];exact hx,rfl,hb,?_⟩;rw [Nat.add_assoc,← Nat.add_mul];exact hr
def Zv (x:List PtrD):List PtrD:=x++replicate (16 - x.length) PtrD.zero
theorem Zdm {x:List PtrD} (h:x.length≤16):(Zv x).length=16:=by unfold Zv;rw [length_append,length_replicate];omega
theorem Zis {x:List PtrD} (h:∀ p ∈ x,p.ok=true):∀ p ∈ Zv x,p.ok=true:=fun p hp=>by
 rcases mem_append.1 hp with hp|hp
 ·exact h p hp
 ·rw [List.eq_of_mem_replicate hp];rfl
theorem Zf4 (a0:Option Addr) (c0:Nat) (a1:Option Addr) (c1:Nat) (a2:Option Addr) (c2:Nat) (a4:Option Addr) (c4:Nat) (a6:Option Addr) (c6:Nat) (st:Za) (t:Zf) {x:List PtrD} (hx:downL (kidsS st) (depthN t.am) [t.ac]=some x) (hdep:t.az=((depthN t.am:Nat):Int)) (hxl:x.length≤16) (w0:World) (hR:Rd Zt 1 w0 a0 st.af.length st.af) (hrow:Y5 st):Calls prog 50 #[.agg #[.slice a0 st.af.length c0,.slice a1 st.aa.ab.length c1,.slice a2 st.aa.ag.length c2,.int .i64 st.aq,.slice a4 st.ai.length c4,.int .i64 st.ar,.slice a6 st.aj.length c6,.bool st.au],.agg #[.int .i64 t.ac.aA,.int .i64 t.ac.ah,.int .i64 t.ac.al,.int .i64 t.ac.ax,.int .i64 t.ac.ak,.int .i64 t.az,.int .i64 t.am]] w0 fun e w'=>∃ ao cp,e=.returned (.tuple #[.slice ao x.length cp,.bool true])∧St w0 [Zd PtrD.cells 5 40 (.slice ao x.length cp) x] w':=by
 refine (ZcL a0 c0 a1 c1 a2 c2 a4 c4 a6 c6 st t hdep w0 hR hrow).mono ?_;rintro e w' (⟨l,h,ao,cp,he,hs⟩|⟨h,_⟩)
 ·rw [hx] at h
  obtain rfl:=Option.some.inj h;exact ⟨ao,cp,he,hs⟩
 ·rw [hx] at h;cases h
theorem Zfo (a0:Option Addr) (c0:Nat) (a1:Option Addr) (c1:Nat) (a2:Option Addr) (c2:Nat) (a4:Option Addr) (c4:Nat) (a6:Option Addr) (c6:Nat) (st:Za) (t:Zf) {x:List PtrD} (hx:downL (kidsS st) (depthN t.am) [t.ac]=some x) (hdep:t.az=((depthN t.am:Nat):Int)) (hxl:x.length≤16) (w0:World) (hR:Rd Zt 1 w0 a0 st.af.length st.af) (hrow:Y5 st):Calls prog 79 #[sV a0 c0 a1 c1 a2 c2 a4 c4 a6 c6 st,tV t] w0 fun e w'=>∃ ao cp,e=.returned (.slice ao (Zv x).length cp)∧St w0 [Zd PtrD.cells 5 40 (.slice ao (Zv x).length cp) (Zv x)] w':=by
 have HR:=Bx.mk hR;clear hR;have E:=Bx.mk (St.start w0);refine ent func79 ntmps79 ?_;refine xsr ?_;refine ybx E ?_;clear E;intro w1 b1 E;refine ybx E ?_;clear E;intro w2 b2 E;refine xr 1 rfl<|xne<|xsr<|Xw 1 8 E rfl rfl<|Xw 0 7 E rfl rfl ?_;refine yc (Zf4 a0 c0 a1 c1 a2 c2 a4 c4 a6 c6 st t hx hdep hxl _ (HR.out.below E.o.bel) hrow) func50 ?_;rintro _ w3 ⟨ao,cp,rfl,hs⟩;refine ⟨_,rfl,?_⟩;replace E:=E.ad hs;clear hs;refine xr 5 rfl<|xne<|xsr ?_;refine yem 40 5 E ?_;clear E;intro w4 b3 E;refine xr 1 rfl ?_;replace E:=Bx.mk (E.o.nilRow PtrD.cells 5 40 (some ⟨b3,0,none⟩));intro a O;refine Xb rfl O rfl rfl rfl (O.ev rfl) (O.ev rfl) Yz PtrD.cells_len E.o 0 (xs:=[]) rfl (ys:=x) (St.rdOf E.o PtrD.cells_len 1 rfl) (Zn _) (by unfold maxLen;(try simp only [length_append,length_cons,length_nil,nil_append,length_map,length_replicate]);omega) (by (try simp only [length_append,length_cons,length_nil,nil_append,length_map,length_replicate]);omega) ?_;clear O E a;intro ao5 cp6 w5 a O E;replace E:=Bx.mk E;revert a;refine xr 1 rfl<|xy rfl (vn 40 5 rfl)<|xy rfl (fun a O=>XE (r:=((16 - x.length:Nat):Int)) rfl (O.ev rfl) (O.ev rfl) ((Qt (by omega)).trans (by omega))) ?_;refine yc (Vi (16 - x.length) (by omega) _) func107 ?_;rintro _ w6 ⟨ao7,cp7,rfl,hs⟩;refine ⟨_,rfl,?_⟩;replace E:=E.ad hs;clear hs;intro a O;refine Xb rfl O rfl rfl rfl (O.ev rfl) (O.ev rfl) Yz PtrD.cells_len E.o 1 (xs:=([])++x) rfl (ys:=replicate (16 - x.length) PtrD.zero) (St.rdN E.o PtrD.cells_len 0 rfl) (Zn _) (by unfold maxLen;(try simp only [length_append,length_cons,length_nil,nil_append,length_map,length_replicate]);omega) (by (try simp only [length_append,length_cons,length_nil,nil_append,length_map,length_replicate]);omega) ?_;clear O E a;intro ao8 cp9 w7 a O E;replace E:=Bx.mk E;revert a;refine xr 1 rfl<|xne<|xre<|xb1 results79 rfl ?_;have hwl:([]++x).length+(replicate (16 - x.length) PtrD.zero).length=(Zv x).length:=(length_append ..).symm;rw [hwl] at E ⊢;exact ⟨_,_,rfl,(E.o.erS [4,3,2,0])⟩
theorem Zfp {st:Za} {l:List PtrD} {k:Nat} (h:k<l.length):(l.take k).map (ZA st)++[ZA st (l.getD k PtrD.zero)]=(l.take (k+1)).map (ZA st):=by
 rw [List.take_succ_eq_append_getElem h,map_append,getD_eq_getElem?_getD,getElem?_eq_getElem h];rfl
def Zhh (st:Za) (t:Zf) (x:List PtrD):List ByteArray:=((Zv x).take t.am.toNat).map (ZA st)
theorem Zit (a0:Option Addr) (c0:Nat) (a1:Option Addr) (c1:Nat) (a2:Option Addr) (c2:Nat) (a4:Option Addr) (c4:Nat) (a6:Option Addr) (c6:Nat) (st:Za) (t:Zf) {x:List PtrD} (hx:downL (kidsS st) (depthN t.am) [t.ac]=some x) (hdep:t.az=((depthN t.am:Nat):Int)) (hxl:x.length≤16) (hxok:∀ p ∈ x,p.ok=true) (hm:0≤t.am∧t.am≤16) (w0:World) (hR:Rd Zt 1 w0 a0 st.af.length st.af) (hrow:Y5 st):Calls prog 72 #[sV a0 c0 a1 c1 a2 c2 a4 c4 a6 c6 st,tV t] w0 fun e w'=>∃ ao cp,e=.returned (.slice ao (Zhh st t x).length cp)∧St w0 [Zd Zt 1 9 (.slice ao (Zhh st t x).length cp) (Zhh st t x)] w':=by
 have HR:=Bx.mk hR;clear hR;have E:=Bx.mk (St.start w0);refine ent func72 ntmps72 ?_;refine xsr ?_;refine ybx E ?_;clear E;intro w1 b1 E;refine ybx E ?_;clear E;intro w2 b2 E;refine xr 1 rfl<|xne<|xsr ?_;refine yem 9 1 E ?_;clear E;intro w3 b3 E;refine xr 1 rfl<|xne<|xsr<|Xw 1 8 E rfl rfl<|Xw 0 7 E rfl rfl ?_;refine yc (Zfo a0 c0 a1 c1 a2 c2 a4 c4 a6 c6 st t hx hdep hxl _ (HR.out.below E.o.bel) hrow) func79 ?_;rintro _ w4 ⟨ao4,cp4,rfl,hs⟩;refine ⟨_,rfl,?_⟩;replace E:=E.ad hs;clear hs;refine xr 1 rfl<|xne<|xsq<|xsq ?_;have hwl:=Zdm hxl;have hwok:=Zis hxok;refine xrl<|xr 1 rfl<|xne<|xbl ?_;replace E:=Bx.mk (E.o.nilRow Zt 1 9 (some ⟨b3,0,none⟩));intro a O;refine ZD (ι:=Nat) (fun k a w=>∃ (ao:Option Addr) (cp:Nat) (xs:List ByteArray),(k≤t.am.toNat∧xs=((Zv x).take k).map (ZA st))∧Fr 34 a [(2,.pointer (some ⟨b1,0,none⟩)),(3,.pointer (some ⟨b2,0,none⟩)),(6,.slice ao4 ((Zv x).length) cp4),(5,.slice ao xs.length cp),(7,.int .i64 (k:Int))]∧St w0 ([Zd Zt 1 9 (.slice ao xs.length cp) xs,Zd PtrD.cells 5 40 (.slice ao4 ((Zv x).length) cp4) (Zv x),boxA b2 7 42 (tV t),boxA b1 8 39 (sV a0 c0 a1 c1 a2 c2 a4 c4 a6 c6 st)]) w) (fun k=>t.am.toNat - k) 0 ⟨_,_,[],⟨Nat.zero_le _,rfl⟩,O.ls _,E.o⟩ ?_;clear O E;clear a;rintro k a w5 ⟨ao,cp,xs,⟨hk,hq⟩,O,E⟩;replace E:=Bx.mk E;have hxl:xs.length=k:=by rw [hq];simp;omega
 revert a;refine xsq<|xsr<|xr 1 rfl<|Xf 6 rfl<|Xl 2 E rfl rfl<|xr 1 rfl<|xne<|xcd 17 rfl (fun _ dcc1=>?_) fun _ dcc1=>?_
 refine xct rfl<|xsk<|xet<|xsq<|xbl<|xsq ?_;obtain ⟨g5,rfl,_,_,_,_⟩:=E.o.rowOpen 1 rfl (by omega);intro a O;refine Yr (by kernel_rfl) (by kernel_rfl) E.o ?_;revert a;refine Qw 3 8 rfl rfl<|xqr 2 rfl<|xq rfl (fun E=>vx 40 k 5 rfl)<|xq rfl (fun E a O=>ylr (cs:=pL ((Zv x).getD k PtrD.zero)) rfl (O.ev rfl) (E.elem PtrD.cells_len 1 rfl (Zh (xs:=Zv x) (j:=k) (d:=PtrD.zero) (by omega)))) ?_;refine yq (fun _ E=>(Zab a0 c0 a1 c1 a2 c2 a4 c4 a6 c6 st ((Zv x).getD k PtrD.zero) _ (HR.out.below E.bel) hrow (hwok _ (YI (by omega))))) func51 ?_;refine xqr 5 rfl ?_;intro a O;refine wpQuiet_nil ?_;intro w6 E;replace E:=Bx.mk E;revert a;refine xet<|xrl<|xr 2 rfl ?_;refine ybs Zt 9 1 [ZA st ((Zv x).getD k PtrD.zero)] E ?_;clear E;intro b6 w7 E;refine yap XR encS_len E 1 (St.rdN E.o encS_len 0 rfl) (Zy _) ?_;clear E;intro ao7 cp8 w8 E;refine xr 1 rfl<|xni<|xeb<|xet<|xrl<|xr 1 rfl<|xy rfl (vad rfl)<|xr 1 rfl<|xne ?_;have hz:xs.length+([ZA st ((Zv x).getD k PtrD.zero)]).length=(xs++([ZA st ((Zv x).getD k PtrD.zero)])).length:=(length_append ..).symm;intro a O;rw [hz] at E O;have hnext:xs++([ZA st ((Zv x).getD k PtrD.zero)])=((Zv x).take (k+1)).map (ZA st):=by rw [hq];exact Zfp (by omega)
 replace E:=E.pks [4,4,4,4];exact ⟨k+1,⟨_,_,xs++([ZA st ((Zv x).getD k PtrD.zero)]),⟨by omega,hnext⟩,O.less _ ⟨rfl,rfl,rfl,rfl,rfl,trivial⟩,(E.o.erase 4)⟩,(by omega)⟩;refine xcf rfl<|xex<|xtx<|xtx<|xbh<|xet<|xsr<|xr 2 rfl<|xne<|xre<|xb1 results72 rfl ?_;obtain rfl:k=t.am.toNat:=by omega
 subst hq;exact ⟨_,_,rfl,(E.o.erS [3,2,1])⟩
structure TreeX (st:Za) (t:Zf) (x l:List PtrD):Prop where
  dn:downL (kidsS st) (depthN t.am) [t.ac]=some x
  dep:t.az=((depthN t.am:Nat):Int)
  x16:x.length≤16
  xok:∀ p ∈ x,p.ok=true
  lv:leavesF st t=some l
  len:l.length=t.am.toNat
  many:0≤t.am∧t.am≤16
  tk:(Zv x).take t.am.toNat=l
theorem treeX {st:Za} {t:Zf} {l:List PtrD} (h0:0≤st.aq) (h:leavesF st t=some l):∃ x,TreeX st t x l:=by
 obtain ⟨x,ht,hd,hlb,hlx,hxl,hl⟩:=XP h;unfold topB at ht;simp only [Bool.and_eq_true,beq_iff_eq,decide_eq_true_eq] at ht;have hin:=Zo ht.1;have hy:=J3 (st:=st) (n:=depthN t.am) (l:=[t.ac]) (fun p hp=>by rw [mem_singleton.1 hp];exact ht.2.2) h0;have hp4:=Zmk (YU t.am);have hx16:x.length≤16:=by rw [hxl];exact hp4
 refine ⟨x,hy.1.trans hd,ht.2.1,hx16,fun p hp=>(hy.2 x hd p hp).1,h,hl,hin,?_⟩;have hle:t.am.toNat≤x.length:=by
  have:=congrArg length hlx;rw [hl,length_take] at this
  omega
 rw [hlx];unfold Zv;rw [List.take_append_of_le_length hle]
theorem Zk0 (a0:Option Addr) (c0:Nat) (a1:Option Addr) (c1:Nat) (a2:Option Addr) (c2:Nat) (a4:Option Addr) (c4:Nat) (a6:Option Addr) (c6:Nat) (st:Za) (t:Zf) {x l:List PtrD} (X:TreeX st t x l) (w0:World) (hR:Rd Zt 1 w0 a0 st.af.length st.af) (hrow:Y5 st):Calls prog 72 #[.agg #[.slice a0 st.af.length c0,.slice a1 st.aa.ab.length c1,.slice a2 st.aa.ag.length c2,.int .i64 st.aq,.slice a4 st.ai.length c4,.int .i64 st.ar,.slice a6 st.aj.length c6,.bool st.au],.agg #[.int .i64 t.ac.aA,.int .i64 t.ac.ah,.int .i64 t.ac.al,.int .i64 t.ac.ax,.int .i64 t.ac.ak,.int .i64 t.az,.int .i64 t.am]] w0 fun e w'=>∃ ao cp,e=.returned (.slice ao (l.map (ZA st)).length cp)∧St w0 [Zd Zt 1 9 (.slice ao (l.map (ZA st)).length cp) (l.map (ZA st))] w':=by
 have h:=Zit a0 c0 a1 c1 a2 c2 a4 c4 a6 c6 st t X.dn X.dep X.x16 X.xok X.many w0 hR hrow;unfold Zhh at h;rw [X.tk] at h;exact h
theorem Zn1 {st:Za} {l:List PtrD} {k:Nat} (h:k<l.length):(l.map (ZA st))[k]? = some (ZA st (l.getD k PtrD.zero)):=by
 rw [List.getElem?_map,getD_eq_getElem?_getD,getElem?_eq_getElem h];rfl
theorem Zmx {st:Za} {t:Zf} (h0:0≤st.aq) (h:okS st t=true):∃ l,leavesF st t=some l:=by
 rw [Ze6 h0] at h;exact Option.isSome_iff_exists.1 h
theorem Zmy {st:Za} {t:Zf} (h0:0≤st.aq) (h:okS st t=false):leavesF st t=none:=by
 rw [Ze6 h0] at h
 cases hl:leavesF st t with
 | none=>rfl
 | some l=>exfalso;have h2:(leavesF st t).isSome=false:=h;rw [hl] at h2;cases h2
theorem Zn2 {p:PtrD} (h:p.ok=true) (hh:p.hole=false):1≤p.al:=by
 unfold PtrD.ok at h;rw [hh] at h;simp only [Bool.false_or,Bool.and_eq_true] at h;exact (Zo h.1.1.2).1
theorem Zn3 {st:Za} {t:Zf} {l:List PtrD} (h:leavesF st t=some l) {k:Nat} (hk:k<l.length):YL st (l.getD k PtrD.zero)=true:=by
 obtain ⟨x,_,_,hb,rfl,_,_⟩:=XP h;rw [getD_eq_getElem?_getD,getElem?_eq_getElem hk,getD_some];exact (ZaJ hb _ (List.mem_of_mem_take (List.getElem_mem hk))).2
theorem Zmz {st:Za} {p:PtrD} (h:YL st p=true) (hh:p.hole=false):1≤(ZA st p).size:=by
 rw [XX hh] at h;rw [UD hh h];unfold QG at h;simp only [Bool.and_eq_true,beq_iff_eq] at h;have:=Zn2 h.1 hh
 omega
theorem Zk1 {st:Za} {t:Zf} {l:List PtrD} (h:leavesF st t=some l) {k:Nat} (hk:k<l.length) (he:((ZA st (l.getD k PtrD.zero)).toList == (⟨#[]⟩:ByteArray).toList)=true):(l.getD k PtrD.zero).hole=true:=by
 cases hh:(l.getD k PtrD.zero).hole with
 | true=>rfl
 | false =>
  have h1:=Zmz (Zn3 h hk) hh;have h2:ZA st (l.getD k PtrD.zero)=⟨#[]⟩:=Yi he;rw [h2] at h1;exact absurd h1 (by decide)
theorem Zdn {st:Za} {p:PtrD} (he:((ZA st p).toList == (⟨#[]⟩:ByteArray).toList)=false):p.hole=false:=by
 cases hh:p.hole with
 | false=>rfl
 | true =>
  rw [J1 hh,show (⟨#[]⟩:ByteArray)=ByteArray.empty from rfl,beq_self_eq_true] at he
  cases he
theorem Zk2 (a0:Option Addr) (c0:Nat) (a1:Option Addr) (c1:Nat) (a2:Option Addr) (c2:Nat) (a4:Option Addr) (c4:Nat) (a6:Option Addr) (c6:Nat) (st:Za) (t:Zf) (w0:World) (hR:Rd Zt 1 w0 a0 st.af.length st.af) (hrow:Y5 st) (h0:0≤st.aq):Calls prog 45 #[sV a0 c0 a1 c1 a2 c2 a4 c4 a6 c6 st,tV t] w0 fun e w'=>e=.returned (.bool (tabF st t).isSome)∧Below w0.heap.size w0 w':=by
 have HR:=Bx.mk hR;clear hR;have E:=Bx.mk (St.start w0);refine ent func45 ntmps45 ?_;refine xsr ?_;refine ybx E ?_;clear E;intro w1 b1 E;refine ybx E ?_;clear E;intro w2 b2 E;refine xr 1 rfl<|xne<|xsq<|xsr<|Xw 1 8 E rfl rfl<|Xw 0 7 E rfl rfl ?_;refine ycB (Zfh a0 c0 a1 c1 a2 c2 a4 c4 a6 c6 st t _ (HR.out.below E.o.bel) hrow) func20 E ?_;clear E;intro w3 E;refine xr 1 rfl<|xne<|xcs 13 rfl (fun cc1=>?_) fun cc1=>?_;refine xct rfl<|xsr<|xr 1 rfl<|xne<|xre<|xtr<|xb1 results45 rfl ?_;exact ⟨by rw [Zdk (Zmy h0 (by simpa using cc1))];rfl,E.o.bel⟩;refine xcf rfl<|xsk<|xet<|xsq ?_;have htk:okS st t=true:=by simpa using cc1
 obtain ⟨l,hlf⟩:=Zmx h0 htk;obtain ⟨x,X⟩:=treeX h0 hlf;have hll:=X.len;have hmm:=X.many;have hlm:(l.map (ZA st)).length=l.length:=length_map ..;have h16:=ZgD hlf;refine xrl<|Xw 1 8 E rfl rfl<|Xw 0 7 E rfl rfl ?_;refine yc (Zk0 a0 c0 a1 c1 a2 c2 a4 c4 a6 c6 st t X _ (HR.out.below E.o.bel) hrow) func72 ?_;rintro _ w4 ⟨ao3,cp3,rfl,hs⟩;refine ⟨_,rfl,?_⟩;replace E:=E.ad hs;clear hs;refine xr 1 rfl<|xne<|xsq<|xsr<|xr 1 rfl<|xne<|xbl ?_;intro a O;refine ZD (ι:=Nat) (fun k a w=>∃ (qs:List (Option Zi)),(k≤l.length∧QW st l=(QW st (l.drop k)).map (qs++·))∧Fr 43 a [(2,.pointer (some ⟨b1,0,none⟩)),(3,.pointer (some ⟨b2,0,none⟩)),(5,.slice ao3 ((l.map (ZA st)).length) cp3),(6,.int .i64 (k:Int))]∧St w0 ([Zd Zt 1 9 (.slice ao3 ((l.map (ZA st)).length) cp3) (l.map (ZA st)),boxA b2 7 42 (tV t),boxA b1 8 39 (sV a0 c0 a1 c1 a2 c2 a4 c4 a6 c6 st)]) w) (fun k=>l.length - k) 0 ⟨[],⟨Nat.zero_le _,Zim⟩,O.ls _,E.o⟩ ?_;clear O E;clear a;rintro k a w5 ⟨qs,⟨hk,htl⟩,O,E⟩;replace E:=Bx.mk E;revert a;refine xsq<|xsr<|xr 1 rfl<|Xf 6 rfl<|Xl 1 E rfl rfl<|xr 1 rfl<|xne<|xcd 20 rfl (fun _ dcc2=>?_) fun _ dcc2=>?_
 refine xct rfl<|xsk<|xet<|xsq<|xbl<|xsq ?_;have hrt:=ZcK hrow (l.getD k PtrD.zero);obtain ⟨g4,rfl,_,_,_,_⟩:=E.o.rowOpen 0 rfl (by omega);refine xrl<|xr 2 rfl<|xy rfl (vx 9 k 1 rfl)<|xy rfl (fun a O=>ylo (v:=.string (ZA st (l.getD k PtrD.zero))) rfl (O.ev rfl) (E.o.elem1 encS_len 0 rfl (Zn1 (by omega)) rfl))<|xr 1 rfl<|xne<|xsq<|xsr<|xr 1 rfl<|xy rfl (fun a O=>U6 rfl (O.ev rfl) (O.ev rfl))<|xne<|xcs 28 rfl (fun cc3=>?_) fun cc3=>?_;refine xct rfl<|xex<|xtx<|xbh<|xet<|xrl<|xr 1 rfl<|xy rfl (vad rfl)<|xr 1 rfl<|xne ?_;have hstep:=ZcS htl (show k<l.length by omega) (Zbq (Zk1 hlf (by omega) cc3));intro a O;exact ⟨(k+1),⟨qs++[none],⟨by omega,hstep⟩,O.less _ ⟨rfl,rfl,rfl,rfl,trivial⟩,E.o⟩,(by omega)⟩;refine xcf rfl<|xsk<|xet<|xsr<|xr 1 rfl ?_;refine yc (Zd5 (ZA st (l.getD k PtrD.zero)) _ hrt) func73 ?_;rintro _ w6 (⟨n,hno,hnb,rfl,hb⟩|⟨hnn,rfl,hb⟩);refine ⟨_,rfl,?_⟩;replace E:=Bx.mk (E.o.later hb);clear hb;refine xr 3 rfl ?_;refine yal z10 E ?_;clear E;intro w7 b5 E;refine yst E 0 ?_;clear E;intro w8 E;replace E:=E.nm;refine xr 1 rfl<|xne<|xsr<|xr 3 rfl<|Xw 3 8 E rfl rfl<|Xf 3 rfl<|Xw 0 7 E rfl rfl ?_;refine Ji (Zfh a0 c0 a1 c1 a2 c2 a4 c4 a6 c6 st n.aw _ (HR.out.below E.o.bel) hrow) func20 E ?_;clear E;intro w9 E;refine xr 2 rfl<|xne<|xcs 42 rfl (fun cc4=>?_) fun cc4=>?_;refine xct rfl<|xsr<|xr 1 rfl<|xne<|xre<|xbr<|xtr<|xtr<|xbr<|xtr<|xb1 results45 rfl ?_;have hto:JF st n.aw=false:=by have h:okS st n.aw=false:=(by simpa using cc4);rw [Ze6 h0] at h;exact h
 exact ⟨by rw [J5 hlf,ZcR htl (show k<l.length by omega) (Zbr (Zdn cc3) (Zbp hno hnb) hto)];rfl,E.o.bel⟩;refine xcf rfl<|xsk<|xeb<|xet<|xrl<|xr 1 rfl<|xy rfl (vad rfl)<|xr 1 rfl<|xne ?_;have hto:JF st n.aw=true:=by have h:okS st n.aw=true:=(by simpa using cc4);rw [Ze6 h0] at h;exact h
 have hstep:=ZcS htl (show k<l.length by omega) (ZcQ (Zdn cc3) (Zbp hno hnb) hto);replace E:=E.pks [3,3,3];intro a O;exact ⟨(k+1),⟨qs++[some n],⟨by omega,hstep⟩,O.less _ ⟨rfl,rfl,rfl,rfl,trivial⟩,(E.o.erase 3)⟩,(by omega)⟩;refine ⟨_,rfl,?_⟩;replace E:=Bx.mk (E.o.later hb);clear hb;refine xr 3 rfl ?_;refine yal z10 E ?_;clear E;intro w10 b6 E;refine yst E 0 ?_;clear E;intro w11 E;replace E:=E.nm;refine xr 1 rfl<|xne<|xsr<|xr 9 rfl<|xne<|xct rfl<|xsr<|xr 1 rfl<|xne<|xre<|xbr<|xtr<|xtr<|xbr<|xtr<|xb1 results45 rfl ?_;exact ⟨by rw [J5 hlf,ZcR htl (show k<l.length by omega) (ZcP (Zdn cc3) (Zii hnn))];rfl,E.o.bel⟩;refine xcf rfl<|xex<|xtx<|xtx<|xbh<|xet<|xsr<|xr 1 rfl<|xne<|xre<|xb1 results45 rfl ?_;exact ⟨by rw [J5 hlf,Zj9 htl (by omega)];rfl,E.o.bel⟩
theorem Zd7 (a0:Option Addr) (c0:Nat) (a1:Option Addr) (c1:Nat) (a2:Option Addr) (c2:Nat) (a4:Option Addr) (c4:Nat) (a6:Option Addr) (c6:Nat) (st:Za) (t:Zf) (w0:World) (hV0:Za.Reads w0 (sV a0 c0 a1 c1 a2 c2 a4 c4 a6 c6 st) st) (hf:st.Fit) (hi:-9223372036854775808≤st.aq):Calls prog 17 #[sV a0 c0 a1 c1 a2 c2 a4 c4 a6 c6 st,tV t] w0 fun e w'=>e=.returned (.bool (tabT st t).isSome)∧Below w0.heap.size w0 w':=by
 have hV:=Bx.mk hV0;clear hV0;have E:=Bx.mk (St.start w0);refine ent func17 ntmps17 ?_;refine xsr ?_;refine ybx E ?_;clear E;intro w1 b1 E;refine ybx E ?_;clear E;intro w2 b2 E;refine xr 1 rfl<|xne<|xsr<|Xw 1 8 E rfl rfl ?_;refine ycB (Zd1 _ st _ (hV.out.below E.o.bel) hf hi) func44 E ?_;clear E;intro w3 E;refine xr 1 rfl<|xcs 7 rfl (fun cc1=>?_) fun cc1=>?_;have hsok:st.ok=true:=by simpa using cc1
 have h0:0≤st.aq:=by have:=(Za.ok_spec hsok).txg;omega
 refine Xw 1 8 E rfl rfl<|Xw 0 7 E rfl rfl ?_;refine Ji (Zk2 a0 c0 a1 c1 a2 c2 a4 c4 a6 c6 st t _ ((Zac hV.out).below E.o.bel) (QU hsok) h0) func45 E ?_;clear E;intro w4 E;refine xr 2 rfl<|xne<|xre<|xb1 results17 rfl ?_;exact ⟨by rw [Zel hsok],E.o.bel⟩;have hsok:st.ok=false:=by simpa using cc1
 refine xr 5 rfl<|xne<|xre<|xb1 results17 rfl ?_;exact ⟨by rw [Zhf hsok];rfl,E.o.bel⟩
def less (xs:List Int) (r:Int):List Int:=xs.filter (fun x=>!(x == r))
def PtrD.eqv (x y:PtrD):Bool:=x.aA == y.aA && (x.ah == y.ah && (x.al == y.al && (x.ax == y.ax && x.ak == y.ak)))
theorem Zhi (x y:PtrD) (d:Nat) (w:World):(Op.equalIn (d+2) 40 (.agg #[.int .i64 x.aA,.int .i64 x.ah,.int .i64 x.al,.int .i64 x.ax,.int .i64 x.ak]) (.agg #[.int .i64 y.aA,.int .i64 y.ah,.int .i64 y.al,.int .i64 y.ax,.int .i64 y.ak])).run prog w=.ok (x.eqv y) w:=by
 have hS:Tryz.prog.underlying 40=some (.struct (Tryz.prog.fieldsOf 40)):=by kernel_rfl
 have hp:Tryz.prog.stoodInHeld 40=false:=by kernel_rfl
 rw [run_equalIn_agg w (d+1) 40 _ _ hS hp];simp only [Program.fieldsOf,Tryz.underlying40];unfold PtrD.eqv
 go_simp
 by_cases h1:x.aA=y.aA <;> by_cases h2:x.ah=y.ah <;> by_cases h3:x.al=y.al <;> by_cases h4:x.ax=y.ax <;> by_cases h5:x.ak=y.ak <;> simp [h1,h2,h3,h4,h5]
theorem Zbv {w:World} {o:Oper} {a:Act} {x y:Operand} {t':TypeId} (p q:PtrD) (ho:o.op=.binOp .neq 40 x y t') (hx:a.eval x=.agg #[.int .i64 p.aA,.int .i64 p.ah,.int .i64 p.al,.int .i64 p.ax,.int .i64 p.ak]) (hy:a.eval y=.agg #[.int .i64 q.aA,.int .i64 q.ah,.int .i64 q.al,.int .i64 q.ax,.int .i64 q.ak]):Yl prog w o a (.bool (!(p.eqv q))):=by
 have he:=Zhi p q 9998 w;unfold Yl execOp;simp only [ho,hx,hy];simp [eqGuard,binOp,go_sem,Op.equal];rw [show Op.maxDepth=9998+2 from rfl,he];rfl
theorem PtrD.eqv_iff {x y:PtrD}:x.eqv y=true ↔ x=y:=by
 unfold PtrD.eqv;simp only [Bool.and_eq_true,beq_iff_eq]
 constructor
 ·rintro ⟨a,b,c,d,e⟩;cases x;cases y;dsimp only at a b c d e;subst a;subst b;subst c;subst d;subst e;rfl
 ·rintro rfl;exact ⟨rfl,rfl,rfl,rfl,rfl⟩
section
variable {st0:Za} {inn R A L:List PtrD} {n:Nat} {W next back stays:List PtrD} {st:Za} {N:List PtrD}
def ZcU (stays:List PtrD) (p w:PtrD):List PtrD:=if p.eqv w then stays++[p] else stays
end
theorem ZcV {p:PtrD} (h:p.ok=true):(Z5 p).size≤21:=by
 cases hh:p.hole with
 | true=>rw [QO h hh];decide
 | false =>
  rw [Vy h hh];unfold PtrD.ok at h;rw [hh,Bool.false_or] at h;simp only [Bool.and_eq_true] at h;obtain ⟨⟨⟨⟨h1,h2⟩,h3⟩,h4⟩,h5⟩:=h;have h1:=Zo h1;have h2:=Zo h2;have h3:=Zo h3;have h4:=Zo h4;have h5:=Zo h5;have e:∀ {n:Int} {k:Nat},0≤n→n<((10 ^ (k+1):Nat):Int)→k≤8→(ZX n).size≤k+1:=fun {n k} h0 h1 h8=>by
   rw [XF h0 (by
    have:(10:Nat) ^ (k+1)≤10 ^ 9:=Nat.pow_le_pow_right (by omega) (by omega)
    omega)]
   exact Zbg (by omega)
  have a1:=e (n:=p.aA) (k:=1) (by omega) (by show p.aA<((100:Nat):Int);omega) (by omega);have a2:=e (n:=p.ah) (k:=2) (by omega) (by show p.ah<((1000:Nat):Int);omega) (by omega);have a3:=e (n:=p.al) (k:=2) (by omega) (by show p.al<((1000:Nat):Int);omega) (by omega);have a4:=e (n:=p.ax) (k:=7) (by omega) (by show p.ax<((100000000:Nat):Int);omega) (by omega);have a5:=e (n:=p.ak) (k:=0) (by omega) (by show p.ak<((10:Nat):Int);omega) (by omega);simp only [Z7,show Zdf.size=1 from rfl]
  omega
theorem Zk3 (a b c d:PtrD):(YW [a,b,c,d]).size=(Z5 a).size+(Z5 b).size+(Z5 c).size+(Z5 d).size+3:=by
 unfold YW JR;rw [Zg];simp [Go.Lib.join,Go.Lib.joinTail,Zma,← Zg]
 omega
theorem Vl {c:List PtrD} (h:c.length=4):∃ a b x y,c=[a,b,x,y]:=by
 match c,h with
 | [a,b,x,y],_=>exact ⟨a,b,x,y,rfl⟩
theorem UV {c:List PtrD} (hn:c.length=4) (ho:∀ p ∈ c,p.ok=true):inB ((YW c).size:Int) 1 128=true:=by
 obtain ⟨a,b,x,y,rfl⟩:=Vl hn;rw [Zk3];have h1:=ZcV (ho a (by simp));have h2:=ZcV (ho b (by simp));have h3:=ZcV (ho x (by simp));have h4:=ZcV (ho y (by simp));exact JA (by omega) (by omega)
def ZP (st:Za) (c:List PtrD) (w:PtrD):Bool:=!w.hole && (QG w (YW c) && ((Yb st w).toList == (YW c).toList))
structure Zfq where
  st:Za
  p:PtrD
  ok:Bool
def Zj (st:Za) (c:List PtrD) (lv:Int) (w:PtrD):Zfq :=
 if c.all (fun p=>p.hole)=true then ⟨st,PtrD.zero,true⟩
 else if ZP st c w=true then ⟨st,w,true⟩
 else if writeAt st (YW c) lv<64 then ⟨st.putAt (writeAt st (YW c) lv) (st.af.set (writeAt st (YW c) lv) (YW c)),X5 (writeAt st (YW c) lv:Nat) st.aq lv (YW c),true⟩
 else ⟨st,PtrD.zero,false⟩
section
variable {st:Za} {c:List PtrD} {lv:Int} {w:PtrD}
theorem Xj (h:c.all (fun p=>p.hole)=true):Zj st c lv w=⟨st,PtrD.zero,true⟩:=by unfold Zj;rw [if_pos h]
theorem JJ (h:c.all (fun p=>p.hole)=false) (hs:ZP st c w=true):Zj st c lv w=⟨st,w,true⟩:=by unfold Zj;rw [if_neg (by rw [h];decide),if_pos hs]
theorem Zfr (h:c.all (fun p=>p.hole)=false) (hs:ZP st c w=false) (hw:writeAt st (YW c) lv=64):Zj st c lv w=⟨st,PtrD.zero,false⟩:=by unfold Zj;rw [if_neg (by rw [h];decide),if_neg (by rw [hs];decide),if_neg (by omega)]
theorem ZdR (h:c.all (fun p=>p.hole)=false) (hs:ZP st c w=false) {i:Nat} (hi:i<64) (hw:writeAt st (YW c) lv=i):Zj st c lv w=⟨st.putAt i (st.af.set i (YW c)),X5 (i:Int) st.aq lv (YW c),true⟩:=by unfold Zj;rw [if_neg (by rw [h];decide),if_neg (by rw [hs];decide),hw,if_pos hi]
theorem Zn4 (h:st.ok=true):Inv st []:=⟨h,fun i _ hi=>by
 have:=Zbu.1 (Za.ok_spec h).owed i hi;show ((cnt [] i+cnt (st.ai++st.aj) i:Nat):Int)≤_;rw [Zkc];omega⟩
theorem J7 (st:Za) (text:ByteArray) (level:Int):writeAt st text level≤64:=by
 unfold writeAt
 split
 ·omega
 ·have:=Jc (X6 st) 56 8;omega
theorem Zkd {text:ByteArray} {level:Int} (h:st.ok=true) (hsz:inB (text.size:Int) 1 128=true) (hlv:inB level 0 2=true) {i:Nat} (hi:i<64) (hw:writeAt st text level=i):(st.putAt i (st.af.set i text)).ok=true:=((Zn4 h).write hsz hlv hi hw).1.ok
theorem Zke {text:ByteArray} {level:Int} (h:st.ok=true) (hsz:inB (text.size:Int) 1 128=true) (hlv:inB level 0 2=true) {i:Nat} (hi:i<64) (hw:writeAt st text level=i):(X5 (i:Int) st.aq level text).ok=true:=by
 have hp:=(Zmu h hsz hlv hi hw).2.2.2.1;unfold Xv at hp;rw [Bool.and_eq_true] at hp;exact hp.2
structure VL (st s:Za):Prop where
  ok:st.ok=true→s.ok=true
  txg:s.aq=st.aq
  keep:s.ar=st.ar
  same:s.au=st.au
  gone:s.ai=st.ai
  dead:s.aj=st.aj
theorem VL.refl (st:Za):VL st st:=⟨id,rfl,rfl,rfl,rfl,rfl⟩
theorem VL.trans {a b c:Za} (h:VL a b) (k:VL b c):VL a c:=⟨fun e=>k.ok (h.ok e),k.txg.trans h.txg,k.keep.trans h.keep,k.same.trans h.same,k.gone.trans h.gone,k.dead.trans h.dead⟩
theorem JK (hn:c.length=4) (ho:∀ p ∈ c,p.ok=true) (hlv:inB lv 0 2=true) (hw:w.ok=true) (h0:st.ok=true):VL st (Zj st c lv w).st∧(Zj st c lv w).p.ok=true:=by
 cases ha:c.all (fun p=>p.hole) with
 | true=>rw [Xj ha];exact ⟨VL.refl _,rfl⟩
 | false =>
  cases hs:ZP st c w with
  | true=>rw [JJ ha hs];exact ⟨VL.refl _,hw⟩
  | false =>
   by_cases hi:writeAt st (YW c) lv<64
   ·rw [ZdR ha hs hi rfl]
    exact ⟨⟨fun h=>Zkd h (UV hn ho) hlv hi rfl,rfl,rfl,rfl,rfl,rfl⟩,Zke h0 (UV hn ho) hlv hi rfl⟩
   ·rw [Zfr ha hs (by have:=J7 st (YW c) lv;omega)];exact ⟨VL.refl _,rfl⟩
end
structure Jw where
  st:Za
  next:List PtrD
  stays:List PtrD
  ok:Bool
def QJ (lv:Int):Nat→List PtrD→List PtrD→Za→List PtrD→List PtrD→Jw
 | 0,_,_,st,next,stays=>⟨st,next,stays,true⟩
 | m+1,back,was,st,next,stays =>
  if (Zj st (back.take 4) lv (was.headD PtrD.zero)).ok=true
  then QJ lv m (back.drop 4) (was.drop 1) (Zj st (back.take 4) lv (was.headD PtrD.zero)).st (next++[(Zj st (back.take 4) lv (was.headD PtrD.zero)).p]) (ZcU stays (Zj st (back.take 4) lv (was.headD PtrD.zero)).p (was.headD PtrD.zero))
  else ⟨(Zj st (back.take 4) lv (was.headD PtrD.zero)).st,next,stays,false⟩
theorem Ziu {lv:Int} {m:Nat} {back was next stays:List PtrD} {st s:Za} {p:PtrD} (h:Zj st (back.take 4) lv (was.headD PtrD.zero)=⟨s,p,true⟩):QJ lv (m+1) back was st next stays=QJ lv m (back.drop 4) (was.drop 1) s (next++[p]) (ZcU stays p (was.headD PtrD.zero)):=by
 rw [QJ,h,if_pos rfl]
theorem Zkf {lv:Int} {m:Nat} {back was next stays:List PtrD} {st s:Za} {p:PtrD} (h:Zj st (back.take 4) lv (was.headD PtrD.zero)=⟨s,p,false⟩):QJ lv (m+1) back was st next stays=⟨s,next,stays,false⟩:=by
 rw [QJ,h,if_neg Bool.false_ne_true]
def YF (l:List PtrD):List PtrD:=l++replicate ((4 - l.length % 4) % 4) PtrD.zero
theorem VM (l:List PtrD):(YF l).length=(l.length+3) / 4*4:=by unfold YF;rw [length_append,length_replicate];omega
theorem ZcW {l:List PtrD} (h:∀ p ∈ l,p.ok=true):∀ p ∈ YF l,p.ok=true:=fun p hp=>by
 unfold YF at hp;rcases mem_append.1 hp with hp|hp
 ·exact h p hp
 ·rw [(List.mem_replicate.1 hp).2];rfl
noncomputable def Zx (st:Za) (t:Zf) (depth lv:Nat):List PtrD :=
 if t.az=(depth:Int) then (if lv=depth then [t.ac] else (kidsS st t.ac (depth:Int)).getD XO) else XO
noncomputable def Jy (t:Zf) (depth:Nat):Nat→Nat→Za→List PtrD→List PtrD→Jw
 | 0,_,st,list,stays=>⟨st,list,stays,true⟩
 | n+1,lv,st,list,stays =>
  if (QJ (lv:Int) ((YF list).length / 4) (YF list) (Zx st t depth lv) st [] stays).ok=true
  then Jy t depth n (lv+1) (QJ (lv:Int) ((YF list).length / 4) (YF list) (Zx st t depth lv) st [] stays).st (QJ (lv:Int) ((YF list).length / 4) (YF list) (Zx st t depth lv) st [] stays).next (QJ (lv:Int) ((YF list).length / 4) (YF list) (Zx st t depth lv) st [] stays).stays
  else QJ (lv:Int) ((YF list).length / 4) (YF list) (Zx st t depth lv) st [] stays
theorem Zk4 {t:Zf} {depth lv:Nat} {st:Za} {list stays:List PtrD}:Jy t depth 0 lv st list stays=⟨st,list,stays,true⟩:=rfl
theorem ZmA {t:Zf} {depth n lv:Nat} {st s:Za} {list stays next sy:List PtrD} (h:QJ (lv:Int) ((YF list).length / 4) (YF list) (Zx st t depth lv) st [] stays=⟨s,next,sy,true⟩):Jy t depth (n+1) lv st list stays=Jy t depth n (lv+1) s next sy:=by
 rw [Jy,h,if_pos rfl]
theorem Zn5 {t:Zf} {depth n lv:Nat} {st s:Za} {list stays next sy:List PtrD} (h:QJ (lv:Int) ((YF list).length / 4) (YF list) (Zx st t depth lv) st [] stays=⟨s,next,sy,false⟩):Jy t depth (n+1) lv st list stays=⟨s,next,sy,false⟩:=by
 rw [Jy,h,if_neg Bool.false_ne_true]
noncomputable def ZT (st:Za) (t:Zf):List PtrD :=
 if t.az=0∨t.ac.hole=true then [] else t.ac::(if t.az=2 then ((kidsS st t.ac 2).getD []).filter (fun p=>!p.hole) else [])
def YM (stays:List PtrD) (p:PtrD):Bool:=stays.any fun q=>q.eqv p
def Y1 (stays:List PtrD):List PtrD→Za→Za
 | [],s=>s
 | p::r,s=>Y1 stays r (if YM stays p=true then s else s.free p)
structure Zav where
  st:Za
  t:Zf
  ok:Bool
def tree0:Zf:=⟨PtrD.zero,0,0⟩
noncomputable def U1 (st:Za) (t:Zf) (leaves:List PtrD) (many:Nat):Zav :=
 if (Jy t (depthN many) (depthN many) 1 st (leaves.take many) []).ok=true
 then ⟨Y1 (Jy t (depthN many) (depthN many) 1 st (leaves.take many) []).stays (ZT st t) (Jy t (depthN many) (depthN many) 1 st (leaves.take many) []).st,⟨(Jy t (depthN many) (depthN many) 1 st (leaves.take many) []).next.headD PtrD.zero,(depthN many:Nat),many⟩,true⟩
 else ⟨(Jy t (depthN many) (depthN many) 1 st (leaves.take many) []).st,tree0,false⟩
theorem Zfs {st s:Za} {t:Zf} {leaves list stays:List PtrD} {many:Nat} (h:Jy t (depthN many) (depthN many) 1 st (leaves.take many) []=⟨s,list,stays,true⟩):U1 st t leaves many=⟨Y1 stays (ZT st t) s,⟨list.headD PtrD.zero,(depthN many:Nat),many⟩,true⟩:=by
 unfold U1;rw [h,if_pos rfl]
theorem Zkg {st s:Za} {t:Zf} {leaves list stays:List PtrD} {many:Nat} (h:Jy t (depthN many) (depthN many) 1 st (leaves.take many) []=⟨s,list,stays,false⟩):U1 st t leaves many=⟨s,tree0,false⟩:=by
 unfold U1;rw [h,if_neg Bool.false_ne_true]
def Xk (st:Za) (text:ByteArray) (level:Int):Zfq :=
 if writeAt st text level<64 then ⟨st.putAt (writeAt st text level) (st.af.set (writeAt st text level) text),X5 (writeAt st text level:Nat) st.aq level text,true⟩
 else ⟨st,PtrD.zero,false⟩
theorem Js {st:Za} {text:ByteArray} {level:Int} (h:writeAt st text level=64):Xk st text level=⟨st,PtrD.zero,false⟩:=by unfold Xk;rw [if_neg (by omega)]
theorem QK {st:Za} {text:ByteArray} {level:Int} {i:Nat} (hi:i<64) (h:writeAt st text level=i):Xk st text level=⟨st.putAt i (st.af.set i text),X5 (i:Int) st.aq level text,true⟩:=by unfold Xk;rw [h,if_pos hi]
theorem XQ {st:Za} {c:List PtrD} {lv:Int} {w:PtrD} (h:c.all (fun p=>p.hole)=false) (hs:ZP st c w=false):Zj st c lv w=Xk st (YW c) lv:=by
 unfold Zj Xk;rw [if_neg (by rw [h];decide),if_neg (by rw [hs];decide)]
theorem ZdS {st:Za} {text:ByteArray} {level:Int} (h0:st.ok=true) (hsz:inB (text.size:Int) 1 128=true) (hlv:inB level 0 2=true):VL st (Xk st text level).st∧(Xk st text level).p.ok=true:=by
 by_cases hi:writeAt st text level<64
 ·rw [QK hi rfl]
  exact ⟨⟨fun h=>Zkd h hsz hlv hi rfl,rfl,rfl,rfl,rfl,rfl⟩,Zke h0 hsz hlv hi rfl⟩
 ·rw [Js (by have:=J7 st text level;omega)];exact ⟨VL.refl _,rfl⟩
def U2 (st:Za) (old:PtrD) (text:ByteArray):Zfq :=
 if ((ZA st old).toList == text.toList)=true then ⟨st,old,true⟩ else if text.size=0 then ⟨st,PtrD.zero,true⟩ else Xk st text 0
theorem Zdo {st:Za} {old:PtrD} {text:ByteArray} (h:((ZA st old).toList == text.toList)=true):U2 st old text=⟨st,old,true⟩:=by unfold U2;rw [if_pos h]
theorem Zdp {st:Za} {old:PtrD} {text:ByteArray} (h:((ZA st old).toList == text.toList)=false) (h0:text.size=0):U2 st old text=⟨st,PtrD.zero,true⟩:=by unfold U2;rw [if_neg (by rw [h];decide),if_pos h0]
theorem ZaV {st:Za} {old:PtrD} {text:ByteArray} (h:((ZA st old).toList == text.toList)=false) (h0:text.size≠0):U2 st old text=Xk st text 0:=by unfold U2;rw [if_neg (by rw [h];decide),if_neg h0]
noncomputable def Uo (st:Za) (t:Zf) (x:List PtrD) (k:Nat) (text:ByteArray):Zav :=
 if ((ZA st ((Zv x).getD k PtrD.zero)).toList == text.toList)=true∧max t.am ((k:Int)+1)=t.am then ⟨st,t,true⟩
 else if (U2 st ((Zv x).getD k PtrD.zero) text).ok=true then
  if (U1 (U2 st ((Zv x).getD k PtrD.zero) text).st t ((Zv x).set k (U2 st ((Zv x).getD k PtrD.zero) text).p) (max t.am ((k:Int)+1)).toNat).ok=true
  then ⟨if (U2 st ((Zv x).getD k PtrD.zero) text).p.eqv ((Zv x).getD k PtrD.zero)=true then (U1 (U2 st ((Zv x).getD k PtrD.zero) text).st t ((Zv x).set k (U2 st ((Zv x).getD k PtrD.zero) text).p) (max t.am ((k:Int)+1)).toNat).st else (U1 (U2 st ((Zv x).getD k PtrD.zero) text).st t ((Zv x).set k (U2 st ((Zv x).getD k PtrD.zero) text).p) (max t.am ((k:Int)+1)).toNat).st.free ((Zv x).getD k PtrD.zero),(U1 (U2 st ((Zv x).getD k PtrD.zero) text).st t ((Zv x).set k (U2 st ((Zv x).getD k PtrD.zero) text).p) (max t.am ((k:Int)+1)).toNat).t,true⟩
  else U1 (U2 st ((Zv x).getD k PtrD.zero) text).st t ((Zv x).set k (U2 st ((Zv x).getD k PtrD.zero) text).p) (max t.am ((k:Int)+1)).toNat
 else ⟨st,t,false⟩
section
variable {st s:Za} {t y:Zf} {x:List PtrD} {k:Nat} {text:ByteArray} {old p:PtrD}
theorem VN {r:Zfq} {b:Bool} (h:r.ok=b):r=⟨r.st,r.p,b⟩:=by subst h;rfl
theorem Zft (ho:(Zv x).getD k PtrD.zero=old) (h:((ZA st old).toList == text.toList)=true) (hm:max t.am ((k:Int)+1)=t.am):Uo st t x k text=⟨st,t,true⟩:=by
 subst ho;unfold Uo;rw [if_pos ⟨h,hm⟩]
theorem ZgE {s:Za} (ho:(Zv x).getD k PtrD.zero=old) (h:((ZA st old).toList == text.toList)=false) (hp:U2 st old text=⟨s,p,false⟩):Uo st t x k text=⟨st,t,false⟩:=by
 subst ho;unfold Uo;rw [if_neg fun e=>by rw [h] at e;exact absurd e.1 (by decide),hp,if_neg Bool.false_ne_true]
theorem Jf {many:Nat} (ho:(Zv x).getD k PtrD.zero=old) (hm:max t.am ((k:Int)+1)=(many:Int)) (h:¬ (((ZA st old).toList == text.toList)=true∧(many:Int)=t.am)) (hp:U2 st old text=⟨s,p,true⟩) :
  Uo st t x k text=(if (U1 s t ((Zv x).set k p) many).ok=true then ⟨if p.eqv old=true then (U1 s t ((Zv x).set k p) many).st else (U1 s t ((Zv x).set k p) many).st.free old,(U1 s t ((Zv x).set k p) many).t,true⟩ else U1 s t ((Zv x).set k p) many):=by
 subst ho;unfold Uo;rw [hm,if_neg h,hp,if_pos rfl,Int.toNat_natCast]
end
noncomputable def innL (st:Za):Nat→PtrD→List PtrD
 | 0,_=>[]
 | n+1,p=>bif p.hole then [] else p::((kids st p ((n+1:Nat):Int)).getD []).flatMap (innL st n)
theorem Jt {st:Za} {p:PtrD} (h:p.hole=true):∀ n,innL st n p=[]
 | 0=>rfl
 | n+1=>by unfold innL;rw [h];rfl
theorem QX {st:Za} {p:PtrD} {n:Nat} {l:List PtrD} (h:p.hole=false) (hk:kids st p ((n+1:Nat):Int)=some l):innL st (n+1) p=p::l.flatMap (innL st n):=by
 show (bif p.hole then [] else p::((kids st p ((n+1:Nat):Int)).getD []).flatMap (innL st n))=_;rw [h,hk];rfl
theorem JL {st:Za}:∀ {n:Nat} {p:PtrD},Wf st n p→∀ q ∈ innL st n p,q ∈ allL st n p
 | 0,p,_,q,hq=>by cases hq
 | n+1,p,⟨ho,hb,l,hk,hw⟩,q,hq=>by
  cases hh:p.hole with
  | true=>rw [Jt hh] at hq;cases hq
  | false =>
   rw [QX hh hk] at hq;rw [Qo hh hk];rcases mem_cons.1 hq with rfl|hq
   ·exact mem_cons_self ..
   ·obtain ⟨k,hkl,hq⟩:=List.mem_flatMap.1 hq
    exact mem_cons_of_mem _ (List.mem_flatMap.2 ⟨k,hkl,JL (hw k hkl) q hq⟩)
theorem VO {st:Za} {n:Nat} {p:PtrD} (h:Wf st (n+1) p):∃ l,kidsS st p ((n+1:Nat):Int)=some l∧kids st p ((n+1:Nat):Int)=some l∧∀ k ∈ l,Wf st n k:=by
 obtain ⟨ho,hb,l,hk,hw⟩:=h;exact ⟨l,by rw [VC ho hb];exact hk,hk,hw⟩
theorem Zkh {st:Za} {n:Nat}:∀ {l:List PtrD},(∀ p ∈ l,Wf st (n+1) p)→YX (fun p=>kidsS st p ((n+1:Nat):Int)) l=some (l.flatMap fun p=>(kids st p ((n+1:Nat):Int)).getD [])∧∀ q ∈ (l.flatMap fun p=>(kids st p ((n+1:Nat):Int)).getD []),Wf st n q
 | [],_=>⟨rfl,fun q hq=>nomatch hq⟩
 | p::r,h=>by
  obtain ⟨l,h1,h2,h3⟩:=VO (h p (mem_cons_self ..));obtain ⟨e,hw⟩:=Zkh fun q hq=>h q (mem_cons_of_mem _ hq)
  refine ⟨by rw [Zbl h1,e,flatMap_cons,h2];rfl,fun q hq=>?_⟩;rw [flatMap_cons,h2] at hq;rcases mem_append.1 hq with hq|hq
  ·exact h3 q hq
  ·exact hw q hq
theorem Zb8 {st:Za}:∀ l:List PtrD,l.flatMap (lvL st 0)=l
 | []=>rfl
 | q::r=>by rw [flatMap_cons,Zb8 r];rfl
theorem Zdq (f g:PtrD→List PtrD):∀ l:List PtrD,(l.flatMap f).flatMap g=l.flatMap fun p=>(f p).flatMap g
 | []=>rfl
 | q::r=>by rw [flatMap_cons,List.flatMap_append,flatMap_cons,Zdq f g r]
theorem Zen {st:Za}:∀ {n:Nat} {l:List PtrD},(∀ p ∈ l,Wf st n p)→downL (kidsS st) n l=some (l.flatMap (lvL st n))
 | 0,l,_=>by
  show some l=_
  congr 1
  exact (Zb8 l).symm
 | n+1,l,h=>by
  obtain ⟨e,hw⟩:=Zkh h;rw [QQ e,Zen hw,Zdq]
  rfl
section
variable {st0:Za} {inn R A:List PtrD} {n:Nat}
theorem Zbw {back:List PtrD} {m:Nat} (h:back.length=4*(m+1)):(back.take 4).length=4∧(back.drop 4).length=4*m:=by
 rw [length_take,List.length_drop];omega
end
theorem Zfu {st:Za} {l:List PtrD} (h:∀ q ∈ l,Wf st 1 q):l.flatMap (innL st 1)=l.filter fun q=>!q.hole:=by
 induction l with
 | nil=>rfl
 | cons q r ih =>
  rw [flatMap_cons,ih fun x hx=>h x (mem_cons_of_mem _ hx),List.filter_cons];obtain ⟨_,_,m,hk,_⟩:=h q (mem_cons_self ..)
  cases hh:q.hole with
  | true=>rw [Jt hh];rfl
  | false =>
   rw [QX hh hk,show m.flatMap (innL st 0)=[] by rw [List.flatMap_eq_nil_iff];intro _ _;rfl];rfl
theorem Zk5 {st:Za} {t:Zf} {d:Nat} (hd:t.az=(d:Int)) (h2:d≤2) (hw:Wf st d t.ac):ZT st t=innL st d t.ac:=by
 unfold ZT;rcases (by omega:d=0∨d=1∨d=2) with rfl|rfl|rfl
 ·rw [if_pos (.inl (by omega))];rfl
 ·cases hh:t.ac.hole with
  | true=>rw [if_pos (.inr rfl),Jt hh]
  | false =>
   obtain ⟨_,_,m,hk,_⟩:=hw;rw [if_neg (fun h=>h.elim (fun h=>by omega) (fun h=>by cases h)),if_neg (by omega),QX hh hk,show m.flatMap (innL st 0)=[] by rw [List.flatMap_eq_nil_iff];intro _ _;rfl]
 ·cases hh:t.ac.hole with
  | true=>rw [if_pos (.inr rfl),Jt hh]
  | false =>
   obtain ⟨m,hks,hk,hm⟩:=VO hw;rw [if_neg (fun h=>h.elim (fun h=>by omega) (fun h=>by cases h)),if_pos (by omega),QX hh hk,Zfu hm,show kidsS st t.ac 2=some m from hks];rfl
theorem ZmB {r:Jw} (h:r.ok=true):(⟨r.st,r.next,r.stays,true⟩:Jw)=r:=by
 cases r;cases h;rfl
theorem ZgF {t:Zf} {d lv:Nat} {st:Za} {list stays:List PtrD}:Jy t d 1 lv st list stays=QJ (lv:Int) ((YF list).length / 4) (YF list) (Zx st t d lv) st [] stays:=by
 rw [Jy]
 split
 ·rename_i hk;rw [Zk4];exact ZmB hk
 ·rfl
structure TV (st:Za) (t:Zf):Prop where
  many:0≤t.am∧t.am≤16
  dep:t.az=((depthN t.am:Nat):Int)
  wf:Wf st (depthN t.am) t.ac
  out:∀ j,t.am.toNat≤j→((lvL st (depthN t.am) t.ac).getD j PtrD.zero).hole=true
noncomputable def Zf.ps (st:Za) (t:Zf):List PtrD:=lvL st (depthN t.am) t.ac
theorem TV.len {st:Za} {t:Zf} (h:TV st t):(t.ps st).length=4 ^ depthN t.am∧(t.ps st).length≤16∧t.am.toNat≤(t.ps st).length:=by
 have h1:=Zhg h.wf;have h2:=Zmk (YU t.am);have h3:=V8 h.many.2;have e:(t.ps st).length=4 ^ depthN t.am:=h1;have:=h.many;exact ⟨e,by omega,by omega⟩
theorem TV.wide {st:Za} {t:Zf} (h:TV st t):(Zv (t.ps st)).length=16:=Zdm h.len.2.1
theorem ZmC {x:List PtrD} {q:PtrD} (h:q ∈ Zv x):q ∈ x∨q.hole=true:=by
 unfold Zv at h;rcases mem_append.1 h with h|h
 ·exact .inl h
 ·rw [(List.mem_replicate.1 h).2];exact .inr rfl
theorem TV.leaf {st:Za} {t:Zf} (h:TV st t) (h0:0≤st.aq):∀ q ∈ Zv (t.ps st),Wf st 0 q:=fun q hq=>by
 rcases ZmC hq with hq|hq
 ·exact Zem h.wf q hq
 ·exact Zn0 h0 hq
theorem Zfv {st:Za} {many:Int}:∀ {l:List PtrD} {i:Nat},(∀ q ∈ l,Wf st 0 q)→(∀ j,many≤((i+j:Nat):Int)→(l.getD j PtrD.zero).hole=true)→YQ st many i l=true
 | [],_,_,_=>rfl
 | q::r,i,h,ho=>by
  have hq:=h q (mem_cons_self ..);show (JS st many i q && YQ st many (i+1) r)=true;rw [Zfv (fun x hx=>h x (mem_cons_of_mem _ hx)) (fun j hj=>by have:=ho (j+1) (by omega);simpa using this),Bool.and_true];unfold JS
  cases hh:q.hole with
  | true=>show (q.ak == 0)=true;rw [ZbW hh];rfl
  | false =>
   show (YL st q && ((q.ak == 0) && decide ((i:Int)<many)))=true;rw [hq.2.2.2,hq.2.2.1]
   by_cases hi:(i:Int)<many
   ·rw [decide_eq_true hi];rfl
   ·have:=ho 0 (by omega)
    rw [List.getD_cons_zero,hh] at this;cases this
theorem TV.treeX {st:Za} {t:Zf} (h:TV st t) (h0:0≤st.aq):TreeX st t (t.ps st) ((t.ps st).take t.am.toNat):=by
 have hl:=h.len;have hok:=h.wf.ok;have hx:∀ p ∈ t.ps st,p.ok=true:=fun p hp=>(Zem h.wf p hp).1
 have hd:=Zen (st:=st) (l:=[t.ac]) (n:=depthN t.am) fun p hp=>by rw [mem_singleton.1 hp];exact h.wf
 rw [flatMap_cons,List.flatMap_nil,append_nil] at hd;have hd2:=(J3 (st:=st) (n:=depthN t.am) (l:=[t.ac]) (fun p hp=>by rw [mem_singleton.1 hp];exact hok) h0).1;refine ⟨hd,h.dep,hl.2.1,hx,?_,?_,h.many,?_⟩
 ·refine Vf (l:=t.ps st) ?_ (hd2.symm.trans hd) (Zfv (fun q hq=>Zem h.wf q hq) fun j hj=>h.out j (by omega))
  unfold topB;rw [JA h.many.1 h.many.2,hok.1,decide_eq_true hok.2,h.dep];simp
 ·rw [length_take];omega
 ·unfold Zv
  rw [List.take_append_of_le_length (by omega)]
theorem ZcX {st:Za} {t:Zf} (h:TV st t) {j:Nat} (hj:t.am.toNat≤j):((Zv (t.ps st)).getD j PtrD.zero).hole=true:=by
 unfold Zv
 by_cases hl:j<(t.ps st).length
 ·rw [getD_eq_getElem?_getD,List.getElem?_append_left hl,← getD_eq_getElem?_getD];exact h.out j hj
 ·rw [getD_eq_getElem?_getD,List.getElem?_append_right (by omega),← getD_eq_getElem?_getD,getD_eq_getElem?_getD,List.getElem?_replicate]
  split <;> rfl
def Z6 (st st':Za):Prop:=∀ p:PtrD,p.ok=true→p.hole=false→YL st p=true→Yb st' p=Yb st p
theorem Z6.refl (st:Za):Z6 st st:=fun _ _ _ _=>rfl
theorem Z6.read {a b:Za} (h:Z6 a b) {p:PtrD} (ho:p.ok=true) (hr:YL a p=true):YL b p=true:=by
 cases hh:p.hole with
 | true=>exact Jl hh
 | false=>rw [Zdl fun _=>h p ho hh hr];exact hr
theorem Z6.trans {a b c:Za} (h:Z6 a b) (k:Z6 b c):Z6 a c:=fun p ho hh hr=>(k p ho hh (h.read ho hr)).trans (h p ho hh hr)
theorem Zdr {st:Za} {p:PtrD} (ho:p.ok=true) (hh:p.hole=false) (hr:YL st p=true):1≤(Yb st p).size:=by
 rw [XX hh] at hr;unfold QG at hr;rw [ho,hh] at hr;simp only [Bool.true_and,Bool.not_false,Bool.and_eq_true,beq_iff_eq] at hr;unfold PtrD.ok at ho;rw [hh,Bool.false_or] at ho;simp only [Bool.and_eq_true] at ho;have:=Zo ho.1.1.2;have:=hr.1
 omega
theorem Z6.write {st:Za} {text:ByteArray} {level:Int} (hok:st.ok=true):Z6 st (Xk st text level).st:=fun p ho hh hr=>by
 by_cases hi:writeAt st text level<64
 ·rw [QK hi rfl]
  obtain ⟨j,h8,hj,hpj⟩:=Vs ho hh;obtain ⟨_,hrow⟩:=UI hok hi rfl;have hO:=Za.ok_spec hok;have hl:st.af.length=64:=hO.rows;rw [JH hpj,JH hpj];show (st.af.set (writeAt st text level) text).getD j ByteArray.empty=_;rw [J6 (by rw [hl];exact hi)]
  split
  ·next e =>
   rcases hrow with ⟨h0,_⟩|⟨_,h1,_⟩
   ·have hE:=(UH.1 hO.each _ hi).2.1.2 h0
    have hs:=Zdr ho hh hr;rw [JH hpj,← e] at hs
    omega
   ·rw [← e,h1]
  ·rfl
 ·rw [Js (by have:=J7 st text level;omega)]
theorem Z6.fan {st:Za} {c:List PtrD} {lv:Int} {w:PtrD} (hok:st.ok=true):Z6 st (Zj st c lv w).st:=by
 cases ha:c.all (fun p=>p.hole) with
 | true=>rw [Xj ha];exact Z6.refl _
 | false =>
  cases hs:ZP st c w with
  | true=>rw [JJ ha hs];exact Z6.refl _
  | false=>rw [XQ ha hs];exact Z6.write hok
theorem Z6.kids {a b:Za} (h:Z6 a b) {p:PtrD} {n:Int} {l:List PtrD} (ho:p.ok=true) (hk:kids a p n=some l):kids b p n=some l:=by
 rcases (Xy hk).2.2 with ⟨hh,_⟩|⟨hh,_,hr,_⟩
 ·rw [UE hh] at hk ⊢;exact hk
 ·rw [Zfn fun _=>h p ho hh hr];exact hk
theorem Z6.wf {a b:Za} (h:Z6 a b) (ht:b.aq=a.aq):∀ {n:Nat} {p:PtrD},Wf a n p→Wf b n p
 | 0,p,hw=>⟨hw.1,by rw [ht];exact hw.2.1,hw.2.2.1,h.read hw.1 hw.2.2.2⟩
 | n+1,p,⟨ho,hb,l,hk,hw⟩=>⟨ho,by rw [ht];exact hb,l,h.kids ho hk,fun q hq=>h.wf ht (hw q hq)⟩
theorem ZcY {st:Za} {w:PtrD} {n:Int} {l:List PtrD} (hh:w.hole=false) (hk:kids st w n=some l):IsFan (Yb st w) l∧QG w (Yb st w)=true:=by
 rcases (Xy hk).2.2 with ⟨h,_⟩|⟨_,_,hr,hf,_⟩
 ·rw [hh] at h;cases h
 ·rw [XX hh] at hr
  rw [UD hh hr] at hf;exact ⟨hf,hr⟩
theorem ZaW {st:Za} {w:PtrD} {n:Int} {l c:List PtrD} (hh:w.hole=false) (hk:kids st w n=some l) (hc:c.length=4) (ho:∀ p ∈ c,p.ok=true):l=c ↔ c.all (fun p=>p.hole)=false∧ZP st c w=true:=by
 obtain ⟨hf,hr⟩:=ZcY hh hk
 constructor
 ·rintro rfl
  refine ⟨hf.some,?_⟩;unfold ZP;rw [hh,hf.is,hr]
  simp
 ·rintro ⟨ha,hs⟩
  unfold ZP at hs;simp only [Bool.and_eq_true,beq_iff_eq] at hs;have e:Yb st w=YW c:=Yi (beq_iff_eq.2 hs.2.2);exact hf.one ⟨hc,ho,ha,e.symm⟩
def Zat (st:Za) (c:List PtrD) (w:PtrD) (sy:List PtrD):List PtrD:=if c.all (fun p=>p.hole)=false∧ZP st c w=true then sy++[w] else sy
theorem JM {st:Za} {c:List PtrD} {w:PtrD} {sy:List PtrD} (h:¬ (c.all (fun p=>p.hole)=false∧ZP st c w=true)):Zat st c w sy=sy:=if_neg h
theorem Zds {st:Za} {c:List PtrD} {w:PtrD} {sy:List PtrD} (h:c.all (fun p=>p.hole)=false∧ZP st c w=true):Zat st c w sy=sy++[w]:=if_pos h
def XB (sr sp:List PtrD):Prop:=∀ q:PtrD,q.hole=false→(YM sr q=true ↔ q ∈ sp)
theorem JN {sr:List PtrD} {q:PtrD}:YM sr q=true ↔ q ∈ sr:=by
 unfold YM;rw [List.any_eq_true]
 constructor
 ·rintro ⟨x,hx,e⟩;rw [← PtrD.eqv_iff.1 e];exact hx
 ·intro h;exact ⟨q,h,PtrD.eqv_iff.2 rfl⟩
theorem XB.start:XB [] []:=fun q _=>JN
theorem Zki {st:Za} {text:ByteArray} {level:Int} (hok:st.ok=true) (hsz:inB (text.size:Int) 1 128=true) (hlv:inB level 0 2=true) {i:Nat} (hi:i<64) (hw:writeAt st text level=i) {w:PtrD} (ho:w.ok=true) (hh:w.hole=false) (hr:YL st w=true) (e:X5 (i:Int) st.aq level text=w):Yb st w=text:=by
 obtain ⟨_,hrow⟩:=UI hok hi hw;have hwi:w.aA=(i:Int):=by rw [← e];rfl
 have hs:=Zdr ho hh hr;rw [JH hwi] at hs ⊢;rcases hrow with ⟨h0,_⟩|⟨_,h1,_⟩
 ·have:=(UH.1 (Za.ok_spec hok).each i hi).2.1.2 h0
  omega
 ·exact h1
theorem XB.step {st:Za} {c sr sp:List PtrD} {w:PtrD} {n:Nat} {l:List PtrD} (h:XB sr sp) (hok:st.ok=true) (hc:c.length=4) (ho:∀ p ∈ c,p.ok=true) (hn:inB ((n:Nat):Int) 0 2=true) (hw:w.hole=true∨(w.ok=true∧w.hole=false∧kids st w (n:Int)=some l)):XB (ZcU sr (Zj st c (n:Int) w).p w) (Zat st c w sp):=fun q hq=>by
 have hsnoc:∀ {sr sp:List PtrD} (x:PtrD),XB sr sp→(YM (sr++[x]) q=true ↔ q ∈ sp++[x]):=fun x h=>by
  rw [JN,mem_append,mem_append,← JN (sr:=_),h q hq]
 have hhole:∀ {sr sp:List PtrD} (x:PtrD),x.hole=true→XB sr sp→(YM (sr++[x]) q=true ↔ q ∈ sp):=fun x hx h=>by
  rw [JN,mem_append,← JN (sr:=_),h q hq]
  constructor
  ·rintro (e|e)
   ·exact e
   ·rw [mem_singleton.1 e,hx] at hq;cases hq
  ·exact .inl
 unfold ZcU
 cases ha:c.all (fun p=>p.hole) with
 | true =>
  rw [Xj ha,JM fun e=>by rw [ha] at e;cases e.1]
  split
  ·exact hhole _ J2 h
  ·exact h q hq
 | false =>
  cases hs:ZP st c w with
  | true =>
   rw [JJ ha hs,Zds ⟨ha,hs⟩,if_pos (PtrD.eqv_iff.2 rfl)];exact hsnoc _ h
  | false =>
   rw [JM fun e=>by rw [hs] at e;cases e.2]
   by_cases hi:writeAt st (YW c) (n:Int)<64
   ·rw [ZdR ha hs hi rfl]
    have hsz:=UV hc ho;have hnh:(X5 ((writeAt st (YW c) (n:Int):Nat):Int) st.aq (n:Int) (YW c)).hole=false:=by
     cases hh:(X5 ((writeAt st (YW c) (n:Int):Nat):Int) st.aq (n:Int) (YW c)).hole with
     | false=>rfl
     | true =>
      have e:(X5 ((writeAt st (YW c) (n:Int):Nat):Int) st.aq (n:Int) (YW c)).aA=0:=by rw [QP hh];rfl
      have e2:(X5 ((writeAt st (YW c) (n:Int):Nat):Int) st.aq (n:Int) (YW c)).aA=((writeAt st (YW c) (n:Int):Nat):Int):=rfl;have:=(UI hok hi rfl).1
      omega
    split
    ·next e =>
     have e:X5 ((writeAt st (YW c) (n:Int):Nat):Int) st.aq (n:Int) (YW c)=w:=PtrD.eqv_iff.1 e;rcases hw with hw|⟨hwo,hwh,hk⟩
     ·rw [e,hw] at hnh;cases hnh
     ·obtain ⟨hf,hr⟩:=ZcY hwh hk
      have ht:=Zki hok hsz hn hi rfl hwo hwh (by rw [XX hwh];exact hr) e;unfold ZP at hs;rw [hwh,← ht,hr] at hs;simp at hs
    ·exact h q hq
   ·rw [Zfr ha hs (by have:=J7 st (YW c) (n:Int);omega)]
    split
    ·exact hhole _ J2 h
    ·exact h q hq
def Yv (lv:Int):Nat→List PtrD→List PtrD→Za→List PtrD→List PtrD→Jw
 | 0,_,_,st,next,sy=>⟨st,next,sy,true⟩
 | m+1,back,was,st,next,sy =>
  if (Zj st (back.take 4) lv (was.headD PtrD.zero)).ok=true
  then Yv lv m (back.drop 4) (was.drop 1) (Zj st (back.take 4) lv (was.headD PtrD.zero)).st (next++[(Zj st (back.take 4) lv (was.headD PtrD.zero)).p]) (Zat st (back.take 4) (was.headD PtrD.zero) sy)
  else ⟨(Zj st (back.take 4) lv (was.headD PtrD.zero)).st,next,sy,false⟩
theorem Uj {lv:Int} {m:Nat} {back was next sy:List PtrD} {st:Za} (h:(Zj st (back.take 4) lv (was.headD PtrD.zero)).ok=true):Yv lv (m+1) back was st next sy=Yv lv m (back.drop 4) (was.drop 1) (Zj st (back.take 4) lv (was.headD PtrD.zero)).st (next++[(Zj st (back.take 4) lv (was.headD PtrD.zero)).p]) (Zat st (back.take 4) (was.headD PtrD.zero) sy):=by
 rw [Yv,if_pos h]
theorem Zah {lv:Int} {m:Nat} {back was next sy:List PtrD} {st:Za} (h:(Zj st (back.take 4) lv (was.headD PtrD.zero)).ok=false):Yv lv (m+1) back was st next sy=⟨(Zj st (back.take 4) lv (was.headD PtrD.zero)).st,next,sy,false⟩:=by
 rw [Yv,if_neg (by rw [h];decide)]
def XS (st:Za) (n:Nat) (w:PtrD):Prop:=w.hole=true∨(w.ok=true∧w.hole=false∧∃ l,kids st w (n:Int)=some l)
theorem XS.still {a b:Za} (h:Z6 a b) {n:Nat} {w:PtrD} (k:XS a n w):XS b n w:=k.imp id fun ⟨h1,h2,l,h3⟩=>⟨h1,h2,l,h.kids h1 h3⟩
theorem Zeo {n:Nat} (hn:inB ((n:Nat):Int) 0 2=true):∀ {m:Nat} {back was next sr sp:List PtrD} {st:Za},XB sr sp→st.ok=true→back.length=4*m→(∀ p ∈ back,p.ok=true)→(∀ w ∈ was,XS st n w) →
  (Yv (n:Int) m back was st next sp).st=(QJ (n:Int) m back was st next sr).st∧(Yv (n:Int) m back was st next sp).next=(QJ (n:Int) m back was st next sr).next∧(Yv (n:Int) m back was st next sp).ok=(QJ (n:Int) m back was st next sr).ok∧XB (QJ (n:Int) m back was st next sr).stays (Yv (n:Int) m back was st next sp).stays∧Z6 st (Yv (n:Int) m back was st next sp).st∧(Yv (n:Int) m back was st next sp).st.ok=true∧(Yv (n:Int) m back was st next sp).st.aq=st.aq
 | 0,_,_,_,_,_,st,hk,hok,_,_,_=>⟨rfl,rfl,rfl,hk,Z6.refl _,hok,rfl⟩
 | m+1,back,was,next,sr,sp,st,hk,hok,hl,ho,hw=>by
  obtain ⟨h4,hd⟩:=Zbw hl;have hot:∀ p ∈ back.take 4,p.ok=true:=fun p hp=>ho p (List.mem_of_mem_take hp)
  have hwd:XS st n (was.headD PtrD.zero):=by
   cases was with
   | nil=>exact .inl J2
   | cons w r=>exact hw w (mem_cons_self ..)
  have hwo:(was.headD PtrD.zero).ok=true:=by
   rcases hwd with h|⟨h,_⟩
   ·unfold PtrD.ok;rw [h];rfl
   ·exact h
  obtain ⟨hg,_⟩:=JK h4 hot hn hwo hok;have hst:=Z6.fan (c:=back.take 4) (lv:=(n:Int)) (w:=was.headD PtrD.zero) hok
  cases hb:(Zj st (back.take 4) (n:Int) (was.headD PtrD.zero)).ok with
  | false =>
   rw [Zah hb,Zkf (s:=(Zj st (back.take 4) (n:Int) (was.headD PtrD.zero)).st) (p:=(Zj st (back.take 4) (n:Int) (was.headD PtrD.zero)).p) (by rw [← hb])];exact ⟨rfl,rfl,rfl,hk,hst,hg.ok hok,hg.txg⟩
  | true =>
   rw [Uj hb,Ziu (s:=(Zj st (back.take 4) (n:Int) (was.headD PtrD.zero)).st) (p:=(Zj st (back.take 4) (n:Int) (was.headD PtrD.zero)).p) (by rw [← hb])];have hk2:XB (ZcU sr (Zj st (back.take 4) (n:Int) (was.headD PtrD.zero)).p (was.headD PtrD.zero)) (Zat st (back.take 4) (was.headD PtrD.zero) sp):=by
    rcases hwd with h|⟨h1,h2,l,h3⟩
    ·exact hk.step (l:=[]) hok h4 hot hn (.inl h)
    ·exact hk.step hok h4 hot hn (.inr ⟨h1,h2,h3⟩)
   obtain ⟨a1,a2,a3,a4,a5,a6,a7⟩:=Zeo hn hk2 (hg.ok hok) hd (fun p hp=>ho p (List.mem_of_mem_drop hp)) (fun w hw2=>(hw w (List.mem_of_mem_drop hw2)).still hst) (next:=next++[(Zj st (back.take 4) (n:Int) (was.headD PtrD.zero)).p]) (was:=was.drop 1);exact ⟨a1,a2,a3,a4,hst.trans a5,a6,a7.trans hg.txg⟩
theorem XS.okp {st:Za} {n:Nat} {w:PtrD} (h:XS st n w):w.ok=true:=by
 rcases h with h|⟨h,_⟩
 ·unfold PtrD.ok;rw [h];rfl
 ·exact h
theorem Ziv {st:Za} {n:Nat} {was:List PtrD} (h:∀ w ∈ was,XS st n w):XS st n (was.headD PtrD.zero):=by
 cases was with
 | nil=>exact .inl J2
 | cons w r=>exact h w (mem_cons_self ..)
theorem Ziw {n:Nat} (hn:inB ((n:Nat):Int) 0 2=true):∀ {m:Nat} {back was next sp:List PtrD} {st:Za},st.ok=true→back.length=4*m→(∀ p ∈ back,p.ok=true)→(∀ w ∈ was,XS st n w)→(∀ p ∈ next,p.ok=true)→∀ p ∈ (Yv (n:Int) m back was st next sp).next,p.ok=true
 | 0,_,_,_,_,_,_,_,_,_,h=>h
 | m+1,back,was,next,sp,st,hok,hl,ho,hw,h=>by
  obtain ⟨h4,hd⟩:=Zbw hl;have hwd:=Ziv hw;obtain ⟨hg,hpo⟩:=JK h4 (fun p hp=>ho p (List.mem_of_mem_take hp)) hn hwd.okp hok;have hst:=Z6.fan (c:=back.take 4) (lv:=(n:Int)) (w:=was.headD PtrD.zero) hok
  cases hb:(Zj st (back.take 4) (n:Int) (was.headD PtrD.zero)).ok with
  | false=>rw [Zah hb];exact h
  | true =>
   rw [Uj hb];exact Ziw hn (hg.ok hok) hd (fun p hp=>ho p (List.mem_of_mem_drop hp)) (fun w hw2=>(hw w (List.mem_of_mem_drop hw2)).still hst) fun p hp=>by
    rcases mem_append.1 hp with hp|hp
    ·exact h p hp
    ·rw [mem_singleton.1 hp];exact hpo
theorem Zb9 {n:Nat} (hn:inB ((n:Nat):Int) 0 2=true):∀ {m:Nat} {back was next sp:List PtrD} {st:Za},st.ok=true→back.length=4*m→(∀ p ∈ back,p.ok=true)→(∀ w ∈ was,XS st n w)→(Yv (n:Int) m back was st next sp).ok=true →
  (∀ q ∈ sp,q ∈ (Yv (n:Int) m back was st next sp).stays)∧∀ j w,j<m→was[j]? = some w→w.hole=false→kids st w (n:Int)=some ((back.drop (4*j)).take 4)→w ∈ (Yv (n:Int) m back was st next sp).stays
 | 0,_,_,_,_,_,_,_,_,_,_=>⟨fun q h=>h,fun j w hj=>absurd hj (Nat.not_lt_zero _)⟩
 | m+1,back,was,next,sp,st,hok,hl,ho,hw,hr=>by
  obtain ⟨h4,hd⟩:=Zbw hl;have hot:∀ p ∈ back.take 4,p.ok=true:=fun p hp=>ho p (List.mem_of_mem_take hp)
  have hwd:=Ziv hw;obtain ⟨hg,_⟩:=JK h4 hot hn hwd.okp hok;have hst:=Z6.fan (c:=back.take 4) (lv:=(n:Int)) (w:=was.headD PtrD.zero) hok
  cases hb:(Zj st (back.take 4) (n:Int) (was.headD PtrD.zero)).ok with
  | false=>rw [Zah hb] at hr;cases hr
  | true =>
   rw [Uj hb] at hr ⊢;obtain ⟨i1,i2⟩:=Zb9 hn (hg.ok hok) hd (fun p hp=>ho p (List.mem_of_mem_drop hp)) (fun w hw2=>(hw w (List.mem_of_mem_drop hw2)).still hst) hr;refine ⟨fun q hq=>i1 q ?_,fun j w hj hwj hh hk=>?_⟩
   ·unfold Zat;split
    ·exact List.mem_append_left _ hq
    ·exact hq
   ·cases j with
    | zero =>
     cases was with
     | nil=>cases hwj
     | cons w0 r =>
      obtain rfl:w0=w:=by simpa using hwj
      refine i1 w0 ?_;rw [Nat.mul_zero,drop_zero] at hk;have:=(ZaW hh hk h4 hot).1 rfl;rw [List.headD_cons,Zds this];exact List.mem_append_right _ (mem_singleton.2 rfl)
    | succ j =>
     have hwo:=(hw w (List.mem_of_getElem? hwj)).okp;refine i2 j w (by omega) (by rw [List.getElem?_drop,Nat.add_comm];exact hwj) hh ?_;rw [List.drop_drop,show 4+4*j=4*(j+1) by omega];exact hst.kids hwo hk
theorem Zfw {lv:Int}:∀ {j:Nat} {was next sy:List PtrD} {st:Za},Yv lv j (replicate (4*j) PtrD.zero) was st next sy=⟨st,next++replicate j PtrD.zero,sy,true⟩
 | 0,_,_,_,_=>by unfold Yv;simp
 | j+1,was,next,sy,st=>by
  have ht:(replicate (4*(j+1)) PtrD.zero).take 4=replicate 4 PtrD.zero:=by rw [List.take_replicate];congr 1 <;> omega
  have hd:(replicate (4*(j+1)) PtrD.zero).drop 4=replicate (4*j) PtrD.zero:=by rw [List.drop_replicate];congr 1 <;> omega
  have ha:(replicate 4 PtrD.zero).all (fun p=>p.hole)=true:=rfl;rw [Uj (by rw [ht,Xj ha]),ht,hd,Xj ha,JM (fun e=>by rw [ha] at e;cases e.1),Zfw,List.append_assoc]
  rfl
theorem Zix {lv:Int} {j:Nat}:∀ {m:Nat} {back was next sy:List PtrD} {st:Za},back.length=4*m→Yv lv (m+j) (back++replicate (4*j) PtrD.zero) was st next sy=if (Yv lv m back was st next sy).ok=true then ⟨(Yv lv m back was st next sy).st,(Yv lv m back was st next sy).next++replicate j PtrD.zero,(Yv lv m back was st next sy).stays,true⟩ else Yv lv m back was st next sy
 | 0,back,was,next,sy,st,h=>by
  obtain rfl:=List.length_eq_zero_iff.1 (show back.length=0 by omega);rw [nil_append,Nat.zero_add,Zfw];unfold Yv;rw [if_pos rfl]
 | m+1,back,was,next,sy,st,h=>by
  have ht:(back++replicate (4*j) PtrD.zero).take 4=back.take 4:=List.take_append_of_le_length (by omega);have hd:(back++replicate (4*j) PtrD.zero).drop 4=back.drop 4++replicate (4*j) PtrD.zero:=List.drop_append_of_le_length (by omega);rw [Nat.succ_add]
  cases hb:(Zj st (back.take 4) lv (was.headD PtrD.zero)).ok with
  | true =>
   rw [Uj (by rw [ht];exact hb),Uj hb,ht,hd,Zix (Zbw h).2]
  | false =>
   rw [Zah (by rw [ht];exact hb),Zah hb,ht,if_neg Bool.false_ne_true]
theorem Ziy {lv:Int}:∀ {m:Nat} {back was next sy:List PtrD} {st:Za},(Yv lv m back was st next sy).ok=true→(Yv lv m back was st next sy).next.length=next.length+m
 | 0,_,_,_,_,_,_=>rfl
 | m+1,back,was,next,sy,st,h=>by
  cases hb:(Zj st (back.take 4) lv (was.headD PtrD.zero)).ok with
  | true=>rw [Uj hb] at h ⊢;rw [Ziy h,length_append,length_singleton];omega
  | false=>rw [Zah hb] at h;cases h
def Yw (dp lv:Nat) (l:List PtrD):List PtrD:=if lv=1∧dp=2 then l++replicate (16 - l.length) PtrD.zero else YF l
theorem Uw {dp lv:Nat} {l:List PtrD} (h:∀ p ∈ l,p.ok=true):∀ p ∈ Yw dp lv l,p.ok=true:=fun p hp=>by
 unfold Yw at hp
 split at hp
 ·rcases mem_append.1 hp with hp|hp
  ·exact h p hp
  ·rw [(List.mem_replicate.1 hp).2];rfl
 ·exact ZcW h p hp
noncomputable def Zaw (t:Zf) (dp:Nat) (st0:Za):Nat→Nat→Za→List PtrD→List PtrD→Jw
 | 0,_,st,list,sy=>⟨st,list,sy,true⟩
 | n+1,lv,st,list,sy =>
  if (Yv (lv:Int) ((Yw dp lv list).length / 4) (Yw dp lv list) (Zx st0 t dp lv) st [] sy).ok=true
  then Zaw t dp st0 n (lv+1) (Yv (lv:Int) ((Yw dp lv list).length / 4) (Yw dp lv list) (Zx st0 t dp lv) st [] sy).st (Yv (lv:Int) ((Yw dp lv list).length / 4) (Yw dp lv list) (Zx st0 t dp lv) st [] sy).next (Yv (lv:Int) ((Yw dp lv list).length / 4) (Yw dp lv list) (Zx st0 t dp lv) st [] sy).stays
  else Yv (lv:Int) ((Yw dp lv list).length / 4) (Yw dp lv list) (Zx st0 t dp lv) st [] sy
theorem JO {t:Zf} {dp n lv:Nat} {st0 st:Za} {list sy:List PtrD} {r:Jw} (hr:Yv (lv:Int) ((Yw dp lv list).length / 4) (Yw dp lv list) (Zx st0 t dp lv) st [] sy=r) (h:r.ok=true):Zaw t dp st0 (n+1) lv st list sy=Zaw t dp st0 n (lv+1) r.st r.next r.stays:=by
 subst hr;rw [Zaw,if_pos h]
theorem Zbx {t:Zf} {dp n lv:Nat} {st0 st:Za} {list sy:List PtrD} {r:Jw} (hr:Yv (lv:Int) ((Yw dp lv list).length / 4) (Yw dp lv list) (Zx st0 t dp lv) st [] sy=r) (h:r.ok=false):Zaw t dp st0 (n+1) lv st list sy=r:=by
 subst hr;rw [Zaw,if_neg (by rw [h];decide)]
theorem ZmD {st:Za} {n:Nat} {w:PtrD} (h:Wf st (n+1) w):XS st (n+1) w:=by
 obtain ⟨ho,_,l,hk,_⟩:=h
 cases hh:w.hole with
 | true=>exact .inl hh
 | false=>exact .inr ⟨ho,hh,l,hk⟩
theorem Zju {w:PtrD} (h:w ∈ XO):w.hole=true:=by
 simp only [XO,mem_cons,not_mem_nil,or_false,or_self] at h;rw [h];rfl
theorem J8 {st:Za} {t:Zf} {d dp lv:Nat} (hd:t.az=(d:Int)) (hw:Wf st d t.ac) (h1:1≤lv) (hl:lv≤dp) (h2:dp≤2):∀ w ∈ Zx st t dp lv,XS st lv w:=fun w hm=>by
 unfold Zx at hm
 split at hm
 ·next e =>
  obtain rfl:d=dp:=by omega
  split at hm
  ·next e2 =>
   rw [mem_singleton.1 hm];obtain ⟨m,rfl⟩:∃ m,d=m+1:=⟨d - 1,by omega⟩;rw [e2];exact ZmD hw
  ·next e2 =>
   obtain ⟨rfl,rfl⟩:d=2∧lv=1:=by omega
   obtain ⟨l,hk,_,hwl⟩:=VO hw;have hk:kidsS st t.ac ((2:Nat):Int)=some l:=hk;rw [hk] at hm;exact ZmD (hwl w hm)
 ·exact .inl (Zju hm)
theorem Zn6 {st st':Za} {t:Zf} {dp:Nat}:Zx st' t dp dp=Zx st t dp dp:=by unfold Zx;rw [if_pos rfl,if_pos rfl]
structure ZoA (st:Za) (r:Jw) (R:Jw):Prop where
  st_:r.st=R.st
  ok_:r.ok=R.ok
  hd:r.ok=true→r.next.headD PtrD.zero=R.next.headD PtrD.zero
  kept:XB R.stays r.stays
  still:Z6 st r.st
  ok:r.st.ok=true
  txg:r.st.aq=st.aq
theorem Zn7 {st:Za} {t:Zf} {d dp:Nat} {ls:List PtrD} (hd:t.az=(d:Int)) (hw:Wf st d t.ac) (hok:st.ok=true) (hlo:∀ p ∈ ls,p.ok=true) (hdp:depthN (ls.length:Int)=dp) (h16:ls.length≤16):ZoA st (Zaw t dp st dp 1 st ls []) (Jy t dp dp 1 st ls []):=by
 have h2:dp≤2:=hdp ▸ YU _;rcases (by omega:dp=0∨dp=1∨dp=2) with rfl|rfl|rfl
 ·exact ⟨rfl,rfl,fun _=>rfl,XB.start,Z6.refl _,hok,rfl⟩
 ·have hp:Yw 1 1 ls=YF ls:=if_neg (by omega)
  have hm:(YF ls).length=4*((YF ls).length / 4):=by rw [VM];omega
  obtain ⟨a1,a2,a3,a4,a5,a6,a7⟩:=Zeo (n:=1) rfl XB.start hok hm (ZcW hlo) (J8 hd hw (Nat.le_refl _) (Nat.le_refl _) h2) (next:=[]) (was:=Zx st t 1 1);rw [ZgF]
  cases hb:(Yv ((1:Nat):Int) ((YF ls).length / 4) (YF ls) (Zx st t 1 1) st [] []).ok with
  | true =>
   rw [JO (by rw [hp]) hb];exact ⟨a1,by rw [← a3,hb];rfl,fun _=>by rw [← a2];rfl,a4,a5,a6,a7⟩
  | false =>
   rw [Zbx (by rw [hp]) hb];exact ⟨a1,a3,fun h=>(by rw [hb] at h;cases h),a4,a5,a6,a7⟩
 ·have hn4:4<ls.length:=by
   unfold depthN at hdp
   split at hdp
   ·cases hdp
   ·split at hdp
    ·cases hdp
    ·omega
  have hp:Yw 2 1 ls=ls++replicate (16 - ls.length) PtrD.zero:=if_pos ⟨rfl,rfl⟩;have hl4:=VM ls;obtain ⟨m,hmm⟩:∃ m,m=(YF ls).length / 4:=⟨_,rfl⟩;have hm:(YF ls).length=4*m:=by omega
  have hm4:m≤4:=by omega
  have hm2:2≤m:=by omega
  have hpp:Yw 2 1 ls=YF ls++replicate (4*(4 - m)) PtrD.zero:=by
   rw [hp];unfold YF;rw [List.append_assoc,List.replicate_append_replicate]
   congr 2
   omega
  have hq:(Yw 2 1 ls).length / 4=m+(4 - m):=by rw [hp,length_append,length_replicate];omega
  obtain ⟨a1,a2,a3,a4,a5,a6,a7⟩:=Zeo (n:=1) rfl XB.start hok hm (ZcW hlo) (J8 hd hw (Nat.le_refl _) (by omega) h2) (next:=[]) (was:=Zx st t 2 1);have happ:=Zix (lv:=((1:Nat):Int)) (j:=4 - m) (back:=YF ls) (was:=Zx st t 2 1) (next:=[]) (sy:=[]) (st:=st) hm
  cases hb:(Yv ((1:Nat):Int) m (YF ls) (Zx st t 2 1) st [] []).ok with
  | false =>
   rw [hb,if_neg Bool.false_ne_true] at happ;rw [Zbx (r:=Yv ((1:Nat):Int) m (YF ls) (Zx st t 2 1) st [] []) (by rw [hq,hpp];exact happ) hb];have hR:Jy t 2 2 1 st ls []=QJ ((1:Nat):Int) m (YF ls) (Zx st t 2 1) st [] []:=by
    rw [Jy,← hmm,if_neg (by rw [← a3,hb];decide)]
   rw [hR];exact ⟨a1,a3,fun h=>(by rw [hb] at h;cases h),a4,a5,a6,a7⟩
  | true =>
   rw [hb,if_pos rfl] at happ;rw [JO (r:=⟨(Yv ((1:Nat):Int) m (YF ls) (Zx st t 2 1) st [] []).st,(Yv ((1:Nat):Int) m (YF ls) (Zx st t 2 1) st [] []).next++replicate (4 - m) PtrD.zero,(Yv ((1:Nat):Int) m (YF ls) (Zx st t 2 1) st [] []).stays,true⟩) (by rw [hq,hpp];exact happ) rfl];have hR:Jy t 2 2 1 st ls []=Jy t 2 1 2 (QJ ((1:Nat):Int) m (YF ls) (Zx st t 2 1) st [] []).st (QJ ((1:Nat):Int) m (YF ls) (Zx st t 2 1) st [] []).next (QJ ((1:Nat):Int) m (YF ls) (Zx st t 2 1) st [] []).stays:=by
    rw [Jy,← hmm,if_pos (by rw [← a3,hb])]
   rw [hR,ZgF];have hnl:=Ziy hb;rw [a2,length_nil,Nat.zero_add] at hnl;have e1:YF (QJ ((1:Nat):Int) m (YF ls) (Zx st t 2 1) st [] []).next=(QJ ((1:Nat):Int) m (YF ls) (Zx st t 2 1) st [] []).next++replicate (4 - m) PtrD.zero:=by
    show _++replicate ((4 - length _ % 4) % 4) PtrD.zero=_;rw [hnl]
    congr 2
    omega
   have e2:Yw 2 2 ((Yv ((1:Nat):Int) m (YF ls) (Zx st t 2 1) st [] []).next++replicate (4 - m) PtrD.zero)=YF (QJ ((1:Nat):Int) m (YF ls) (Zx st t 2 1) st [] []).next:=by
    have hlen:((QJ ((1:Nat):Int) m (YF ls) (Zx st t 2 1) st [] []).next++replicate (4 - m) PtrD.zero).length=4:=by rw [length_append,length_replicate,hnl];omega
    rw [e1,a2,show Yw 2 2 _=YF _ from if_neg (by omega)];show _++replicate ((4 - length _ % 4) % 4) PtrD.zero=_;rw [hlen];exact append_nil _
   have hbo:∀ p ∈ (QJ ((1:Nat):Int) m (YF ls) (Zx st t 2 1) st [] []).next++replicate (4 - m) PtrD.zero,p.ok=true:=fun p hp=>by
    rcases mem_append.1 hp with hp|hp
    ·rw [← a2] at hp;exact Ziw (n:=1) rfl hok hm (ZcW hlo) (J8 hd hw (Nat.le_refl _) (by omega) h2) (fun _ h=>by cases h) p hp
    ·rw [(List.mem_replicate.1 hp).2];rfl
   have hw2:∀ w ∈ Zx st t 2 2,XS (Yv ((1:Nat):Int) m (YF ls) (Zx st t 2 1) st [] []).st 2 w:=fun w hw9=>(J8 hd hw (by omega) (Nat.le_refl _) h2 w hw9).still a5
   have hlen4:(YF (QJ ((1:Nat):Int) m (YF ls) (Zx st t 2 1) st [] []).next).length=4*1:=by rw [e1,length_append,length_replicate,hnl];omega
   obtain ⟨b1,b2,b3,b4,b5,b6,b7⟩:=Zeo (n:=2) rfl a4 a6 hlen4 (by rw [e1];exact hbo) hw2 (next:=[]) (was:=Zx st t 2 2);have e3:(YF (QJ ((1:Nat):Int) m (YF ls) (Zx st t 2 1) st [] []).next).length / 4=1:=by rw [hlen4]
   rw [← a1,e3,Zn6 (st:=st)]
   cases hb2:(Yv ((2:Nat):Int) 1 (YF (QJ ((1:Nat):Int) m (YF ls) (Zx st t 2 1) st [] []).next) (Zx st t 2 2) (Yv ((1:Nat):Int) m (YF ls) (Zx st t 2 1) st [] []).st [] (Yv ((1:Nat):Int) m (YF ls) (Zx st t 2 1) st [] []).stays).ok with
   | true =>
    rw [JO (by rw [e2,e3]) hb2];exact ⟨b1,by rw [← b3,hb2];rfl,fun _=>by rw [← b2];rfl,b4,a5.trans b5,b6,b7.trans a7⟩
   | false =>
    rw [Zbx (by rw [e2,e3]) hb2];exact ⟨b1,b3,fun h=>(by rw [hb2] at h;cases h),b4,a5.trans b5,b6,b7.trans a7⟩
structure SQ where
  a0:Option Addr
  c0:Nat
  a1:Option Addr
  c1:Nat
  a2:Option Addr
  c2:Nat
  a4:Option Addr
  c4:Nat
  a6:Option Addr
  c6:Nat
  d:Za
abbrev SQ.l (q:SQ):List Value:=[.slice q.a0 q.d.af.length q.c0,.slice q.a1 q.d.aa.ab.length q.c1,.slice q.a2 q.d.aa.ag.length q.c2,.int .i64 q.d.aq,.slice q.a4 q.d.ai.length q.c4,.int .i64 q.d.ar,.slice q.a6 q.d.aj.length q.c6,.bool q.d.au]
abbrev SQ.u (q:SQ):Value:=.agg #[.slice q.a0 q.d.af.length q.c0,.slice q.a1 q.d.aa.ab.length q.c1,.slice q.a2 q.d.aa.ag.length q.c2,.int .i64 q.d.aq,.slice q.a4 q.d.ai.length q.c4,.int .i64 q.d.ar,.slice q.a6 q.d.aj.length q.c6,.bool q.d.au]
def SQ.v (q:SQ):Value:=.agg #[.slice q.a0 q.d.af.length q.c0,.slice q.a1 q.d.aa.ab.length q.c1,.slice q.a2 q.d.aa.ag.length q.c2,.int .i64 q.d.aq,.slice q.a4 q.d.ai.length q.c4,.int .i64 q.d.ar,.slice q.a6 q.d.aj.length q.c6,.bool q.d.au]
def SQ.rows (q:SQ):List Asr:=[Zd Zt 1 9 (.slice q.a0 q.d.af.length q.c0) q.d.af,Zd Zu 1 3 (.slice q.a1 q.d.aa.ab.length q.c1) q.d.aa.ab,Zd Zu 1 3 (.slice q.a2 q.d.aa.ag.length q.c2) q.d.aa.ag,Zd PtrD.cells 5 40 (.slice q.a4 q.d.ai.length q.c4) q.d.ai,Zd PtrD.cells 5 40 (.slice q.a6 q.d.aj.length q.c6) q.d.aj]
def SQ.asr (q:SQ):Asr:=sepA q.rows
theorem St.sqOut {W w:World} {q:SQ} {F:List Asr} (h:St W (q.asr::F) w):St W (q.rows++F) w:=St.join.2 h
theorem St.sqIn {W w:World} {q:SQ} {F:List Asr} (h:St W (q.rows++F) w):St W (q.asr::F) w:=St.join.1 h
theorem St.sqRd {W w:World} {s:List Asr} (h:St W s w) (i:Nat) {q:SQ} (hi:s[i]? = some q.asr):Rd Zt 1 w q.a0 q.d.af.length q.d.af:=St.rdOf (h.pick i hi).sqOut encS_len 0 rfl
theorem ZcZ (w0 w:World) (q:SQ) (text:ByteArray) (level:Int) (F:List Asr) (hok:q.d.ok=true) (hsz:inB (text.size:Int) 1 128=true) (hlv:inB level 0 2=true) (hS:St w0 (q.asr::F) w) :
  Calls prog 80 #[.agg #[.slice q.a0 q.d.af.length q.c0,.slice q.a1 q.d.aa.ab.length q.c1,.slice q.a2 q.d.aa.ag.length q.c2,.int .i64 q.d.aq,.slice q.a4 q.d.ai.length q.c4,.int .i64 q.d.ar,.slice q.a6 q.d.aj.length q.c6,.bool q.d.au],.string text,.int .i64 level] w fun e w'=>∃ (q':SQ) (r:Zfq),r=Xk q.d text level∧q'={ q with d:=r.st }∧e=.returned (.tuple #[.agg #[.slice q'.a0 q'.d.af.length q'.c0,.slice q'.a1 q'.d.aa.ab.length q'.c1,.slice q'.a2 q'.d.aa.ag.length q'.c2,.int .i64 q'.d.aq,.slice q'.a4 q'.d.ai.length q'.c4,.int .i64 q'.d.ar,.slice q'.a6 q'.d.aj.length q'.c6,.bool q'.d.au],.agg #[.int .i64 r.p.aA,.int .i64 r.p.ah,.int .i64 r.p.al,.int .i64 r.p.ax,.int .i64 r.p.ak],.bool r.ok])∧St w0 (q'.asr::F) w':=by
 have hOK:=Za.ok_spec hok;have hSP:=Zp.ok_spec hOK.space;have hs2:=Zo hsz;have hWS:=ZoR (level:=level) hok hsz;refine (Zir w0 w q.a0 q.c0 q.a1 q.c1 q.a2 q.c2 q.a4 q.c4 q.a6 q.c6 q.d text level F hS.sqOut hOK.rows hSP.refs hSP.last (by omega) hSP.all).mono ?_;rintro e w' (⟨hws,rfl,hs1⟩|⟨i,hi6,hws,⟨hpf,rfl,hs1⟩|⟨hpt,rfl,hs1⟩⟩)
 ·exact ⟨q,_,rfl,by rw [Js (hWS.1 hws)] <;> rfl,by rw [Js (hWS.1 hws)];rfl,St.sqIn hs1⟩
 ·have hwa:=hWS.2 i hws
  obtain ⟨_,_,_,hpk,_⟩:=Zmu hok hsz hlv hi6 hwa;rw [hpk] at hpf;cases hpf
 ·have hwa:=hWS.2 i hws
  have e0:(q.d.af.set i text).length=q.d.af.length:=length_set;have e1:(q.d.aa.ab.set i (q.d.aa.ab.getD i 0+1)).length=q.d.aa.ab.length:=length_set;have e2:(q.d.aa.ag.set i q.d.aq).length=q.d.aa.ag.length:=length_set;refine ⟨⟨q.a0,q.c0,q.a1,q.c1,q.a2,q.c2,q.a4,q.c4,q.a6,q.c6,q.d.putAt i (q.d.af.set i text)⟩,_,rfl,by rw [QK hi6 hwa] <;> rfl,?_,?_⟩
  ·rw [QK hi6 hwa];dsimp only [Za.putAt];rw [e0,e1,e2,Zbe hpt]
  ·refine St.sqIn ?_
   show St w0 ([Zd Zt 1 _ (.slice q.a0 (q.d.af.set i text).length q.c0) (q.d.af.set i text),Zd Zu 1 _ (.slice q.a1 (q.d.aa.ab.set i (q.d.aa.ab.getD i 0+1)).length q.c1) (q.d.aa.ab.set i (q.d.aa.ab.getD i 0+1)),Zd Zu 1 _ (.slice q.a2 (q.d.aa.ag.set i q.d.aq).length q.c2) (q.d.aa.ag.set i q.d.aq),_,_]++F) w';rw [e0,e1,e2];exact hs1
theorem Zdt {l:List PtrD} (h:l.length≤4):(YW l).size≤4398046511108:=by
 have:=ZeP (l.map Z5) Zma (Zj4 l);rw [length_map] at this;have e:Zma.size=1:=rfl;rw [e] at this;have h2:l.length*(1+1099511627776)≤4*(1+1099511627776):=Nat.mul_le_mul_right _ h;unfold YW;omega
theorem UJ {xs:List PtrD} {i:Nat} (hi:i<xs.length):xs.take (i+1)=xs.take i++[xs.getD i PtrD.zero]:=by
 rw [List.take_succ_eq_append_getElem hi,getD_eq_getElem?_getD,getElem?_eq_getElem hi];rfl
theorem Zfx {xs:List PtrD} {i:Nat} (hi:i<xs.length) (h0:i=0):YW (xs.take i)++Z5 (xs.getD i PtrD.zero)=YW (xs.take (i+1)):=by
 subst h0;rw [UJ hi];unfold YW;rw [take_zero,nil_append,List.map_nil,map_cons,List.map_nil,ZkY,ZkZ];exact ByteArray.ext (by simp)
theorem ZgG {xs:List PtrD} {i:Nat} (hi:i<xs.length) (h0:0<i):(YW (xs.take i)++(⟨#[44]⟩:ByteArray))++Z5 (xs.getD i PtrD.zero)=YW (xs.take (i+1)):=by
 rw [UJ hi];unfold YW;obtain ⟨a,r,e⟩:∃ a r,xs.take i=a::r:=by
  cases h:xs.take i with
  | nil=>have:=congrArg length h;rw [length_take,length_nil] at this;omega
  | cons a r=>exact ⟨a,r,rfl⟩
 rw [e,map_append,map_cons,map_cons,List.map_nil,Zjt];rfl
theorem VP {xs:List PtrD} {i:Nat} (hi:i<xs.length) (f:PtrD→Bool):(xs.take (i+1)).any f=((xs.take i).any f || f (xs.getD i PtrD.zero)):=by
 rw [UJ hi,List.any_append,List.any_cons,List.any_nil,Bool.or_false]
theorem Zn8 {xs:List PtrD}:(xs.any fun p=>!p.hole)=!(xs.all fun p=>p.hole):=by
 induction xs with
 | nil=>rfl
 | cons p r ih=>rw [List.any_cons,List.all_cons,ih,Bool.not_and]
theorem ZgH {xs:List PtrD} {i:Nat} (hi:i<xs.length) (f:PtrD→Bool):(xs.take (i+1)).all f=((xs.take i).all f && f (xs.getD i PtrD.zero)):=by
 rw [UJ hi,List.all_append,List.all_cons,List.all_nil,Bool.and_true]
theorem ZmE {xs:List PtrD} {i:Nat} {f:PtrD→Bool} (h:(xs.take i).all f=false):xs.all f=false:=by
 rw [← List.take_append_drop i xs,List.all_append,h,Bool.false_and]
theorem Zjv (ao:Option Addr) (n cap:Nat) (xs:List PtrD) (w0:World) (hnl:n≤1048576) (hR:Rd PtrD.cells 5 w0 ao n xs):Calls prog 140 #[.slice ao n cap] w0 fun e w'=>e=.returned (.bool (xs.all fun p=>p.hole))∧Below w0.heap.size w0 w':=by
 have hn:=hR.len;obtain ⟨g0,o0,r0⟩:=hR.opn;have R0:=Bx.mk r0;clear r0;have E:=Bx.mk (St.start w0);refine ent func140 ntmps140 ?_;refine xsr<|xr 1 rfl<|xne<|xsq<|xsr<|xr 1 rfl<|xne<|xbl ?_;intro a O;refine ZD (ι:=Nat) (fun i a w=>(i≤n∧(xs.take i).all (fun p=>p.hole)=true)∧Fr 16 a [(0,.slice ao n cap),(3,.int .i64 (i:Int))]∧St w0 ([]) w) (fun i=>n - i) 0 ⟨⟨Nat.zero_le _,rfl⟩,O.ls _,E.o⟩ ?_;clear O E;clear a;rintro i a w1 ⟨⟨hi,hal⟩,O,E⟩;replace E:=Bx.mk E;revert a;refine xsq<|xsr<|xr 2 rfl<|xy rfl (vn 40 5 rfl)<|xr 1 rfl<|xne<|xcd 7 rfl (fun _ dcc1=>?_) fun _ dcc1=>?_
 refine xct rfl<|xsk<|xet<|xsq<|xbl<|xsr<|xr 2 rfl<|xy rfl (vxr 40 i 5 rfl (R0.out.ao i (by omega)))<|xy rfl (fun a O=>ylr (cs:=pL (xs.getD i PtrD.zero)) rfl (O.ev rfl) (R0.out.elem E.o (Zh (xs:=xs) (j:=i) (d:=PtrD.zero) (by omega)))) ?_;refine ycB (ZL (xs.getD i PtrD.zero) _) func49 E ?_;clear E;intro w2 E;refine xr 1 rfl<|xne<|xcs 15 rfl (fun cc2=>?_) fun cc2=>?_;refine xct rfl<|xsr<|xr 1 rfl<|xne<|xre<|xbr<|xtr<|xtr<|xbr<|xtr<|xb1 results140 rfl ?_;have hA:xs.all (fun p=>p.hole)=false:=ZmE (i:=i+1) (by rw [ZgH (by omega),show (xs.getD i PtrD.zero).hole=false from (by simpa using cc2),Bool.and_false]);exact ⟨by rw [hA],E.o.bel⟩;refine xcf rfl<|xsk<|xeb<|xet<|xrl<|xr 1 rfl<|xy rfl (vad rfl)<|xr 1 rfl<|xne ?_;have hst:(xs.take (i+1)).all (fun p=>p.hole)=true:=by rw [ZgH (by omega),hal,show (xs.getD i PtrD.zero).hole=true from (by simpa using cc2)];rfl
 intro a O;exact ⟨i+1,⟨⟨by omega,hst⟩,O.less _ ⟨rfl,rfl,trivial⟩,E.o⟩,(by omega)⟩;refine xcf rfl<|xex<|xtx<|xtx<|xbh<|xet<|xsr<|xr 1 rfl<|xne<|xre<|xb1 results140 rfl ?_;have hA:xs.all (fun p=>p.hole)=true:=(by rw [List.take_of_length_le (by omega)] at hal;exact hal);exact ⟨by rw [hA],E.o.bel⟩
theorem Zfy (ao:Option Addr) (cap:Nat) (xs:List PtrD) (w0:World) (hR:Rd PtrD.cells 5 w0 ao 4 xs) (hok:∀ p ∈ xs,p.ok=true) (hall:xs.all (fun p=>p.hole)=false):Calls prog 141 #[.slice ao 4 cap] w0 fun e w'=>e=.returned (.tuple #[.string (YW xs),.bool true])∧Below w0.heap.size w0 w':=by
 have hn:=hR.len;obtain ⟨g0,o0,r0⟩:=hR.opn;have R0:=Bx.mk r0;clear r0;have E:=Bx.mk (St.start w0);refine ent func141 ntmps141 ?_;refine xsr<|xr 2 rfl<|xne<|xsr<|xr 1 rfl<|xne<|xsr<|xr 1 rfl<|xne<|xsq<|xsr<|xr 1 rfl<|xy rfl (vn 40 5 rfl)<|xr 1 rfl<|xne ?_;intro a O;replace O:=O.know (k:=9) (c:=false) rfl (by decide);revert a;refine xcf rfl<|xsk<|xet<|xsq<|xsr<|xr 1 rfl<|xne<|xbl ?_;intro a O;refine ZD (ι:=Nat) (fun i a w=>(i≤4∧(YW (xs.take i)).size≤4398046511108)∧Fr 45 a [(0,.slice ao 4 cap),(4,.string (YW (xs.take i))),(5,.bool ((xs.take i).any fun p=>!p.hole)),(6,.int .i64 (i:Int))]∧St w0 ([]) w) (fun i=>4 - i) 0 ⟨⟨Nat.zero_le _,Zdt (by simp)⟩,O.less _ ⟨rfl,rfl,rfl,rfl,trivial⟩,E.o⟩ ?_;clear O E;clear a;rintro i a w1 ⟨⟨hi,hfs⟩,O,E⟩;replace E:=Bx.mk E;have hpl:=ZcE (xs.getD i PtrD.zero);revert a;refine xsq<|xsr<|xr 2 rfl<|xy rfl (vn 40 5 rfl)<|xr 1 rfl<|xne<|xcd 13 rfl (fun _ dcc1=>?_) fun _ dcc1=>?_
 refine xct rfl<|xsk<|xet<|xsq<|xbl<|xsq<|xsr<|xr 2 rfl<|xy rfl (vxr 40 i 5 rfl (R0.out.ao i (by omega)))<|xy rfl (fun a O=>ylr (cs:=pL (xs.getD i PtrD.zero)) rfl (O.ev rfl) (R0.out.elem E.o (Zh (xs:=xs) (j:=i) (d:=PtrD.zero) (by omega)))) ?_;refine ycB (ZZ (xs.getD i PtrD.zero) _) func48 E ?_;clear E;intro w2 E;refine xr 1 rfl<|xne<|xcs 21 rfl (fun cc2=>?_) fun cc2=>?_;have h9:=hok _ (YI (xs:=xs) (i:=i) (by omega));rw [h9] at cc2;cases cc2;refine xcf rfl<|xsk<|xet<|xsr<|xr 2 rfl<|xcs 23 rfl (fun cc3=>?_) fun cc3=>?_;refine xr 8 rfl<|xne<|xsq<|xsr<|xr 2 rfl<|xne<|xcd 32 rfl (fun _ dcc4=>?_) fun _ dcc4=>?_;refine xct rfl<|xrl<|xr 1 rfl<|xy rfl (fun a O=>Y9 rfl (O.ev rfl) (O.ev rfl) (by (try simp only [Uf,Z7]);omega))<|xr 1 rfl<|xne<|xrl<|xr 3 rfl<|xy rfl (vxr 40 i 5 rfl (R0.out.ao i (by omega)))<|xy rfl (fun a O=>ylr (cs:=pL (xs.getD i PtrD.zero)) rfl (O.ev rfl) (R0.out.elem E.o (Zh (xs:=xs) (j:=i) (d:=PtrD.zero) (by omega)))) ?_;refine ycB (Ug (xs.getD i PtrD.zero) _) func85 E ?_;clear E;intro w3 E;refine xy rfl (fun a O=>Y9 rfl (O.ev rfl) (O.ev rfl) (by (try simp only [Uf,Z7]);omega))<|xr 1 rfl<|xni<|xeb<|xet<|xrl<|xr 1 rfl<|xy rfl (vad rfl)<|xr 1 rfl<|xne ?_;have hfan:=ZgG (xs:=xs) (i:=i) (by omega) (by omega);have hany:=VP (xs:=xs) (i:=i) (by omega) (fun p=>!p.hole);rw [cc3] at hany;simp only [Bool.true_or] at hany;intro a O;exact ⟨i+1,⟨⟨by omega,Zdt (by rw [length_take];omega)⟩,O.less _ ⟨rfl,(congrArg (fun z=>some (Value.string z)) hfan),(congrArg (fun z=>some (Value.bool z)) hany.symm),rfl,trivial⟩,E.o⟩,(by omega)⟩;refine xcf rfl<|xsk<|xet<|xrl<|xr 3 rfl<|xy rfl (vxr 40 i 5 rfl (R0.out.ao i (by omega)))<|xy rfl (fun a O=>ylr (cs:=pL (xs.getD i PtrD.zero)) rfl (O.ev rfl) (R0.out.elem E.o (Zh (xs:=xs) (j:=i) (d:=PtrD.zero) (by omega)))) ?_;refine ycB (Ug (xs.getD i PtrD.zero) _) func85 E ?_;clear E;intro w4 E;refine xy rfl (fun a O=>Y9 rfl (O.ev rfl) (O.ev rfl) (by (try simp only [Uf,Z7]);omega))<|xr 1 rfl<|xni<|xeb<|xet<|xrl<|xr 1 rfl<|xy rfl (vad rfl)<|xr 1 rfl<|xne ?_;have hfan:=Zfx (xs:=xs) (i:=i) (by omega) (by omega);have hany:=VP (xs:=xs) (i:=i) (by omega) (fun p=>!p.hole);rw [cc3] at hany;simp only [Bool.true_or] at hany;intro a O;exact ⟨i+1,⟨⟨by omega,Zdt (by rw [length_take];omega)⟩,O.less _ ⟨rfl,(congrArg (fun z=>some (Value.string z)) hfan),(congrArg (fun z=>some (Value.bool z)) hany.symm),rfl,trivial⟩,E.o⟩,(by omega)⟩;refine xr 2 rfl<|xy rfl (vxr 40 i 5 rfl (R0.out.ao i (by omega)))<|xy rfl (fun a O=>ylr (cs:=pL (xs.getD i PtrD.zero)) rfl (O.ev rfl) (R0.out.elem E.o (Zh (xs:=xs) (j:=i) (d:=PtrD.zero) (by omega)))) ?_;refine Ji (ZL (xs.getD i PtrD.zero) _) func49 E ?_;clear E;intro w5 E;refine xr 3 rfl<|xne<|xsq<|xsr<|xr 2 rfl<|xne<|xcd 32 rfl (fun _ dcc5=>?_) fun _ dcc5=>?_;refine xct rfl<|xrl<|xr 1 rfl<|xy rfl (fun a O=>Y9 rfl (O.ev rfl) (O.ev rfl) (by (try simp only [Uf,Z7]);omega))<|xr 1 rfl<|xne<|xrl<|xr 3 rfl<|xy rfl (vxr 40 i 5 rfl (R0.out.ao i (by omega)))<|xy rfl (fun a O=>ylr (cs:=pL (xs.getD i PtrD.zero)) rfl (O.ev rfl) (R0.out.elem E.o (Zh (xs:=xs) (j:=i) (d:=PtrD.zero) (by omega)))) ?_;refine ycB (Ug (xs.getD i PtrD.zero) _) func85 E ?_;clear E;intro w6 E;refine xy rfl (fun a O=>Y9 rfl (O.ev rfl) (O.ev rfl) (by (try simp only [Uf,Z7]);omega))<|xr 1 rfl<|xni<|xeb<|xet<|xrl<|xr 1 rfl<|xy rfl (vad rfl)<|xr 1 rfl<|xne ?_;have hfan:=ZgG (xs:=xs) (i:=i) (by omega) (by omega);have hany:=VP (xs:=xs) (i:=i) (by omega) (fun p=>!p.hole);rw [cc3] at hany;simp only [Bool.false_or] at hany;intro a O;exact ⟨i+1,⟨⟨by omega,Zdt (by rw [length_take];omega)⟩,O.less _ ⟨rfl,(congrArg (fun z=>some (Value.string z)) hfan),(congrArg (fun z=>some (Value.bool z)) hany.symm),rfl,trivial⟩,E.o⟩,(by omega)⟩;refine xcf rfl<|xsk<|xet<|xrl<|xr 3 rfl<|xy rfl (vxr 40 i 5 rfl (R0.out.ao i (by omega)))<|xy rfl (fun a O=>ylr (cs:=pL (xs.getD i PtrD.zero)) rfl (O.ev rfl) (R0.out.elem E.o (Zh (xs:=xs) (j:=i) (d:=PtrD.zero) (by omega)))) ?_;refine ycB (Ug (xs.getD i PtrD.zero) _) func85 E ?_;clear E;intro w7 E;refine xy rfl (fun a O=>Y9 rfl (O.ev rfl) (O.ev rfl) (by (try simp only [Uf,Z7]);omega))<|xr 1 rfl<|xni<|xeb<|xet<|xrl<|xr 1 rfl<|xy rfl (vad rfl)<|xr 1 rfl<|xne ?_;have hfan:=Zfx (xs:=xs) (i:=i) (by omega) (by omega);have hany:=VP (xs:=xs) (i:=i) (by omega) (fun p=>!p.hole);rw [cc3] at hany;simp only [Bool.false_or] at hany;intro a O;exact ⟨i+1,⟨⟨by omega,Zdt (by rw [length_take];omega)⟩,O.less _ ⟨rfl,(congrArg (fun z=>some (Value.string z)) hfan),(congrArg (fun z=>some (Value.bool z)) hany.symm),rfl,trivial⟩,E.o⟩,(by omega)⟩;refine xcf rfl<|xex<|xtx<|xtx<|xbh<|xet<|xsq<|xsr<|xr 2 rfl<|xne<|xcs 43 rfl (fun cc6=>?_) fun cc6=>?_;refine xct rfl<|xsr<|xr 2 rfl<|xne<|xre<|xtr<|xb2 results141 rfl rfl ?_;have h9:(xs.take i).any (fun p=>!p.hole)=false:=by simpa using cc6
 rw [List.take_of_length_le (by omega),Zn8,hall] at h9;cases h9;refine xcf rfl<|xsk<|xet<|xsr<|xr 3 rfl<|xne<|xre<|xb2 results141 rfl rfl ?_;have hx9:xs.take i=xs:=List.take_of_length_le (by omega);exact ⟨by rw [hx9],E.o.bel⟩
theorem Ziz (a0:Option Addr) (c0:Nat) (a1:Option Addr) (c1:Nat) (a2:Option Addr) (c2:Nat) (a4:Option Addr) (c4:Nat) (a6:Option Addr) (c6:Nat) (st:Za) (t:Zf) (hkid:t.az=2→t.ac.hole=false→kidsS st t.ac 2≠none) (w0:World) (hR:Rd Zt 1 w0 a0 st.af.length st.af) (hrow:Y5 st):Calls prog 113 #[sV a0 c0 a1 c1 a2 c2 a4 c4 a6 c6 st,tV t] w0 fun e w'=>∃ ao cp,e=.returned (.slice ao (ZT st t).length cp)∧St w0 [Zd PtrD.cells 5 40 (.slice ao (ZT st t).length cp) (ZT st t)] w':=by
 have HR:=Bx.mk hR;clear hR;have E:=Bx.mk (St.start w0);refine ent func113 ntmps113 ?_;refine xsr ?_;refine ybx E ?_;clear E;intro w1 b1 E;refine ybx E ?_;clear E;intro w2 b2 E;refine xr 1 rfl<|xne<|xsr ?_;refine yem 40 5 E ?_;clear E;intro w3 b3 E;refine xr 1 rfl<|xne<|xsq<|xsr<|Xf 5 rfl<|Xl 0 E rfl rfl<|xr 2 rfl<|xce 13 rfl (fun cc1 dcc1=>?_) fun cc1 dcc1=>?_;refine xr 4 rfl<|xne<|xct rfl<|xsr<|xr 2 rfl<|xne<|xre<|xtr<|xb1 results113 rfl ?_;have hI:ZT st t=[]:=if_pos (by first|exact .inl (by omega)|exact .inr (by simpa using cc1));exact ⟨(some ⟨b3,0,none⟩),0,by rw [hI];rfl,by rw [hI];exact ((((E.o).nilRow PtrD.cells 5 40 (some ⟨b3,0,none⟩)).erase 2).erase 1)⟩;refine Xf 0 rfl<|Xw 0 5 E rfl rfl ?_;refine Ji (ZL t.ac _) func49 E ?_;clear E;intro w4 E;refine xr 1 rfl<|xne<|xcs 17 rfl (fun cc2=>?_) fun cc2=>?_;refine xct rfl<|xsr<|xr 2 rfl<|xne<|xre<|xtr<|xb1 results113 rfl ?_;have hI:ZT st t=[]:=if_pos (by first|exact .inl (by omega)|exact .inr (by simpa using cc2));exact ⟨(some ⟨b3,0,none⟩),0,by rw [hI];rfl,by rw [hI];exact ((((E.o).nilRow PtrD.cells 5 40 (some ⟨b3,0,none⟩)).erase 2).erase 1)⟩;have hnh:=cc2;refine xcf rfl<|xsk<|xet<|xsr<|xr 1 rfl<|Xf 0 rfl<|Xw 0 5 E rfl rfl ?_;refine ybs PtrD.cells 40 5 [t.ac] E ?_;clear E;intro b4 w5 E;replace E:=Bx.mk (E.o.nilRow PtrD.cells 5 40 (some ⟨b3,0,none⟩));refine yap Yz PtrD.cells_len E 0 (St.rdN E.o PtrD.cells_len 1 rfl) (Zn _) ?_;clear E;intro ao6 cp7 w6 E;refine xr 1 rfl<|xne<|xsq<|xsr<|Xf 5 rfl<|Xl 2 E rfl rfl<|xr 1 rfl<|xne<|xce 26 rfl (fun _ dcc3=>?_) fun _ dcc3=>?_;refine xct rfl<|xsr<|Xw 3 8 E rfl rfl<|Xf 0 rfl<|Xw 2 5 E rfl rfl ?_;refine yc (ZaN a0 c0 a1 c1 a2 c2 a4 c4 a6 c6 st t.ac 2 _ (HR.out.below E.o.bel) hrow) func77 ?_;rintro _ w7 (⟨l8,hk8,ao8,cp8,rfl,hs1⟩|⟨hk8,ao8,nn8,cp8,rfl,hb⟩);have hll8:=J4 hk8;refine ⟨_,rfl,?_⟩;replace E:=E.ad hs1;clear hs1;refine xr 5 rfl<|xne<|xsr<|xr 1 rfl<|xne<|xbl ?_;have hz9:([]:List PtrD).length+([t.ac]).length=(([])++([t.ac])).length:=by simp only [length_append,length_nil,length_cons]
 intro a O;rw [hz9] at E O;replace E:=E.pks [1];refine ZD (ι:=Nat) (fun i a w=>∃ (ao:Option Addr) (cp:Nat) (os:List PtrD),(i≤l8.length∧os=[t.ac]++(l8.take i).filter (fun p=>!p.hole))∧Fr 54 a [(2,.pointer (some ⟨b1,0,none⟩)),(3,.pointer (some ⟨b2,0,none⟩)),(6,.slice ao8 l8.length cp8),(5,.slice ao os.length cp),(8,.int .i64 (i:Int))]∧St w0 ([Zd PtrD.cells 5 40 (.slice ao os.length cp) os,Zd PtrD.cells 5 40 (.slice ao8 l8.length cp8) l8,Zd PtrD.cells 5 40 (.slice (some ⟨b4,0,none⟩) 1 1) ([t.ac]),boxA b2 7 42 (tV t),boxA b1 8 39 (sV a0 c0 a1 c1 a2 c2 a4 c4 a6 c6 st)]) w) (fun i=>l8.length - i) 0 ⟨_,_,_,⟨Nat.zero_le _,by rw [take_zero];rfl⟩,O.less _ ⟨rfl,rfl,rfl,rfl,rfl,trivial⟩,E.o⟩ ?_;clear O E;clear a;rintro i a w8 ⟨ao,cp,os,⟨hi,hos⟩,O,E⟩;replace E:=Bx.mk E;have hol:os.length≤5:=by rw [hos,length_append];have h9:=List.length_filter_le (fun p:PtrD=>!p.hole) (l8.take i);rw [length_take] at h9;simp only [length_singleton];omega
 revert a;refine xsq<|xsr<|xr 2 rfl<|xy rfl (vn 40 5 rfl)<|xr 1 rfl<|xne<|xcd 37 rfl (fun _ dcc4=>?_) fun _ dcc4=>?_
 refine xct rfl<|xsk<|xet<|xsq<|xbl<|xsq ?_;replace E:=E.pks [4,4,4,4,4];obtain ⟨g10,rfl,_,_,_,_⟩:=E.o.rowOpen 1 rfl (by omega);refine xrl<|xr 2 rfl<|xy rfl (vx 40 i 5 rfl)<|xy rfl (fun a O=>ylr (cs:=pL (l8.getD i PtrD.zero)) rfl (O.ev rfl) (E.o.elem PtrD.cells_len 1 rfl (Zh (xs:=l8) (j:=i) (d:=PtrD.zero) (by omega)))) ?_;refine ycB (ZL (l8.getD i PtrD.zero) _) func49 E ?_;clear E;intro w9 E;refine xr 1 rfl<|xne<|xcs 45 rfl (fun cc5=>?_) fun cc5=>?_;refine xct rfl<|xrl<|xr 3 rfl<|xy rfl (vx 40 i 5 rfl)<|xy rfl (fun a O=>ylr (cs:=pL (l8.getD i PtrD.zero)) rfl (O.ev rfl) (E.o.elem PtrD.cells_len 1 rfl (Zh (xs:=l8) (j:=i) (d:=PtrD.zero) (by omega)))) ?_;refine ybs PtrD.cells 40 5 [(l8.getD i PtrD.zero)] E ?_;clear E;intro b11 w10 E;refine yap Yz PtrD.cells_len E 1 (St.rdN E.o PtrD.cells_len 0 rfl) (Zn _) ?_;clear E;intro ao12 cp13 w11 E;refine xr 1 rfl<|xni<|xeb<|xet<|xrl<|xr 1 rfl<|xy rfl (vad rfl)<|xr 1 rfl<|xne ?_;have hz14:os.length+([(l8.getD i PtrD.zero)]).length=(os++([(l8.getD i PtrD.zero)])).length:=by simp only [length_append,length_nil,length_cons]
 intro a O;rw [hz14] at E O;have hh9:(l8.getD i PtrD.zero).hole=false:=by simpa using cc5
 have hst:(l8.take (i+1)).filter (fun p=>!p.hole)=(l8.take i).filter (fun p=>!p.hole)++[(l8.getD i PtrD.zero)]:=by rw [UJ (by omega),List.filter_append,List.filter_cons,List.filter_nil,hh9];simp
 replace E:=E.pks [5,5,5,5,5];exact ⟨i+1,⟨_,_,_,⟨by omega,by rw [hst,hos];simp⟩,O.less _ ⟨rfl,rfl,rfl,rfl,rfl,trivial⟩,(E.o.erase 5)⟩,(by omega)⟩;refine xcf rfl<|xsk<|xeb<|xet<|xrl<|xr 1 rfl<|xy rfl (vad rfl)<|xr 1 rfl<|xne ?_;have hh9:(l8.getD i PtrD.zero).hole=true:=by simpa using cc5
 have hst:(l8.take (i+1)).filter (fun p=>!p.hole)=(l8.take i).filter (fun p=>!p.hole):=by rw [UJ (by omega),List.filter_append,List.filter_cons,List.filter_nil,hh9];simp
 intro a O;exact ⟨i+1,⟨_,_,_,⟨by omega,by rw [hst,hos]⟩,O.less _ ⟨rfl,rfl,rfl,rfl,rfl,trivial⟩,E.o⟩,(by omega)⟩;refine xcf rfl<|xex<|xtx<|xtx<|xbh<|xet<|xsr<|xr 2 rfl<|xne<|xre<|xb1 results113 rfl ?_;have hI:ZT st t=os:=by unfold ZT;rw [if_neg (fun h=>h.elim (fun h=>by omega) (fun h=>by rw [hnh] at h;cases h)),if_pos (by omega),hk8,hos,List.take_of_length_le (by omega)];rfl
 exact ⟨_,_,by rw [hI] <;> rfl,by rw [hI];exact (E.o.erS [4,3,2,1])⟩;exact absurd hk8 (hkid (by omega) (by simpa using hnh));refine xcf rfl<|xsk<|xet<|xsr<|xr 2 rfl<|xne<|xre<|xb1 results113 rfl ?_;have hI:ZT st t=[t.ac]:=by unfold ZT;rw [if_neg (fun h=>h.elim (fun h=>by omega) (fun h=>by rw [hnh] at h;cases h)),if_neg (by omega)]
 have hz9:([]:List PtrD).length+([t.ac]).length=[t.ac].length:=by simp only [length_append,length_nil,length_cons]
 exact ⟨_,_,by rw [hI,← hz9] <;> rfl,by rw [hI,← hz9];exact (E.o.erS [3,2,1])⟩
theorem Zk6 (a0:Option Addr) (c0:Nat) (a1:Option Addr) (c1:Nat) (a2:Option Addr) (c2:Nat) (a4:Option Addr) (c4:Nat) (a6:Option Addr) (c6:Nat) (st:Za) (t:Zf) (dp lv:Nat) (w0:World) (hR:Rd Zt 1 w0 a0 st.af.length st.af) (hrow:Y5 st):Calls prog 114 #[sV a0 c0 a1 c1 a2 c2 a4 c4 a6 c6 st,tV t,.int .i64 (dp:Int),.int .i64 (lv:Int)] w0 fun e w'=>∃ ao cp,e=.returned (.slice ao (Zx st t dp lv).length cp)∧St w0 [Zd PtrD.cells 5 40 (.slice ao (Zx st t dp lv).length cp) (Zx st t dp lv)] w':=by
 have HR:=Bx.mk hR;clear hR;have E:=Bx.mk (St.start w0);refine ent func114 ntmps114 ?_;refine xsr ?_;refine ybx E ?_;clear E;intro w1 b1 E;refine ybx E ?_;clear E;intro w2 b2 E;refine xr 1 rfl<|xne<|xsq<|xsr<|Xf 5 rfl<|Xl 0 E rfl rfl<|xr 2 rfl<|xne<|xcn 14 rfl (fun _ dcc1=>?_) fun _ dcc1=>?_;refine xct rfl<|xsr ?_;refine yc (Vi 4 (by omega) _) func107 ?_;rintro _ w3 ⟨ao3,cp3,rfl,hs⟩;refine ⟨_,rfl,?_⟩;replace E:=E.ad hs;clear hs;refine xr 1 rfl<|xne<|xre<|xtr<|xb1 results114 rfl ?_;have hO:Zx st t dp lv=replicate 4 PtrD.zero:=by unfold Zx;rw [if_neg (by omega)];rfl
 exact ⟨_,_,by rw [hO] <;> rfl,by rw [hO];exact (E.o.erS [2,1])⟩;refine xcf rfl<|xsk<|xet<|xsq<|xsr<|xr 3 rfl<|xne<|xce 18 rfl (fun _ dcc2=>?_) fun _ dcc2=>?_;refine xct rfl<|xsr<|Xf 0 rfl<|Xw 0 5 E rfl rfl ?_;refine ybs PtrD.cells 40 5 [t.ac] E ?_;clear E;intro b4 w4 E;refine xr 1 rfl<|xne<|xre<|xtr<|xb1 results114 rfl ?_;have hO:Zx st t dp lv=[t.ac]:=by unfold Zx;rw [if_pos (by omega),if_pos (by omega)]
 exact ⟨_,_,by rw [hO] <;> rfl,by rw [hO];exact (E.o.erS [2,1])⟩;refine xcf rfl<|xsk<|xet<|xsr<|Xw 1 8 E rfl rfl<|Xf 0 rfl<|Xw 0 5 E rfl rfl<|xr 1 rfl ?_;refine yc (ZaN a0 c0 a1 c1 a2 c2 a4 c4 a6 c6 st t.ac (dp:Int) _ (HR.out.below E.o.bel) hrow) func77 ?_;rintro _ w5 (⟨l5,hk5,ao5,cp5,rfl,hs1⟩|⟨hk5,ao5,nn5,cp5,rfl,hb⟩);have hll5:=J4 hk5;refine ⟨_,rfl,?_⟩;replace E:=E.ad hs1;clear hs1;refine xr 5 rfl<|xne<|xsq<|xsr<|xr 2 rfl<|xne<|xcf rfl<|xsk<|xet<|xsr<|xr 2 rfl<|xne<|xre<|xb1 results114 rfl ?_;have hO:Zx st t dp lv=l5:=by unfold Zx;rw [if_pos (by omega),if_neg (by omega),hk5];rfl
 exact ⟨_,_,by rw [hO] <;> rfl,by rw [hO];exact (E.o.erS [2,1])⟩;refine ⟨_,rfl,?_⟩;replace E:=Bx.mk (E.o.later hb);clear hb;refine xr 5 rfl<|xne<|xsq<|xsr<|xr 2 rfl<|xne<|xct rfl<|xsr ?_;refine yc (Vi 4 (by omega) _) func107 ?_;rintro _ w6 ⟨ao6,cp6,rfl,hs⟩;refine ⟨_,rfl,?_⟩;replace E:=E.ad hs;clear hs;refine xr 1 rfl<|xne<|xre<|xtr<|xb1 results114 rfl ?_;have hO:Zx st t dp lv=replicate 4 PtrD.zero:=by unfold Zx;rw [if_pos (by omega),if_neg (by omega),hk5];rfl
 exact ⟨_,_,by rw [hO] <;> rfl,by rw [hO];exact (E.o.erS [2,1])⟩
theorem ZmF {w:World} {g n k:Nat} {L c:List PtrD} (h:Rd PtrD.cells 5 w (some ⟨g,0,none⟩) n L) (hk:k≤n) (hc:(L.drop k).take 4=c) (hcl:c.length=4):Rd PtrD.cells 5 w (some ⟨g,0+k*5,none⟩) 4 c:=by
 have h2:=h.dropP hk;subst hc;rw [length_take] at hcl;exact h2.take (by omega)
theorem Zk7 (w0 w:World) (d0:Option Addr) (f0:Nat) (d1:Option Addr) (f1:Nat) (d2:Option Addr) (f2:Nat) (d4:Option Addr) (f4:Nat) (d6:Option Addr) (f6:Nat) (st:Za) (gL cpL kL cpS:Nat) (L c:List PtrD) (lv:Int) (p:PtrD) (F:List Asr) (hkL:kL≤L.length) (hc:(L.drop kL).take 4=c) (hcl:c.length=4) (hco:∀ x ∈ c,x.ok=true) (hpo:p.ok=true) (hlv:inB lv 0 2=true) (hq:st.ok=true) (hS:St w0 (Zd Zt 1 9 (.slice d0 st.af.length f0) st.af::Zd Zu 1 3 (.slice d1 st.aa.ab.length f1) st.aa.ab::Zd Zu 1 3 (.slice d2 st.aa.ag.length f2) st.aa.ag::Zd PtrD.cells 5 40 (.slice d4 st.ai.length f4) st.ai::Zd PtrD.cells 5 40 (.slice d6 st.aj.length f6) st.aj::Zd PtrD.cells 5 40 (.slice (some ⟨gL,0,none⟩) L.length cpL) L::F) w):Calls prog 115 #[sV d0 f0 d1 f1 d2 f2 d4 f4 d6 f6 st,.slice (some ⟨gL,0+kL*5,none⟩) 4 cpS,.int .i64 lv,pV p] w fun e w'=>∃ (q':SQ) (r:Zfq),r=Zj st c lv p∧q'=⟨d0,f0,d1,f1,d2,f2,d4,f4,d6,f6,r.st⟩∧e=.returned (.tuple #[q'.u,pV r.p,.bool r.ok])∧St w0 (q'.asr::Zd PtrD.cells 5 40 (.slice (some ⟨gL,0,none⟩) L.length cpL) L::F) w':=by
 have hOK:=Za.ok_spec hq;have hl0:=hOK.rows;have hrow:=QU hq;have hfsz:=UV hcl hco;have hfl:=Zdt (l:=c) (by omega);have E:=Bx.mk hS;clear hS;refine ent func115 ntmps115 ?_;refine xsr ?_;refine ybx E ?_;clear E;intro w1 b1 E;refine ybx E ?_;clear E;intro w2 b2 E;refine yal z8 E ?_;clear E;intro w3 b3 E;refine yal z5 E ?_;clear E;intro w4 b4 E;refine xr 1 rfl<|xne<|xsq<|xsr<|xr 1 rfl ?_;refine ycB (Zjv _ 4 _ c _ (by omega) (ZmF (St.rdOf E.o PtrD.cells_len 9 rfl) hkL hc hcl)) func140 E ?_;clear E;intro w5 E;refine xne<|xcs 14 rfl (fun cc1=>?_) fun cc1=>?_;refine xct rfl<|xsr<|Xw 3 8 E rfl rfl<|xy rfl (vb z5 rfl) ?_;refine yst E 1 ?_;clear E;intro w6 E;replace E:=E.nm;refine yst E 0 ?_;clear E;intro w7 E;replace E:=E.nm;refine xr 1 rfl<|xne<|xre<|xtr ?_;intro a O;refine ZO O results115 (O.resBox rfl (E.o.box 1 rfl) (by kernel_rfl)) (O.resBox rfl (E.o.box 0 rfl) (by kernel_rfl)) (O.res rfl) ?_;replace E:=E.pks [9,9,9,9,9,9];exact ⟨⟨d0,f0,d1,f1,d2,f2,d4,f4,d6,f6,st⟩,⟨st,PtrD.zero,true⟩,(Xj cc1).symm,rfl,rfl,St.sqIn (q:=⟨d0,f0,d1,f1,d2,f2,d4,f4,d6,f6,st⟩) (E.o.erS [9,8,7,6])⟩;have hall:=cc1;refine xcf rfl<|xsk<|xet<|xsr<|xr 1 rfl ?_;refine ycB (Zfy _ _ c _ (ZmF (St.rdOf E.o PtrD.cells_len 9 rfl) hkL hc hcl) hco hall) func141 E ?_;clear E;intro w8 E;refine xr 5 rfl<|xne<|xsq<|xsq ?_;obtain ⟨g5,rfl,_,_,_,_⟩:=E.o.rowOpen 4 rfl (by omega);refine xrl<|Xw 2 5 E rfl rfl ?_;refine ycB (ZL p _) func49 E ?_;clear E;intro w9 E;refine xr 2 rfl<|xcs 25 rfl (fun cc2=>?_) fun cc2=>?_;have hph:p.hole=false:=by simpa using cc2
 have hat:=Zjr hpo hph;refine Xw 2 5 E rfl rfl<|xr 1 rfl ?_;refine Ji (Zao p (YW c) _ (by omega)) func78 E ?_;clear E;intro w10 E;refine xr 2 rfl<|xcs 30 rfl (fun cc3=>?_) fun cc3=>?_;refine Xf 0 rfl<|Xl 3 E rfl rfl<|Xf 0 rfl<|Xl 2 E rfl rfl<|xy rfl (fun a O=>ZG (e:=9) (i:=p.aA.toNat) (size:=1) rfl (O.ev rfl) (O.ev rfl) (by kernel_rfl) (by omega) (by omega))<|xy rfl (fun a O=>ylo (v:=.string (st.af.getD p.aA.toNat ByteArray.empty)) rfl (O.ev rfl) (E.o.elem1 encS_len 4 rfl (Zh (xs:=st.af) (j:=p.aA.toNat) (d:=ByteArray.empty) (by omega)) rfl))<|xr 1 rfl<|xy rfl (fun a O=>U6 rfl (O.ev rfl) (O.ev rfl))<|xr 1 rfl<|xne<|xcs 39 rfl (fun cc4=>?_) fun cc4=>?_;refine xct rfl<|xsq ?_;refine hld [1,0] E ?_;clear E;intro w11 E U;refine Hw 0 1 8 E rfl rfl<|Hw 1 0 5 E rfl rfl ?_;refine ZI 2 ?_;refine yos 1 [1,0] U ?_;clear E U;intro w12 E U;refine ZI 3 ?_;refine yos 0 [1,0] U ?_;clear E U;intro w13 E U;refine Hp 4 E rfl ?_;refine hdn ?_;replace E:=U;clear U;refine xet<|xre<|xtr ?_;intro a O;refine ZO O results115 (O.resBox rfl (E.o.box 1 rfl) (by kernel_rfl)) (O.resBox rfl (E.o.box 0 rfl) (by kernel_rfl)) (O.res rfl) ?_;have hsm:ZP st c p=true:=by unfold ZP;simp only [Yb];(first|(simp only [cc2,cc3,cc4];rfl)|simp_all)
 replace E:=E.pks [9,9,9,9,9,9];exact ⟨⟨some ⟨g5,0,none⟩,f0,d1,f1,d2,f2,d4,f4,d6,f6,st⟩,⟨st,p,true⟩,(JJ hall hsm).symm,rfl,rfl,St.sqIn (q:=⟨some ⟨g5,0,none⟩,f0,d1,f1,d2,f2,d4,f4,d6,f6,st⟩) (E.o.erS [9,8,7,6])⟩;refine xcf rfl<|xsk<|xet<|xsr<|Xw 3 8 E rfl rfl<|xr 2 rfl ?_;replace E:=E.pks [8,8,8,8,8];replace E:=Bx.mk (St.sqIn (q:=⟨some ⟨g5,0,none⟩,f0,d1,f1,d2,f2,d4,f4,d6,f6,st⟩) E.o);replace E:=E.pks [0];refine yc (ZcZ w0 _ ⟨some ⟨g5,0,none⟩,f0,d1,f1,d2,f2,d4,f4,d6,f6,st⟩ (YW c) lv _ hq hfsz hlv E.o) func80 ?_;rintro _ w14 ⟨q1,r1,hr1,hq1,rfl,hs1⟩;refine ⟨_,rfl,?_⟩;replace E:=Bx.mk hs1;clear hs1;refine xr 3 rfl ?_;refine yst E 2 ?_;clear E;intro w15 E;replace E:=E.nm;refine yst E 1 ?_;clear E;intro w16 E;replace E:=E.nm;refine xr 1 rfl<|xne<|xre ?_;intro a O;refine ZO O results115 (O.resBox rfl (E.o.box 2 rfl) (by kernel_rfl)) (O.resBox rfl (E.o.box 1 rfl) (by kernel_rfl)) (O.res rfl) ?_;have hsm:ZP st c p=false:=by unfold ZP;simp only [Yb];(first|(simp only [cc2,cc3,cc4];rfl)|simp_all)
 replace E:=E.pks [5,1];exact ⟨q1,r1,(hr1.trans (XQ hall hsm).symm),hq1,rfl,(E.o.erS [5,4,3,2])⟩;refine xr 9 rfl<|xne<|xcf rfl<|xsk<|xet<|xsr<|Xw 3 8 E rfl rfl<|xr 2 rfl ?_;replace E:=E.pks [8,8,8,8,8];replace E:=Bx.mk (St.sqIn (q:=⟨some ⟨g5,0,none⟩,f0,d1,f1,d2,f2,d4,f4,d6,f6,st⟩) E.o);replace E:=E.pks [0];refine yc (ZcZ w0 _ ⟨some ⟨g5,0,none⟩,f0,d1,f1,d2,f2,d4,f4,d6,f6,st⟩ (YW c) lv _ hq hfsz hlv E.o) func80 ?_;rintro _ w17 ⟨q1,r1,hr1,hq1,rfl,hs1⟩;refine ⟨_,rfl,?_⟩;replace E:=Bx.mk hs1;clear hs1;refine xr 3 rfl ?_;refine yst E 2 ?_;clear E;intro w18 E;replace E:=E.nm;refine yst E 1 ?_;clear E;intro w19 E;replace E:=E.nm;refine xr 1 rfl<|xne<|xre ?_;intro a O;refine ZO O results115 (O.resBox rfl (E.o.box 2 rfl) (by kernel_rfl)) (O.resBox rfl (E.o.box 1 rfl) (by kernel_rfl)) (O.res rfl) ?_;have hsm:ZP st c p=false:=by unfold ZP;simp only [Yb];(first|(simp only [cc2,cc3];rfl)|simp_all)
 replace E:=E.pks [5,1];exact ⟨q1,r1,(hr1.trans (XQ hall hsm).symm),hq1,rfl,(E.o.erS [5,4,3,2])⟩;refine xr 14 rfl<|xne<|xcf rfl<|xsk<|xet<|xsr<|Xw 3 8 E rfl rfl<|xr 2 rfl ?_;replace E:=E.pks [8,8,8,8,8];replace E:=Bx.mk (St.sqIn (q:=⟨some ⟨g5,0,none⟩,f0,d1,f1,d2,f2,d4,f4,d6,f6,st⟩) E.o);replace E:=E.pks [0];refine yc (ZcZ w0 _ ⟨some ⟨g5,0,none⟩,f0,d1,f1,d2,f2,d4,f4,d6,f6,st⟩ (YW c) lv _ hq hfsz hlv E.o) func80 ?_;rintro _ w20 ⟨q1,r1,hr1,hq1,rfl,hs1⟩;refine ⟨_,rfl,?_⟩;replace E:=Bx.mk hs1;clear hs1;refine xr 3 rfl ?_;refine yst E 2 ?_;clear E;intro w21 E;replace E:=E.nm;refine yst E 1 ?_;clear E;intro w22 E;replace E:=E.nm;refine xr 1 rfl<|xne<|xre ?_;intro a O;refine ZO O results115 (O.resBox rfl (E.o.box 2 rfl) (by kernel_rfl)) (O.resBox rfl (E.o.box 1 rfl) (by kernel_rfl)) (O.res rfl) ?_;have hsm:ZP st c p=false:=by unfold ZP;simp only [Yb];(first|(simp only [cc2];rfl)|simp_all)
 replace E:=E.pks [5,1];exact ⟨q1,r1,(hr1.trans (XQ hall hsm).symm),hq1,rfl,(E.o.erS [5,4,3,2])⟩
theorem ZmG (w0 w:World) (q:SQ) (gL cpL kL cpS:Nat) (L c:List PtrD) (lv:Int) (p:PtrD) (F:List Asr) (hkL:kL≤L.length) (hc:(L.drop kL).take 4=c) (hcl:c.length=4) (hco:∀ x ∈ c,x.ok=true) (hpo:p.ok=true) (hlv:inB lv 0 2=true) (hq:q.d.ok=true) (hS:St w0 (q.asr::Zd PtrD.cells 5 40 (.slice (some ⟨gL,0,none⟩) L.length cpL) L::F) w):Calls prog 115 #[.agg #[.slice q.a0 q.d.af.length q.c0,.slice q.a1 q.d.aa.ab.length q.c1,.slice q.a2 q.d.aa.ag.length q.c2,.int .i64 q.d.aq,.slice q.a4 q.d.ai.length q.c4,.int .i64 q.d.ar,.slice q.a6 q.d.aj.length q.c6,.bool q.d.au],.slice (some ⟨gL,0+kL*5,none⟩) 4 cpS,.int .i64 lv,.agg #[.int .i64 p.aA,.int .i64 p.ah,.int .i64 p.al,.int .i64 p.ax,.int .i64 p.ak]] w fun e w'=>∃ (q':SQ) (r:Zfq),r=Zj q.d c lv p∧q'={ q with d:=r.st }∧e=.returned (.tuple #[.agg #[.slice q'.a0 q'.d.af.length q'.c0,.slice q'.a1 q'.d.aa.ab.length q'.c1,.slice q'.a2 q'.d.aa.ag.length q'.c2,.int .i64 q'.d.aq,.slice q'.a4 q'.d.ai.length q'.c4,.int .i64 q'.d.ar,.slice q'.a6 q'.d.aj.length q'.c6,.bool q'.d.au],.agg #[.int .i64 r.p.aA,.int .i64 r.p.ah,.int .i64 r.p.al,.int .i64 r.p.ax,.int .i64 r.p.ak],.bool r.ok])∧St w0 (q'.asr::Zd PtrD.cells 5 40 (.slice (some ⟨gL,0,none⟩) L.length cpL) L::F) w':=Zk7 w0 w q.a0 q.c0 q.a1 q.c1 q.a2 q.c2 q.a4 q.c4 q.a6 q.c6 q.d gL cpL kL cpS L c lv p F hkL hc hcl hco hpo hlv hq hS.sqOut
structure Uk (k:Nat) (st:Za):Prop where
  rows:st.af.length=64
  refs:st.aa.ab.length=64
  last:st.aa.ag.length=64
  lo:∀ i,-(k:Int)≤st.aa.ab.getD i 0∧st.aa.ab.getD i 0≤900
  gone:st.ai.length≤500000+k
  dead:st.aj.length≤500000+k
theorem ZgI (s:Zp) (i j:Nat) (hi:i<s.ab.length):(s.give i).ab.getD j 0=if i=j then s.ab.getD i 0 - 1 else s.ab.getD j 0:=J6 hi
theorem Uk.free {k:Nat} {st:Za} (h:Uk k st) {p:PtrD} (hp:p.ok=true):Uk (k+1) (st.free p):=by
 have hlo:∀ i,-((k+1:Nat):Int)≤st.aa.ab.getD i 0∧st.aa.ab.getD i 0≤900:=fun i=>by have:=h.lo i;omega
 cases hh:p.hole with
 | true=>rw [Zbn hh];exact ⟨h.rows,h.refs,h.last,hlo,by have:=h.gone;omega,by have:=h.dead;omega⟩
 | false =>
  by_cases h1:p.ah≤st.ar
  ·rw [VF hh h1];exact ⟨h.rows,h.refs,h.last,hlo,by have:=h.gone;show st.ai.length≤_;omega,by have:=h.dead;show (st.aj++[p]).length≤_;rw [length_append,length_singleton];omega⟩
  ·by_cases h2:p.ah<st.aq
   ·rw [VG hh h1 h2];exact ⟨h.rows,h.refs,h.last,hlo,by have:=h.gone;show (st.ai++[p]).length≤_;rw [length_append,length_singleton];omega,by have:=h.dead;show st.aj.length≤_;omega⟩
   ·rw [Zbo hh h1 h2]
    refine ⟨by show (Xz _ _ _).length=64;rw [Qh];exact h.rows,by show (Zp.give _ _).ab.length=64;rw [Zp.give_refs];exact h.refs,by show (Zp.give _ _).ag.length=64;rw [Zp.give_last];exact h.last,fun i=>?_,by have:=h.gone;show st.ai.length≤_;omega,by have:=h.dead;show st.aj.length≤_;omega⟩;obtain ⟨a,h8,ha,e⟩:=Vs hp hh;show -((k+1:Nat):Int)≤(st.aa.give p.aA.toNat).ab.getD i 0∧(st.aa.give p.aA.toNat).ab.getD i 0≤900;rw [e,Int.toNat_natCast,ZgI _ _ _ (by rw [h.refs];exact ha)];have:=h.lo a;have:=h.lo i
    split <;> omega
theorem Zc0 {xs:List Int} {i:Nat} {v:Int} (h:i<xs.length):(xs.set i v)[i]? = some v:=List.getElem?_set_self h
theorem Zk8 (p:PtrD) (h0:0≤p.aA) (h1:p.aA≤63):((List.range 64).map fun i=>cnt [p] i).sum=1:=by
 obtain ⟨a,ha,e⟩:∃ a:Nat,a<64∧p.aA=(a:Int):=⟨p.aA.toNat,by omega,by omega⟩;have hc:∀ i,cnt [p] i=if a=i then 1 else 0:=fun i=>by
  rw [Ziq,Zkc,e]
  by_cases h:a=i
  ·rw [if_pos h,if_pos (by omega)]
  ·rw [if_neg h,if_neg (by omega)]
 rw [show (fun i=>cnt [p] i)=fun i=>if a=i then 1 else 0 from funext hc];clear hc e h0 h1;revert a
 decide
theorem ZdT (f g:Nat→Nat):∀ l:List Nat,(l.map fun i=>f i+g i).sum=(l.map f).sum+(l.map g).sum
 | []=>rfl
 | x::r=>by simp only [map_cons,List.sum_cons,ZdT f g r];omega
theorem Zkj:∀ {ps:List PtrD},(∀ p ∈ ps,0≤p.aA∧p.aA≤63)→ps.length=((List.range 64).map fun i=>cnt ps i).sum
 | [],_=>by decide
 | p::r,h=>by
  have hp:=h p (mem_cons_self ..);have ih:=Zkj fun q hq=>h q (mem_cons_of_mem _ hq)
  have e:(fun i=>cnt (p::r) i)=fun i=>cnt [p] i+cnt r i:=funext fun i=>by rw [show p::r=[p]++r from rfl,ZbL]
  rw [e,ZdT,Zk8 p hp.1 hp.2,← ih,length_cons];omega
theorem ZmH (f:Nat→Nat) (b:Nat):∀ l:List Nat,(∀ i ∈ l,f i≤b)→(l.map f).sum≤l.length*b
 | [],_=>by simp
 | x::r,h=>by
  have:=h x (mem_cons_self ..);have:=ZmH f b r fun i hi=>h i (mem_cons_of_mem _ hi)
  rw [map_cons,List.sum_cons,length_cons,Nat.succ_mul];omega
theorem ZmI {st:Za} (h:st.ok=true):st.ai.length+st.aj.length≤57600:=by
 have hO:=Za.ok_spec h;have hP:=Zp.ok_spec hO.space;have hin:∀ {ps:List PtrD} {m:Int},ps.all (fun p=>YZ p m)=true→∀ p ∈ ps,0≤p.aA∧p.aA≤63:=fun {ps m} ha p hp=>by
  have:=List.all_eq_true.1 ha p hp;unfold YZ at this;simp only [Bool.and_eq_true,Bool.not_eq_true',decide_eq_true_eq] at this;have:=Zjr this.1 this.2.1
  omega
 have hall:∀ p ∈ st.ai++st.aj,0≤p.aA∧p.aA≤63:=fun p hp=>(mem_append.1 hp).elim (hin hO.gone p) (hin hO.dead p)
 have e:=Zkj hall;rw [length_append] at e;rw [e];have:=ZmH (fun i=>cnt (st.ai++st.aj) i) 900 (List.range 64) fun i hi=>by
  have:=Zbu.1 hO.owed i (List.mem_range.1 hi);have:=(hP.all i).2
  omega
 rw [List.length_range] at this;exact this
theorem Ux {st:Za} (h:st.ok=true):Uk 0 st:=by
 have hO:=Za.ok_spec h;have hP:=Zp.ok_spec hO.space;have hl:=ZmI h;exact ⟨hO.rows,hP.refs,hP.last,fun i=>by have:=hP.all i;exact ⟨by omega,this.2⟩,by omega,by omega⟩
theorem Uk.more {k m:Nat} {st:Za} (h:Uk k st) (hm:k≤m):Uk m st:=⟨h.rows,h.refs,h.last,fun i=>by have:=h.lo i;omega,by have:=h.gone;omega,by have:=h.dead;omega⟩
theorem St.sqClose {W w:World} {d0:Option Addr} {f0:Nat} {d1:Option Addr} {f1:Nat} {d2:Option Addr} {f2:Nat} {d4:Option Addr} {f4:Nat} {d6:Option Addr} {f6:Nat} {n0 n1 n2 n4 n6:Nat} {F:List Asr} (s:Za) (h:St W (Zd Zt 1 9 (.slice d0 n0 f0) s.af::Zd Zu 1 3 (.slice d1 n1 f1) s.aa.ab::Zd Zu 1 3 (.slice d2 n2 f2) s.aa.ag::Zd PtrD.cells 5 40 (.slice d4 n4 f4) s.ai::Zd PtrD.cells 5 40 (.slice d6 n6 f6) s.aj::F) w) (h0:n0=s.af.length) (h1:n1=s.aa.ab.length) (h2:n2=s.aa.ag.length) (h4:n4=s.ai.length) (h6:n6=s.aj.length):St W (SQ.asr ⟨d0,f0,d1,f1,d2,f2,d4,f4,d6,f6,s⟩::F) w:=by
 subst h0 h1 h2 h4 h6;exact St.sqIn (q:=⟨d0,f0,d1,f1,d2,f2,d4,f4,d6,f6,s⟩) h
open Go.Lib
theorem Zfz {sr sp:List PtrD} (h:XB sr sp):∀ {l:List PtrD} {s:Za},(∀ p ∈ l,p.hole=false)→Y1 sp l s=Y1 sr l s
 | [],_,_=>rfl
 | p::r,s,hl=>by
  have e:YM sp p=YM sr p:=Bool.eq_iff_iff.2 (JN.trans (h p (hl p (mem_cons_self ..))).symm);unfold Y1;rw [e];exact Zfz h fun q hq=>hl q (mem_cons_of_mem _ hq)
theorem ZgJ {k:Nat} {s:Za} {p:PtrD} {j:Nat} (hK:Uk k s) (ho:p.ok=true) (hj:p.hole=true∨p.aA≠(j:Int)):(s.free p).aa.ab.getD j 0=s.aa.ab.getD j 0:=by
 cases hh:p.hole with
 | true=>rw [Zbn hh]
 | false =>
  by_cases h1:p.ah≤s.ar
  ·rw [VF hh h1]
  ·by_cases h2:p.ah<s.aq
   ·rw [VG hh h1 h2]
   ·rw [Zbo hh h1 h2]
    obtain ⟨a,h8,ha,e⟩:=Vs ho hh;have hne:a≠j:=fun e2=>by
     rcases hj with hj|hj
     ·rw [hh] at hj;cases hj
     ·exact hj (by rw [e,e2])
    show (s.aa.give p.aA.toNat).ab.getD j 0=_;rw [e,Int.toNat_natCast,ZgI _ _ _ (by rw [hK.refs];exact ha),if_neg hne]
theorem ZgK {st:Za} {p:PtrD} (hok:st.ok=true) (ho:p.ok=true) (hh:p.hole=false) (hr:YL st p=true):st.aa.ab.getD p.aA.toNat 0≠0:=by
 obtain ⟨a,h8,ha,e⟩:=Vs ho hh;have hs:=Zdr ho hh hr;rw [JH e] at hs;rw [e,Int.toNat_natCast];intro h0;have:=(UH.1 (Za.ok_spec hok).each a ha).2.1.2 h0
 omega
def Us (sp:List PtrD):List PtrD→Za→Prop
 | [],_=>True
 | p::r,s=>(YM sp p=false→s.aa.ab.getD p.aA.toNat 0≠0)∧Us sp r (if YM sp p=true then s else s.free p)
theorem Zpp {p q:PtrD} (hp:p.ok=true∧p.hole=false) (hq:q.ok=true∧q.hole=false) (h:p.aA≠q.aA):p.aA≠((q.aA.toNat:Nat):Int):=by
 obtain ⟨a,_,_,e⟩:=Vs hq.1 hq.2;rw [e] at h ⊢
 rwa [Int.toNat_natCast]
theorem ZfA {sp:List PtrD}:∀ {l:List PtrD} {s:Za} {k:Nat},Uk k s→(∀ p ∈ l,(p.ok=true∧p.hole=false)∧(YM sp p=false→s.aa.ab.getD p.aA.toNat 0≠0))→(l.filter (fun p=>!YM sp p)).Pairwise (fun a b=>a.aA≠b.aA)→Us sp l s
 | [],_,_,_,_,_=>trivial
 | p::r,s,k,hK,hl,hp=>by
  have hp0:=hl p (mem_cons_self ..);refine ⟨hp0.2,?_⟩
  cases hb:YM sp p with
  | true =>
   rw [if_pos rfl];rw [List.filter_cons_of_neg (by rw [hb];decide)] at hp;exact ZfA hK (fun q hq=>hl q (mem_cons_of_mem _ hq)) hp
  | false =>
   rw [if_neg Bool.false_ne_true];rw [List.filter_cons_of_pos (by rw [hb];rfl),List.pairwise_cons] at hp;refine ZfA (hK.free hp0.1.1) (fun q hq=>?_) hp.2;have hq0:=hl q (mem_cons_of_mem _ hq);refine ⟨hq0.1,fun hqb=>?_⟩;rw [ZgJ hK hp0.1.1 (.inr (Zpp hp0.1 hq0.1 (hp.1 q (List.mem_filter.2 ⟨hq,by rw [hqb];rfl⟩))))];exact hq0.2 hqb
theorem UW {sp:List PtrD}:∀ {l:List PtrD} {s:Za} {k:Nat},Uk k s→(∀ p ∈ l,p.ok=true)→Uk (k+l.length) (Y1 sp l s)
 | [],_,_,h,_=>h
 | p::r,s,k,h,hl=>by
  have e:k+(p::r).length=(k+1)+r.length:=by rw [length_cons];omega
  rw [e];unfold Y1;refine UW ?_ fun q hq=>hl q (mem_cons_of_mem _ hq)
  split
  ·exact h.more (by omega)
  ·exact h.free (hl p (mem_cons_self ..))
theorem Zca {sp:List PtrD} {j:Nat}:∀ {l:List PtrD} {s:Za} {k:Nat},Uk k s→(∀ p ∈ l,p.ok=true)→(∀ p ∈ l,YM sp p=false→p.aA≠(j:Int))→(Y1 sp l s).aa.ab.getD j 0=s.aa.ab.getD j 0
 | [],_,_,_,_,_=>rfl
 | p::r,s,k,h,hl,hj=>by
  unfold Y1;have hr:∀ q ∈ r,q.ok=true:=fun q hq=>hl q (mem_cons_of_mem _ hq)
  have hjr:∀ q ∈ r,YM sp q=false→q.aA≠(j:Int):=fun q hq=>hj q (mem_cons_of_mem _ hq)
  split
  ·exact Zca h hr hjr
  ·next hb =>
   rw [Zca (h.free (hl p (mem_cons_self ..))) hr hjr];exact ZgJ h (hl p (mem_cons_self ..)) (.inr (hj p (mem_cons_self ..) (by simpa using hb)))
theorem Jn {sp:List PtrD} {p:PtrD}:∀ {l:List PtrD} {s:Za},Y1 sp (l++[p]) s=(if YM sp p=true then Y1 sp l s else (Y1 sp l s).free p)
 | [],s=>rfl
 | q::r,s=>by
  rw [List.cons_append];unfold Y1;exact Jn
theorem Us.at_ {sp:List PtrD} {p:PtrD} {b:List PtrD}:∀ {a:List PtrD} {s:Za},Us sp (a++p::b) s→YM sp p=false→(Y1 sp a s).aa.ab.getD p.aA.toNat 0≠0
 | [],_,h,hb=>h.1 hb
 | q::r,s,h,hb=>by
  unfold Y1;exact Us.at_ (a:=r) h.2 hb
theorem Zkk {st:Za}:∀ {n:Nat} {p:PtrD},Wf st n p→∀ q ∈ innL st n p,∃ l,IsFan (Yb st q) l
 | 0,p,_,q,hq=>by cases hq
 | n+1,p,hw,q,hq=>by
  obtain ⟨ho,_,l,hk,hwl⟩:=hw
  cases hh:p.hole with
  | true=>rw [Jt hh] at hq;cases hq
  | false =>
   rw [QX hh hk] at hq;rcases mem_cons.1 hq with rfl|hq
   ·exact ⟨l,(ZcY hh hk).1⟩
   ·obtain ⟨x,hx,hq⟩:=List.mem_flatMap.1 hq
    exact Zkk (hwl x hx) q hq
theorem Zjw {st:Za} {p:PtrD} {K:List PtrD} (hh:p.hole=false) (hk:kids st p 2=some K) (hw:∀ q ∈ K,Wf st 1 q) {w:PtrD} (hm:w ∈ K) (hwh:w.hole=false):p.aA≠w.aA:=fun e=>by
 obtain ⟨_,_,l,hkl,hwl⟩:=hw w hm;have h1:=(ZcY hh hk).1;have h2:=(ZcY hwh hkl).1;have er:Yb st p=Yb st w:=by unfold Yb;rw [e]
 rw [er] at h1;have:=h1.one h2;rw [this] at hm;have h0:w.ak=((0:Nat):Int):=(hwl w hm).level hwh;have h3:w.ak=((1:Nat):Int):=(hw w (by rw [this];exact hm)).level hwh
 omega
theorem ZiA {f:PtrD→Bool}:∀ {K:List PtrD} {j0:Nat},(∀ j w,j≠j0→K[j]? = some w→f w=false)→K.filter f=[]∨∃ w,w ∈ K∧K.filter f=[w]
 | [],_,_=>.inl rfl
 | a::r,0,h=>by
  have hr:r.filter f=[]:=List.filter_eq_nil_iff.2 fun w hw=>by
   obtain ⟨j,hj⟩:=List.getElem?_of_mem hw;rw [h (j+1) w (by omega) (by simpa using hj)];decide
  cases ha:f a with
  | true=>exact .inr ⟨a,mem_cons_self ..,by rw [List.filter_cons_of_pos ha,hr]⟩
  | false=>exact .inl (by rw [List.filter_cons_of_neg (by rw [ha];decide),hr])
 | a::r,j0+1,h=>by
  have ha:=h 0 a (by omega) rfl;rw [List.filter_cons_of_neg (by rw [ha];decide)];rcases ZiA (K:=r) (j0:=j0) (fun j w hj hw=>h (j+1) w (by omega) (by simpa using hw)) with e|⟨w,hw,e⟩
  ·exact .inl e
  ·exact .inr ⟨w,mem_cons_of_mem _ hw,e⟩
theorem Zk9 {st:Za} {d:Nat} {p:PtrD} {sp:List PtrD} (h2:d≤2) (hw:Wf st d p) {j0:Nat} (hkept:d=2→∀ K,kids st p 2=some K→∀ j w,j≠j0→K[j]? = some w→w.hole=false→YM sp w=true):((innL st d p).filter (fun q=>!YM sp q)).Pairwise (fun a b=>a.aA≠b.aA):=by
 cases hh:p.hole with
 | true=>rw [Jt hh];exact List.Pairwise.nil
 | false =>
  rcases (by omega:d=0∨d=1∨d=2) with rfl|rfl|rfl
  ·exact List.Pairwise.nil
  ·obtain ⟨_,_,K,hk,_⟩:=hw
   have hf:K.flatMap (innL st 0)=[]:=by
    have:∀ l:List PtrD,l.flatMap (innL st 0)=[]:=fun l=>by
     induction l with
     | nil=>rfl
     | cons x r ih=>rw [flatMap_cons,ih];rfl
    exact this K
   rw [QX hh hk,hf];exact (List.pairwise_singleton _ _).sublist List.filter_sublist
  ·obtain ⟨_,_,K,hk,hwl⟩:=hw
   have hk2:kids st p 2=some K:=hk;rw [QX hh hk,Zfu hwl];have hone:=ZiA (K:=K) (f:=fun q=>!q.hole && !YM sp q) (j0:=j0) fun j w hj hwj=>by
    cases hwh:w.hole with
    | true=>rfl
    | false=>rw [hkept rfl K hk2 j w hj hwj hwh];rfl
   have hff:(K.filter fun q=>!q.hole).filter (fun q=>!YM sp q)=K.filter (fun q=>!q.hole && !YM sp q):=by
    rw [List.filter_filter]
    congr 1
    funext q
    exact Bool.and_comm _ _
   rw [List.filter_cons,hff];have hsub:(K.filter fun q=>!q.hole && !YM sp q).Pairwise (fun a b=>a.aA≠b.aA):=by
    rcases hone with e|⟨w,_,e⟩ <;> rw [e]
    ·exact List.Pairwise.nil
    ·exact List.pairwise_singleton _ _
   split
   ·refine List.pairwise_cons.2 ⟨fun w hwm=>?_,hsub⟩
    have hm:=List.mem_filter.1 hwm;have hwh:w.hole=false:=by
     have:=hm.2;rw [Bool.and_eq_true] at this
     simpa using this.1
    exact Zjw hh hk2 hwl hm.1 hwh
   ·exact hsub
theorem ZoW (c:UInt8) (hc:digitVal c=none) (h58:c≠58):∀ {l:List ByteArray},(∀ s ∈ l,∀ x ∈ s.data.toList,x≠c)→∀ x ∈ (Yk l).data.toList,x≠c:=by
 have key:∀ (l:List ByteArray) (a:ByteArray),(∀ x ∈ a.data.toList,x≠c)→(∀ s ∈ l,∀ x ∈ s.data.toList,x≠c)→∀ x ∈ (l.foldl (fun a s=>a++ZM s.size++Zdc++s) a).data.toList,x≠c:=by
  intro l
  induction l with
  | nil=>intro a ha _;exact ha
  | cons s r ih =>
   intro a ha hl;rw [List.foldl_cons];refine ih _ (fun x hx=>?_) fun t ht=>hl t (mem_cons_of_mem _ ht);simp only [ByteArray.data_append,Array.toList_append,mem_append] at hx;rcases hx with ((hx|hx)|hx)|hx
   ·exact ha x hx
   ·exact Zj0 c hc _ x hx
   ·have:x=58:=by simpa [Zdc] using hx
    rw [this];exact fun e=>h58 e.symm
   ·exact hl s (mem_cons_self ..) x hx
 exact fun {l} hl=>key l ByteArray.empty (fun x hx=>by cases hx) hl
theorem Zla {n:Zi} (h:n.ok=true):∀ x ∈ (Xe n).data.toList,x≠44:=by
 rw [← (Y6 h).is];refine ZoW 44 rfl (by decide) fun s hs=>?_;simp only [XY,mem_cons,not_mem_nil,or_false] at hs;rcases hs with rfl|rfl|rfl|rfl|rfl|rfl|rfl
 ·exact Zbk 44 rfl _
 ·exact Zbk 44 rfl _
 ·exact Zbk 44 rfl _
 ·exact ZhX _
 ·exact Zbk 44 rfl _
 ·exact Zbk 44 rfl _
 ·decide
theorem Zn9 (x s:ByteArray):JR [x] s=x:=by
 unfold JR;simp [Go.Lib.join,Go.Lib.joinTail]
theorem Zhj {s:ByteArray} {l:List PtrD} (h:IsFan s l) (hn:∀ x ∈ s.data.toList,x≠44):False:=by
 have hp:=h.pieces;have h1:=ZdO (l:=[s]) (c:=44) (by simp) (fun y hy=>by rw [mem_singleton.1 hy];exact hn);have e:JR [s] ⟨#[44]⟩=s:=Zn9 s _;rw [e,hp] at h1;have:=congrArg length h1;rw [length_map,h.n] at this
 cases this
variable {ds:List Deferred}
def Uy (p:PtrD):Value:=.agg #[.int .i64 p.aA,.int .i64 p.ah,.int .i64 p.al,.int .i64 p.ax,.int .i64 p.ak]
theorem Zjx {x y:PtrD}:x.eqv y=true ↔ x=y:=by
 unfold PtrD.eqv
 constructor
 ·intro h
  simp only [Bool.and_eq_true,beq_iff_eq] at h;obtain ⟨h1,h2,h3,h4,h5⟩:=h
  cases x;cases y;simp_all
 ·rintro rfl;simp
instance decPtrD:DecidableEq PtrD:=fun x y=>decidable_of_iff (x.eqv y=true) Zjx
def kvP (p:PtrD × Value):Value × Value:=(Uy p.1,p.2)
def JT:List (PtrD × Value)→PtrD→Option (Nat × Value)
 | [],_=>none
 | (k,v)::r,n=>if n=k then some (0,v) else (JT r n).map fun q=>(q.1+1,q.2)
def lookP (m:List (PtrD × Value)) (n:PtrD):Option Value:=(JT m n).map (·.2)
theorem Qp {k:PtrD} {v:Value} {r:List (PtrD × Value)}:JT ((k,v)::r) k=some (0,v):=if_pos rfl
theorem XC {k n:PtrD} {v:Value} {r:List (PtrD × Value)} (h:n≠k):JT ((k,v)::r) n=(JT r n).map fun q=>(q.1+1,q.2):=if_neg h
structure Zjy (P:Program) (T:TypeId):Prop where
  und:∃ fs,P.underlying T=some (.struct fs)
  chk:∀ (c:Bool) (x:PtrD) (w:World),(Instr.checkKey c 10000 T (Uy x)).run P w=.ok () w
  eq:∀ (x y:PtrD) (w:World),(Op.equal T (Uy x) (Uy y)).run P w=.ok (x.eqv y) w
theorem ZmJ {P:Program} {T:TypeId} (H:Zjy P T) (n:PtrD) (w:World):∀ (l:List MapEntry) (m:List (PtrD × Value)) (i:Nat),l.map kvE=m.map kvP→(Instr.findAsking T (Uy n) l i).run P w=.ok ((JT m n).map fun q=>(i+q.1,q.2)) w
 | [],[],i,_=>rfl
 | [],_::_,_,h=>by cases h
 | _::_,[],_,h=>by cases h
 | e::l,(k,v)::m,i,h=>by
  simp only [map_cons,List.cons.injEq] at h;obtain ⟨h1,h2⟩:=h;have hk:e.key=Uy k:=congrArg Prod.fst h1;have hv:e.val=v:=congrArg Prod.snd h1;unfold Instr.findAsking;simp only [Sem.run_bind,hk,H.eq n k w,Result.andThen_ok]
  by_cases hn:n=k
  ·subst hn
   rw [Qp,hv,if_pos (Zjx.2 rfl)]
   rfl
  ·rw [XC hn,if_neg fun e=>hn (Zjx.1 e),ZmJ H n w l m (i+1) h2]
   cases JT m n with
   | none=>rfl
   | some q=>simp;omega
theorem ZgL {P:Program} {w:World} {T:TypeId} (H:Zjy P T) {n:PtrD} {l:List MapEntry} {m:List (PtrD × Value)} (h:l.map kvE=m.map kvP):(Instr.findKey T (Uy n) l).run P w=.ok (JT m n) w:=by
 obtain ⟨fs,hu⟩:=H.und;unfold Instr.findKey;simp only [Sem.run_bind,run_underlying hu w,Result.andThen_ok]
 cases l with
 | nil=>cases m with
  | nil=>rfl
  | cons _ _=>cases h
 | cons e l =>
  have hn:Instr.findNow (.struct fs) (Uy n) (e::l) 0=none:=rfl;rw [hn];show (Instr.findAsking T (Uy n) (e::l) 0).run P w=_;rw [ZmJ H n w (e::l) m 0 h]
  congr 1
  cases JT m n with
  | none=>rfl
  | some q=>simp
theorem ZiB:∀ {m:List (PtrD × Value)} {n:PtrD} {j:Nat} {v:Value},JT m n=some (j,v)→m[j]? = some (n,v)
 | [],_,_,_,h=>by cases h
 | (k,u)::m,n,j,v,h=>by
  by_cases hn:n=k
  ·subst hn
   rw [Qp] at h;simp only [Option.some.injEq,Prod.mk.injEq] at h;obtain ⟨rfl,rfl⟩:=h
   rfl
  ·rw [XC hn] at h
   cases hm:JT m n with
   | none=>rw [hm] at h;cases h
   | some q =>
    rw [hm] at h;simp only [map_some,Option.some.injEq,Prod.mk.injEq] at h;obtain ⟨rfl,rfl⟩:=h;exact ZiB (m:=m) (j:=q.1) (v:=q.2) (by rw [hm])
def Zf5 (f:PtrD→Option Value) (k:PtrD) (v:Value):PtrD→Option Value:=fun n=>if n=k then some v else f n
theorem ZgM {v:Value}:∀ {m:List (PtrD × Value)} {n:PtrD} {j:Nat} {u:Value},JT m n=some (j,u)→∀ x,lookP (m.set j (n,v)) x=Zf5 (lookP m) n v x
 | [],_,_,_,h,_=>by cases h
 | (k,w)::m,n,j,u,h,x=>by
  by_cases hn:n=k
  ·subst hn
   rw [Qp] at h;simp only [Option.some.injEq,Prod.mk.injEq] at h;obtain ⟨rfl,rfl⟩:=h;rw [List.set_cons_zero];unfold Zf5 lookP
   by_cases hx:x=n
   ·rw [hx,Qp,if_pos rfl];rfl
   ·rw [XC hx,XC hx,if_neg hx]
  ·rw [XC hn] at h
   cases hm:JT m n with
   | none=>rw [hm] at h;cases h
   | some q =>
    rw [hm] at h;simp only [map_some,Option.some.injEq,Prod.mk.injEq] at h;obtain ⟨rfl,rfl⟩:=h;have ih:=ZgM (v:=v) (m:=m) (n:=n) (j:=q.1) (u:=q.2) (by rw [hm]) x;rw [List.set_cons_succ];unfold Zf5 lookP at ih ⊢
    by_cases hx:x=k
    ·subst hx
     rw [Qp,if_neg (Ne.symm hn),Qp]
    ·rw [XC hx,Option.map_map]
     have e:((fun q:Nat × Value=>q.2) ∘ fun q:Nat × Value=>(q.1+1,q.2))=fun q=>q.2:=rfl
     rw [e,ih]
     by_cases hxn:x=n
     ·rw [if_pos hxn,if_pos hxn]
     ·rw [if_neg hxn,if_neg hxn,XC hx,Option.map_map,e]
theorem ZfB {v:Value}:∀ {m:List (PtrD × Value)} {n:PtrD},JT m n=none→∀ x,lookP (m++[(n,v)]) x=Zf5 (lookP m) n v x
 | [],n,_,x=>by
  unfold Zf5 lookP
  by_cases hx:x=n
  ·rw [if_pos hx,hx,nil_append,Qp];rfl
  ·rw [if_neg hx,nil_append,XC hx];rfl
 | (k,w)::m,n,h,x=>by
  by_cases hn:n=k
  ·subst hn;rw [Qp] at h;cases h
  ·rw [XC hn] at h
   have hm:JT m n=none:=by
    cases hm:JT m n with
    | none=>rfl
    | some q=>rw [hm] at h;cases h
   have ih:=ZfB (v:=v) hm x;unfold Zf5 lookP at ih ⊢;rw [List.cons_append]
   by_cases hx:x=k
   ·subst hx
    rw [Qp,if_neg (Ne.symm hn),Qp]
   ·rw [XC hx,Option.map_map]
    have e:((fun q:Nat × Value=>q.2) ∘ fun q:Nat × Value=>(q.1+1,q.2))=fun q=>q.2:=rfl
    rw [e,ih]
    by_cases hxn:x=n
    ·rw [if_pos hxn,if_pos hxn]
    ·rw [if_neg hxn,if_neg hxn,XC hx,Option.map_map,e]
def Zlb (w:World) (b:Nat) (f:PtrD→Option Value):Prop:=∃ (es:Array MapEntry) (clock:Nat) (m:List (PtrD × Value)),w.heap[b]? = some (.map es clock)∧es.toList.map kvE=m.map kvP∧∀ n,lookP m n=f n
def J9 (b:Nat) (f:PtrD→Option Value):Asr:=⟨fun w g=>g=[b]∧Zlb w b f,fun w w' g _ hb ⟨e,es,clock,m,h1,h2,h3⟩=>⟨e,es,clock,m,(hb b (by rw [e];simp)).trans h1,h2,h3⟩⟩
theorem St.mapKH {W w:World} {s:List Asr} (h:St W s w) (i:Nat) {b:Nat} {f:PtrD→Option Value} (hi:s[i]? = some (J9 b f)):Zlb w b f:=by
 obtain ⟨g,⟨_,hb⟩,_⟩:=h.get i hi;exact hb
theorem Zlc {P:Program} {w:World} {t k e:TypeId} (ht:P.underlying t=some (.map k e)) (H:Zjy P k) {z:Value} (hz:(zeroValue e).run P w=.ok z w) {b:Nat} {f:PtrD→Option Value} (h:Zlb w b f) (n:PtrD) :
  (Instr.lookup t (.map (some b)) (Uy n) false).run P w=.ok ((f n).getD z) w:=by
 obtain ⟨es,clock,m,h1,h2,h3⟩:=h;have hg:(getObj b).run P w=.ok (.map es clock) w:=by simp only [getObj,Sem.run,h1]
 unfold Instr.lookup;simp only [Sem.run_bind,run_underlying ht w,Result.andThen_ok,hg,Sem.run_pure,H.chk,ZgL H h2];rw [← h3 n];unfold lookP
 cases JT m n with
 | none=>simp only [Sem.run_bind,hz,Result.andThen_ok,Sem.run_pure,Option.map_none,Option.getD_none];rfl
 | some q=>simp only [Sem.run_bind,Result.andThen_ok,Sem.run_pure,map_some,getD_some];rfl
theorem Zjz {es:Array MapEntry} {m:List (PtrD × Value)} (h:es.toList.map kvE=m.map kvP) {j:Nat} {n:PtrD} {u v:Value} (hj:m[j]? = some (n,u)):(es.modify j fun e=>{ e with key:=Uy n,val:=v }).toList.map kvE=(m.set j (n,v)).map kvP:=by
 rw [Array.toList_modify,List.map_set]
 apply List.ext_getElem?
 intro i;have hi:=congrArg (fun l=>l[i]?) h;simp only [List.getElem?_map] at hi;rw [List.getElem?_map,List.getElem?_modify,List.getElem?_set,List.getElem?_map];have hjm:j<m.length:=by
  rcases Nat.lt_or_ge j m.length with h'|h'
  ·exact h'
  ·rw [List.getElem?_eq_none h'] at hj;cases hj
 by_cases e:j=i
 ·subst e
  rw [if_pos rfl,if_pos (by rw [length_map];exact hjm)];rw [hj] at hi
  cases hc:es.toList[j]? with
  | none=>rw [hc] at hi;cases hi
  | some x=>simp [kvE,kvP]
 ·rw [if_neg e]
  refine Eq.trans ?_ hi
  cases es.toList[i]? with
  | none=>rfl
  | some x=>simp [e]
theorem ZmK {P:Program} {w:World} {t k e:TypeId} (ht:P.underlying t=some (.map k e)) (H:Zjy P k) {b:Nat} {f:PtrD→Option Value} (h:Zlb w b f) (n:PtrD) (v:Value) :
  ∃ o:Obj,(Instr.mapUpdate t (.map (some b)) (Uy n) v).run P w=.ok () { w with heap:=w.heap.setIfInBounds b o }∧∀ w':World,w'.heap[b]? = some o→Zlb w' b (Zf5 f n v):=by
 obtain ⟨es,clock,m,h1,h2,h3⟩:=h;have hg:(getObj b).run P w=.ok (.map es clock) w:=by simp only [getObj,Sem.run,h1]
 have hs:∀ o:Obj,(setObj b o).run P w=.ok () { w with heap:=w.heap.setIfInBounds b o }:=fun o=>by simp only [setObj,Sem.run,h1]
 have hf:f=lookP m:=funext fun x=>(h3 x).symm
 unfold Instr.mapUpdate;simp only [Sem.run_bind,run_underlying ht w,Result.andThen_ok,hg,Sem.run_pure,H.chk,ZgL H h2]
 cases hl:JT m n with
 | none =>
  refine ⟨.map (es.push { key:=Uy n,val:=v,born:=clock }) (clock+1),hs _,fun w' hw'=>⟨_,_,m++[(n,v)],hw',?_,fun x=>?_⟩⟩
  ·rw [Array.toList_push,map_append,map_append,h2];rfl
  ·rw [hf];exact ZfB hl x
 | some q =>
  have hat:=ZiB (m:=m) (n:=n) (j:=q.1) (v:=q.2) hl;have hkey:∃ e0,es[q.1]? = some e0∧e0.key=Uy n:=by
   have hi:=congrArg (fun l=>l[q.1]?) h2;simp only [List.getElem?_map,hat,map_some] at hi
   cases hc:es.toList[q.1]? with
   | none=>rw [hc] at hi;cases hi
   | some x =>
    rw [hc] at hi;simp only [map_some,Option.some.injEq] at hi;exact ⟨x,by simpa using hc,congrArg Prod.fst hi⟩
  obtain ⟨e0,he0,hk0⟩:=hkey;have hstay:(Instr.keyThatStays (Uy n) (Uy n)).run P w=.ok (Uy n) w:=by
   unfold Instr.keyThatStays;have:Instr.sameBits 10000 (Uy n) (Uy n)=true:=by simp [Instr.sameBits,Uy]
   rw [if_pos this];rfl
  refine ⟨.map (es.modify q.1 fun e=>{ e with key:=Uy n,val:=v }) clock,?_,fun w' hw'=>⟨_,_,m.set q.1 (n,v),hw',Zjz h2 hat,fun x=>?_⟩⟩
  ·simp only [he0,map_some,getD_some,hk0,Sem.run_bind,hstay,Result.andThen_ok]
   exact hs _
  ·rw [hf];exact ZgM hl x
section
variable {P:Program} {ops:Array Oper} {Q:Exit→Act→World→Prop} {rest:List Oper} {o:Oper} {a:Act} {w W:World} {N:Nat} {l:List (Nat × Value)} {s:List Asr} {t k e:TypeId} {x y z:Operand}
theorem ZfC (ho:o.op=.lookup t x y false) {b:Nat} {n:PtrD} {f:PtrD→Option Value} (hx:a.eval x=.map (some b)) (hy:a.eval y=Uy n) (ht:P.underlying t=some (.map k e)) (H:Zjy P k) {u:Value} (hz:(zeroValue e).run P w=.ok u w) (hM:Zlb w b f) {v:Value} (hv:(f n).getD u=v):Yl P w o a v:=by
 unfold Yl execOp;simp only [ho,hx,hy,Sem.run_bind,Zlc ht H hz hM n,Result.andThen_ok,Sem.run_pure,hv]
theorem ZaX (hg:o.guard=none) (hF:Fr N a l ds) (ho:o.op=.makeMap t none) {d:Nat} (hd:o.dst=some d) (hN:Nat.blt d N=true) (hS:St W s w)
  (h:∀ a' w' b,Fr N a' ((d,.map (some b))::l) ds→St W (J9 b (fun _=>none)::s) w'→wpList P ops Q rest a' w'):wpList P ops Q (o::rest) a w:=by
 have hr:(execOp a.eval o).run P w=.ok (.value (.map (some w.heap.size))) (w.alloc (.map #[] 0)):=by
  unfold execOp;simp only [ho,Option.map_none,Instr.makeMap,Sem.run_bind]
  rfl
 refine ZoN hg hF hd hN hr fun a' hF'=>h _ _ _ hF' ?_;exact (hS.allocO (.map #[] 0)).imp fun g ⟨e,hb⟩ _ _=>⟨e,#[],0,[],hb,rfl,fun n=>rfl⟩
theorem ZjA (hg:o.guard=none) (hF:Fr N a l ds) (ho:o.op=.mapUpdate t x y z) (hd:o.dst=none) {b:Nat} {n:PtrD} {v:Value} (hx:a.eval x=.map (some b)) (hy:a.eval y=Uy n) (hz:a.eval z=v) (ht:P.underlying t=some (.map k e)) (H:Zjy P k) (hS:St W s w) (i:Nat) {f:PtrD→Option Value} (hi:s[i]? = some (J9 b f))
  (h:∀ w',St W (s.set i (J9 b (Zf5 f n v))) w'→wpList P ops Q rest a w'):wpList P ops Q (o::rest) a w:=by
 obtain ⟨o',hrun,hM⟩:=ZmK (P:=P) ht H (hS.mapKH i hi) n v;refine wpList_plain hg fun K hK=>?_;unfold Oper.wp;have hr:(execOp a.eval o).run P w=.ok .skip { w with heap:=w.heap.setIfInBounds b o' }:=by
  unfold execOp;simp only [ho,hx,hy,hz,Sem.run_bind,hrun,Result.andThen_ok,Sem.run_pure]
 rw [hr];refine hK (a.put o.dst undef) _ ?_;rw [hd];refine h _ (hS.mutAt i hi rfl rfl rfl (by simp) fun g ⟨e,hb⟩ _ h3=>?_);have hlt:=(h3 b (by rw [e];simp)).2;refine ⟨g,⟨e,hM _ ?_⟩,by rw [e];simp,fun c hc=>⟨.inl hc,by have:=(h3 c hc).2;simpa using this⟩,fun k hk hn=>?_⟩
 ·show (w.heap.setIfInBounds b o')[b]? = some o'
  simp [Array.getElem?_setIfInBounds,hlt]
 ·show (w.heap.setIfInBounds b o')[k]? = w.heap[k]?
  rw [e] at hn;have:b≠k:=fun h=>hn (by simp [h])
  simp [Array.getElem?_setIfInBounds,this]
end
theorem Zhk:Zjy prog 40:=⟨⟨_,(by kernel_rfl:Tryz.prog.underlying 40=some (.struct (Tryz.prog.fieldsOf 40)))⟩,fun c x w=>by
  have hS:Tryz.prog.underlying 40=some (.struct (Tryz.prog.fieldsOf 40)):=by kernel_rfl
  unfold Uy;rw [show (10000:Nat)=9998+1+1 from rfl,Instr.checkKey];simp only [Sem.run_bind,run_underlying hS w,Result.andThen_ok];simp only [Program.fieldsOf,Tryz.underlying40];unfold Instr.checkKey
  go_simp,fun x y w=>Zhi x y 9998 w⟩
structure LH where
  ao:Option Addr
  n:Nat
  cp:Nat
def LH.cells (h:LH):List Value:=[.slice h.ao h.n h.cp]
def LH.zero:LH:=⟨none,0,0⟩
theorem LH.cells_len (h:LH):h.cells.length=1:=rfl
theorem ZaY (xs:List LH):∀ u ∈ xs.flatMap LH.cells,u.oneCell'=true:=by
 intro u hu;obtain ⟨x,_,hx⟩:=List.mem_flatMap.1 hu;rw [show x.cells=[Value.slice x.ao x.n x.cp] from rfl,mem_singleton] at hx;rw [hx];rfl
theorem ZmL:ZbA prog 147 37 1 24:=by
 obtain ⟨i0,hi,hz0,hz1,hz2⟩:=info_parts (P:=prog) (e:=37) (z:=.slice none 0 0) (size:=1) (bytes:=24) (by kernel_rfl);exact ⟨Tryz.underlying147,⟨i0,_,hi,hz0,hz1,hz2,rfl⟩,by decide⟩
def QL (ao:Option Addr) (cp d:Nat) (L:Nat→List PtrD):Asr:=match d with
 | 0=>pureA True
 | 1=>exA fun h0:LH=>sepA [Zd LH.cells 1 37 (.slice ao 1 cp) [h0],Zd PtrD.cells 5 40 (.slice h0.ao h0.n h0.cp) (L 0)]
 | _=>exA fun h:LH × LH=>sepA [Zd LH.cells 1 37 (.slice ao 2 cp) [h.1,h.2],Zd PtrD.cells 5 40 (.slice h.1.ao h.1.n h.1.cp) (L 0),Zd PtrD.cells 5 40 (.slice h.2.ao h.2.n h.2.cp) (L 1)]
def Zpq (w:World) (ao:Option Addr) (d:Nat) (L:Nat→List PtrD):Prop:=∃ hs:List LH,hs.length=d∧Rd LH.cells 1 w ao d hs∧∀ j,j<d→Rd PtrD.cells 5 w (hs.getD j LH.zero).ao (hs.getD j LH.zero).n (L j)
theorem ZjB {ao:Option Addr} {cp d:Nat} {L:Nat→List PtrD} (h2:d≤2) {w:World} {f:List Nat} (h:(QL ao cp d L).P w f):Zpq w ao d L:=by
 rcases (by omega:d=0∨d=1∨d=2) with rfl|rfl|rfl
 ·exact ⟨[],rfl,Zgj _ _ _ _,fun j hj=>absurd hj (Nat.not_lt_zero _)⟩
 ·obtain ⟨h0,f1,f2,rfl,a1,f3,f4,rfl,a2,_⟩:=h
  refine ⟨[h0],rfl,J0 LH.cells_len a1,fun j hj=>?_⟩;obtain rfl:j=0:=by omega
  exact J0 PtrD.cells_len a2
 ·obtain ⟨⟨h0,h1⟩,f1,f2,rfl,a1,f3,f4,rfl,a2,f5,f6,rfl,a3,_⟩:=h
  refine ⟨[h0,h1],rfl,J0 LH.cells_len a1,fun j hj=>?_⟩;rcases (by omega:j=0∨j=1) with rfl|rfl
  ·exact J0 PtrD.cells_len a2
  ·exact J0 PtrD.cells_len a3
theorem St.was {W w:World} {s:List Asr} (h:St W s w) (i:Nat) {ao:Option Addr} {cp d:Nat} {L:Nat→List PtrD} (hi:s[i]? = some (QL ao cp d L)) (h2:d≤2):Zpq w ao d L:=by
 obtain ⟨f,hf,_⟩:=h.get i hi;exact ZjB h2 hf
theorem St.was0 {W w:World} {F:List Asr} {ao:Option Addr} {cp:Nat} {L:Nat→List PtrD} (h:St W F w):St W (QL ao cp 0 L::F) w:=St.pure.2 ⟨trivial,h⟩
theorem St.was1 {W w:World} {F:List Asr} {ao:Option Addr} {cp:Nat} {L:Nat→List PtrD} (h0:LH) (h:St W (Zd LH.cells 1 37 (.slice ao 1 cp) [h0]::Zd PtrD.cells 5 40 (.slice h0.ao h0.n h0.cp) (L 0)::F) w):St W (QL ao cp 1 L::F) w :=
 St.exI (A:=fun h0:LH=>sepA [Zd LH.cells 1 37 (.slice ao 1 cp) [h0],Zd PtrD.cells 5 40 (.slice h0.ao h0.n h0.cp) (L 0)]) h0 ((St.join (r:=[_,_])).1 h)
theorem St.was2 {W w:World} {F:List Asr} {ao:Option Addr} {cp:Nat} {L:Nat→List PtrD} (h0 h1:LH) (h:St W (Zd LH.cells 1 37 (.slice ao 2 cp) [h0,h1]::Zd PtrD.cells 5 40 (.slice h0.ao h0.n h0.cp) (L 0)::Zd PtrD.cells 5 40 (.slice h1.ao h1.n h1.cp) (L 1)::F) w):St W (QL ao cp 2 L::F) w :=
 St.exI (A:=fun h:LH × LH=>sepA [Zd LH.cells 1 37 (.slice ao 2 cp) [h.1,h.2],Zd PtrD.cells 5 40 (.slice h.1.ao h.1.n h.1.cp) (L 0),Zd PtrD.cells 5 40 (.slice h.2.ao h.2.n h.2.cp) (L 1)]) (h0,h1) ((St.join (r:=[_,_,_])).1 h)
theorem Zld {l c:List PtrD} {i:Nat} (hl:l.length=c.length) (hi:i<l.length) (h:l.take i=c.take i) (he:(l.getD i PtrD.zero).eqv (c.getD i PtrD.zero)=true):l.take (i+1)=c.take (i+1):=by
 rw [Qi hi,Qi (by omega),h,PtrD.eqv_iff.1 he]
theorem Zle {l c:List PtrD} {i:Nat} (hl:l.length=c.length) (hi:i<l.length) (he:(l.getD i PtrD.zero).eqv (c.getD i PtrD.zero)=false):decide (l=c)=false:=by
 refine decide_eq_false fun e=>?_;rw [e,PtrD.eqv_iff.2 rfl] at he
 cases he
theorem ZmM {l c:List PtrD} {i:Nat} (hl:l.length=c.length) (hi:¬ i<l.length) (h:l.take i=c.take i):decide (l=c)=true:=by
 refine decide_eq_true ?_
 rwa [List.take_of_length_le (by omega),List.take_of_length_le (by omega)] at h
theorem ZjC (aoL:Option Addr) (cpL:Nat) (l:List PtrD) (aoC:Option Addr) (cpC:Nat) (c:List PtrD) (w0:World) (hlm:l.length≤1048576) (hcm:c.length≤1048576) (hL:Rd PtrD.cells 5 w0 aoL l.length l) (hC:Rd PtrD.cells 5 w0 aoC c.length c):Calls prog 129 #[.slice aoL l.length cpL,.slice aoC c.length cpC] w0 fun e w'=>e=.returned (.bool (decide (l=c)))∧Below w0.heap.size w0 w':=by
 obtain ⟨gl,ol,rl⟩:=hL.opn;obtain ⟨gc,oc,rc⟩:=hC.opn;have RL:=Bx.mk rl;have RC:=Bx.mk rc;clear rl rc hL hC;have E:=Bx.mk (St.start w0);refine ent func129 ntmps129 ?_;refine xsr<|xr 1 rfl<|xne<|xsq<|xsr<|xr 1 rfl<|xy rfl (vn 40 5 rfl)<|xr 1 rfl<|xy rfl (vn 40 5 rfl)<|xr 1 rfl<|xne<|xcn 10 rfl (fun _ dcc1=>?_) fun _ dcc1=>?_;refine xct rfl<|xsr<|xr 1 rfl<|xne<|xre<|xtr<|xb1 results129 rfl ?_;have hn:decide (l=c)=false:=decide_eq_false fun e=>by rw [e] at dcc1;omega
 exact ⟨by rw [hn],E.o.bel⟩;have hl:l.length=c.length:=by omega
 refine xcf rfl<|xsk<|xet<|xsq<|xsr<|xr 1 rfl<|xy rfl (vn 40 5 rfl)<|xr 1 rfl<|xne<|xbl ?_;intro a O;refine ZD (ι:=Nat) (fun i a w=>(i≤l.length∧l.take i=c.take i)∧Fr 26 a [(0,.slice aoL l.length cpL),(1,.slice aoC c.length cpC),(11,.slice aoL l.length cpL),(12,.int .i64 (l.length:Int)),(13,.int .i64 (i:Int))]∧St w0 ([]) w) (fun i=>l.length - i) 0 ⟨⟨Nat.zero_le _,by rw [take_zero,take_zero]⟩,O.less _ ⟨rfl,rfl,rfl,rfl,rfl,trivial⟩,E.o⟩ ?_;clear O E;clear a;rintro i a w1 ⟨⟨hi,hx⟩,O,E⟩;replace E:=Bx.mk E;revert a;refine xsr<|xr 1 rfl<|xne<|xsq<|xcd 14 rfl (fun _ dcc2=>?_) fun _ dcc2=>?_
 refine xct rfl<|xsk<|xet<|xsq<|xbl<|xsr<|xr 2 rfl<|xne<|xsq ?_;intro a O;refine Yr (by kernel_rfl) (by kernel_rfl) E.o ?_;revert a;refine xqr 2 rfl<|xq rfl (fun E=>vxr 40 i 5 rfl (RL.out.ao i (by omega)))<|xq rfl (fun E a O=>ylr (cs:=pL (l.getD i PtrD.zero)) rfl (O.ev rfl) (RL.out.elem E (Zh (xs:=l) (j:=i) (d:=PtrD.zero) (by omega))))<|xqr 2 rfl<|xq rfl (fun E=>vxr 40 i 5 rfl (RC.out.ao i (by omega)))<|xq rfl (fun E a O=>ylr (cs:=pL (c.getD i PtrD.zero)) rfl (O.ev rfl) (RC.out.elem E (Zh (xs:=c) (j:=i) (d:=PtrD.zero) (by omega))))<|xq rfl (fun E a O=>Zbv (l.getD i PtrD.zero) (c.getD i PtrD.zero) rfl (O.ev rfl) (O.ev rfl)) ?_;intro a O;refine wpQuiet_nil ?_;intro w2 E;replace E:=Bx.mk E;revert a;refine xet<|xcs 24 rfl (fun cc3=>?_) fun cc3=>?_
 refine xct rfl<|xsr<|xr 1 rfl<|xne<|xre<|xbr<|xtr<|xtr<|xbr<|xtr<|xb1 results129 rfl ?_;exact ⟨by rw [Zle hl (show i<l.length by omega) (by simpa using cc3)],E.o.bel⟩;refine xcf rfl<|xsk<|xeb<|xet<|xrl<|xy rfl (vad rfl)<|xr 1 rfl<|xne ?_;have hx2:=Zld hl (show i<l.length by omega) hx (by simpa using cc3);intro a O;exact ⟨i+1,⟨⟨by omega,hx2⟩,O.less _ ⟨rfl,rfl,rfl,rfl,rfl,trivial⟩,E.o⟩,(by omega)⟩;refine xcf rfl<|xex<|xtx<|xtx<|xbh<|xet<|xsr<|xr 1 rfl<|xne<|xre<|xb1 results129 rfl ?_;exact ⟨by rw [ZmM hl (by omega) hx],E.o.bel⟩
theorem Zd8 (a0:Option Addr) (c0:Nat) (a1:Option Addr) (c1:Nat) (a2:Option Addr) (c2:Nat) (a4:Option Addr) (c4:Nat) (a6:Option Addr) (c6:Nat) (st:Za) (t:Zf) (w0:World) (hT:Xq w0) (hM:X1 w0) (hE:X2 w0) (b:Nat) (hB:Box w0 b 8 39 (sV a0 c0 a1 c1 a2 c2 a4 c4 a6 c6 st)) (hR:Rd Zt 1 w0 a0 st.af.length st.af) (hrow:Y5 st) (hwf:Wf st 0 t.ac):Calls prog 125 #[.pointer (some ⟨b,0,none⟩),.agg #[.int .i64 t.ac.aA,.int .i64 t.ac.ah,.int .i64 t.ac.al,.int .i64 t.ac.ax,.int .i64 t.ac.ak,.int .i64 0,.int .i64 t.am]] w0 fun e w'=>∃ ao cp,e=.returned (.slice ao 0 cp)∧St w0 [QL ao cp 0 (fun _=>[])] w':=by
 have HT:=Bx.mk hT;have HM:=Bx.mk hM;have HE:=Bx.mk hE;have HB:=Bx.mk hB;have HR:=Bx.mk hR;clear hT hM hE hB hR;have E:=Bx.mk (St.start w0);refine ent func125 ntmps125 ?_;refine xsr ?_;refine ybx E ?_;clear E;intro w1 b1 E;refine xr 1 rfl<|xne<|xsr<|xr 1 rfl<|xne<|xsr<|Xf 0 rfl<|Xw 0 5 E rfl rfl ?_;refine ybs PtrD.cells 40 5 [t.ac] E ?_;clear E;intro b2 w2 E;refine xr 1 rfl<|xne<|xsq<|xsr<|Xf 5 rfl<|Xl 1 E rfl rfl<|xr 1 rfl<|xne<|xbl ?_;intro a O;refine XI 6 ?_;revert a;refine xsq<|xsr<|xr 2 rfl<|xne ?_;intro a O;replace O:=O.know (k:=19) (c:=false) rfl (by decide);revert a;refine xcf rfl<|xex<|xtx<|xtx<|xbh<|xet<|xsr<|xr 2 rfl<|xne<|xre<|xb1 results125 rfl ?_;exact ⟨none,0,rfl,St.was0 (E.o.erS [1,0])⟩
theorem Zd9 (a0:Option Addr) (c0:Nat) (a1:Option Addr) (c1:Nat) (a2:Option Addr) (c2:Nat) (a4:Option Addr) (c4:Nat) (a6:Option Addr) (c6:Nat) (st:Za) (t:Zf) (w0:World) (hT:Xq w0) (hM:X1 w0) (hE:X2 w0) (b:Nat) (hB:Box w0 b 8 39 (sV a0 c0 a1 c1 a2 c2 a4 c4 a6 c6 st)) (hR:Rd Zt 1 w0 a0 st.af.length st.af) (hrow:Y5 st) (hwf:Wf st 1 t.ac):Calls prog 125 #[.pointer (some ⟨b,0,none⟩),.agg #[.int .i64 t.ac.aA,.int .i64 t.ac.ah,.int .i64 t.ac.al,.int .i64 t.ac.ax,.int .i64 t.ac.ak,.int .i64 1,.int .i64 t.am]] w0 fun e w'=>∃ ao cp,e=.returned (.slice ao 1 cp)∧St w0 [QL ao cp 1 (fun _=>[t.ac])] w':=by
 have HT:=Bx.mk hT;have HM:=Bx.mk hM;have HE:=Bx.mk hE;have HB:=Bx.mk hB;have HR:=Bx.mk hR;clear hT hM hE hB hR;have E:=Bx.mk (St.start w0);refine ent func125 ntmps125 ?_;refine xsr ?_;refine ybx E ?_;clear E;intro w1 b1 E;refine xr 1 rfl<|xne<|xsr<|xr 1 rfl<|xne<|xsr<|Xf 0 rfl<|Xw 0 5 E rfl rfl ?_;refine ybs PtrD.cells 40 5 [t.ac] E ?_;clear E;intro b2 w2 E;refine xr 1 rfl<|xne<|xsq<|xsr<|Xf 5 rfl<|Xl 1 E rfl rfl<|xr 1 rfl<|xne<|xbl ?_;intro a O;refine XI 6 ?_;revert a;refine xsq<|xsr<|xr 2 rfl<|xne ?_;intro a O;replace O:=O.know (k:=19) (c:=true) rfl (by decide);revert a;refine xct rfl<|xsk<|xet<|xsq<|xbl<|xsr<|xr 2 rfl ?_;refine ybs LH.cells 37 1 [(⟨some ⟨b2,0,none⟩,1,1⟩:LH)] E ?_;clear E;intro b3 w3 E;replace E:=Bx.mk (E.o.nilRow LH.cells 1 37 none);refine yap ZmL LH.cells_len E 0 (St.rdN E.o LH.cells_len 1 rfl) (ZaY _) ?_;clear E;intro ao5 cp6 w4 E;replace E:=E.nm;intro a O;have hz9:([]:List LH).length+([(⟨some ⟨b2,0,none⟩,1,1⟩:LH)]:List LH).length=1:=rfl;rw [hz9] at O;clear hz9;replace E:=E.nm;revert a;refine xr 1 rfl<|xne<|xsr<|xr 1 rfl<|xne<|xsq<|xsr<|xr 1 rfl<|xy rfl (vn 40 5 rfl)<|xr 1 rfl<|xne<|xbl ?_;intro a O;refine XI 6 ?_;revert a;refine xsr<|xr 1 rfl<|xne<|xsq ?_;intro a O;replace O:=O.know (k:=29) (c:=true) rfl (by decide);revert a;refine xct rfl<|xsk<|xet<|xsq<|xbl<|xsr<|xy rfl (vx 40 0 5 rfl)<|xy rfl (fun a O=>ylr (cs:=pL t.ac) rfl (O.ev rfl) (E.o.elem PtrD.cells_len 2 rfl (show ([t.ac]:List PtrD)[0]? = some _ from rfl))) ?_;refine yal z5 E ?_;clear E;intro w5 b7 E;refine yst E 0 ?_;clear E;intro w6 E;replace E:=E.nm;refine xne<|xsr<|xr 1 rfl<|Xw 0 5 E rfl rfl<|xr 1 rfl ?_;refine yc (QS a0 c0 a1 c1 a2 c2 a4 c4 a6 c6 st t.ac 1 b _ (HT.o.below E.o.bel) (HM.o.below E.o.bel) (HE.o.below E.o.bel) (HB.out.below E.o.bel (Nat.le_refl _)) (HR.out.below E.o.bel) hrow hwf.ok.1) func121 ?_;rintro _ w7 (⟨l8,hk8,ao8,cp8,rfl,hs1⟩|⟨hk8,ao8,nn8,cp8,rfl,hb⟩);obtain ⟨y8_0,y8_1,y8_2,y8_3,rfl⟩:=Vl (Y4 hk8);refine ⟨_,rfl,?_⟩;replace E:=E.ad hs1;clear hs1;replace E:=E.nm;refine xr 5 rfl<|xne<|xrl<|xr 2 rfl ?_;replace E:=Bx.mk (E.o.nilRow PtrD.cells 5 40 none);refine yap Yz PtrD.cells_len E 0 (St.rdN E.o PtrD.cells_len 1 rfl) (Zn _) ?_;clear E;intro ao10 cp11 w8 E;replace E:=E.nm;intro a O;have hz9:([]:List PtrD).length+([y8_0,y8_1,y8_2,y8_3]:List PtrD).length=4:=rfl;rw [hz9] at O;clear hz9;replace E:=E.nm;revert a;refine xr 1 rfl<|xni<|xeb<|xet<|xrl<|xy rfl (fun a O=>ZW (r:=1) rfl (O.ev rfl) (O.ev rfl) (by decide))<|xr 1 rfl<|xne ?_;intro a O;refine Ym 5 ?_;refine wp_seq ?_;obtain ⟨g12,rfl,_,_,_,_⟩:=E.o.rowOpen 0 rfl (by simp);obtain ⟨g13,rfl,_,_,_,_⟩:=E.o.rowOpen 1 rfl (by simp);revert a;refine xrl<|xr 1 rfl<|xne<|xsq ?_;intro a O;replace O:=O.know (k:=29) (c:=false) rfl (by decide);revert a;refine xcf rfl<|xex<|xtx<|xtx<|xbh<|xet<|xrl<|xr 2 rfl<|xni<|xeb<|xet<|xrl<|xr 1 rfl<|xy rfl (fun a O=>XE (r:=0) rfl (O.ev rfl) (O.ev rfl) (by decide))<|xr 1 rfl<|xne ?_;intro a O;refine Ym 5 ?_;revert a;refine xsq<|xsr<|xr 2 rfl<|xne ?_;intro a O;replace O:=O.know (k:=19) (c:=false) rfl (by decide);revert a;refine xcf rfl<|xex<|xtx<|xtx<|xbh<|xet<|xsr<|xr 2 rfl<|xne<|xre<|xb1 results125 rfl ?_;replace E:=E.pks [5,4];exact ⟨ao5,cp6,rfl,St.was1 (L:=fun _=>[t.ac]) (⟨some ⟨b2,0,none⟩,1,1⟩:LH) (E.o.erS [6,5,4,3,2])⟩;refine ⟨_,rfl,?_⟩;replace E:=Bx.mk (E.o.later hb);clear hb;obtain ⟨_,_,l9,hk9,_⟩:=hwf;rw [show kids st t.ac 1=some l9 from hk9] at hk8;cases hk8
theorem Zea (a0:Option Addr) (c0:Nat) (a1:Option Addr) (c1:Nat) (a2:Option Addr) (c2:Nat) (a4:Option Addr) (c4:Nat) (a6:Option Addr) (c6:Nat) (st:Za) (t:Zf) (w0:World) (hT:Xq w0) (hM:X1 w0) (hE:X2 w0) (b:Nat) (hB:Box w0 b 8 39 (sV a0 c0 a1 c1 a2 c2 a4 c4 a6 c6 st)) (hR:Rd Zt 1 w0 a0 st.af.length st.af) (hrow:Y5 st) (hwf:Wf st 2 t.ac) {K:List PtrD} (hkR:kids st t.ac 2=some K):Calls prog 125 #[.pointer (some ⟨b,0,none⟩),.agg #[.int .i64 t.ac.aA,.int .i64 t.ac.ah,.int .i64 t.ac.al,.int .i64 t.ac.ax,.int .i64 t.ac.ak,.int .i64 2,.int .i64 t.am]] w0 fun e w'=>∃ ao cp,e=.returned (.slice ao 2 cp)∧St w0 [QL ao cp 2 (fun j=>if j=0 then [t.ac] else K)] w':=by
 have HT:=Bx.mk hT;have HM:=Bx.mk hM;have HE:=Bx.mk hE;have HB:=Bx.mk hB;have HR:=Bx.mk hR;clear hT hM hE hB hR;have hwK:∀ q ∈ K,Wf st 1 q:=by obtain ⟨_,_,K9,hk9,hw9⟩:=hwf;rw [show kids st t.ac 2=some K9 from hk9] at hkR;obtain rfl:=Option.some.inj hkR;exact hw9
 obtain ⟨x_0,x_1,x_2,x_3,rfl⟩:=Vl (Y4 hkR);have E:=Bx.mk (St.start w0);refine ent func125 ntmps125 ?_;refine xsr ?_;refine ybx E ?_;clear E;intro w1 b1 E;refine xr 1 rfl<|xne<|xsr<|xr 1 rfl<|xne<|xsr<|Xf 0 rfl<|Xw 0 5 E rfl rfl ?_;refine ybs PtrD.cells 40 5 [t.ac] E ?_;clear E;intro b2 w2 E;refine xr 1 rfl<|xne<|xsq<|xsr<|Xf 5 rfl<|Xl 1 E rfl rfl<|xr 1 rfl<|xne<|xbl ?_;intro a O;refine XI 6 ?_;revert a;refine xsq<|xsr<|xr 2 rfl<|xne ?_;intro a O;replace O:=O.know (k:=19) (c:=true) rfl (by decide);revert a;refine xct rfl<|xsk<|xet<|xsq<|xbl<|xsr<|xr 2 rfl ?_;refine ybs LH.cells 37 1 [(⟨some ⟨b2,0,none⟩,1,1⟩:LH)] E ?_;clear E;intro b3 w3 E;replace E:=Bx.mk (E.o.nilRow LH.cells 1 37 none);refine yap ZmL LH.cells_len E 0 (St.rdN E.o LH.cells_len 1 rfl) (ZaY _) ?_;clear E;intro ao5 cp6 w4 E;replace E:=E.nm;intro a O;have hz9:([]:List LH).length+([(⟨some ⟨b2,0,none⟩,1,1⟩:LH)]:List LH).length=1:=rfl;rw [hz9] at O;clear hz9;replace E:=E.nm;revert a;refine xr 1 rfl<|xne<|xsr<|xr 1 rfl<|xne<|xsq<|xsr<|xr 1 rfl<|xy rfl (vn 40 5 rfl)<|xr 1 rfl<|xne<|xbl ?_;intro a O;refine XI 6 ?_;revert a;refine xsr<|xr 1 rfl<|xne<|xsq ?_;intro a O;replace O:=O.know (k:=29) (c:=true) rfl (by decide);revert a;refine xct rfl<|xsk<|xet<|xsq<|xbl<|xsr<|xy rfl (vx 40 0 5 rfl)<|xy rfl (fun a O=>ylr (cs:=pL t.ac) rfl (O.ev rfl) (E.o.elem PtrD.cells_len 2 rfl (show ([t.ac]:List PtrD)[0]? = some _ from rfl))) ?_;refine yal z5 E ?_;clear E;intro w5 b7 E;refine yst E 0 ?_;clear E;intro w6 E;replace E:=E.nm;refine xne<|xsr<|xr 1 rfl<|Xw 0 5 E rfl rfl<|xr 1 rfl ?_;refine yc (QS a0 c0 a1 c1 a2 c2 a4 c4 a6 c6 st t.ac 2 b _ (HT.o.below E.o.bel) (HM.o.below E.o.bel) (HE.o.below E.o.bel) (HB.out.below E.o.bel (Nat.le_refl _)) (HR.out.below E.o.bel) hrow hwf.ok.1) func121 ?_;rintro _ w7 (⟨l8,hk8,ao8,cp8,rfl,hs1⟩|⟨hk8,ao8,nn8,cp8,rfl,hb⟩);obtain rfl:=Option.some.inj (hkR.symm.trans hk8);refine ⟨_,rfl,?_⟩;replace E:=E.ad hs1;clear hs1;replace E:=E.nm;refine xr 5 rfl<|xne<|xrl<|xr 2 rfl ?_;replace E:=Bx.mk (E.o.nilRow PtrD.cells 5 40 none);refine yap Yz PtrD.cells_len E 0 (St.rdN E.o PtrD.cells_len 1 rfl) (Zn _) ?_;clear E;intro ao10 cp11 w8 E;replace E:=E.nm;intro a O;have hz9:([]:List PtrD).length+([x_0,x_1,x_2,x_3]:List PtrD).length=4:=rfl;rw [hz9] at O;clear hz9;replace E:=E.nm;revert a;refine xr 1 rfl<|xni<|xeb<|xet<|xrl<|xy rfl (fun a O=>ZW (r:=1) rfl (O.ev rfl) (O.ev rfl) (by decide))<|xr 1 rfl<|xne ?_;intro a O;refine Ym 5 ?_;refine wp_seq ?_;obtain ⟨g12,rfl,_,_,_,_⟩:=E.o.rowOpen 0 rfl (by simp);obtain ⟨g13,rfl,_,_,_,_⟩:=E.o.rowOpen 1 rfl (by simp);revert a;refine xrl<|xr 1 rfl<|xne<|xsq ?_;intro a O;replace O:=O.know (k:=29) (c:=false) rfl (by decide);revert a;refine xcf rfl<|xex<|xtx<|xtx<|xbh<|xet<|xrl<|xr 2 rfl<|xni<|xeb<|xet<|xrl<|xr 1 rfl<|xy rfl (fun a O=>XE (r:=1) rfl (O.ev rfl) (O.ev rfl) (by decide))<|xr 1 rfl<|xne ?_;intro a O;refine Ym 5 ?_;revert a;refine xsq<|xsr<|xr 2 rfl<|xne ?_;intro a O;replace O:=O.know (k:=19) (c:=true) rfl (by decide);revert a;refine xct rfl<|xsk<|xet<|xsq<|xbl<|xsr<|xr 2 rfl ?_;refine ybs LH.cells 37 1 [(⟨some ⟨g12,0,none⟩,4,cp11⟩:LH)] E ?_;clear E;intro b14 w9 E;refine yap ZmL LH.cells_len E 4 (St.rdN E.o LH.cells_len 0 rfl) (ZaY _) ?_;clear E;intro ao15 cp16 w10 E;replace E:=E.nm;intro a O;have hz9:([(⟨some ⟨b2,0,none⟩,1,1⟩:LH)]:List LH).length+([(⟨some ⟨g12,0,none⟩,4,cp11⟩:LH)]:List LH).length=2:=rfl;rw [hz9] at O;clear hz9;replace E:=E.nm;revert a;refine xr 1 rfl<|xne<|xsr<|xr 1 rfl<|xne<|xsq<|xsr<|xr 1 rfl<|xy rfl (vn 40 5 rfl)<|xr 1 rfl<|xne<|xbl ?_;intro a O;refine XI 6 ?_;revert a;refine xsr<|xr 1 rfl<|xne<|xsq ?_;intro a O;replace O:=O.know (k:=29) (c:=true) rfl (by decide);revert a;refine xct rfl<|xsk<|xet<|xsq<|xbl<|xsr<|xy rfl (vx 40 0 5 rfl)<|xy rfl (fun a O=>ylr (cs:=pL x_0) rfl (O.ev rfl) (E.o.elem PtrD.cells_len 1 rfl (show ([x_0,x_1,x_2,x_3]:List PtrD)[0]? = some _ from rfl))) ?_;refine yal z5 E ?_;clear E;intro w11 b17 E;refine yst E 0 ?_;clear E;intro w12 E;replace E:=E.nm;refine xne<|xsr<|xr 1 rfl<|Xw 0 5 E rfl rfl<|xr 1 rfl ?_;refine yc (QS a0 c0 a1 c1 a2 c2 a4 c4 a6 c6 st x_0 1 b _ (HT.o.below E.o.bel) (HM.o.below E.o.bel) (HE.o.below E.o.bel) (HB.out.below E.o.bel (Nat.le_refl _)) (HR.out.below E.o.bel) hrow (hwK _ (by simp)).ok.1) func121 ?_;rintro _ w13 (⟨l18,hk18,ao18,cp18,rfl,hs1⟩|⟨hk18,ao18,nn18,cp18,rfl,hb⟩);obtain ⟨y18_0,y18_1,y18_2,y18_3,rfl⟩:=Vl (Y4 hk18);refine ⟨_,rfl,?_⟩;replace E:=E.ad hs1;clear hs1;replace E:=E.nm;refine xr 5 rfl<|xne<|xrl<|xr 2 rfl ?_;replace E:=Bx.mk (E.o.nilRow PtrD.cells 5 40 none);refine yap Yz PtrD.cells_len E 0 (St.rdN E.o PtrD.cells_len 1 rfl) (Zn _) ?_;clear E;intro ao20 cp21 w14 E;replace E:=E.nm;intro a O;have hz9:([]:List PtrD).length+([y18_0,y18_1,y18_2,y18_3]:List PtrD).length=4:=rfl;rw [hz9] at O;clear hz9;replace E:=E.nm;revert a;refine xr 1 rfl<|xni<|xeb<|xet<|xrl<|xy rfl (fun a O=>ZW (r:=1) rfl (O.ev rfl) (O.ev rfl) (by decide))<|xr 1 rfl<|xne ?_;intro a O;refine Ym 5 ?_;refine wp_seq ?_;obtain ⟨g22,rfl,_,_,_,_⟩:=E.o.rowOpen 0 rfl (by simp);obtain ⟨g23,rfl,_,_,_,_⟩:=E.o.rowOpen 1 rfl (by simp);revert a;refine xrl<|xr 1 rfl<|xne<|xsq ?_;intro a O;replace O:=O.know (k:=29) (c:=true) rfl (by decide);revert a;refine xct rfl<|xsk<|xet<|xsq<|xbl<|xsr<|xy rfl (vx 40 1 5 rfl)<|xy rfl (fun a O=>ylr (cs:=pL x_1) rfl (O.ev rfl) (E.o.elem PtrD.cells_len 4 rfl (show ([x_0,x_1,x_2,x_3]:List PtrD)[1]? = some _ from rfl))) ?_;refine yal z5 E ?_;clear E;intro w15 b24 E;refine yst E 0 ?_;clear E;intro w16 E;replace E:=E.nm;refine xne<|xsr<|xr 1 rfl<|Xw 0 5 E rfl rfl<|xr 1 rfl ?_;refine yc (QS a0 c0 a1 c1 a2 c2 a4 c4 a6 c6 st x_1 1 b _ (HT.o.below E.o.bel) (HM.o.below E.o.bel) (HE.o.below E.o.bel) (HB.out.below E.o.bel (Nat.le_refl _)) (HR.out.below E.o.bel) hrow (hwK _ (by simp)).ok.1) func121 ?_;rintro _ w17 (⟨l25,hk25,ao25,cp25,rfl,hs1⟩|⟨hk25,ao25,nn25,cp25,rfl,hb⟩);obtain ⟨y25_0,y25_1,y25_2,y25_3,rfl⟩:=Vl (Y4 hk25);refine ⟨_,rfl,?_⟩;replace E:=E.ad hs1;clear hs1;replace E:=E.nm;refine xr 5 rfl<|xne<|xrl<|xr 2 rfl ?_;refine yap Yz PtrD.cells_len E 2 (St.rdN E.o PtrD.cells_len 0 rfl) (Zn _) ?_;clear E;intro ao26 cp27 w18 E;replace E:=E.nm;intro a O;have hz9:([y18_0,y18_1,y18_2,y18_3]:List PtrD).length+([y25_0,y25_1,y25_2,y25_3]:List PtrD).length=8:=rfl;rw [hz9] at O;clear hz9;replace E:=E.nm;revert a;refine xr 1 rfl<|xni<|xeb<|xet<|xrl<|xy rfl (fun a O=>ZW (r:=2) rfl (O.ev rfl) (O.ev rfl) (by decide))<|xr 1 rfl<|xne ?_;intro a O;refine Ym 4 ?_;refine wp_seq ?_;obtain ⟨g28,rfl,_,_,_,_⟩:=E.o.rowOpen 0 rfl (by simp);obtain ⟨g29,rfl,_,_,_,_⟩:=E.o.rowOpen 2 rfl (by simp);revert a;refine xrl<|xr 1 rfl<|xne<|xsq ?_;intro a O;replace O:=O.know (k:=29) (c:=true) rfl (by decide);revert a;refine xct rfl<|xsk<|xet<|xsq<|xbl<|xsr<|xy rfl (vx 40 2 5 rfl)<|xy rfl (fun a O=>ylr (cs:=pL x_2) rfl (O.ev rfl) (E.o.elem PtrD.cells_len 6 rfl (show ([x_0,x_1,x_2,x_3]:List PtrD)[2]? = some _ from rfl))) ?_;refine yal z5 E ?_;clear E;intro w19 b30 E;refine yst E 0 ?_;clear E;intro w20 E;replace E:=E.nm;refine xne<|xsr<|xr 1 rfl<|Xw 0 5 E rfl rfl<|xr 1 rfl ?_;refine yc (QS a0 c0 a1 c1 a2 c2 a4 c4 a6 c6 st x_2 1 b _ (HT.o.below E.o.bel) (HM.o.below E.o.bel) (HE.o.below E.o.bel) (HB.out.below E.o.bel (Nat.le_refl _)) (HR.out.below E.o.bel) hrow (hwK _ (by simp)).ok.1) func121 ?_;rintro _ w21 (⟨l31,hk31,ao31,cp31,rfl,hs1⟩|⟨hk31,ao31,nn31,cp31,rfl,hb⟩);obtain ⟨y31_0,y31_1,y31_2,y31_3,rfl⟩:=Vl (Y4 hk31);refine ⟨_,rfl,?_⟩;replace E:=E.ad hs1;clear hs1;replace E:=E.nm;refine xr 5 rfl<|xne<|xrl<|xr 2 rfl ?_;refine yap Yz PtrD.cells_len E 4 (St.rdN E.o PtrD.cells_len 0 rfl) (Zn _) ?_;clear E;intro ao32 cp33 w22 E;replace E:=E.nm;intro a O;have hz9:([y18_0,y18_1,y18_2,y18_3,y25_0,y25_1,y25_2,y25_3]:List PtrD).length+([y31_0,y31_1,y31_2,y31_3]:List PtrD).length=12:=rfl;rw [hz9] at O;clear hz9;replace E:=E.nm;revert a;refine xr 1 rfl<|xni<|xeb<|xet<|xrl<|xy rfl (fun a O=>ZW (r:=3) rfl (O.ev rfl) (O.ev rfl) (by decide))<|xr 1 rfl<|xne ?_;intro a O;refine Ym 3 ?_;refine wp_seq ?_;obtain ⟨g34,rfl,_,_,_,_⟩:=E.o.rowOpen 0 rfl (by simp);obtain ⟨g35,rfl,_,_,_,_⟩:=E.o.rowOpen 4 rfl (by simp);revert a;refine xrl<|xr 1 rfl<|xne<|xsq ?_;intro a O;replace O:=O.know (k:=29) (c:=true) rfl (by decide);revert a;refine xct rfl<|xsk<|xet<|xsq<|xbl<|xsr<|xy rfl (vx 40 3 5 rfl)<|xy rfl (fun a O=>ylr (cs:=pL x_3) rfl (O.ev rfl) (E.o.elem PtrD.cells_len 8 rfl (show ([x_0,x_1,x_2,x_3]:List PtrD)[3]? = some _ from rfl))) ?_;refine yal z5 E ?_;clear E;intro w23 b36 E;refine yst E 0 ?_;clear E;intro w24 E;replace E:=E.nm;refine xne<|xsr<|xr 1 rfl<|Xw 0 5 E rfl rfl<|xr 1 rfl ?_;refine yc (QS a0 c0 a1 c1 a2 c2 a4 c4 a6 c6 st x_3 1 b _ (HT.o.below E.o.bel) (HM.o.below E.o.bel) (HE.o.below E.o.bel) (HB.out.below E.o.bel (Nat.le_refl _)) (HR.out.below E.o.bel) hrow (hwK _ (by simp)).ok.1) func121 ?_;rintro _ w25 (⟨l37,hk37,ao37,cp37,rfl,hs1⟩|⟨hk37,ao37,nn37,cp37,rfl,hb⟩);obtain ⟨y37_0,y37_1,y37_2,y37_3,rfl⟩:=Vl (Y4 hk37);refine ⟨_,rfl,?_⟩;replace E:=E.ad hs1;clear hs1;replace E:=E.nm;refine xr 5 rfl<|xne<|xrl<|xr 2 rfl ?_;refine yap Yz PtrD.cells_len E 6 (St.rdN E.o PtrD.cells_len 0 rfl) (Zn _) ?_;clear E;intro ao38 cp39 w26 E;replace E:=E.nm;intro a O;have hz9:([y18_0,y18_1,y18_2,y18_3,y25_0,y25_1,y25_2,y25_3,y31_0,y31_1,y31_2,y31_3]:List PtrD).length+([y37_0,y37_1,y37_2,y37_3]:List PtrD).length=16:=rfl;rw [hz9] at O;clear hz9;replace E:=E.nm;revert a;refine xr 1 rfl<|xni<|xeb<|xet<|xrl<|xy rfl (fun a O=>ZW (r:=4) rfl (O.ev rfl) (O.ev rfl) (by decide))<|xr 1 rfl<|xne ?_;intro a O;refine Ym 2 ?_;refine wp_seq ?_;obtain ⟨g40,rfl,_,_,_,_⟩:=E.o.rowOpen 0 rfl (by simp);obtain ⟨g41,rfl,_,_,_,_⟩:=E.o.rowOpen 6 rfl (by simp);revert a;refine xrl<|xr 1 rfl<|xne<|xsq ?_;intro a O;replace O:=O.know (k:=29) (c:=false) rfl (by decide);revert a;refine xcf rfl<|xex<|xtx<|xtx<|xbh<|xet<|xrl<|xr 2 rfl<|xni<|xeb<|xet<|xrl<|xr 1 rfl<|xy rfl (fun a O=>XE (r:=0) rfl (O.ev rfl) (O.ev rfl) (by decide))<|xr 1 rfl<|xne ?_;intro a O;refine Ym 4 ?_;revert a;refine xsq<|xsr<|xr 2 rfl<|xne ?_;intro a O;replace O:=O.know (k:=19) (c:=false) rfl (by decide);revert a;refine xcf rfl<|xex<|xtx<|xtx<|xbh<|xet<|xsr<|xr 2 rfl<|xne<|xre<|xb1 results125 rfl ?_;replace E:=E.pks [10,15,14];exact ⟨ao15,cp16,rfl,St.was2 (L:=fun j=>if j=0 then [t.ac] else [x_0,x_1,x_2,x_3]) (⟨some ⟨b2,0,none⟩,1,1⟩:LH) (⟨some ⟨g12,0,none⟩,4,cp11⟩:LH) (E.o.erS [16,15,14,13,12,11,10,9,8,7,6,5,4,3])⟩;refine ⟨_,rfl,?_⟩;replace E:=Bx.mk (E.o.later hb);clear hb;obtain ⟨_,_,l9,hk9,_⟩:=hwK x_3 (by simp);rw [show kids st x_3 1=some l9 from hk9] at hk37;cases hk37;refine ⟨_,rfl,?_⟩;replace E:=Bx.mk (E.o.later hb);clear hb;obtain ⟨_,_,l9,hk9,_⟩:=hwK x_2 (by simp);rw [show kids st x_2 1=some l9 from hk9] at hk31;cases hk31;refine ⟨_,rfl,?_⟩;replace E:=Bx.mk (E.o.later hb);clear hb;obtain ⟨_,_,l9,hk9,_⟩:=hwK x_1 (by simp);rw [show kids st x_1 1=some l9 from hk9] at hk25;cases hk25;refine ⟨_,rfl,?_⟩;replace E:=Bx.mk (E.o.later hb);clear hb;obtain ⟨_,_,l9,hk9,_⟩:=hwK x_0 (by simp);rw [show kids st x_0 1=some l9 from hk9] at hk18;cases hk18;refine ⟨_,rfl,?_⟩;replace E:=Bx.mk (E.o.later hb);clear hb;obtain ⟨_,_,l9,hk9,_⟩:=hwf;rw [show kids st t.ac 2=some l9 from hk9] at hk8;cases hk8
theorem ZfD {ao:Option Addr} {cp d:Nat} {L L':Nat→List PtrD} (h2:d≤2) (h:∀ j,j<d→L j=L' j):QL ao cp d L=QL ao cp d L':=by
 rcases (by omega:d=0∨d=1∨d=2) with rfl|rfl|rfl
 ·rfl
 ·show exA _=exA _
  rw [h 0 (by omega)]
 ·show exA _=exA _
  rw [h 0 (by omega),h 1 (by omega)]
theorem Vt (a0:Option Addr) (c0:Nat) (a1:Option Addr) (c1:Nat) (a2:Option Addr) (c2:Nat) (a4:Option Addr) (c4:Nat) (a6:Option Addr) (c6:Nat) (st:Za) (t:Zf) (w0:World) (hT:Xq w0) (hM:X1 w0) (hE:X2 w0) (b:Nat) (hB:Box w0 b 8 39 (.agg #[.slice a0 st.af.length c0,.slice a1 st.aa.ab.length c1,.slice a2 st.aa.ag.length c2,.int .i64 st.aq,.slice a4 st.ai.length c4,.int .i64 st.ar,.slice a6 st.aj.length c6,.bool st.au])) (hR:Rd Zt 1 w0 a0 st.af.length st.af) (hrow:Y5 st) {d:Nat} (h2:d≤2) (htd:t.az=(d:Int)) (hwf:Wf st d t.ac):Calls prog 125 #[.pointer (some ⟨b,0,none⟩),.agg #[.int .i64 t.ac.aA,.int .i64 t.ac.ah,.int .i64 t.ac.al,.int .i64 t.ac.ax,.int .i64 t.ac.ak,.int .i64 (d:Int),.int .i64 t.am]] w0 fun e w'=>∃ ao cp,e=.returned (.slice ao d cp)∧St w0 [QL ao cp d (fun j=>Zx st t d (d - j))] w':=by
 rcases (by omega:d=0∨d=1∨d=2) with rfl|rfl|rfl
 ·refine (Zd8 a0 c0 a1 c1 a2 c2 a4 c4 a6 c6 st t w0 hT hM hE b hB hR hrow hwf).mono ?_
  rintro e w' ⟨ao,cp,he,hs⟩;exact ⟨ao,cp,he,hs⟩
 ·refine (Zd9 a0 c0 a1 c1 a2 c2 a4 c4 a6 c6 st t w0 hT hM hE b hB hR hrow hwf).mono ?_
  rintro e w' ⟨ao,cp,he,hs⟩;refine ⟨ao,cp,he,?_⟩
  rwa [ZfD (L:=fun _=>[t.ac]) (L':=fun j=>Zx st t 1 (1 - j)) h2 (fun j hj=>by
   obtain rfl:j=0:=by omega
   show [t.ac]=Zx st t 1 1;unfold Zx;rw [if_pos htd,if_pos rfl])] at hs
 ·obtain ⟨K,hkS,hk,_⟩:=VO hwf
  refine (Zea a0 c0 a1 c1 a2 c2 a4 c4 a6 c6 st t w0 hT hM hE b hB hR hrow hwf (K:=K) hk).mono ?_;rintro e w' ⟨ao,cp,he,hs⟩;refine ⟨ao,cp,he,?_⟩
  rwa [ZfD (L:=fun j=>if j=0 then [t.ac] else K) (L':=fun j=>Zx st t 2 (2 - j)) h2 (fun j hj=>by
   rcases (by omega:j=0∨j=1) with rfl|rfl
   ·show [t.ac]=Zx st t 2 2
    unfold Zx;rw [if_pos htd,if_pos rfl]
   ·show K=Zx st t 2 1
    unfold Zx;rw [if_pos htd,if_neg (by omega),show kidsS st t.ac ((2:Nat):Int)=some K from hkS];rfl)] at hs
def Zeb (p:PtrD):List PtrD:=if 0<p.ak then [p] else []
theorem ZiC (p:PtrD):(Zeb p).length≤1:=by unfold Zeb;split <;> simp
theorem Zhl {st:Za}:∀ {n:Nat} {p:PtrD},Wf st n p→(allL st n p).flatMap Zeb=innL st n p
 | 0,p,h=>by
  cases hh:p.hole with
  | true=>rw [Xr hh];rfl
  | false =>
   have hl:=h.level hh;rw [UF hh,flatMap_cons,List.flatMap_nil,append_nil];unfold Zeb;rw [if_neg (by omega)];rfl
 | n+1,p,⟨ho,hb,l,hk,hw⟩=>by
  cases hh:p.hole with
  | true=>rw [Xr hh,Jt hh];rfl
  | false =>
   have hl:=Wf.level (n:=n+1) ⟨ho,hb,l,hk,hw⟩ hh;rw [Qo hh hk,QX hh hk,flatMap_cons,Zdq];have hv:Zeb p=[p]:=by unfold Zeb;rw [if_pos (by omega)]
   rw [hv,JI fun q hq=>Zhl (hw q hq)];rfl
theorem ZmN (p:PtrD) (b:Nat) (xs:List PtrD) (hxs:xs.length≤100) (F:List Asr) (w0 w:World) (hS:St w0 (accA b xs::F) w):Calls prog 127 #[pV p,.pointer (some ⟨b,0,none⟩)] w fun e w'=>e=.returned (.tuple #[])∧St w0 (accA b (xs++Zeb p)::F) w':=by
 obtain ⟨ao,cp,hS⟩:=hS.accOut;have E:=Bx.mk hS;clear hS;refine ent func127 ntmps127 ?_;refine xsr ?_;refine ybx E ?_;clear E;intro w1 b1 E;refine xne<|xsr<|Xf 4 rfl<|Xl 0 E rfl rfl<|xr 1 rfl<|xne<|xcd 5 rfl (fun _ dcc1=>?_) fun _ dcc1=>?_;refine xct rfl<|xrl<|Xl 1 E rfl rfl<|Xw 0 5 E rfl rfl ?_;refine ybs PtrD.cells 40 5 [p] E ?_;clear E;intro b2 w2 E;refine yap Yz PtrD.cells_len E 3 (St.rdN E.o PtrD.cells_len 0 rfl) (Zn _) ?_;clear E;intro ao3 cp4 w3 E;replace E:=E.nm;refine ysF 2 E ?_;clear E;intro w4 E;replace E:=E.nm;refine xni ?_;intro a O;refine Qd O results127 ?_;replace E:=E.pks [3,3];have hv:Zeb p=[p]:=by unfold Zeb;rw [if_pos (by omega)]
 have hz:xs.length+([p]).length=(xs++([p])).length:=(length_append ..).symm;rw [hz] at E;exact ⟨rfl,by rw [hv];exact St.accIn (E.o.erS [3,2])⟩;refine xcf rfl<|xsk ?_;intro a O;refine Qd O results127 ?_;replace E:=E.pks [2,2];have hv:Zeb p=[]:=by unfold Zeb;rw [if_neg (by omega)]
 exact ⟨rfl,by rw [hv,append_nil];exact St.accIn (E.o.erase 2)⟩
theorem Zlf (w0 w:World) (d1:Option Addr) (f1:Nat) (d2:Option Addr) (f2:Nat) (s:Zp) (i:Nat) (F:List Asr) (hi:i<64) (h1:s.ab.length=64) (h2:s.ag.length=64) (hlo:-1000000≤s.ab.getD i 0∧s.ab.getD i 0≤900) (hS:St w0 (Zd Zu 1 3 (.slice d1 s.ab.length f1) s.ab::Zd Zu 1 3 (.slice d2 s.ag.length f2) s.ag::F) w):Calls prog 142 #[.agg #[.slice d1 s.ab.length f1,.slice d2 s.ag.length f2],.int .i64 (i:Int)] w fun e w'=>∃ (d1 d2:Option Addr),e=.returned (.agg #[.slice d1 s.ab.length f1,.slice d2 s.ag.length f2])∧St w0 (Zd Zu 1 3 (.slice d1 s.ab.length f1) ((s.give i).ab)::Zd Zu 1 3 (.slice d2 s.ag.length f2) ((s.give i).ag)::F) w':=by
 have E:=Bx.mk hS;clear hS;refine ent func142 ntmps142 ?_;refine xsr ?_;refine ybx E ?_;clear E;intro w1 b1 E;refine yal [.slice none 0 0,.slice none 0 0] E ?_;clear E;intro w2 b2 E;refine xne<|xsq ?_;obtain ⟨g3,rfl,_,_,_,_⟩:=E.o.rowOpen 2 rfl (by omega);intro a O;refine Uc 10 (by kernel_rfl) (by kernel_rfl) E.o ?_;simp only [List.take_succ_cons,take_zero,List.drop_succ_cons,drop_zero];intro w3 E;replace E:=Bx.mk E;refine ZH rfl O rfl rfl (yfa 0 rfl (O.ev rfl)) ?_;clear O a;intro a O;refine ZH rfl O rfl rfl (ylo (v:=.slice (some ⟨g3,0,none⟩) s.ab.length f1) rfl (O.ev rfl) (((E.o.box 1 rfl).cell 0).trans rfl)) ?_;clear O a;intro a O;refine ZH rfl O rfl rfl (Yf rfl (O.ev rfl)) ?_;clear O a;intro a O;refine ZH rfl O rfl rfl (yfa 0 rfl (O.ev rfl)) ?_;clear O a;intro a O;refine ZH rfl O rfl rfl (ylo (v:=.slice (some ⟨g3,0,none⟩) s.ab.length f1) rfl (O.ev rfl) (((E.o.box 1 rfl).cell 0).trans rfl)) ?_;clear O a;intro a O;refine ZH rfl O rfl rfl (Yf rfl (O.ev rfl)) ?_;clear O a;intro a O;refine ZH rfl O rfl rfl (ZG (e:=3) (i:=i) (size:=1) rfl (O.ev rfl) (O.ev rfl) (by kernel_rfl) rfl (by omega)) ?_;clear O a;intro a O;refine ZH rfl O rfl rfl (ylo (v:=.int .i64 (s.ab.getD i 0)) rfl (O.ev rfl) (E.o.elem1 encI_len 2 rfl (Zh (xs:=s.ab) (j:=i) (d:=0) (by omega)) rfl)) ?_;clear O a;intro a O;refine ZH rfl O rfl rfl (XE rfl (O.ev rfl) (O.ev rfl) (Qt (by omega))) ?_;clear O a;intro a O;refine ZH rfl O rfl rfl (ZG (e:=3) (i:=i) (size:=1) rfl (O.ev rfl) (O.ev rfl) (by kernel_rfl) rfl (by omega)) ?_;clear O a;intro a O;refine wpStill_nil ?_;refine ZQ encI_len rfl rfl rfl (O.ev rfl) (O.ev rfl) (by kernel_rfl) E.o 2 rfl (by omega) (z:=((s.ab.getD i 0) - 1)) rfl rfl ?_;clear E;intro w4 E;replace E:=Bx.mk E;revert a;refine xne<|xsq<|xsr<|Xf 0 rfl<|Xl 1 E rfl rfl<|xr 1 rfl<|xy rfl (vx 3 i 1 rfl)<|xy rfl (fun a O=>ylo (v:=.int .i64 (s.ab.getD i 0 - 1)) rfl (O.ev rfl) (E.o.elem1 encI_len 2 rfl (Zc0 (xs:=s.ab) (i:=i) (by omega)) rfl))<|xr 1 rfl<|xne<|xce 20 rfl (fun _ dcc1=>?_) fun _ dcc1=>?_
 refine xct rfl ?_;obtain ⟨g4,rfl,_,_,_,_⟩:=E.o.rowOpen 3 rfl (by omega);refine xrl<|Xf 1 rfl<|Xl 1 E rfl rfl<|xr 1 rfl<|xy rfl (vx 3 i 1 rfl) ?_;intro a O;refine ZQ encI_len rfl rfl rfl (O.ev rfl) (O.ev rfl) (by kernel_rfl) E.o 3 rfl (by omega) (z:=0) rfl rfl ?_;clear E;intro w5 E;replace E:=Bx.mk E;revert a;refine xne<|xsr<|Xw 1 2 E rfl rfl ?_;refine yst E 0 ?_;clear E;intro w6 E;replace E:=E.nm;refine xne<|xre ?_;intro a O;refine Qe O results142 (O.resBox rfl (E.o.box 0 rfl) (by kernel_rfl)) ?_;replace E:=E.pks [3,3];have hg:(s.give i).ag=s.ag.set i 0:=if_pos (by omega);exact ⟨_,_,rfl,by rw [hg];exact (E.o.erS [3,2])⟩;refine xcf rfl<|xsk<|xet<|xsr<|Xw 1 2 E rfl rfl ?_;refine yst E 0 ?_;clear E;intro w7 E;replace E:=E.nm;refine xne<|xre ?_;intro a O;refine Qe O results142 (O.resBox rfl (E.o.box 0 rfl) (by kernel_rfl)) ?_;replace E:=E.pks [3,3];have hg:(s.give i).ag=s.ag:=if_neg (by omega);exact ⟨_,_,rfl,by rw [hg];exact (E.o.erS [3,2])⟩
theorem Zlg (w0 w:World) (d0:Option Addr) (f0:Nat) (d1:Option Addr) (f1:Nat) (d2:Option Addr) (f2:Nat) (d4:Option Addr) (f4:Nat) (d6:Option Addr) (f6:Nat) (st:Za) (i k:Nat) (F:List Asr) (hi:i<64) (hK:Uk k st) (hk:k≤1000) (hS:St w0 (Zd Zt 1 9 (.slice d0 st.af.length f0) st.af::Zd Zu 1 3 (.slice d1 st.aa.ab.length f1) st.aa.ab::Zd Zu 1 3 (.slice d2 st.aa.ag.length f2) st.aa.ag::Zd PtrD.cells 5 40 (.slice d4 st.ai.length f4) st.ai::Zd PtrD.cells 5 40 (.slice d6 st.aj.length f6) st.aj::F) w):Calls prog 116 #[sV d0 f0 d1 f1 d2 f2 d4 f4 d6 f6 st,.int .i64 (i:Int)] w fun e w'=>∃ q':SQ,q'.d={ st with af:=Xz st.af st.aa i,aa:=st.aa.give i }∧e=.returned (q'.u)∧St w0 (q'.asr::F) w':=by
 have E:=Bx.mk hS;clear hS;have hl0:=hK.rows;have hl1:=hK.refs;have hl2:=hK.last;have hg1:=Zp.give_refs st.aa i;have hgv:(st.aa.give i).ab[i]? = some (st.aa.ab.getD i 0 - 1):=Zc0 (by omega);refine ent func116 ntmps116 ?_;refine xsr ?_;refine ybx E ?_;clear E;intro w1 b1 E;refine yal z8 E ?_;clear E;intro w2 b2 E;refine xne<|xsr<|Xf 1 rfl<|Xw 1 2 E rfl rfl<|xr 1 rfl ?_;replace E:=E.pks [4,4];refine yc (Zlf w0 _ d1 f1 d2 f2 st.aa i _ hi hK.refs hK.last (by have:=hK.lo i;omega) E.o) func142 ?_;rintro _ w3 ⟨e1,e2,rfl,hs1⟩;refine ⟨_,rfl,?_⟩;replace E:=Bx.mk hs1;clear hs1;refine Xf 1 rfl ?_;intro a O;refine Y7 rfl rfl rfl (O.ev rfl) (O.ev rfl) E.o 3 rfl (by kernel_rfl) rfl (by kernel_rfl) (rs:=sL d0 f0 e1 f1 e2 f2 d4 f4 d6 f6 st) rfl ?_;clear E;intro w4 E;replace E:=Bx.mk E;replace E:=E.nm;refine Zk<|wp_seq<|wp_seq ?_;obtain ⟨g3,rfl,_,_,_,_⟩:=E.o.rowOpen 0 rfl (by omega);revert a;refine xrl<|Xf 1 rfl<|Xf 0 rfl<|Xl 3 E rfl rfl<|xr 1 rfl<|xy rfl (vx 3 i 1 rfl)<|xy rfl (fun a O=>ylo (v:=.int .i64 (st.aa.ab.getD i 0 - 1)) rfl (O.ev rfl) (E.o.elem1 encI_len 0 rfl hgv rfl))<|xr 1 rfl<|xne<|xce 16 rfl (fun _ dcc1=>?_) fun _ dcc1=>?_
 refine xct rfl ?_;obtain ⟨g4,rfl,_,_,_,_⟩:=E.o.rowOpen 4 rfl (by omega);refine xrl<|Xf 0 rfl<|Xl 3 E rfl rfl<|xr 1 rfl<|xy rfl (vx 9 i 1 rfl) ?_;intro a O;refine ZQ encS_len rfl rfl rfl (O.ev rfl) (O.ev rfl) (by kernel_rfl) E.o 4 rfl (by omega) (z:=(⟨#[]⟩:ByteArray)) rfl rfl ?_;clear E;intro w5 E;replace E:=Bx.mk E;revert a;refine xne<|xsr<|Xw 3 8 E rfl rfl ?_;refine yst E 2 ?_;clear E;intro w6 E;replace E:=E.nm;refine xne<|xre ?_;intro a O;refine Qe O results116 (O.resBox rfl (E.o.box 2 rfl) (by kernel_rfl)) ?_;replace E:=E.pks [6,6,3,3,6];have hg:Xz st.af st.aa i=st.af.set i ByteArray.empty:=if_pos (by omega);exact ⟨⟨_,_,_,_,_,_,_,_,_,_,{ st with af:=Xz st.af st.aa i,aa:=st.aa.give i }⟩,rfl,by dsimp only [SQ.u];rw [Qh,Zp.give_refs,Zp.give_last] <;> rfl,St.sqClose _ (by dsimp only [SQ.u];rw [hg];exact (E.o.erS [6,5])) (Qh _ _ _).symm (Zp.give_refs _ _).symm (Zp.give_last _ _).symm rfl rfl⟩;refine xcf rfl<|xsk<|xet<|xsr<|Xw 3 8 E rfl rfl ?_;refine yst E 2 ?_;clear E;intro w7 E;replace E:=E.nm;refine xne<|xre ?_;intro a O;refine Qe O results116 (O.resBox rfl (E.o.box 2 rfl) (by kernel_rfl)) ?_;replace E:=E.pks [6,6,3,3,6];have hg:Xz st.af st.aa i=st.af:=if_neg (by omega);exact ⟨⟨_,_,_,_,_,_,_,_,_,_,{ st with af:=Xz st.af st.aa i,aa:=st.aa.give i }⟩,rfl,by dsimp only [SQ.u];rw [Qh,Zp.give_refs,Zp.give_last] <;> rfl,St.sqClose _ (by dsimp only [SQ.u];rw [hg];exact (E.o.erS [6,5])) (Qh _ _ _).symm (Zp.give_refs _ _).symm (Zp.give_last _ _).symm rfl rfl⟩
theorem Zlh (w0 w:World) (d0:Option Addr) (f0:Nat) (d1:Option Addr) (f1:Nat) (d2:Option Addr) (f2:Nat) (d4:Option Addr) (f4:Nat) (d6:Option Addr) (f6:Nat) (st:Za) (a:Int) (i k:Nat) (F:List Asr) (ha:a=(i:Int)) (hi:i<64) (hK:Uk k st) (hk:k≤1000) (hS:St w0 (Zd Zt 1 9 (.slice d0 st.af.length f0) st.af::Zd Zu 1 3 (.slice d1 st.aa.ab.length f1) st.aa.ab::Zd Zu 1 3 (.slice d2 st.aa.ag.length f2) st.aa.ag::Zd PtrD.cells 5 40 (.slice d4 st.ai.length f4) st.ai::Zd PtrD.cells 5 40 (.slice d6 st.aj.length f6) st.aj::F) w):Calls prog 116 #[.agg #[.slice d0 st.af.length f0,.slice d1 st.aa.ab.length f1,.slice d2 st.aa.ag.length f2,.int .i64 st.aq,.slice d4 st.ai.length f4,.int .i64 st.ar,.slice d6 st.aj.length f6,.bool st.au],.int .i64 a] w fun e w'=>∃ q':SQ,q'.d={ st with af:=Xz st.af st.aa i,aa:=st.aa.give i }∧e=.returned (.agg #[.slice q'.a0 q'.d.af.length q'.c0,.slice q'.a1 q'.d.aa.ab.length q'.c1,.slice q'.a2 q'.d.aa.ag.length q'.c2,.int .i64 q'.d.aq,.slice q'.a4 q'.d.ai.length q'.c4,.int .i64 q'.d.ar,.slice q'.a6 q'.d.aj.length q'.c6,.bool q'.d.au])∧St w0 (q'.asr::F) w':=by
 subst ha;exact Zlg w0 w d0 f0 d1 f1 d2 f2 d4 f4 d6 f6 st i k F hi hK hk hS
theorem Zli (w0 w:World) (d0:Option Addr) (f0:Nat) (d1:Option Addr) (f1:Nat) (d2:Option Addr) (f2:Nat) (d4:Option Addr) (f4:Nat) (d6:Option Addr) (f6:Nat) (st:Za) (p:PtrD) (k:Nat) (F:List Asr) (hpo:p.ok=true) (hK:Uk k st) (hk:k≤1000) (hS:St w0 (Zd Zt 1 9 (.slice d0 st.af.length f0) st.af::Zd Zu 1 3 (.slice d1 st.aa.ab.length f1) st.aa.ab::Zd Zu 1 3 (.slice d2 st.aa.ag.length f2) st.aa.ag::Zd PtrD.cells 5 40 (.slice d4 st.ai.length f4) st.ai::Zd PtrD.cells 5 40 (.slice d6 st.aj.length f6) st.aj::F) w):Calls prog 82 #[sV d0 f0 d1 f1 d2 f2 d4 f4 d6 f6 st,pV p] w fun e w'=>∃ q':SQ,q'.d=st.free p∧e=.returned (q'.u)∧St w0 (q'.asr::F) w':=by
 have E:=Bx.mk hS;clear hS;have hg4:=hK.gone;have hg6:=hK.dead;refine ent func82 ntmps82 ?_;refine xsr ?_;refine ybx E ?_;clear E;intro w1 b1 E;refine ybx E ?_;clear E;intro w2 b2 E;refine yal z8 E ?_;clear E;intro w3 b3 E;refine xne<|xsq<|xbl<|xsr<|Xw 1 5 E rfl rfl ?_;refine ycB (ZL p _) func49 E ?_;clear E;intro w4 E;refine xr 1 rfl<|xne<|xcs 9 rfl (fun cc1=>?_) fun cc1=>?_;refine xct rfl<|xsr<|Xw 2 8 E rfl rfl ?_;refine yst E 0 ?_;clear E;intro w5 E;replace E:=E.nm;refine xne<|xre<|xbr<|xtr ?_;intro a O;refine Qe O results82 (O.resBox rfl (E.o.box 0 rfl) (by kernel_rfl)) ?_;replace E:=E.pks [7,7,7,7,7];exact ⟨⟨d0,f0,d1,f1,d2,f2,d4,f4,d6,f6,st⟩,(Zbn (by assumption)).symm,rfl,St.sqIn (q:=⟨d0,f0,d1,f1,d2,f2,d4,f4,d6,f6,st⟩) (E.o.erS [7,6,5])⟩;have hph:=cc1;refine xcf rfl<|xsr<|Xf 1 rfl<|Xl 1 E rfl rfl<|Xf 5 rfl<|Xl 2 E rfl rfl<|xr 2 rfl<|xne<|xcd 13 rfl (fun _ dcc2=>?_) fun _ dcc2=>?_;refine xct rfl<|xrl<|Xf 6 rfl<|Xl 2 E rfl rfl<|Xw 1 5 E rfl rfl ?_;refine ybs PtrD.cells 40 5 [p] E ?_;clear E;intro b4 w6 E;intro a O;refine Xb rfl O rfl rfl rfl (O.ev rfl) (O.ev rfl) Yz PtrD.cells_len E.o 8 (xs:=st.aj) rfl (ys:=[p]) (St.rdN E.o PtrD.cells_len 0 rfl) (Zn _) (by unfold maxLen;simp only [length_singleton];omega) (by simp only [length_singleton];omega) ?_;clear O E a;intro ao5 cp6 w7 a O E;replace E:=Bx.mk E;revert a;refine Xf 6 rfl ?_;refine ysF 3 E ?_;clear E;intro w8 E;replace E:=E.nm;refine xni<|xeb<|xet<|xsr<|Xw 3 8 E rfl rfl ?_;refine yst E 1 ?_;clear E;intro w9 E;replace E:=E.nm;refine xne<|xre ?_;intro a O;refine Qe O results82 (O.resBox rfl (E.o.box 1 rfl) (by kernel_rfl)) ?_;replace E:=E.pks [8,8,8,8,8];exact ⟨⟨_,_,_,_,_,_,_,_,_,_,{ st with aj:=st.aj++[p] }⟩,(VF hph (by omega)).symm,by dsimp only [SQ.u];rw [length_append] <;> rfl,St.sqClose { st with aj:=st.aj++[p] } (E.o.erS [8,7,6,5]) rfl rfl rfl rfl (length_append ..).symm⟩;refine xcf rfl<|xsr<|Xf 1 rfl<|Xl 1 E rfl rfl<|Xf 3 rfl<|Xl 2 E rfl rfl<|xr 2 rfl<|xne<|xcd 25 rfl (fun _ dcc3=>?_) fun _ dcc3=>?_;refine xct rfl<|xrl<|Xf 4 rfl<|Xl 2 E rfl rfl<|Xw 1 5 E rfl rfl ?_;refine ybs PtrD.cells 40 5 [p] E ?_;clear E;intro b7 w10 E;intro a O;refine Xb rfl O rfl rfl rfl (O.ev rfl) (O.ev rfl) Yz PtrD.cells_len E.o 7 (xs:=st.ai) rfl (ys:=[p]) (St.rdN E.o PtrD.cells_len 0 rfl) (Zn _) (by unfold maxLen;simp only [length_singleton];omega) (by simp only [length_singleton];omega) ?_;clear O E a;intro ao8 cp9 w11 a O E;replace E:=Bx.mk E;revert a;refine Xf 4 rfl ?_;refine ysF 3 E ?_;clear E;intro w12 E;replace E:=E.nm;refine xni<|xeb<|xet<|xsr<|Xw 3 8 E rfl rfl ?_;refine yst E 1 ?_;clear E;intro w13 E;replace E:=E.nm;refine xne<|xre ?_;intro a O;refine Qe O results82 (O.resBox rfl (E.o.box 1 rfl) (by kernel_rfl)) ?_;replace E:=E.pks [8,8,8,8,8];exact ⟨⟨_,_,_,_,_,_,_,_,_,_,{ st with ai:=st.ai++[p] }⟩,(VG hph (by omega) (by omega)).symm,by dsimp only [SQ.u];rw [length_append] <;> rfl,St.sqClose { st with ai:=st.ai++[p] } (E.o.erS [8,7,6,5]) rfl rfl rfl (length_append ..).symm rfl⟩;refine xcf rfl<|xsr<|Xw 2 8 E rfl rfl<|Xf 0 rfl<|Xl 1 E rfl rfl ?_;replace E:=E.pks [7,7,7,7,7];obtain ⟨i,h8,hi,hpi⟩:=Vs hpo hph;have hi2:p.aA=((i:Nat):Int):=hpi;refine yc (Zlh w0 _ d0 f0 d1 f1 d2 f2 d4 f4 d6 f6 st p.aA i k _ hpi hi hK hk E.o) func116 ?_;rintro _ w14 ⟨q1,hq1,rfl,hs1⟩;refine ⟨_,rfl,?_⟩;replace E:=Bx.mk hs1;clear hs1;refine yst E 1 ?_;clear E;intro w15 E;replace E:=E.nm;refine xne<|xre<|xbr<|xtr ?_;intro a O;refine Qe O results82 (O.resBox rfl (E.o.box 1 rfl) (by kernel_rfl)) ?_;replace E:=E.pks [0];exact ⟨q1,by rw [hq1,Zbo hph (by omega) (by omega),hpi,Int.toNat_natCast],rfl,(E.o.erS [3,2,1])⟩
theorem Zby (w0 w:World) (q:SQ) (p:PtrD) (k:Nat) (F:List Asr) (hpo:p.ok=true) (hK:Uk k q.d) (hk:k≤1000) (hS:St w0 (q.asr::F) w):Calls prog 82 #[.agg #[.slice q.a0 q.d.af.length q.c0,.slice q.a1 q.d.aa.ab.length q.c1,.slice q.a2 q.d.aa.ag.length q.c2,.int .i64 q.d.aq,.slice q.a4 q.d.ai.length q.c4,.int .i64 q.d.ar,.slice q.a6 q.d.aj.length q.c6,.bool q.d.au],.agg #[.int .i64 p.aA,.int .i64 p.ah,.int .i64 p.al,.int .i64 p.ax,.int .i64 p.ak]] w fun e w'=>∃ q':SQ,q'.d=q.d.free p∧e=.returned (.agg #[.slice q'.a0 q'.d.af.length q'.c0,.slice q'.a1 q'.d.aa.ab.length q'.c1,.slice q'.a2 q'.d.aa.ag.length q'.c2,.int .i64 q'.d.aq,.slice q'.a4 q'.d.ai.length q'.c4,.int .i64 q'.d.ar,.slice q'.a6 q'.d.aj.length q'.c6,.bool q'.d.au])∧St w0 (q'.asr::F) w':=Zli w0 w q.a0 q.c0 q.a1 q.c1 q.a2 q.c2 q.a4 q.c4 q.a6 q.c6 q.d p k F hpo hK hk hS.sqOut
section
variable {P:Program} {o:Oper} {a:Act} {w:World} {e:TypeId}
theorem ZiD {t:TypeId} {x y z:Operand} (ho:o.op=.slice t x (some y) (some z) none) {g off n cap:Nat} (hx:a.eval x=.slice (some ⟨g,off,none⟩) n cap) {kk k2:IntKind} {m m2:Int} (hy:a.eval y=.int kk m) (hz:a.eval z=.int k2 m2) {size:Nat} (hu:Yu P t=some (e,size)) {k j:Nat} (hm:m=(k:Int)) (hm2:m2=((k+j:Nat):Int)) (hc:k+j≤cap) (hk:k<cap):Yl P w o a (.slice (some ⟨g,off+k*size,none⟩) j (cap - k)):=by
 unfold Yu at hu
 split at hu
 ·rename_i e' hu'
  split at hu
  ·rename_i inf hq
   simp only [Option.some.injEq,Prod.mk.injEq] at hu;obtain ⟨_,rfl⟩:=hu;subst hm hm2;have h2:(((k+j:Nat):Int)≤(cap:Int)):=by omega
   have h3:¬ cap=k:=by omega
   have h4:(k:Int)≤((k+j:Nat):Int):=by omega
   unfold Yl execOp;simp only [ho,hx,hy,hz,map_some,Option.map_none,Instr.sliceAt,Instr.slice,Sem.run_bind,run_underlying hu' w,Result.andThen_ok];simp [Instr.slice,Instr.sliceBounds,Instr.sliceBound,asIntOf,go_sem,run_underlying hu' w,sizeOf,typeInfo,hq,h2,h3,h4,Addr.add];rw [if_pos (by omega)]
   by_cases hz:k*inf.size=0
   ·rw [if_pos hz,hz,Nat.add_zero,if_pos (show k≤((k:Int)+(j:Int)).toNat by omega),show ((k:Int)+(j:Int)).toNat=k+j by omega,Nat.add_sub_cancel_left]
   ·rw [if_neg hz,if_pos (show k≤((k:Int)+(j:Int)).toNat by omega),show ((k:Int)+(j:Int)).toNat=k+j by omega,Nat.add_sub_cancel_left]
  ·cases hu
 ·cases hu
end
theorem ZgN {w:World} {o:Oper} {a:Act} {x y:Operand} {t':TypeId} (p q:PtrD) (ho:o.op=.binOp .eql 40 x y t') (hx:a.eval x=.agg #[.int .i64 p.aA,.int .i64 p.ah,.int .i64 p.al,.int .i64 p.ax,.int .i64 p.ak]) (hy:a.eval y=.agg #[.int .i64 q.aA,.int .i64 q.ah,.int .i64 q.al,.int .i64 q.ax,.int .i64 q.ak]):Yl prog w o a (.bool (p.eqv q)):=by
 have he:=Zhi p q 9998 w;unfold Yl execOp;simp only [ho,hx,hy];simp [eqGuard,binOp,go_sem,Op.equal];rw [show Op.maxDepth=9998+2 from rfl,he];rfl
theorem Zkl {dp lv:Nat} (h:dp≤2) (h1:1≤lv):4 ^ (dp+1 - lv)≤16:=by
 rcases (by omega:dp+1 - lv=0∨dp+1 - lv=1∨dp+1 - lv=2) with e|e|e <;> rw [e] <;> decide
theorem ZmO (j:Nat):replicate j PtrD.zero++[PtrD.zero]=replicate (j+1) PtrD.zero:=List.replicate_succ'.symm
structure ZfE (q0 q:SQ) (t:Zf) (dp:Nat) (R:Jw) (lv:Nat) (ls sy:List PtrD):Prop where
  lv1:1≤lv
  lvd:lv≤dp+1
  hd:q={ q0 with d:=q.d }
  gr:VL q0.d q.d
  ok:q.d.ok=true
  tot:Jy t dp (dp+1 - lv) lv q.d ls sy=R
  oks:∀ p ∈ ls,p.ok=true
  len:ls.length≤4 ^ (dp+1 - lv)
  syl:sy.length≤4*(lv - 1)
structure Zec (q1 q:SQ) (P W0:List PtrD) (lv m i:Nat) (RL:Jw) (nx sy:List PtrD) (b:Nat):Prop where
  im:i≤m
  hd:q={ q1 with d:=q.d }
  gr:VL q1.d q.d
  ok:q.d.ok=true
  tot:QJ (lv:Int) (m - i) (P.drop (i*4)) (W0.drop i) q.d nx sy=RL
  oks:∀ p ∈ nx,p.ok=true
  len:nx.length=i
  syl:sy.length≤b+i
theorem ZfE.start {q0:SQ} {t:Zf} {dp:Nat} {ls:List PtrD} (hok:q0.d.ok=true) (ho:∀ p ∈ ls,p.ok=true) (hl:ls.length≤4 ^ dp):ZfE q0 q0 t dp (Jy t dp dp 1 q0.d ls []) 1 ls [] :=
 ⟨Nat.le_refl _,by omega,rfl,VL.refl _,hok,rfl,ho,by simpa using hl,Nat.zero_le _⟩
theorem ZmP {st:Za} {t:Zf} {dp lv n:Nat} (h1:1≤lv) (h2:lv≤dp) (hd:dp≤2) (hn:n≤4 ^ (dp+1 - lv)):(n+3) / 4≤(Zx st t dp lv).length:=by
 have h4:∀ k,((kidsS st t.ac k).getD XO).length=4:=fun k=>by
  cases h:kidsS st t.ac k with
  | none=>rfl
  | some l=>exact J4 h
 unfold Zx;rcases (by omega:(dp=1∧lv=1)∨(dp=2∧lv=1)∨(dp=2∧lv=2)) with ⟨rfl,rfl⟩|⟨rfl,rfl⟩|⟨rfl,rfl⟩
 ·split
  ·rw [if_pos rfl];have hn:n≤4:=hn;show _≤1;omega
  ·have hn:n≤4:=hn;show _≤4;omega
 ·split
  ·rw [if_neg (by omega),h4];have hn:n≤16:=hn;omega
  ·have hn:n≤16:=hn;show _≤4;omega
 ·split
  ·rw [if_pos rfl];have hn:n≤4:=hn;show _≤1;omega
  ·have hn:n≤4:=hn;show _≤4;omega
theorem Zhm {st:Za} {t:Zf} {dp lv:Nat} (hr:t.ac.ok=true):∀ p ∈ Zx st t dp lv,p.ok=true:=by
 have h4:∀ p ∈ XO,p.ok=true:=fun p hp=>by
  simp only [XO,mem_cons,not_mem_nil,or_false,or_self] at hp;rw [hp];rfl
 intro p hp;unfold Zx at hp
 split at hp
 ·split at hp
  ·rw [mem_singleton.1 hp];exact hr
  ·cases h:kidsS st t.ac (dp:Int) with
   | none=>rw [h] at hp;exact h4 p hp
   | some l=>rw [h] at hp;exact (Xy (VD h).1).2.1 p hp
 ·exact h4 p hp
theorem Zcb {xs:List PtrD} {i:Nat}:(xs.drop i).headD PtrD.zero=xs.getD i PtrD.zero:=by
 rw [List.headD_eq_head?_getD,List.head?_drop,getD_eq_getElem?_getD]
theorem Zec.start {q:SQ} {P W0 sy:List PtrD} {lv m:Nat} (hok:q.d.ok=true):Zec q q P W0 lv m 0 (QJ (lv:Int) m P W0 q.d [] sy) [] sy sy.length :=
 ⟨Nat.zero_le _,rfl,VL.refl _,hok,by simp,fun p hp=>(nomatch hp),rfl,by omega⟩
theorem Zec.step {q1 q z:SQ} {P W0 nx sy:List PtrD} {lv m i b:Nat} {RL:Jw} (h:Zec q1 q P W0 lv m i RL nx sy b) (hi:i<m) {r:Zfq} (hr:r=Zj q.d ((P.drop (i*4)).take 4) (lv:Int) (W0.getD i PtrD.zero)) (hz:z={ q with d:=r.st }) (hok:r.ok=true)
  (hcl:((P.drop (i*4)).take 4).length=4) (hco:∀ p ∈ (P.drop (i*4)).take 4,p.ok=true) (hlv:inB (lv:Int) 0 2=true) (hw:(W0.getD i PtrD.zero).ok=true):Zec q1 z P W0 lv m (i+1) RL (nx++[r.p]) (ZcU sy r.p (W0.getD i PtrD.zero)) b:=by
 have hg:=JK hcl hco hlv hw h.ok;rw [← hr] at hg;subst hz;refine ⟨hi,?_,h.gr.trans hg.1,hg.1.ok h.ok,?_,fun p hp=>?_,?_,?_⟩
 ·show SQ.mk ..=SQ.mk ..
  have:=h.hd;rw [this]
 ·have ht:=h.tot
  have e:m - i=(m - (i+1))+1:=by omega
  rw [e,Ziu (s:=r.st) (p:=r.p) (by rw [Zcb,← hr,← hok]),List.drop_drop,List.drop_drop,Zcb] at ht;rw [show (i+1)*4=i*4+4 by omega];exact ht
 ·rcases mem_append.1 hp with hp|hp
  ·exact h.oks p hp
  ·rw [mem_singleton.1 hp];exact hg.2
 ·rw [length_append,h.len];rfl
 ·have:=h.syl
  unfold ZcU
  split
  ·rw [length_append,length_singleton];omega
  ·omega
theorem Zec.fail {q1 q:SQ} {P W0 nx sy:List PtrD} {lv m i b:Nat} {RL:Jw} (h:Zec q1 q P W0 lv m i RL nx sy b) (hi:i<m) {r:Zfq} (hr:r=Zj q.d ((P.drop (i*4)).take 4) (lv:Int) (W0.getD i PtrD.zero)) (hok:r.ok=false):r.st=q.d∧RL=⟨q.d,nx,sy,false⟩:=by
 have hs:r.st=q.d:=by
  rw [hr] at hok ⊢;unfold Zj at hok ⊢
  split at hok
  ·cases hok
  ·split at hok
   ·cases hok
   ·split at hok
    ·cases hok
    ·rw [if_neg (by assumption),if_neg (by assumption),if_neg (by assumption)]
 refine ⟨hs,?_⟩;have ht:=h.tot;have e:m - i=(m - (i+1))+1:=by omega
 rw [e,Zkf (s:=r.st) (p:=r.p) (by rw [Zcb,← hr,← hok]),hs] at ht;exact ht.symm
theorem Zec.done {q1 q:SQ} {P W0 nx sy:List PtrD} {lv m i b:Nat} {RL:Jw} (h:Zec q1 q P W0 lv m i RL nx sy b) (hi:¬ i<m):RL=⟨q.d,nx,sy,true⟩:=by
 have ht:=h.tot;rw [show m - i=0 by omega] at ht;exact ht.symm
theorem ZfE.next {q0 q z:SQ} {t:Zf} {dp:Nat} {R:Jw} {lv:Nat} {ls sy P nx sy2:List PtrD} (h:ZfE q0 q t dp R lv ls sy) (hd2:dp≤2) (hl:lv≤dp) (hP:P=YF ls) {m i:Nat} (hm:m=P.length / 4) (hb:Zec q z P (Zx q.d t dp lv) lv m i (QJ (lv:Int) m P (Zx q.d t dp lv) q.d [] sy) nx sy2 sy.length) (hi:¬ i<m):ZfE q0 z t dp R (lv+1) nx sy2:=by
 subst hP hm;have hd:=hb.done hi;have ht:=h.tot;have e:dp+1 - lv=(dp+1 - (lv+1))+1:=by omega
 rw [e,ZmA hd] at ht;have hl2:=h.len;have hpl:=VM ls;have hnl:=hb.len;have him:=hb.im;refine ⟨by omega,by omega,?_,h.gr.trans hb.gr,hb.ok,ht,hb.oks,?_,?_⟩
 ·have h1:=hb.hd;have h2:=h.hd
  show z=SQ.mk ..;rw [h1];show SQ.mk ..=SQ.mk ..;rw [h2]
 ·rw [e,Nat.pow_succ] at hl2
  omega
 ·have:=hb.syl;have:=h.syl;have:=h.lv1
  have:i≤4:=by
   have h16:=Zkl (dp:=dp) hd2 h.lv1;rw [e,Nat.pow_succ] at h16;rw [e,Nat.pow_succ] at hl2
   omega
  omega
theorem ZfE.stop {q0 q z:SQ} {t:Zf} {dp:Nat} {R:Jw} {lv:Nat} {ls sy P nx sy2:List PtrD} (h:ZfE q0 q t dp R lv ls sy) (hl:lv≤dp) (hP:P=YF ls) {m:Nat} (hm:m=P.length / 4) (hb:QJ (lv:Int) m P (Zx q.d t dp lv) q.d [] sy=⟨z.d,nx,sy2,false⟩):R=⟨z.d,nx,sy2,false⟩:=by
 subst hP hm;have ht:=h.tot;have e:dp+1 - lv=(dp+1 - (lv+1))+1:=by omega
 rw [e,Zn5 hb] at ht;exact ht.symm
theorem ZfE.done {q0 q:SQ} {t:Zf} {dp:Nat} {R:Jw} {lv:Nat} {ls sy:List PtrD} (h:ZfE q0 q t dp R lv ls sy) (hl:¬ lv≤dp):R=⟨q.d,ls,sy,true⟩:=by
 have ht:=h.tot;rw [show dp+1 - lv=0 by have:=h.lvd;omega] at ht;exact ht.symm
theorem Zcc {st:Za} {t:Zf} (hr:t.ac.ok=true):(ZT st t).length≤5∧∀ p ∈ ZT st t,p.ok=true:=by
 unfold ZT
 split
 ·exact ⟨by simp,fun p hp=>nomatch hp⟩
 ·split
  ·cases h:kidsS st t.ac 2 with
   | none=>exact ⟨by simp,fun p hp=>by simp at hp;rw [hp];exact hr⟩
   | some l =>
    have hl:=J4 h;have h9:=List.length_filter_le (fun p:PtrD=>!p.hole) l;refine ⟨by show (l.filter _).length+1≤5;omega,fun p hp=>?_⟩;rcases mem_cons.1 hp with rfl|hp
    ·exact hr
    ·exact (Xy (VD h).1).2.1 p (List.mem_filter.1 hp).1
  ·exact ⟨by simp,fun p hp=>by simp at hp;rw [hp];exact hr⟩
theorem ZfF {sy:List PtrD} {x:PtrD} {k:Nat} (hk:k<sy.length):YM (sy.take (k+1)) x=(YM (sy.take k) x || (sy.getD k PtrD.zero).eqv x):=by
 unfold YM;exact VP hk _
theorem ZfG {sy inn:List PtrD} {i:Nat} {s:Za} (hi:i<inn.length):Y1 sy (inn.drop i) s=Y1 sy (inn.drop (i+1)) (if YM sy (inn.getD i PtrD.zero)=true then s else s.free (inn.getD i PtrD.zero)):=by
 rw [UG hi];rfl
theorem ZfH (w0 w:World) (q0:SQ) (t:Zf) (aoL:Option Addr) (cpL:Nat) (lvs:List PtrD) (many dp:Nat) (F:List Asr) (hdp:depthN (many:Int)=dp) (hl16:lvs.length=16) (hlo:∀ p ∈ lvs,p.ok=true) (hmany:many≤16) (hq:q0.d.ok=true) (hroot:t.ac.ok=true) (hkid:t.az=2→t.ac.hole=false→kidsS q0.d t.ac 2≠none) (hS:St w0 (q0.asr::Zd PtrD.cells 5 40 (.slice aoL lvs.length cpL) lvs::F) w):Calls prog 81 #[q0.u,tV t,.slice aoL lvs.length cpL,.int .i64 (many:Int)] w fun e w'=>∃ (q':SQ) (r:Zav),r=U1 q0.d t lvs many∧q'.d=r.st∧(r.ok=false→q'={ q0 with d:=r.st }∧VL q0.d r.st)∧(r.ok=true→Uk 5 q'.d)∧e=.returned (.tuple #[q'.u,tV r.t,.bool r.ok])∧St w0 (q'.asr::Zd PtrD.cells 5 40 (.slice aoL lvs.length cpL) lvs::F) w':=by
 have hrow0:=QU hq;have htk:(lvs.take many).length=many:=by rw [length_take];omega
 have hdp2:dp≤2:=hdp ▸ YU _;have hdf:=V8 (many:=(many:Int)) (by omega);rw [hdp] at hdf;have E:=Bx.mk hS;clear hS;refine ent func81 ntmps81 ?_;refine xsr ?_;refine ybx E ?_;clear E;intro w1 b1 E;refine ybx E ?_;clear E;intro w2 b2 E;refine yal z8 E ?_;clear E;intro w3 b3 E;refine yal z7 E ?_;clear E;intro w4 b4 E;refine xr 1 rfl<|xne<|xsr<|xr 1 rfl ?_;refine ycB (hdp ▸ ZaO (many:Int) _) func47 E ?_;clear E;intro w5 E;refine xr 1 rfl<|xne<|xsr<|Xw 3 8 E rfl rfl<|Xw 2 7 E rfl rfl ?_;refine yc (Ziz q0.a0 q0.c0 q0.a1 q0.c1 q0.a2 q0.c2 q0.a4 q0.c4 q0.a6 q0.c6 q0.d t hkid _ (E.o.sqRd 4 rfl) hrow0) func113 ?_;rintro _ w6 ⟨ao5,cp5,rfl,hs⟩;refine ⟨_,rfl,?_⟩;replace E:=E.ad hs;clear hs;refine xr 1 rfl<|xne<|xsr ?_;refine yem 40 5 E ?_;clear E;intro w7 b6 E;refine xr 2 rfl<|xy rfl (fun a O=>ZiW (e:=40) (size:=5) (k:=many) rfl (O.ev rfl) (O.ev rfl) (by kernel_rfl) (by omega) (Nat.le_trans (by omega) (St.capLe E.o 6 rfl))) ?_;replace E:=Bx.mk (E.o.nilRow PtrD.cells 5 40 (some ⟨b6,0,none⟩));intro a O;refine Xb rfl O rfl rfl rfl (O.ev rfl) (O.ev rfl) Yz PtrD.cells_len E.o 0 (xs:=[]) rfl (ys:=lvs.take many) (Rd.take (St.rdOf E.o PtrD.cells_len 7 rfl) (k:=many) (by omega)) (Zn _) (by unfold maxLen;(try simp only [length_append,length_cons,length_nil,nil_append,length_map]);omega) (by (try simp only [length_append,length_cons,length_nil,nil_append,length_map]);omega) ?_;clear O E a;intro ao8 cp9 w8 a O E;replace E:=Bx.mk E;revert a;refine xr 1 rfl<|xne<|xsr ?_;refine yem 40 5 E ?_;clear E;intro w9 b10 E;refine xr 1 rfl<|xne<|xsq<|xsr<|xr 1 rfl<|xne<|xbl ?_;have hz11:([]:List PtrD).length+(lvs.take many).length=(([])++(lvs.take many)).length:=by simp only [length_append,length_nil,length_cons]
 intro a O;rw [hz11] at E O;replace E:=Bx.mk (E.o.nilRow PtrD.cells 5 40 (some ⟨b10,0,none⟩));replace E:=E.pks [6,1,2,7];refine ZD (ι:=Nat) (fun lv a w=>∃ (q1:SQ) (ao:Option Addr) (cp:Nat) (ls:List PtrD) (aS:Option Addr) (cs:Nat) (sy:List PtrD),(ZfE q0 q1 t dp (Jy t dp dp 1 q0.d (lvs.take many) []) lv ls sy)∧Fr 145 a [(2,.slice aoL lvs.length cpL),(3,.int .i64 (many:Int)),(4,.pointer (some ⟨b1,0,none⟩)),(5,.pointer (some ⟨b2,0,none⟩)),(8,.pointer (some ⟨b3,0,none⟩)),(9,.pointer (some ⟨b4,0,none⟩)),(10,.bool false),(11,.int .i64 (dp:Int)),(12,.slice ao5 ((ZT q0.d t).length) cp5),(13,.slice ao ls.length cp),(14,.slice aS sy.length cs),(15,.int .i64 (lv:Int))]∧St w0 (SQ.asr q1::Zd PtrD.cells 5 40 (.slice ao ls.length cp) ls::Zd PtrD.cells 5 40 (.slice aS sy.length cs) sy::boxA b1 8 39 (q1.u)::Zd PtrD.cells 5 40 (.slice ao5 ((ZT q0.d t).length) cp5) (ZT q0.d t)::boxA b4 7 42 (az7)::boxA b3 8 39 (az8)::boxA b2 7 42 (tV t)::Zd PtrD.cells 5 40 (.slice aoL lvs.length cpL) lvs::F) w) (fun lv=>dp+1 - lv) 1 ⟨q0,_,_,_,_,_,[],ZfE.start hq (fun p hp=>hlo p (List.mem_of_mem_take hp)) (by rw [length_take];omega),O.less _ ⟨rfl,rfl,rfl,rfl,rfl,rfl,rfl,rfl,rfl,rfl,rfl,rfl,trivial⟩,E.o⟩ ?_;clear O E;clear a;rintro lv a w10 ⟨q1,ao,cp,ls,aS,cs,sy,hA,O,E⟩;replace E:=Bx.mk E;have h416:4 ^ (dp+1 - lv)≤16:=Zkl hdp2 hA.lv1;have hlsl:=hA.len;have hsyl:=hA.syl;have hlv1:=hA.lv1;have hlvd:=hA.lvd;revert a;refine xsq<|xsr<|xr 3 rfl<|xne<|xcd 39 rfl (fun _ dcc1=>?_) fun _ dcc1=>?_
 refine xct rfl<|xsk<|xet<|xsq<|xbl<|xsr<|Xw 3 8 E rfl rfl<|Xw 7 7 E rfl rfl<|xr 2 rfl ?_;refine yc (Zk6 q1.a0 q1.c0 q1.a1 q1.c1 q1.a2 q1.c2 q1.a4 q1.c4 q1.a6 q1.c6 q1.d t dp lv _ (E.o.sqRd 0 rfl) (QU hA.ok)) func114 ?_;rintro _ w11 ⟨ao12,cp12,rfl,hs⟩;refine ⟨_,rfl,?_⟩;replace E:=E.ad hs;clear hs;refine xr 1 rfl<|xne<|xsr ?_;refine yem 40 5 E ?_;clear E;intro w12 b13 E;refine xr 1 rfl<|xne<|xsq<|xbl ?_;replace E:=E.pks [2];intro a O;refine ZD (ι:=Nat) (fun j a w=>∃ (ap:Option Addr) (cpP:Nat) (P:List PtrD),(P=ls++replicate j PtrD.zero∧j≤(4 - ls.length % 4) % 4)∧Fr 145 a [(2,.slice aoL lvs.length cpL),(3,.int .i64 (many:Int)),(4,.pointer (some ⟨b1,0,none⟩)),(5,.pointer (some ⟨b2,0,none⟩)),(8,.pointer (some ⟨b3,0,none⟩)),(9,.pointer (some ⟨b4,0,none⟩)),(10,.bool false),(11,.int .i64 (dp:Int)),(12,.slice ao5 ((ZT q0.d t).length) cp5),(14,.slice aS sy.length cs),(15,.int .i64 (lv:Int)),(16,.slice ao12 ((Zx q1.d t dp lv).length) cp12),(17,.slice (some ⟨b13,0,none⟩) 0 0),(13,.slice ap P.length cpP)]∧St w0 (Zd PtrD.cells 5 40 (.slice ap P.length cpP) P::Zd PtrD.cells 5 40 (.slice ao12 ((Zx q1.d t dp lv).length) cp12) (Zx q1.d t dp lv)::SQ.asr q1::Zd PtrD.cells 5 40 (.slice aS sy.length cs) sy::boxA b1 8 39 (q1.u)::Zd PtrD.cells 5 40 (.slice ao5 ((ZT q0.d t).length) cp5) (ZT q0.d t)::boxA b4 7 42 (az7)::boxA b3 8 39 (az8)::boxA b2 7 42 (tV t)::Zd PtrD.cells 5 40 (.slice aoL lvs.length cpL) lvs::F) w) (fun j=>(4 - ls.length % 4) % 4 - j) 0 ⟨_,_,_,⟨(by simp),Nat.zero_le _⟩,O.less _ ⟨rfl,rfl,rfl,rfl,rfl,rfl,rfl,rfl,rfl,rfl,rfl,rfl,rfl,rfl,trivial⟩,E.o⟩ ?_;clear O E;clear a;rintro j a w13 ⟨ap,cpP,P,⟨hPj,hj⟩,O,E⟩;replace E:=Bx.mk E;have hPl:P.length=ls.length+j:=by rw [hPj,length_append,length_replicate]
 revert a;refine xsq<|xsr<|xr 1 rfl<|xy rfl (vn 40 5 rfl)<|xy rfl (fun a O=>Ua rfl (O.ev rfl) (O.ev rfl) (by omega) (Ub (by omega) (by omega)))<|xr 1 rfl<|xne<|xcn 51 rfl (fun _ dcc2=>?_) fun _ dcc2=>?_
 refine xct rfl<|xsk<|xet<|xbl<|xrl<|xr 1 rfl<|xy rfl (vb z5 rfl) ?_;refine ybs PtrD.cells 40 5 [PtrD.zero] E ?_;clear E;intro b14 w14 E;refine yap Yz PtrD.cells_len E 1 (St.rdN E.o PtrD.cells_len 0 rfl) (Zn _) ?_;clear E;intro ao15 cp16 w15 E;refine xr 1 rfl<|xni<|xeb<|xet ?_;have hz17:P.length+([PtrD.zero]).length=(P++([PtrD.zero])).length:=by simp only [length_append,length_nil,length_cons]
 intro a O;rw [hz17] at E O;replace E:=E.pks [10,10,10,10,10,10,10,10,10,10];exact ⟨j+1,⟨_,_,_,⟨by rw [hPj,List.append_assoc,ZmO],by omega⟩,O.less _ ⟨rfl,rfl,rfl,rfl,rfl,rfl,rfl,rfl,rfl,rfl,rfl,rfl,rfl,rfl,trivial⟩,(E.o.erase 10)⟩,(by omega)⟩;refine xcf rfl<|xex<|xtx<|xtx<|xbh<|xet<|xsq<|xsr<|xr 1 rfl<|xne<|xbl ?_;replace E:=Bx.mk (E.o.nilRow PtrD.cells 5 40 (some ⟨b13,0,none⟩));replace E:=E.pks [5,5,2,5];have hP:P=YF ls:=by rw [hPj];unfold YF;congr 2;omega
 have hP4:=VM ls;rw [← hP] at hP4;have hwl:=ZmP (st:=q1.d) (t:=t) hA.lv1 (by omega) hdp2 hA.len;intro a O;refine ZD (ι:=Nat) (fun i a w=>∃ (q2:SQ) (an:Option Addr) (cn:Nat) (nx:List PtrD) (a5:Option Addr) (c5:Nat) (sy2:List PtrD),(Zec q1 q2 P (Zx q1.d t dp lv) lv (P.length / 4) i (QJ (lv:Int) (P.length / 4) P (Zx q1.d t dp lv) q1.d [] sy) nx sy2 sy.length)∧Fr 145 a [(2,.slice aoL lvs.length cpL),(3,.int .i64 (many:Int)),(4,.pointer (some ⟨b1,0,none⟩)),(5,.pointer (some ⟨b2,0,none⟩)),(8,.pointer (some ⟨b3,0,none⟩)),(9,.pointer (some ⟨b4,0,none⟩)),(10,.bool false),(11,.int .i64 (dp:Int)),(12,.slice ao5 ((ZT q0.d t).length) cp5),(13,.slice ap P.length cpP),(15,.int .i64 (lv:Int)),(16,.slice ao12 ((Zx q1.d t dp lv).length) cp12),(14,.slice a5 sy2.length c5),(17,.slice an nx.length cn),(18,.int .i64 (i:Int))]∧St w0 (SQ.asr q2::Zd PtrD.cells 5 40 (.slice an nx.length cn) nx::Zd PtrD.cells 5 40 (.slice a5 sy2.length c5) sy2::boxA b1 8 39 (q2.u)::Zd PtrD.cells 5 40 (.slice ap P.length cpP) P::Zd PtrD.cells 5 40 (.slice ao12 ((Zx q1.d t dp lv).length) cp12) (Zx q1.d t dp lv)::Zd PtrD.cells 5 40 (.slice ao5 ((ZT q0.d t).length) cp5) (ZT q0.d t)::boxA b4 7 42 (az7)::boxA b3 8 39 (az8)::boxA b2 7 42 (tV t)::Zd PtrD.cells 5 40 (.slice aoL lvs.length cpL) lvs::F) w) (fun i=>P.length / 4 - i) 0 ⟨q1,_,_,[],_,_,_,Zec.start hA.ok,O.ls _,E.o⟩ ?_;clear O E;clear a;rintro i a w16 ⟨q2,an,cn,nx,a5,c5,sy2,hB,O,E⟩;replace E:=Bx.mk E;have hnxl:=hB.len;have hsy2:=hB.syl;have him:=hB.im;revert a;refine xsq<|xsr<|xr 1 rfl<|xy rfl (fun a O=>Uv rfl (O.ev rfl) (O.ev rfl) (Qt (by omega)))<|xr 1 rfl<|xy rfl (vn 40 5 rfl)<|xr 1 rfl<|xne<|xcd 60 rfl (fun _ dcc3=>?_) fun _ dcc3=>?_
 have hcl:((P.drop (i*4)).take 4).length=4:=by rw [length_take,List.length_drop];omega
 have hco:∀ p ∈ (P.drop (i*4)).take 4,p.ok=true:=fun p hp=>ZcW hA.oks p (hP ▸ List.mem_of_mem_drop (List.mem_of_mem_take hp))
 have hlv2:inB (lv:Int) 0 2=true:=JA (by omega) (by omega);obtain ⟨g18,rfl,_,_,_,_⟩:=E.o.rowOpen 4 rfl (by omega);obtain ⟨g19,rfl,_,_,_,_⟩:=E.o.rowOpen 5 rfl (by omega);have hcap:=E.o.capLe 4 rfl;replace E:=E.pks [10,10,10,10,10,10,9,9,9,10,10];refine xct rfl<|xsk<|xet<|xsq<|xbl<|xsq ?_;intro a O;refine V5 (R:=fun a w=>∃ (b20:Nat) (b21:Nat) (zr1:Zfq) (zq1:SQ),zr1=Zj q2.d ((P.drop (i*4)).take 4) (lv:Int) ((Zx q1.d t dp lv).getD i PtrD.zero)∧zq1={ q2 with d:=zr1.st }∧Fr 145 a [(2,.slice aoL lvs.length cpL),(3,.int .i64 (many:Int)),(4,.pointer (some ⟨b1,0,none⟩)),(5,.pointer (some ⟨b2,0,none⟩)),(8,.pointer (some ⟨b3,0,none⟩)),(9,.pointer (some ⟨b4,0,none⟩)),(10,.bool false),(11,.int .i64 (dp:Int)),(12,.slice ao5 ((ZT q0.d t).length) cp5),(13,.slice (some ⟨g18,0,none⟩) P.length cpP),(15,.int .i64 (lv:Int)),(16,.slice (some ⟨g19,0,none⟩) ((Zx q1.d t dp lv).length) cp12),(14,.slice a5 sy2.length c5),(17,.slice an nx.length cn),(18,.int .i64 (i:Int)),(56,.int .i64 (i:Int)),(57,.int .i64 ((i:Int)*4)),(58,.slice (some ⟨g18,0,none⟩) P.length cpP),(59,.int .i64 (P.length:Int)),(60,.bool true),(19,.pointer (some ⟨b20,0,none⟩)),(20,.pointer (some ⟨b21,0,none⟩)),(21,.bool zr1.ok)]∧St w0 (boxA b21 5 40 (pV zr1.p)::boxA b20 8 39 (zq1.u)::SQ.asr zq1::Zd PtrD.cells 5 40 (.slice (some ⟨g18,0,none⟩) P.length cpP) P::Zd PtrD.cells 5 40 (.slice an nx.length cn) nx::Zd PtrD.cells 5 40 (.slice a5 sy2.length c5) sy2::boxA b1 8 39 (q2.u)::Zd PtrD.cells 5 40 (.slice (some ⟨g19,0,none⟩) ((Zx q1.d t dp lv).length) cp12) (Zx q1.d t dp lv)::Zd PtrD.cells 5 40 (.slice ao5 ((ZT q0.d t).length) cp5) (ZT q0.d t)::boxA b4 7 42 (az7)::boxA b3 8 39 (az8)::boxA b2 7 42 (tV t)::Zd PtrD.cells 5 40 (.slice aoL lvs.length cpL) lvs::F) w) ?_ ?_;revert a;refine hld [0] E ?_;clear E;intro w17 E U;refine Hw 0 3 8 E rfl rfl<|Hp 1 E rfl<|Hp 2 E rfl<|xhy 3 E.o rfl rfl (fun E a O=>Uv rfl (O.ev rfl) (O.ev rfl) (Qt (by omega)))<|Hp 4 E rfl<|xhy 5 E.o rfl rfl (fun E=>vad rfl)<|xhy 6 E.o rfl rfl (fun E a O=>Uv rfl (O.ev rfl) (O.ev rfl) (Qt (by omega)))<|xhy 7 E.o rfl rfl (fun E a O=>ZiD (e:=40) (size:=5) (k:=i*4) (j:=4) rfl (O.ev rfl) (O.ev rfl) (O.ev rfl) (by kernel_rfl) (by omega) (by omega) (by omega) (by omega))<|Hp 8 E rfl<|Hp 9 E rfl<|Hp 10 E rfl<|xhy 11 E.o rfl rfl (fun E=>vx 40 i 5 rfl)<|xhy 12 E.o rfl rfl (fun E a O=>ylr (cs:=pL ((Zx q1.d t dp lv).getD i PtrD.zero)) rfl (O.ev rfl) (E.elem PtrD.cells_len 4 rfl (Zh (xs:=(Zx q1.d t dp lv)) (j:=i) (d:=PtrD.zero) (by omega)))) ?_
 repeat' (first|(refine yo (i:=13) (ZmG w0 _ q2 g18 cpP (i*4) (cpP - i*4) P _ (lv:Int) ((Zx q1.d t dp lv).getD i PtrD.zero) _ (by omega) rfl hcl hco (Zhm hroot _ (YI (by omega))) hlv2 hB.ok ((U.lk (Zd PtrD.cells 5 40 (.slice (some ⟨g18,0,none⟩) P.length cpP) P)).lk (SQ.asr q2)).out) func115 ?_;rintro _ w19 ⟨zq1,zr1,hr1,hq1,rfl,hs1⟩;refine ⟨_,rfl,?_⟩;replace U:=Bx.mk hs1;clear hs1;replace U:=U.nm;replace E:=E.upd U;refine onb E.o ?_)|(refine yoa (i:=18) z8 E U ?_;clear E U;intro w20 b20 E U)|(refine yoa (i:=19) z5 E U ?_;clear E U;intro w21 b21 E U)|(refine YS (i:=20) U ?_;clear E U;intro w22 E U)|(refine YS (i:=21) U ?_;clear E U;intro w23 E U)|refine rdy 14<|Hp 14 E rfl ?_|refine rdy 15<|Hp 15 E rfl ?_|refine rdy 16<|Hp 16 E rfl ?_|refine rdy 17<|Hp 17 E rfl ?_|refine rdy 22<|Hp 22 E rfl ?_|refine Zcr 13 18 19 ?_ ?_ ?_|refine QB 13 18 ?_ ?_|refine Qg 13 ?_|refine Qg 20 ?_|refine Qg 21 ?_|refine Qg 18 ?_|refine QB 13 19 ?_ ?_|refine Qg 19 ?_|refine QB 18 19 ?_ ?_|(refine gdn ?_;intro a O;exact ZaC ⟨b20,b21,zr1,zq1,hr1,hq1,O.ls _,U.o.pmA⟩))
 clear O E a;rintro a w17 ⟨b20,b21,zr1,zq1,hr1,hq1,O,E⟩;replace E:=Bx.mk E;revert a;refine xet<|xsq<|xsr<|xr 2 rfl<|xne<|xcs 82 rfl (fun cc4=>?_) fun cc4=>?_
 refine xct rfl<|xsr<|Xw 6 8 E rfl rfl<|xy rfl (vb z7 rfl) ?_;refine yst E 10 ?_;clear E;intro w18 E;replace E:=E.nm;refine yst E 9 ?_;clear E;intro w19 E;replace E:=E.nm;refine xr 1 rfl<|xne<|xre<|xtr<|xbr<|xtr<|xtr<|xbr<|xtr<|xbr<|xtr<|xtr<|xbr<|xtr ?_;intro a O;refine ZO O results81 (O.resBox rfl (E.o.box 10 rfl) (by kernel_rfl)) (O.resBox rfl (E.o.box 9 rfl) (by kernel_rfl)) (O.res rfl) ?_;obtain ⟨hf1,hf2⟩:=hB.fail (by omega) hr1 (by simpa using cc4);have hR:=hA.stop (by omega) hP rfl hf2;have hz:zq1=q2:=by rw [hq1,hf1]
 subst hz;have hT:U1 q0.d t lvs many=⟨zq1.d,tree0,false⟩:=Zkg (by rw [hdp];exact hR);replace E:=E.pks [12,3];refine ⟨zq1,_,hT.symm,rfl,fun _=>⟨?_,hA.gr.trans hB.gr⟩,fun h=>(nomatch h),rfl,(E.o.erS [12,11,10,9,8,7,6,5,4,3,2])⟩;have h1:=hB.hd;have h2:=hA.hd;rw [h1];show SQ.mk ..=SQ.mk ..;rw [h2];refine xcf rfl<|xsk<|xet<|xsr<|Xw 1 8 E rfl rfl ?_;refine yst E 6 ?_;clear E;intro w20 E;replace E:=E.nm;refine xne<|xsq<|xsq ?_;intro a O;refine Yr (by kernel_rfl) (by kernel_rfl) E.o ?_;revert a;refine Qw 0 5 rfl rfl<|xqr 2 rfl<|xq rfl (fun E=>vx 40 i 5 rfl)<|xq rfl (fun E a O=>ylr (cs:=pL ((Zx q1.d t dp lv).getD i PtrD.zero)) rfl (O.ev rfl) (E.elem PtrD.cells_len 7 rfl (Zh (xs:=(Zx q1.d t dp lv)) (j:=i) (d:=PtrD.zero) (by omega))))<|xq rfl (fun E a O=>ZgN zr1.p ((Zx q1.d t dp lv).getD i PtrD.zero) rfl (O.ev rfl) (O.ev rfl)) ?_;intro a O;refine wpQuiet_nil ?_;intro w21 E;replace E:=Bx.mk E;revert a;refine xet<|xcs 91 rfl (fun cc5=>?_) fun cc5=>?_
 refine xct rfl<|xrl<|xr 1 rfl<|Xw 0 5 E rfl rfl ?_;refine ybs PtrD.cells 40 5 [zr1.p] E ?_;clear E;intro b60 w22 E;refine yap Yz PtrD.cells_len E 6 (St.rdN E.o PtrD.cells_len 0 rfl) (Zn _) ?_;clear E;intro ao61 cp62 w23 E;refine xr 1 rfl<|xne<|xrl<|xr 1 rfl<|Xw 1 5 E rfl rfl ?_;refine ybs PtrD.cells 40 5 [zr1.p] E ?_;clear E;intro b63 w24 E;refine yap Yz PtrD.cells_len E 6 (St.rdN E.o PtrD.cells_len 0 rfl) (Zn _) ?_;clear E;intro ao64 cp65 w25 E;refine xr 1 rfl<|xni<|xeb<|xet<|xrl<|xr 1 rfl<|xy rfl (vad rfl)<|xr 1 rfl<|xne ?_;have hz66:nx.length+([zr1.p]).length=(nx++([zr1.p])).length:=by simp only [length_append,length_nil,length_cons]
 intro a O;rw [hz66] at E O;have hz67:sy2.length+([zr1.p]).length=(sy2++([zr1.p])).length:=by simp only [length_append,length_nil,length_cons]
 rw [hz67] at E O;have hB2:=hB.step (by omega) hr1 hq1 (by simpa using cc4) hcl hco hlv2 (Zhm hroot _ (YI (by omega)));rw [show ZcU sy2 zr1.p ((Zx q1.d t dp lv).getD i PtrD.zero)=sy2++[zr1.p] from if_pos (by rw [cc5])] at hB2;replace E:=E.pks [14,14,14,14,14,14,11,14,14,14,14];exact ⟨i+1,⟨_,_,_,_,_,_,_,hB2,O.ls _,(E.o.erS [14,13,12,11])⟩,(by omega)⟩;refine xcf rfl<|xsk<|xet<|xrl<|xr 1 rfl<|Xw 0 5 E rfl rfl ?_;refine ybs PtrD.cells 40 5 [zr1.p] E ?_;clear E;intro b68 w26 E;refine yap Yz PtrD.cells_len E 5 (St.rdN E.o PtrD.cells_len 0 rfl) (Zn _) ?_;clear E;intro ao69 cp70 w27 E;refine xr 1 rfl<|xni<|xeb<|xet<|xrl<|xr 1 rfl<|xy rfl (vad rfl)<|xr 1 rfl<|xne ?_;have hz71:nx.length+([zr1.p]).length=(nx++([zr1.p])).length:=by simp only [length_append,length_nil,length_cons]
 intro a O;rw [hz71] at E O;have hB2:=hB.step (by omega) hr1 hq1 (by simpa using cc4) hcl hco hlv2 (Zhm hroot _ (YI (by omega)));rw [show ZcU sy2 zr1.p ((Zx q1.d t dp lv).getD i PtrD.zero)=sy2 from if_neg (by rw [cc5];exact Bool.false_ne_true)] at hB2;replace E:=E.pks [13,13,13,13,13,13,10,13,13,13,13];exact ⟨i+1,⟨_,_,_,_,_,_,_,hB2,O.ls _,(E.o.erS [13,12,11])⟩,(by omega)⟩;refine xcf rfl<|xex<|xtx<|xtx<|xbh<|xet<|xrl<|xr 2 rfl<|xni<|xeb<|xet<|xrl<|xr 1 rfl<|xy rfl (vad rfl)<|xr 1 rfl<|xne ?_;replace E:=E.pks [10,10,10,10,10,8,8,8,8];intro a O;exact ⟨lv+1,⟨_,_,_,_,_,_,_,hA.next hdp2 (by omega) hP rfl hB (by omega),O.less _ ⟨rfl,rfl,rfl,rfl,rfl,rfl,rfl,rfl,rfl,rfl,rfl,rfl,trivial⟩,(E.o.erS [10,9])⟩,(by omega)⟩;refine xcf rfl<|xex<|xtx<|xtx<|xbh<|xet<|xsq<|xsr<|xr 1 rfl<|xne<|xbl ?_;have hin5:=(Zcc (st:=q0.d) hroot).1;replace E:=E.pks [3,1];intro a O;refine ZD (ι:=Nat) (fun i a w=>∃ (q3:SQ),(i≤(ZT q0.d t).length∧Y1 sy ((ZT q0.d t).drop i) q3.d=Y1 sy (ZT q0.d t) q1.d∧Uk i q3.d)∧Fr 145 a [(2,.slice aoL lvs.length cpL),(3,.int .i64 (many:Int)),(4,.pointer (some ⟨b1,0,none⟩)),(5,.pointer (some ⟨b2,0,none⟩)),(8,.pointer (some ⟨b3,0,none⟩)),(9,.pointer (some ⟨b4,0,none⟩)),(10,.bool false),(11,.int .i64 (dp:Int)),(12,.slice ao5 ((ZT q0.d t).length) cp5),(13,.slice ao ls.length cp),(14,.slice aS sy.length cs),(22,.int .i64 (i:Int))]∧St w0 (SQ.asr q3::boxA b1 8 39 (q3.u)::Zd PtrD.cells 5 40 (.slice ao ls.length cp) ls::Zd PtrD.cells 5 40 (.slice aS sy.length cs) sy::Zd PtrD.cells 5 40 (.slice ao5 ((ZT q0.d t).length) cp5) (ZT q0.d t)::boxA b4 7 42 (az7)::boxA b3 8 39 (az8)::boxA b2 7 42 (tV t)::Zd PtrD.cells 5 40 (.slice aoL lvs.length cpL) lvs::F) w) (fun i=>(ZT q0.d t).length - i) 0 ⟨q1,⟨Nat.zero_le _,by rw [drop_zero],Ux hA.ok⟩,O.less _ ⟨rfl,rfl,rfl,rfl,rfl,rfl,rfl,rfl,rfl,rfl,rfl,rfl,trivial⟩,E.o⟩ ?_;clear O E;clear a;rintro i a w28 ⟨q3,⟨hi,hfr,hW⟩,O,E⟩;replace E:=Bx.mk E;revert a;refine xsq<|xsr<|xr 2 rfl<|xy rfl (vn 40 5 rfl)<|xr 1 rfl<|xne<|xcd 104 rfl (fun _ dcc6=>?_) fun _ dcc6=>?_
 refine xct rfl<|xsk<|xet<|xsq<|xbl<|xsr<|xr 1 rfl<|xne<|xsq<|xsr<|xr 1 rfl<|xne<|xbl ?_;intro a O;refine ZD (ι:=Nat) (fun k a w=>(k≤sy.length)∧Fr 145 a [(2,.slice aoL lvs.length cpL),(3,.int .i64 (many:Int)),(4,.pointer (some ⟨b1,0,none⟩)),(5,.pointer (some ⟨b2,0,none⟩)),(8,.pointer (some ⟨b3,0,none⟩)),(9,.pointer (some ⟨b4,0,none⟩)),(10,.bool false),(11,.int .i64 (dp:Int)),(12,.slice ao5 ((ZT q0.d t).length) cp5),(13,.slice ao ls.length cp),(14,.slice aS sy.length cs),(22,.int .i64 (i:Int)),(23,.bool (YM (sy.take k) ((ZT q0.d t).getD i PtrD.zero))),(24,.int .i64 (k:Int))]∧St w0 (SQ.asr q3::boxA b1 8 39 (q3.u)::Zd PtrD.cells 5 40 (.slice ao ls.length cp) ls::Zd PtrD.cells 5 40 (.slice aS sy.length cs) sy::Zd PtrD.cells 5 40 (.slice ao5 ((ZT q0.d t).length) cp5) (ZT q0.d t)::boxA b4 7 42 (az7)::boxA b3 8 39 (az8)::boxA b2 7 42 (tV t)::Zd PtrD.cells 5 40 (.slice aoL lvs.length cpL) lvs::F) w) (fun k=>sy.length - k) 0 ⟨Nat.zero_le _,O.ls _,E.o⟩ ?_;clear O E;clear a;rintro k a w29 ⟨hk4,O,E⟩;replace E:=Bx.mk E;revert a;refine xsq<|xsr<|xr 2 rfl<|xy rfl (vn 40 5 rfl)<|xr 1 rfl<|xne<|xcd 110 rfl (fun _ dcc7=>?_) fun _ dcc7=>?_
 refine xct rfl<|xsk<|xet<|xsq<|xbl ?_;obtain ⟨g72,rfl,_,_,_,_⟩:=E.o.rowOpen 3 rfl (by omega);obtain ⟨g73,rfl,_,_,_,_⟩:=E.o.rowOpen 4 rfl (by omega);intro a O;refine Yr (by kernel_rfl) (by kernel_rfl) E.o ?_;revert a;refine xqr 2 rfl<|xcs 114 rfl (fun cc8=>?_) fun cc8=>?_
 refine xqr 11 rfl ?_;intro a O;refine wpQuiet_nil ?_;intro w30 E;replace E:=Bx.mk E;revert a;refine xeb<|xet<|xrl<|xr 1 rfl<|xy rfl (vad rfl)<|xr 1 rfl<|xne ?_;have hks:=ZfF (x:=((ZT q0.d t).getD i PtrD.zero)) (show k<sy.length by omega);rw [cc8] at hks;simp only [Bool.true_or] at hks;intro a O;exact ⟨k+1,⟨(by omega),O.less _ ⟨rfl,rfl,rfl,rfl,rfl,rfl,rfl,rfl,rfl,rfl,rfl,rfl,(congrArg (fun z=>some (Value.bool z)) hks.symm),rfl,trivial⟩,E.o⟩,(by omega)⟩;refine xqr 2 rfl<|xq rfl (fun E=>vx 40 k 5 rfl)<|xq rfl (fun E a O=>ylr (cs:=pL (sy.getD k PtrD.zero)) rfl (O.ev rfl) (E.elem PtrD.cells_len 3 rfl (Zh (xs:=sy) (j:=k) (d:=PtrD.zero) (by omega))))<|xqr 2 rfl<|xq rfl (fun E=>vx 40 i 5 rfl)<|xq rfl (fun E a O=>ylr (cs:=pL ((ZT q0.d t).getD i PtrD.zero)) rfl (O.ev rfl) (E.elem PtrD.cells_len 4 rfl (Zh (xs:=(ZT q0.d t)) (j:=i) (d:=PtrD.zero) (by omega))))<|xq rfl (fun E a O=>ZgN (sy.getD k PtrD.zero) ((ZT q0.d t).getD i PtrD.zero) rfl (O.ev rfl) (O.ev rfl))<|xqr 2 rfl ?_;intro a O;refine wpQuiet_nil ?_;intro w31 E;replace E:=Bx.mk E;revert a;refine xeb<|xet<|xrl<|xr 1 rfl<|xy rfl (vad rfl)<|xr 1 rfl<|xne ?_;have hks:=ZfF (x:=((ZT q0.d t).getD i PtrD.zero)) (show k<sy.length by omega);rw [cc8] at hks;simp only [Bool.false_or] at hks;intro a O;exact ⟨k+1,⟨(by omega),O.less _ ⟨rfl,rfl,rfl,rfl,rfl,rfl,rfl,rfl,rfl,rfl,rfl,rfl,(congrArg (fun z=>some (Value.bool z)) hks.symm),rfl,trivial⟩,E.o⟩,(by omega)⟩;refine xcf rfl<|xex<|xtx<|xtx<|xbh<|xet<|xsq ?_;intro a O;have hkt:sy.take k=sy:=List.take_of_length_le (by omega);rw [hkt] at O;revert a;refine xrl<|xr 2 rfl<|xne<|xcs 126 rfl (fun cc9=>?_) fun cc9=>?_
 refine xct rfl ?_;obtain ⟨g74,rfl,_,_,_,_⟩:=E.o.rowOpen 4 rfl (by omega);refine hld [1,0] E ?_;clear E;intro w32 E U;refine Hp 1 E rfl<|Hp 2 E rfl<|xhy 3 E.o rfl rfl (fun E=>vx 40 i 5 rfl)<|xhy 4 E.o rfl rfl (fun E a O=>ylr (cs:=pL ((ZT q0.d t).getD i PtrD.zero)) rfl (O.ev rfl) (E.elem PtrD.cells_len 2 rfl (Zh (xs:=(ZT q0.d t)) (j:=i) (d:=PtrD.zero) (by omega)))) ?_;refine ZI 0 ?_;refine yoy E (fun a O=>ylr (cs:=q3.l) rfl (O.ev rfl) ((U.o.box 1 rfl).sub 0 8)) ?_;refine ZI 5 ?_;intro a O;replace U:=U.pks [0];revert a;refine yo (Zby w0 _ q3 ((ZT q0.d t).getD i PtrD.zero) i _ ((Zcc hroot).2 _ (YI (by omega))) hW (by omega) U.o) func82 ?_;rintro _ w35 ⟨zq3,hq3,rfl,hs1⟩;refine ⟨_,rfl,?_⟩;replace U:=Bx.mk hs1;clear hs1;intro a O;replace U:=U.nm;clear E;have E:=U.ers [1,0];refine ⟨E.o,?_⟩;revert a;refine ZI 6 ?_;refine yos 1 [1,0] U ?_;clear E U;intro w36 E U;refine hdn ?_;replace E:=U;clear U;refine xeb<|xet<|xrl<|xr 1 rfl<|xy rfl (vad rfl)<|xr 1 rfl<|xne ?_;have hk9:YM sy ((ZT q0.d t).getD i PtrD.zero)=false:=by simpa using cc9
 have hst:=ZfG (sy:=sy) (s:=q3.d) (show i<(ZT q0.d t).length by omega);rw [hk9] at hst;rw [if_neg Bool.false_ne_true,← hq3] at hst;intro a O;exact ⟨i+1,⟨_,⟨by omega,hst.symm.trans hfr,hq3 ▸ hW.free ((Zcc hroot).2 _ (YI (by omega)))⟩,O.less _ ⟨rfl,rfl,rfl,rfl,rfl,rfl,rfl,rfl,rfl,rfl,rfl,rfl,trivial⟩,E.o⟩,(by omega)⟩;refine xcf rfl<|xsk<|xeb<|xet<|xrl<|xr 1 rfl<|xy rfl (vad rfl)<|xr 1 rfl<|xne ?_;have hk9:YM sy ((ZT q0.d t).getD i PtrD.zero)=true:=by simpa using cc9
 have hst:=ZfG (sy:=sy) (s:=q3.d) (show i<(ZT q0.d t).length by omega);rw [hk9] at hst;intro a O;exact ⟨i+1,⟨_,⟨by omega,hst.symm.trans hfr,hW.more (by omega)⟩,O.less _ ⟨rfl,rfl,rfl,rfl,rfl,rfl,rfl,rfl,rfl,rfl,rfl,rfl,trivial⟩,E.o⟩,(by omega)⟩;refine xcf rfl<|xex<|xtx<|xtx<|xbh<|xet<|xsr<|xy rfl (vb z5 rfl) ?_;refine yal z5 E ?_;clear E;intro w37 b75 E;refine yst E 0 ?_;clear E;intro w38 E;replace E:=E.nm;refine xne<|xsq<|xsr<|xr 1 rfl<|xy rfl (vn 40 5 rfl)<|xr 1 rfl<|xne<|xcd 136 rfl (fun _ dcc10=>?_) fun _ dcc10=>?_;refine xct rfl ?_;obtain ⟨g76,rfl,_,_,_,_⟩:=E.o.rowOpen 3 rfl (by omega);refine xrl<|xr 1 rfl<|xy rfl (vx 40 0 5 rfl)<|xy rfl (fun a O=>ylr (cs:=pL (ls.getD 0 PtrD.zero)) rfl (O.ev rfl) (E.o.elem PtrD.cells_len 3 rfl (Zh (xs:=ls) (j:=0) (d:=PtrD.zero) (by omega)))) ?_;refine yst E 0 ?_;clear E;intro w39 E;replace E:=E.nm;refine xne<|xsq ?_;refine hld [7,6] E ?_;clear E;intro w40 E U;refine Hw 0 2 8 E rfl rfl<|Hw 1 0 5 E rfl rfl<|Hp 2 E rfl<|Hp 3 E rfl<|xhy 4 E.o rfl rfl (fun E=>vb [.int .i64 ((ls.getD 0 PtrD.zero).aA),.int .i64 ((ls.getD 0 PtrD.zero).ah),.int .i64 ((ls.getD 0 PtrD.zero).al),.int .i64 ((ls.getD 0 PtrD.zero).ax),.int .i64 ((ls.getD 0 PtrD.zero).ak),.int .i64 (dp:Int),.int .i64 (many:Int)] rfl) ?_;refine ZI 5 ?_;refine yos 7 [7,6] U ?_;clear E U;intro w41 E U;refine ZI 6 ?_;refine yos 6 [7,6] U ?_;clear E U;intro w42 E U;refine Hp 7 E rfl ?_;refine hdn ?_;replace E:=U;clear U;refine xet<|xre ?_;intro a O;refine ZO O results81 (O.resBox rfl (E.o.box 7 rfl) (by kernel_rfl)) (O.resBox rfl (E.o.box 6 rfl) (by kernel_rfl)) (O.res rfl) ?_;have hT:U1 q0.d t lvs many=⟨q3.d,⟨ls.headD PtrD.zero,(dp:Nat),many⟩,true⟩:=by rw [Zfs (by rw [hdp];exact hA.done (by omega)),hdp];rw [← hfr,List.drop_of_length_le (by omega)];rfl
 replace E:=E.pks [9,2];have hh9:ls.headD PtrD.zero=ls.getD 0 PtrD.zero:=by cases ls <;> rfl
 exact ⟨q3,_,hT.symm,rfl,fun h=>(nomatch h),fun _=>hW.more (by omega),by dsimp only [SQ.u];rw [hh9] <;> rfl,(E.o.erS [9,8,7,6,5,4,3,2])⟩;refine xcf rfl<|xsk<|xet<|xsq ?_;refine hld [7,6] E ?_;clear E;intro w43 E U;refine Hw 0 2 8 E rfl rfl<|Hw 1 0 5 E rfl rfl<|Hp 2 E rfl<|Hp 3 E rfl<|xhy 4 E.o rfl rfl (fun E=>vb [.int .i64 0,.int .i64 0,.int .i64 0,.int .i64 0,.int .i64 0,.int .i64 (dp:Int),.int .i64 (many:Int)] rfl) ?_;refine ZI 5 ?_;refine yos 7 [7,6] U ?_;clear E U;intro w44 E U;refine ZI 6 ?_;refine yos 6 [7,6] U ?_;clear E U;intro w45 E U;refine Hp 7 E rfl ?_;refine hdn ?_;replace E:=U;clear U;refine xet<|xre ?_;intro a O;refine ZO O results81 (O.resBox rfl (E.o.box 7 rfl) (by kernel_rfl)) (O.resBox rfl (E.o.box 6 rfl) (by kernel_rfl)) (O.res rfl) ?_;have hT:U1 q0.d t lvs many=⟨q3.d,⟨ls.headD PtrD.zero,(dp:Nat),many⟩,true⟩:=by rw [Zfs (by rw [hdp];exact hA.done (by omega)),hdp];rw [← hfr,List.drop_of_length_le (by omega)];rfl
 replace E:=E.pks [9,2];have hh9:ls.headD PtrD.zero=PtrD.zero:=by rw [List.eq_nil_of_length_eq_zero (l:=ls) (by omega)];rfl
 exact ⟨q3,_,hT.symm,rfl,fun h=>(nomatch h),fun _=>hW.more (by omega),by dsimp only [SQ.u];rw [hh9] <;> rfl,(E.o.erS [9,8,7,6,5,4,3,2])⟩
theorem Zoa {P:Program} {o:Oper} {a:Act} {w:World} {x y:Operand} {tt:Array TypeId} {m n r:Int} (h:max m n=r) (ho:o.op=.call { callee:=.builtin .max,args:=#[x,y],argTypes:=tt }) {k:IntKind} (hx:a.eval x=.int k m) (hy:a.eval y=.int k n):Yl P w o a (.int k r):=h ▸ ZnG ho hx hy
theorem ZmQ {st:Za} {text:ByteArray} {level:Int} {i:Nat} (hok:st.ok=true) (hi:i<64) (hw:writeAt st text level=i) {p:PtrD} (hp:p.ok=true) (hh:p.hole=false) (hr:YL st p=true):Yb (st.putAt i (st.af.set i text)) p=Yb st p:=by
 obtain ⟨_,hrow⟩:=UI hok hi hw;have hO:=Za.ok_spec hok;obtain ⟨j,h8,hj,e⟩:=Vs hp hh;rw [XX hh,JH e] at hr;rw [JH e,JH e];show (st.af.set i text).getD j _=_;rw [J6 (by rw [hO.rows];exact hi)]
 split
 ·rename_i ej
  subst ej;rcases hrow with ⟨h0,_⟩|⟨_,h1,_⟩
  ·have h2:=(UH.1 hO.each i hi).2.1.2 h0
   unfold QG at hr;simp only [Bool.and_eq_true,beq_iff_eq] at hr;unfold PtrD.ok at hp;rw [hh,Bool.false_or] at hp;simp only [Bool.and_eq_true] at hp;have h3:=Zo hp.1.1.2
   omega
  ·exact h1.symm
 ·rfl
theorem Zlj {st st':Za} {p:PtrD} {n:Int} (ht:st'.aq=st.aq) (h:p.hole=false→Yb st' p=Yb st p):kidsS st' p n=kidsS st p n:=by unfold kidsS;rw [Zfn h,ht]
theorem ZjD {st:Za} {p:PtrD} {n:Int} {l:List PtrD} (hh:p.hole=false) (h:kidsS st p n=some l):p.ok=true∧YL st p=true:=by
 obtain ⟨hk,ho⟩:=VD h;rcases (Xy hk).2.2 with ⟨e,_⟩|⟨_,_,hr,_⟩
 ·rw [hh] at e;cases e
 ·exact ⟨(ho hh).1,hr⟩
theorem Zlk {st:Za} {text:ByteArray} {level:Int} (hok:st.ok=true) {p:PtrD} {n:Int} (hh:p.hole=false) (h:kidsS st p n≠none):kidsS (Xk st text level).st p n≠none:=by
 cases hk:kidsS st p n with
 | none=>exact absurd hk h
 | some l =>
  obtain ⟨ho,hr⟩:=ZjD hh hk
  by_cases hi:writeAt st text level<64
  ·rw [QK hi rfl]
   rw [Zlj (st:=st) (st':=st.putAt (writeAt st text level) (st.af.set (writeAt st text level) text)) rfl fun _=>ZmQ hok hi rfl ho hh hr,hk];simp
  ·rw [Js (by have:=J7 st text level;omega)];rw [hk];simp
theorem TreeX.kid {st:Za} {t:Zf} {x l:List PtrD} (X:TreeX st t x l):t.az=2→t.ac.hole=false→kidsS st t.ac 2≠none:=fun hd _ e=>by
 have h:=X.dn;have h2:depthN t.am=2:=by have:=X.dep;omega
 rw [h2] at h;rw [Jd (ZaI e)] at h;cases h
theorem TreeX.root {st:Za} {t:Zf} {x l:List PtrD} (X:TreeX st t x l):t.ac.ok=true:=by
 obtain ⟨x,ht,_⟩:=XP X.lv;unfold topB at ht;simp only [Bool.and_eq_true] at ht;exact ht.2.2.1
theorem ZjE {l:List PtrD} {k:Nat} {p:PtrD} (h:∀ q ∈ l,q.ok=true) (hp:p.ok=true):∀ q ∈ l.set k p,q.ok=true:=fun q hq=>by
 rcases List.mem_or_eq_of_mem_set hq with hq|rfl
 ·exact h q hq
 ·exact hp
theorem Zdu {s:ByteArray} (h:(s.toList == ByteArray.empty.toList)=true):s.size=0:=by rw [Zbt h];rfl
theorem ZaZ {s:ByteArray} (h:(s.toList == ByteArray.empty.toList)=false):s.size≠0:=fun e=>by
 have:s=ByteArray.empty:=ByteArray.ext (Array.eq_empty_of_size_eq_zero e);rw [this] at h;simp at h
theorem ZmR (w0 w:World) (q0:SQ) (t:Zf) {x l:List PtrD} (X:TreeX q0.d t x l) (k:Nat) (hk:k<16) (text:ByteArray) (htl:text.size≤128) (F:List Asr) (hq:q0.d.ok=true) (hS:St w0 (q0.asr::F) w):Calls prog 52 #[q0.u,tV t,.int .i64 (k:Int),.string text] w fun e w'=>∃ (q':SQ) (r:Zav),r=Uo q0.d t x k text∧q'.d=r.st∧(r.ok=false→q'={ q0 with d:=r.st }∧VL q0.d r.st)∧(r.ok=true→Uk 6 q'.d)∧e=.returned (.tuple #[q'.u,tV r.t,.bool r.ok])∧St w0 (q'.asr::F) w':=by
 have hrow0:=QU hq;have hwl:=Zdm X.x16;have hwo:=Zis X.xok;have hmm:=X.many;obtain ⟨old,hold⟩:∃ o,(Zv x).getD k PtrD.zero=o:=⟨_,rfl⟩;have hgo:(Zv x)[k]? = some old:=by rw [← hold];exact Zh (by omega)
 have hoo:old.ok=true:=hwo _ (hold ▸ YI (by omega));obtain ⟨many,hmx⟩:∃ m:Nat,max t.am ((k:Int)+1)=(m:Int):=⟨(max t.am ((k:Int)+1)).toNat,by omega⟩;have hm16:many≤16:=by omega
 have E:=Bx.mk hS;clear hS;refine ent func52 ntmps52 ?_;refine xsr ?_;refine ybx E ?_;clear E;intro w1 b1 E;refine ybx E ?_;clear E;intro w2 b2 E;refine yal z8 E ?_;clear E;intro w3 b3 E;refine yal z7 E ?_;clear E;intro w4 b4 E;refine xr 1 rfl<|xne<|xsr<|Xw 3 8 E rfl rfl<|Xw 2 7 E rfl rfl ?_;refine yc (Zfo q0.a0 q0.c0 q0.a1 q0.c1 q0.a2 q0.c2 q0.a4 q0.c4 q0.a6 q0.c6 q0.d t X.dn X.dep X.x16 _ (E.o.sqRd 4 rfl) hrow0) func79 ?_;rintro _ w5 ⟨ao5,cp5,rfl,hs⟩;refine ⟨_,rfl,?_⟩;replace E:=E.ad hs;clear hs;refine xr 1 rfl<|xne<|xsq ?_;obtain ⟨g6,rfl,_,_,_,_⟩:=E.o.rowOpen 0 rfl (by omega);refine xrl<|xr 2 rfl<|xy rfl (vx 40 k 5 rfl)<|xy rfl (fun a O=>ylr (cs:=pL old) rfl (O.ev rfl) (E.o.elem PtrD.cells_len 0 rfl hgo)) ?_;refine yal z5 E ?_;clear E;intro w6 b7 E;refine yst E 0 ?_;clear E;intro w7 E;replace E:=E.nm;refine xne<|xsr<|Xw 5 8 E rfl rfl<|Xw 0 5 E rfl rfl ?_;refine ycB (Zab q0.a0 q0.c0 q0.a1 q0.c1 q0.a2 q0.c2 q0.a4 q0.c4 q0.a6 q0.c6 q0.d old _ (E.o.sqRd 6 rfl) hrow0 hoo) func51 E ?_;clear E;intro w8 E;refine xr 5 rfl<|xne<|xsr<|Xf 6 rfl<|Xl 4 E rfl rfl<|xr 1 rfl<|xy rfl (vad rfl)<|xy rfl (fun a O=>Zoa hmx rfl (O.ev rfl) (O.ev rfl))<|xr 1 rfl<|xne<|xsq<|xsr<|xr 2 rfl<|xy rfl (fun a O=>U6 rfl (O.ev rfl) (O.ev rfl))<|xr 1 rfl<|xcs 42 rfl (fun cc1=>?_) fun cc1=>?_;have htxcc1:((ZA q0.d old).toList == text.toList)=true:=by simpa using cc1
 refine xr 1 rfl<|Xf 6 rfl<|Xl 4 E rfl rfl<|xr 2 rfl<|xne<|xce 47 rfl (fun _ dcc2=>?_) fun _ dcc2=>?_;refine xct rfl<|xsq ?_;refine hld [3,2] E ?_;clear E;intro w9 E U;refine Hw 0 3 8 E rfl rfl<|Hw 1 2 7 E rfl rfl ?_;refine ZI 2 ?_;refine yos 3 [3,2] U ?_;clear E U;intro w10 E U;refine ZI 3 ?_;refine yos 2 [3,2] U ?_;clear E U;intro w11 E U;refine Hp 4 E rfl ?_;refine hdn ?_;replace E:=U;clear U;refine xet<|xre<|xtr ?_;intro a O;refine ZO O results52 (O.resBox rfl (E.o.box 3 rfl) (by kernel_rfl)) (O.resBox rfl (E.o.box 2 rfl) (by kernel_rfl)) (O.res rfl) ?_;replace E:=E.pks [6];have hT:=Zft (k:=k) hold htxcc1 (hmx.trans (by omega));exact ⟨q0,_,hT.symm,rfl,fun h=>(nomatch h),fun _=>(Ux hq).more (by omega),rfl,(E.o.erS [6,5,4,3,2,1])⟩;refine xcf rfl<|xsk<|xet<|xsr<|Xw 0 5 E rfl rfl ?_;refine yal z5 E ?_;clear E;intro w12 b8 E;refine yst E 0 ?_;clear E;intro w13 E;replace E:=E.nm;refine xne<|xsq<|xsr<|xr 2 rfl<|xy rfl (fun a O=>Jg rfl (O.ev rfl) (O.ev rfl))<|xne<|xcs 53 rfl (fun cc3=>?_) fun cc3=>?_;rw [htxcc1] at cc3;simp at cc3;have htxcc3:((ZA q0.d old).toList == text.toList)=true:=by simpa using cc3
 refine xcf rfl<|xsk<|xet<|xsr<|xr 2 rfl<|Xw 0 5 E rfl rfl<|xy rfl (vx 40 k 5 rfl) ?_;intro a O;refine UO PtrD.cells_len rfl rfl rfl (O.ev rfl) (O.ev rfl) (by kernel_rfl) E.o 2 rfl (by omega) (z:=old) rfl (by first|rfl|simp [Value.oneCell']) ?_;clear E;intro w14 E;replace E:=Bx.mk E;revert a;refine xne<|xsr<|Xw 6 8 E rfl rfl<|Xw 5 7 E rfl rfl<|xr 2 rfl ?_;have hsl:((Zv x).set k old).length=16:=by rw [length_set];exact hwl
 have hzl:(Zv x).length=((Zv x).set k old).length:=(length_set ..).symm;intro a O;rw [hzl] at E O;replace E:=E.nm;replace E:=E.pks [2,7];revert a;refine yc (ZfH w0 _ q0 t _ _ ((Zv x).set k old) many (depthN (many:Int)) _ rfl hsl (ZjE hwo hoo) (by omega) hq X.root X.kid E.o) func81 ?_;rintro _ w15 ⟨zq2,zr2,hr2,hq2,hf2,hW2,rfl,hs1⟩;refine ⟨_,rfl,?_⟩;replace E:=Bx.mk hs1;clear hs1;refine xr 4 rfl ?_;refine yst E 7 ?_;clear E;intro w16 E;replace E:=E.nm;refine yst E 6 ?_;clear E;intro w17 E;replace E:=E.nm;refine xr 1 rfl<|xne<|xsq<|xsr<|xr 2 rfl<|xne<|xcs 84 rfl (fun cc4=>?_) fun cc4=>?_;have hok2:zr2.ok=false:=by simpa using cc4
 refine xct rfl<|xsq ?_;refine hld [5,4] E ?_;clear E;intro w18 E U;refine Hw 0 5 8 E rfl rfl<|Hw 1 4 7 E rfl rfl ?_;refine ZI 2 ?_;refine yos 5 [5,4] U ?_;clear E U;intro w19 E U;refine ZI 3 ?_;refine yos 4 [5,4] U ?_;clear E U;intro w20 E U;refine Hp 4 E rfl ?_;refine hdn ?_;replace E:=U;clear U;refine xet<|xre<|xtr ?_;intro a O;refine ZO O results52 (O.resBox rfl (E.o.box 5 rfl) (by kernel_rfl)) (O.resBox rfl (E.o.box 4 rfl) (by kernel_rfl)) (O.res rfl) ?_;replace E:=E.pks [0];have hne:¬ (((ZA q0.d old).toList == text.toList)=true∧(many:Int)=t.am):=fun h9=>by exact absurd h9.2 (by omega)
 have hT:=Jf hold hmx hne (Zdo htxcc3);rw [← hr2,hok2] at hT;rw [if_neg Bool.false_ne_true] at hT;exact ⟨zq2,zr2,hT.symm,hq2,fun _=>hf2 hok2,fun h=>by (rw [hok2] at h;cases h),by rw [hok2],(E.o.erS [7,6,5,4,3,2,1])⟩;have hok2:zr2.ok=true:=by simpa using cc4
 refine xcf rfl<|xsk<|xet<|xsq<|xsr<|Xw 2 5 E rfl rfl<|Xw 3 5 E rfl rfl<|xy rfl (fun a O=>Zbv old old rfl (O.ev rfl) (O.ev rfl))<|xne<|xcs 89 rfl (fun cc5=>?_) fun cc5=>?_;have heq:(old).eqv old=false:=by simpa using cc5
 refine xct rfl<|xrl<|Xw 7 8 E rfl rfl<|Xw 3 5 E rfl rfl ?_;replace E:=E.pks [0];refine yc (Zby w0 _ zq2 old 5 _ hoo (hW2 hok2) (by omega) E.o) func82 ?_;rintro _ w21 ⟨zq3,hq3,rfl,hs1⟩;refine ⟨_,rfl,?_⟩;replace E:=Bx.mk hs1;clear hs1;refine yst E 7 ?_;clear E;intro w22 E;replace E:=E.nm;refine xne<|xsq ?_;refine hld [5,4] E ?_;clear E;intro w23 E U;refine Hw 0 5 8 E rfl rfl<|Hw 1 4 7 E rfl rfl ?_;refine ZI 2 ?_;refine yos 5 [5,4] U ?_;clear E U;intro w24 E U;refine ZI 3 ?_;refine yos 4 [5,4] U ?_;clear E U;intro w25 E U;refine Hp 4 E rfl ?_;refine hdn ?_;replace E:=U;clear U;refine xet<|xre ?_;intro a O;refine ZO O results52 (O.resBox rfl (E.o.box 5 rfl) (by kernel_rfl)) (O.resBox rfl (E.o.box 4 rfl) (by kernel_rfl)) (O.res rfl) ?_;replace E:=E.pks [0];have hne:¬ (((ZA q0.d old).toList == text.toList)=true∧(many:Int)=t.am):=fun h9=>by exact absurd h9.2 (by omega)
 have hT:=Jf hold hmx hne (Zdo htxcc3);rw [← hr2,hok2] at hT;rw [if_pos rfl,heq] at hT;rw [if_neg Bool.false_ne_true] at hT;exact ⟨zq3,_,hT.symm,by rw [hq3,hq2],fun h=>(nomatch h),fun _=>hq3 ▸ (hW2 hok2).free hoo,rfl,(E.o.erS [7,6,5,4,3,2,1])⟩;have heq:(old).eqv old=true:=by simpa using cc5
 refine xcf rfl<|xsk<|xet<|xsq ?_;refine hld [5,4] E ?_;clear E;intro w26 E U;refine Hw 0 5 8 E rfl rfl<|Hw 1 4 7 E rfl rfl ?_;refine ZI 2 ?_;refine yos 5 [5,4] U ?_;clear E U;intro w27 E U;refine ZI 3 ?_;refine yos 4 [5,4] U ?_;clear E U;intro w28 E U;refine Hp 4 E rfl ?_;refine hdn ?_;replace E:=U;clear U;refine xet<|xre ?_;intro a O;refine ZO O results52 (O.resBox rfl (E.o.box 5 rfl) (by kernel_rfl)) (O.resBox rfl (E.o.box 4 rfl) (by kernel_rfl)) (O.res rfl) ?_;replace E:=E.pks [0];have hne:¬ (((ZA q0.d old).toList == text.toList)=true∧(many:Int)=t.am):=fun h9=>by exact absurd h9.2 (by omega)
 have hT:=Jf hold hmx hne (Zdo htxcc3);rw [← hr2,hok2] at hT;rw [if_pos rfl,heq] at hT;rw [if_pos rfl] at hT;exact ⟨zq2,_,hT.symm,hq2,fun h=>(nomatch h),fun _=>(hW2 hok2).more (by omega),rfl,(E.o.erS [7,6,5,4,3,2,1])⟩;have htxcc1:((ZA q0.d old).toList == text.toList)=false:=by simpa using cc1
 refine xr 5 rfl<|xne<|xcf rfl<|xsk<|xet<|xsr<|Xw 0 5 E rfl rfl ?_;refine yal z5 E ?_;clear E;intro w29 b9 E;refine yst E 0 ?_;clear E;intro w30 E;replace E:=E.nm;refine xne<|xsq<|xsr<|xr 2 rfl<|xy rfl (fun a O=>Jg rfl (O.ev rfl) (O.ev rfl))<|xne<|xcs 53 rfl (fun cc6=>?_) fun cc6=>?_;have htxcc6:((ZA q0.d old).toList == text.toList)=false:=by simpa using cc6
 refine xct rfl<|xsr<|xy rfl (vb z5 rfl) ?_;refine yst E 0 ?_;clear E;intro w31 E;replace E:=E.nm;refine xne<|xsr<|xr 1 rfl<|xy rfl (fun a O=>Jg rfl (O.ev rfl) (O.ev rfl))<|xne<|xcs 56 rfl (fun cc7=>?_) fun cc7=>?_;have hte:(text.toList == ByteArray.empty.toList)=false:=by simpa using cc7
 have htz:inB (text.size:Int) 1 128=true:=JA (by have:=ZaZ hte;omega) (by omega);refine xct rfl<|xsr<|Xw 6 8 E rfl rfl<|xr 1 rfl ?_;replace E:=E.pks [7];refine yc (ZcZ w0 _ q0 text 0 _ hq htz rfl E.o) func80 ?_;rintro _ w32 ⟨zq1,zr1,hr1,hq1,rfl,hs1⟩;refine ⟨_,rfl,?_⟩;replace E:=Bx.mk hs1;clear hs1;refine xr 4 rfl ?_;refine yal z8 E ?_;clear E;intro w33 b10 E;refine yal z5 E ?_;clear E;intro w34 b11 E;refine yst E 1 ?_;clear E;intro w35 E;replace E:=E.nm;refine yst E 0 ?_;clear E;intro w36 E;replace E:=E.nm;refine xr 1 rfl<|xne<|xsq<|xsr<|xr 2 rfl<|xne<|xcs 65 rfl (fun cc8=>?_) fun cc8=>?_;have hok1b:zr1.ok=false:=by simpa using cc8
 refine xct rfl<|xsq ?_;refine hld [7,6] E ?_;clear E;intro w37 E U;refine Hw 0 7 8 E rfl rfl<|Hw 1 6 7 E rfl rfl ?_;refine ZI 2 ?_;refine yos 7 [7,6] U ?_;clear E U;intro w38 E U;refine ZI 3 ?_;refine yos 6 [7,6] U ?_;clear E U;intro w39 E U;refine Hp 4 E rfl ?_;refine hdn ?_;replace E:=U;clear U;refine xet<|xre<|xtr<|xtr ?_;intro a O;refine ZO O results52 (O.resBox rfl (E.o.box 7 rfl) (by kernel_rfl)) (O.resBox rfl (E.o.box 6 rfl) (by kernel_rfl)) (O.res rfl) ?_;replace E:=E.pks [2];have hzs:zr1.st=q0.d:=by rw [hr1] at hok1b ⊢;unfold Xk at hok1b ⊢;split at hok1b;(cases hok1b);rw [if_neg (by assumption)]
 have hz:zq1=q0:=by rw [hq1,hzs]
 have hT:=ZgE (t:=t) (k:=k) hold htxcc6 ((ZaV htxcc6 (ZaZ hte)).trans (hr1.symm.trans (VN hok1b)));subst hz;exact ⟨zq1,_,hT.symm,rfl,fun _=>⟨rfl,VL.refl _⟩,fun h=>(nomatch h),rfl,(E.o.erS [9,8,7,6,5,4,3,2,1])⟩;have hok1b:zr1.ok=true:=by simpa using cc8
 have hg1:=ZdS (text:=text) (level:=0) hq htz rfl;rw [← hr1] at hg1;have hpo1:=hg1.2;have hok1:zq1.d.ok=true:=by rw [hq1];exact hg1.1.ok hq
 refine xcf rfl<|xsk<|xet<|xsr<|Xw 1 8 E rfl rfl ?_;refine yst E 9 ?_;clear E;intro w40 E;replace E:=E.nm;refine xne<|xrl<|Xw 0 5 E rfl rfl ?_;refine yst E 3 ?_;clear E;intro w41 E;replace E:=E.nm;refine xne<|xsr<|xr 2 rfl<|Xw 3 5 E rfl rfl<|xy rfl (vx 40 k 5 rfl) ?_;intro a O;refine UO PtrD.cells_len rfl rfl rfl (O.ev rfl) (O.ev rfl) (by kernel_rfl) E.o 5 rfl (by omega) (z:=zr1.p) rfl (by first|rfl|simp [Value.oneCell']) ?_;clear E;intro w42 E;replace E:=Bx.mk E;revert a;refine xne<|xsr<|Xw 9 8 E rfl rfl<|Xw 8 7 E rfl rfl<|xr 2 rfl ?_;have hsl:((Zv x).set k zr1.p).length=16:=by rw [length_set];exact hwl
 have hzl:(Zv x).length=((Zv x).set k zr1.p).length:=(length_set ..).symm;intro a O;rw [hzl] at E O;replace E:=E.nm;replace E:=E.pks [5,3];revert a;refine yc (ZfH w0 _ zq1 t _ _ ((Zv x).set k zr1.p) many (depthN (many:Int)) _ rfl hsl (ZjE hwo hpo1) (by omega) hok1 X.root (fun hd hh=>by rw [hq1,hr1];exact Zlk hq hh (X.kid hd hh)) E.o) func81 ?_;rintro _ w43 ⟨zq2,zr2,hr2,hq2,hf2,hW2,rfl,hs1⟩;refine ⟨_,rfl,?_⟩;replace E:=Bx.mk hs1;clear hs1;refine xr 4 rfl ?_;refine yst E 9 ?_;clear E;intro w44 E;replace E:=E.nm;refine yst E 8 ?_;clear E;intro w45 E;replace E:=E.nm;refine xr 1 rfl<|xne<|xsq<|xsr<|xr 2 rfl<|xne<|xcs 84 rfl (fun cc9=>?_) fun cc9=>?_;have hok2:zr2.ok=false:=by simpa using cc9
 refine xct rfl<|xsq ?_;refine hld [7,6] E ?_;clear E;intro w46 E U;refine Hw 0 7 8 E rfl rfl<|Hw 1 6 7 E rfl rfl ?_;refine ZI 2 ?_;refine yos 7 [7,6] U ?_;clear E U;intro w47 E U;refine ZI 3 ?_;refine yos 6 [7,6] U ?_;clear E U;intro w48 E U;refine Hp 4 E rfl ?_;refine hdn ?_;replace E:=U;clear U;refine xet<|xre<|xtr ?_;intro a O;refine ZO O results52 (O.resBox rfl (E.o.box 7 rfl) (by kernel_rfl)) (O.resBox rfl (E.o.box 6 rfl) (by kernel_rfl)) (O.res rfl) ?_;replace E:=E.pks [0];have hq1d:zq1.d=zr1.st:=by rw [hq1]
 rw [hq1d] at hr2;have hne:¬ (((ZA q0.d old).toList == text.toList)=true∧(many:Int)=t.am):=fun h9=>by rw [htxcc6] at h9;exact absurd h9.1 (by decide)
 have hT:=Jf hold hmx hne (((ZaV htxcc6 (ZaZ hte)).trans (hr1.symm.trans (VN hok1b))));rw [← hr2,hok2] at hT;rw [if_neg Bool.false_ne_true] at hT;obtain ⟨hfa,hfb⟩:=hf2 hok2;exact ⟨zq2,zr2,hT.symm,hq2,fun _=>⟨by rw [hfa,hq1],hg1.1.trans (hq1d ▸ hfb)⟩,fun h=>by (rw [hok2] at h;cases h),by rw [hok2],(E.o.erS [9,8,7,6,5,4,3,2,1])⟩;have hok2:zr2.ok=true:=by simpa using cc9
 refine xcf rfl<|xsk<|xet<|xsq<|xsr<|Xw 4 5 E rfl rfl<|Xw 5 5 E rfl rfl<|xy rfl (fun a O=>Zbv zr1.p old rfl (O.ev rfl) (O.ev rfl))<|xne<|xcs 89 rfl (fun cc10=>?_) fun cc10=>?_;have heq:(zr1.p).eqv old=false:=by simpa using cc10
 refine xct rfl<|xrl<|Xw 9 8 E rfl rfl<|Xw 5 5 E rfl rfl ?_;replace E:=E.pks [0];refine yc (Zby w0 _ zq2 old 5 _ hoo (hW2 hok2) (by omega) E.o) func82 ?_;rintro _ w49 ⟨zq3,hq3,rfl,hs1⟩;refine ⟨_,rfl,?_⟩;replace E:=Bx.mk hs1;clear hs1;refine yst E 9 ?_;clear E;intro w50 E;replace E:=E.nm;refine xne<|xsq ?_;refine hld [7,6] E ?_;clear E;intro w51 E U;refine Hw 0 7 8 E rfl rfl<|Hw 1 6 7 E rfl rfl ?_;refine ZI 2 ?_;refine yos 7 [7,6] U ?_;clear E U;intro w52 E U;refine ZI 3 ?_;refine yos 6 [7,6] U ?_;clear E U;intro w53 E U;refine Hp 4 E rfl ?_;refine hdn ?_;replace E:=U;clear U;refine xet<|xre ?_;intro a O;refine ZO O results52 (O.resBox rfl (E.o.box 7 rfl) (by kernel_rfl)) (O.resBox rfl (E.o.box 6 rfl) (by kernel_rfl)) (O.res rfl) ?_;replace E:=E.pks [0];have hq1d:zq1.d=zr1.st:=by rw [hq1]
 rw [hq1d] at hr2;have hne:¬ (((ZA q0.d old).toList == text.toList)=true∧(many:Int)=t.am):=fun h9=>by rw [htxcc6] at h9;exact absurd h9.1 (by decide)
 have hT:=Jf hold hmx hne (((ZaV htxcc6 (ZaZ hte)).trans (hr1.symm.trans (VN hok1b))));rw [← hr2,hok2] at hT;rw [if_pos rfl,heq] at hT;rw [if_neg Bool.false_ne_true] at hT;exact ⟨zq3,_,hT.symm,by rw [hq3,hq2],fun h=>(nomatch h),fun _=>hq3 ▸ (hW2 hok2).free hoo,rfl,(E.o.erS [9,8,7,6,5,4,3,2,1])⟩;have heq:(zr1.p).eqv old=true:=by simpa using cc10
 refine xcf rfl<|xsk<|xet<|xsq ?_;refine hld [7,6] E ?_;clear E;intro w54 E U;refine Hw 0 7 8 E rfl rfl<|Hw 1 6 7 E rfl rfl ?_;refine ZI 2 ?_;refine yos 7 [7,6] U ?_;clear E U;intro w55 E U;refine ZI 3 ?_;refine yos 6 [7,6] U ?_;clear E U;intro w56 E U;refine Hp 4 E rfl ?_;refine hdn ?_;replace E:=U;clear U;refine xet<|xre ?_;intro a O;refine ZO O results52 (O.resBox rfl (E.o.box 7 rfl) (by kernel_rfl)) (O.resBox rfl (E.o.box 6 rfl) (by kernel_rfl)) (O.res rfl) ?_;replace E:=E.pks [0];have hq1d:zq1.d=zr1.st:=by rw [hq1]
 rw [hq1d] at hr2;have hne:¬ (((ZA q0.d old).toList == text.toList)=true∧(many:Int)=t.am):=fun h9=>by rw [htxcc6] at h9;exact absurd h9.1 (by decide)
 have hT:=Jf hold hmx hne (((ZaV htxcc6 (ZaZ hte)).trans (hr1.symm.trans (VN hok1b))));rw [← hr2,hok2] at hT;rw [if_pos rfl,heq] at hT;rw [if_pos rfl] at hT;exact ⟨zq2,_,hT.symm,hq2,fun h=>(nomatch h),fun _=>(hW2 hok2).more (by omega),rfl,(E.o.erS [9,8,7,6,5,4,3,2,1])⟩;have hte:(text.toList == ByteArray.empty.toList)=true:=by simpa using cc7
 refine xcf rfl<|xsk<|xet<|xsr<|xr 2 rfl<|Xw 0 5 E rfl rfl<|xy rfl (vx 40 k 5 rfl) ?_;intro a O;refine UO PtrD.cells_len rfl rfl rfl (O.ev rfl) (O.ev rfl) (by kernel_rfl) E.o 2 rfl (by omega) (z:=PtrD.zero) rfl (by first|rfl|simp [Value.oneCell']) ?_;clear E;intro w57 E;replace E:=Bx.mk E;revert a;refine xne<|xsr<|Xw 6 8 E rfl rfl<|Xw 5 7 E rfl rfl<|xr 2 rfl ?_;have hsl:((Zv x).set k PtrD.zero).length=16:=by rw [length_set];exact hwl
 have hzl:(Zv x).length=((Zv x).set k PtrD.zero).length:=(length_set ..).symm;intro a O;rw [hzl] at E O;replace E:=E.nm;replace E:=E.pks [2,7];revert a;refine yc (ZfH w0 _ q0 t _ _ ((Zv x).set k PtrD.zero) many (depthN (many:Int)) _ rfl hsl (ZjE hwo rfl) (by omega) hq X.root X.kid E.o) func81 ?_;rintro _ w58 ⟨zq2,zr2,hr2,hq2,hf2,hW2,rfl,hs1⟩;refine ⟨_,rfl,?_⟩;replace E:=Bx.mk hs1;clear hs1;refine xr 4 rfl ?_;refine yst E 7 ?_;clear E;intro w59 E;replace E:=E.nm;refine yst E 6 ?_;clear E;intro w60 E;replace E:=E.nm;refine xr 1 rfl<|xne<|xsq<|xsr<|xr 2 rfl<|xne<|xcs 84 rfl (fun cc11=>?_) fun cc11=>?_;have hok2:zr2.ok=false:=by simpa using cc11
 refine xct rfl<|xsq ?_;refine hld [5,4] E ?_;clear E;intro w61 E U;refine Hw 0 5 8 E rfl rfl<|Hw 1 4 7 E rfl rfl ?_;refine ZI 2 ?_;refine yos 5 [5,4] U ?_;clear E U;intro w62 E U;refine ZI 3 ?_;refine yos 4 [5,4] U ?_;clear E U;intro w63 E U;refine Hp 4 E rfl ?_;refine hdn ?_;replace E:=U;clear U;refine xet<|xre<|xtr ?_;intro a O;refine ZO O results52 (O.resBox rfl (E.o.box 5 rfl) (by kernel_rfl)) (O.resBox rfl (E.o.box 4 rfl) (by kernel_rfl)) (O.res rfl) ?_;replace E:=E.pks [0];have hne:¬ (((ZA q0.d old).toList == text.toList)=true∧(many:Int)=t.am):=fun h9=>by rw [htxcc6] at h9;exact absurd h9.1 (by decide)
 have hT:=Jf hold hmx hne (Zdp htxcc6 (Zdu hte));rw [← hr2,hok2] at hT;rw [if_neg Bool.false_ne_true] at hT;exact ⟨zq2,zr2,hT.symm,hq2,fun _=>hf2 hok2,fun h=>by (rw [hok2] at h;cases h),by rw [hok2],(E.o.erS [7,6,5,4,3,2,1])⟩;have hok2:zr2.ok=true:=by simpa using cc11
 refine xcf rfl<|xsk<|xet<|xsq<|xsr<|Xw 2 5 E rfl rfl<|Xw 3 5 E rfl rfl<|xy rfl (fun a O=>Zbv PtrD.zero old rfl (O.ev rfl) (O.ev rfl))<|xne<|xcs 89 rfl (fun cc12=>?_) fun cc12=>?_;have heq:(PtrD.zero).eqv old=false:=by simpa using cc12
 refine xct rfl<|xrl<|Xw 7 8 E rfl rfl<|Xw 3 5 E rfl rfl ?_;replace E:=E.pks [0];refine yc (Zby w0 _ zq2 old 5 _ hoo (hW2 hok2) (by omega) E.o) func82 ?_;rintro _ w64 ⟨zq3,hq3,rfl,hs1⟩;refine ⟨_,rfl,?_⟩;replace E:=Bx.mk hs1;clear hs1;refine yst E 7 ?_;clear E;intro w65 E;replace E:=E.nm;refine xne<|xsq ?_;refine hld [5,4] E ?_;clear E;intro w66 E U;refine Hw 0 5 8 E rfl rfl<|Hw 1 4 7 E rfl rfl ?_;refine ZI 2 ?_;refine yos 5 [5,4] U ?_;clear E U;intro w67 E U;refine ZI 3 ?_;refine yos 4 [5,4] U ?_;clear E U;intro w68 E U;refine Hp 4 E rfl ?_;refine hdn ?_;replace E:=U;clear U;refine xet<|xre ?_;intro a O;refine ZO O results52 (O.resBox rfl (E.o.box 5 rfl) (by kernel_rfl)) (O.resBox rfl (E.o.box 4 rfl) (by kernel_rfl)) (O.res rfl) ?_;replace E:=E.pks [0];have hne:¬ (((ZA q0.d old).toList == text.toList)=true∧(many:Int)=t.am):=fun h9=>by rw [htxcc6] at h9;exact absurd h9.1 (by decide)
 have hT:=Jf hold hmx hne (Zdp htxcc6 (Zdu hte));rw [← hr2,hok2] at hT;rw [if_pos rfl,heq] at hT;rw [if_neg Bool.false_ne_true] at hT;exact ⟨zq3,_,hT.symm,by rw [hq3,hq2],fun h=>(nomatch h),fun _=>hq3 ▸ (hW2 hok2).free hoo,rfl,(E.o.erS [7,6,5,4,3,2,1])⟩;have heq:(PtrD.zero).eqv old=true:=by simpa using cc12
 refine xcf rfl<|xsk<|xet<|xsq ?_;refine hld [5,4] E ?_;clear E;intro w69 E U;refine Hw 0 5 8 E rfl rfl<|Hw 1 4 7 E rfl rfl ?_;refine ZI 2 ?_;refine yos 5 [5,4] U ?_;clear E U;intro w70 E U;refine ZI 3 ?_;refine yos 4 [5,4] U ?_;clear E U;intro w71 E U;refine Hp 4 E rfl ?_;refine hdn ?_;replace E:=U;clear U;refine xet<|xre ?_;intro a O;refine ZO O results52 (O.resBox rfl (E.o.box 5 rfl) (by kernel_rfl)) (O.resBox rfl (E.o.box 4 rfl) (by kernel_rfl)) (O.res rfl) ?_;replace E:=E.pks [0];have hne:¬ (((ZA q0.d old).toList == text.toList)=true∧(many:Int)=t.am):=fun h9=>by rw [htxcc6] at h9;exact absurd h9.1 (by decide)
 have hT:=Jf hold hmx hne (Zdp htxcc6 (Zdu hte));rw [← hr2,hok2] at hT;rw [if_pos rfl,heq] at hT;rw [if_pos rfl] at hT;exact ⟨zq2,_,hT.symm,hq2,fun h=>(nomatch h),fun _=>(hW2 hok2).more (by omega),rfl,(E.o.erS [7,6,5,4,3,2,1])⟩;rw [htxcc1] at cc6;simp at cc6
theorem Ju (y:ByteArray) (ys:List ByteArray):(Yk (y::ys)).size=(ZM y.size).size+1+y.size+(Yk ys).size:=by
 rw [Zg,XW];simp only [length_append,length_cons,← Zg];omega
theorem Zll {n:Nat} (h:n≤9):(ZM n).size≤1:=Zbg (k:=0) (by omega)
theorem Zpr {n:Nat} (h:n≤99):(ZM n).size≤2:=Zbg (k:=1) (by omega)
theorem ZgO (n:Zi):(Xe n).size≤128:=by
 cases h:n.ok with
 | false=>rw [ZaS h];exact Nat.zero_le _
 | true =>
  rw [← (Y6 h).is];have ho:n.aw.ac.ok=true:=(Zi.ok_is h).root;have e0:(Yk []).size=0:=rfl;have e1:=YB n.aB;have e2:=YB n.aC;have e3:=YB n.al;have e4:=ZcV ho;have e5:=YB n.aw.az;have e6:=YB n.aw.am;have e7:Zmo.size=3:=rfl;have d1:=Zll e1;have d2:=Zll e2;have d3:=Zll e3;have d4:=Zpr (Nat.le_trans e4 (by omega));have d5:=Zll e5;have d6:=Zll e6;have d7:=Zll (n:=Zmo.size) (by omega);unfold XY;rw [Ju,Ju,Ju,Ju,Ju,Ju,Ju]
  omega
theorem ZmS {n:Zi} (h:n.ok=true):(Xe n).size≠0:=by
 rw [← (Y6 h).is];unfold XY;rw [Ju];omega
end Go.Proofs.YtenejpbnncbilaaGreatDoor
