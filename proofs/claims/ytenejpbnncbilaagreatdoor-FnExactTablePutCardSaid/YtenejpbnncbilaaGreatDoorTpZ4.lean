/- A part of the proof in YtenejpbnncbilaaGreatDoorTpZ7. -/
import Derived.Shelf.Strings.Prefix
import Derived.Shelf.Strings.Repeat
import Derived.Test.YtenejpbnncbilaaGreatDoorTpZ3
namespace Go.Proofs.YtenejpbnncbilaaGreatDoor
set_option maxHeartbeats 2000000
open Go.Proofs.Tryz
open _root_.ByteArray (size_extract)
open List (append_nil drop_zero flatMap_cons getD_eq_getElem?_getD getElem?_eq_getElem length length_append length_cons length_map length_nil length_replicate length_set length_take map_append mem_append mem_cons mem_cons_of_mem mem_cons_self mem_singleton nil_append not_mem_nil replicate take_zero)
open Option (map_some)
set_option linter.unusedVariables false
set_option linter.unusedSimpArgs false
set_option maxRecDepth 100000
open Go.RowKit
theorem Zjj {st:Za} {many:Int} {i:Nat} {p:PtrD} (h:YL st p=false):JS st many i p=false:=by
 unfold JS
 cases hh:p.hole with
 | true=>rw [Jl hh] at h;cases h
 | false=>rw [h];rfl
theorem Zig {st:Za} {many:Int} {i:Nat} {p:PtrD} (h:(p.ak == 0)=false):JS st many i p=false:=by
 unfold JS
 cases hh:p.hole with
 | true=>rw [h];rfl
 | false=>rw [h];simp
theorem ZkP {st:Za} {many:Int} {i:Nat} {p:PtrD} (hh:p.hole=false) (h:¬ (i:Int)<many):JS st many i p=false:=by
 unfold JS;rw [hh,decide_eq_false h];simp
theorem ZgA {st:Za} {many:Int} {i:Nat} {p:PtrD} (h1:YL st p=true) (h2:(p.ak == 0)=true) (h3:p.hole=true∨(i:Int)<many):JS st many i p=true:=by
 unfold JS
 cases hh:p.hole with
 | true=>exact h2
 | false =>
  rcases h3 with h3|h3
  ·rw [hh] at h3;cases h3
  ·rw [h1,h2,decide_eq_true h3];rfl
theorem Zac {w:World} {a0:Option Addr} {c0:Nat} {a1:Option Addr} {c1:Nat} {a2:Option Addr} {c2:Nat} {a4:Option Addr} {c4:Nat} {a6:Option Addr} {c6:Nat} {st:Za} (h:Za.Reads w (.agg #[.slice a0 st.af.length c0,.slice a1 st.aa.ab.length c1,.slice a2 st.aa.ag.length c2,.int .i64 st.aq,.slice a4 st.ai.length c4,.int .i64 st.ar,.slice a6 st.aj.length c6,.bool st.au]) st):Rd Zt 1 w a0 st.af.length st.af:=by
 obtain ⟨b0,d0,b1,d1,b2,d2,b4,d4,b6,d6,e,r,_⟩:=h;simp only [Value.agg.injEq,Array.mk.injEq,List.cons.injEq,Value.slice.injEq] at e;rw [e.1.1];exact r
theorem QU {st:Za} (h:st.ok=true):Y5 st:=by
 have ho:=Za.ok_spec h;refine ⟨ho.rows,fun i=>?_⟩
 by_cases hi:i<64
 ·have:=Vu ho.each hi
  unfold XK at this;rw [Bool.and_eq_true] at this;have:=of_decide_eq_true this.1
  omega
 ·rw [getD_eq_getElem?_getD,List.getElem?_eq_none (by rw [ho.rows];omega)]
  exact Nat.zero_le _
theorem ZcM (ao:Option Addr) (cap:Nat) (xs:List PtrD) (w:World) (hlen:xs.length≤1048576) (hr:Rd PtrD.cells 5 w ao xs.length xs) :
  Calls prog 90 #[.slice ao xs.length cap] w fun e w'=>∃ ao' cap',e=.returned (.slice ao' xs.length cap')∧St w [Zd PtrD.cells 5 40 (.slice ao' xs.length cap') xs] w':=by
 refine (VU ao cap xs w hlen hr).mono ?_;rintro e w' ⟨⟨ao',cap',rfl,ho⟩,hb⟩;exact ⟨_,_,rfl,St.ofRow ho hb⟩
theorem Zad (a0:Option Addr) (c0:Nat) (a1:Option Addr) (c1:Nat) (a2:Option Addr) (c2:Nat) (a4:Option Addr) (c4:Nat) (a6:Option Addr) (c6:Nat) (st:Za) (t:Zf) (b:Nat) (w0:World) (hT:Xq w0) (hM:X1 w0) (hE:X2 w0) (hB:Box w0 b 8 39 (sV a0 c0 a1 c1 a2 c2 a4 c4 a6 c6 st)) (hR:Rd Zt 1 w0 a0 st.af.length st.af) (hrow:Y5 st):Calls prog 89 #[.pointer (some ⟨b,0,none⟩),tV t] w0 fun e w'=>(∃ l,leavesF st t=some l∧∃ ao,e=.returned (.tuple #[.slice ao l.length l.length,.bool true])∧St w0 [holdsA (fun w=>Rd PtrD.cells 5 w ao l.length l)] w')∨(leavesF st t=none∧e=.returned (.tuple #[.slice none 0 0,.bool false])∧Below w0.heap.size w0 w'):=by
 have HT:=Bx.mk hT;have HM:=Bx.mk hM;have HE:=Bx.mk hE;have HB:=Bx.mk hB;have HR:=Bx.mk hR;clear hT hM hE hR;have E:=Bx.mk (St.start w0);refine ent func89 ntmps89 ?_;refine xsr ?_;refine ybx E ?_;clear E;intro w1 b1 E;refine xr 2 rfl<|xne<|xsq<|xsq ?_;intro a O;refine Yr (by kernel_rfl) (by kernel_rfl) E.o ?_;revert a;refine Qf 6 rfl<|Ql 0 rfl rfl ?_;refine yq (fun _ E=>((Yd t.am 0 16 _).mono fun _ _ h=>⟨h.1,h.2 ▸ Below.refl _ _⟩)) func28 ?_;refine xqr 2 rfl<|xcs 21 rfl (fun cc1=>?_) fun cc1=>?_;refine xqr 23 rfl ?_;intro a O;refine wpQuiet_nil ?_;intro w2 E;replace E:=Bx.mk E;revert a;refine xet<|xct rfl<|xsr<|xr 2 rfl<|xne<|xre<|xtr<|xb2 results89 rfl rfl ?_;have htop:topB st t=false:=by
   have h:inB t.am 0 16=false:=(by simpa using cc1);unfold topB;rw [h];rfl
 exact .inr ⟨QH htop,rfl,E.o.bel⟩;have inT:inB t.am 0 16=true:=by simpa using cc1
 refine Qf 5 rfl<|Ql 0 rfl rfl<|Qf 6 rfl<|Ql 0 rfl rfl ?_;refine yqg (fun _ E=>Vj t.am _) func58 ?_;refine xqr 3 rfl<|xcn 29 rfl (fun _ dcc2=>?_) fun _ dcc2=>?_;refine xqr 15 rfl ?_;intro a O;refine wpQuiet_nil ?_;intro w3 E;replace E:=Bx.mk E;revert a;refine xet<|xct rfl<|xsr<|xr 2 rfl<|xne<|xre<|xtr<|xb2 results89 rfl rfl ?_;have htop:topB st t=false:=by
   have h:(t.az == ((depthN t.am:Nat):Int))=false:=(by simpa using dcc2);unfold topB;rw [h];simp
 exact .inr ⟨QH htop,rfl,E.o.bel⟩;have hdep:t.az=((depthN t.am:Nat):Int):=dcc2;refine Qf 0 rfl<|Qw 0 5 rfl rfl ?_;refine yqg (fun _ E=>Xm t.ac _) func59 ?_;refine xqr 3 rfl<|xcs 35 rfl (fun cc3=>?_) fun cc3=>?_;refine xqr 9 rfl ?_;intro a O;refine wpQuiet_nil ?_;intro w4 E;replace E:=Bx.mk E;revert a;refine xet<|xct rfl<|xsr<|xr 2 rfl<|xne<|xre<|xtr<|xb2 results89 rfl rfl ?_;have htop:topB st t=false:=by
   have h:t.ac.ok=false:=(by simpa using cc3);unfold topB;rw [h];simp
 exact .inr ⟨QH htop,rfl,E.o.bel⟩;have hok:t.ac.ok=true:=by simpa using cc3
 refine Qf 0 rfl<|Qf 1 rfl<|Ql 0 rfl rfl<|xqr 2 rfl<|Qf 3 rfl<|xq rfl (fun E a O=>ylo (v:=.int .i64 st.aq) rfl (O.ev rfl) (((HB.out.below E.bel (Nat.le_refl _)).cell 3).trans rfl))<|xqr 2 rfl ?_;intro a O;refine wpQuiet_nil ?_;intro w5 E;replace E:=Bx.mk E;revert a;refine xet<|xcd 44 rfl (fun _ dcc4=>?_) fun _ dcc4=>?_
 refine xct rfl<|xsr<|xr 2 rfl<|xne<|xre<|xtr<|xb2 results89 rfl rfl ?_;have htop:topB st t=false:=by
   unfold topB;rw [decide_eq_false (show ¬ t.ac.ah≤st.aq by omega)];simp
 exact .inr ⟨QH htop,rfl,E.o.bel⟩;have htop:topB st t=true:=(by unfold topB;rw [hok,inT,beq_iff_eq.2 hdep,decide_eq_true (show t.ac.ah≤st.aq by omega)];rfl);have hin:=Zo inT;refine xcf rfl<|xsk<|xet<|xsr<|Xf 0 rfl<|Xw 0 5 E rfl rfl ?_;refine ybs PtrD.cells 40 5 [t.ac] E ?_;clear E;intro b2 w6 E;refine xr 1 rfl<|xne<|xsq<|xsr<|Xf 5 rfl<|Xl 1 E rfl rfl<|xr 1 rfl<|xne<|xbl ?_;replace E:=E.pks [0];intro a O;refine ZD (ι:=Nat) (fun n a w=>∃ (ao:Option Addr) (cp:Nat) (xs:List PtrD),(downL (kids st) (depthN t.am) [t.ac]=downL (kids st) n xs∧xs.length*4 ^ n≤16∧(∀ p ∈ xs,p.ok=true)∧n≤2)∧Fr 112 a [(0,.pointer (some ⟨b,0,none⟩)),(1,tV t),(3,.pointer (some ⟨b1,0,none⟩)),(4,.slice none 0 0),(5,.bool false),(6,.slice ao xs.length cp),(7,.int .i64 (n:Int))]∧St w0 ([Zd PtrD.cells 5 40 (.slice ao xs.length cp) xs,boxA b1 7 42 (tV t)]) w) (fun n=>n) (depthN t.am) ⟨_,_,[t.ac],⟨rfl,by simpa using Zmk (YU t.am),(fun p hp=>by rw [mem_singleton.1 hp];exact hok),YU _⟩,O.less _ ⟨rfl,rfl,rfl,rfl,rfl,rfl,(by show some (Value.int .i64 _)=some (Value.int .i64 _);exact congrArg (fun z=>some (Value.int .i64 z)) hdep),trivial⟩,E.o⟩ ?_;clear O E;clear a;rintro n a w7 ⟨ao,cp,xs,⟨hd,hp4,hoks,hn2⟩,O,E⟩;replace E:=Bx.mk E;have hx16:=Zj7 hp4;revert a;refine xsq<|xsr<|xr 2 rfl<|xne<|xcd 51 rfl (fun _ dcc5=>?_) fun _ dcc5=>?_
 obtain ⟨n,rfl⟩:∃ m,n=m+1:=⟨n - 1,by omega⟩;refine xct rfl<|xsk<|xet<|xsq<|xbl<|xsr<|xr 1 rfl<|xne<|xsq<|xsr<|xr 1 rfl<|xy rfl (vn 40 5 rfl)<|xr 1 rfl<|xne<|xbl ?_;replace E:=Bx.mk (E.o.nilRow PtrD.cells 5 40 none);intro a O;refine ZD (ι:=Nat) (fun i a w=>∃ (ay:Option Addr) (cy:Nat) (ys:List PtrD),(i≤xs.length∧YX (fun p=>kids st p ((n+1:Nat):Int)) xs=(YX (fun p=>kids st p ((n+1:Nat):Int)) (xs.drop i)).map (ys++·)∧ys.length=4*i∧∀ p ∈ ys,p.ok=true)∧Fr 112 a [(0,.pointer (some ⟨b,0,none⟩)),(1,tV t),(3,.pointer (some ⟨b1,0,none⟩)),(4,.slice none 0 0),(5,.bool false),(6,.slice ao xs.length cp),(7,.int .i64 ((n+1:Nat):Int)),(54,.slice ao xs.length cp),(55,.int .i64 (xs.length:Int)),(8,.slice ay ys.length cy),(56,.int .i64 (i:Int))]∧St w0 ([Zd PtrD.cells 5 40 (.slice ay ys.length cy) ys,Zd PtrD.cells 5 40 (.slice ao xs.length cp) xs,boxA b1 7 42 (tV t)]) w) (fun i=>xs.length - i) 0 ⟨_,_,[],⟨Nat.zero_le _,Zfg,rfl,(fun p hp=>nomatch hp)⟩,O.ls _,E.o⟩ ?_;clear O E;clear a;rintro i a w8 ⟨ay,cy,ys,⟨hi,hnx,hyl,hoky⟩,O,E⟩;replace E:=Bx.mk E;revert a;refine xsr<|xr 1 rfl<|xne<|xsq<|xcd 57 rfl (fun _ dcc6=>?_) fun _ dcc6=>?_
 refine xct rfl<|xsk<|xet<|xsq<|xbl<|xsq ?_;obtain ⟨g3,rfl,_,_,_,_⟩:=E.o.rowOpen 1 rfl (by omega);refine xrl<|xy rfl (vx 40 i 5 rfl)<|xy rfl (fun a O=>ylr (cs:=pL (xs.getD i PtrD.zero)) rfl (O.ev rfl) (E.o.elem PtrD.cells_len 1 rfl (Zh (xs:=xs) (j:=i) (d:=PtrD.zero) (by omega)))) ?_;refine yal z5 E ?_;clear E;intro w9 b4 E;refine yst E 0 ?_;clear E;intro w10 E;replace E:=E.nm;refine xne<|xsr<|xr 1 rfl<|Xw 0 5 E rfl rfl<|xr 1 rfl ?_;refine yc (QS a0 c0 a1 c1 a2 c2 a4 c4 a6 c6 st (xs.getD i PtrD.zero) ((n+1:Nat):Int) b _ (HT.o.below E.o.bel) (HM.o.below E.o.bel) (HE.o.below E.o.bel) (HB.out.below E.o.bel (Nat.le_refl _)) (HR.out.below E.o.bel) hrow (hoks _ (YI (by omega)))) func121 ?_;rintro _ w11 (⟨l5,hk5,ao5,cp5,rfl,hs1⟩|⟨hk5,ao5,nn5,cp5,rfl,hb⟩);have hll5:=Y4 hk5;refine ⟨_,rfl,?_⟩;replace E:=E.ad hs1;clear hs1;refine xr 5 rfl<|xne<|xsq<|xsr<|xr 2 rfl<|xne<|xcf rfl<|xsk<|xet<|xrl<|xr 2 rfl ?_;refine yap Yz PtrD.cells_len E 2 (St.rdOf E.o PtrD.cells_len 0 rfl) (Zn _) ?_;clear E;intro ao6 cp7 w12 E;refine xr 1 rfl<|xni<|xeb<|xet<|xrl<|xy rfl (vad rfl)<|xr 1 rfl<|xne ?_;have hz:ys.length+l5.length=(ys++l5).length:=(length_append ..).symm;intro a O;rw [hz] at E O;have hl4:=Y4 hk5;have hyl2:(ys++l5).length=4*(i+1):=by rw [length_append];omega
 have hoky2:∀ p ∈ ys++l5,p.ok=true:=fun p hp=>(mem_append.1 hp).elim (hoky p) ((Xy hk5).2.1 p)
 replace E:=E.pks [4,4,4];exact ⟨i+1,⟨_,_,ys++l5,⟨by omega,Zgx hnx (by omega) hk5,hyl2,hoky2⟩,O.less _ ⟨rfl,rfl,rfl,rfl,rfl,rfl,rfl,rfl,rfl,rfl,rfl,trivial⟩,(E.o.erS [4,3])⟩,(by omega)⟩;refine ⟨_,rfl,?_⟩;replace E:=Bx.mk (E.o.later hb);clear hb;refine xr 5 rfl<|xne<|xsq<|xsr<|xr 2 rfl<|xne<|xct rfl<|xsr<|xr 2 rfl<|xne<|xre<|xtr<|xbr<|xtr<|xtr<|xbr<|xtr<|xbr<|xtr<|xtr<|xbr<|xtr<|xb2 results89 rfl rfl ?_;exact .inr ⟨V9 (hd.trans (Jd (Zgy hnx (by omega) hk5))),rfl,E.o.bel⟩;refine xcf rfl<|xex<|xtx<|xtx<|xbh<|xet<|xrl<|xr 2 rfl<|xni<|xeb<|xet<|xrl<|xr 1 rfl<|xy rfl (fun a O=>XE (r:=(n:Int)) rfl (O.ev rfl) (O.ev rfl) ((Qt (by omega)).trans (by omega)))<|xr 1 rfl<|xne ?_;replace E:=E.pks [2,1];intro a O;exact ⟨n,⟨_,_,ys,⟨(hd.trans (QQ (Zid hnx (by omega)))),Zgz hp4 hyl (by omega),hoky,by omega⟩,O.less _ ⟨rfl,rfl,rfl,rfl,rfl,rfl,rfl,trivial⟩,(E.o.erase 2)⟩,(Nat.lt_succ_self _)⟩;obtain rfl:n=0:=by omega
 refine xcf rfl<|xex<|xtx<|xtx<|xbh<|xet<|xsq<|xsr<|xr 1 rfl<|xy rfl (vn 40 5 rfl)<|xr 1 rfl<|xne<|xbl ?_;intro a O;refine ZD (ι:=Nat) (fun i a w=>(i≤xs.length∧YQ st t.am 0 xs=YQ st t.am i (xs.drop i))∧Fr 112 a [(0,.pointer (some ⟨b,0,none⟩)),(1,tV t),(3,.pointer (some ⟨b1,0,none⟩)),(4,.slice none 0 0),(5,.bool false),(6,.slice ao xs.length cp),(74,.slice ao xs.length cp),(75,.int .i64 (xs.length:Int)),(76,.int .i64 (i:Int))]∧St w0 ([Zd PtrD.cells 5 40 (.slice ao xs.length cp) xs,boxA b1 7 42 (tV t)]) w) (fun i=>xs.length - i) 0 ⟨⟨Nat.zero_le _,by rw [drop_zero]⟩,O.less _ ⟨rfl,rfl,rfl,rfl,rfl,rfl,rfl,rfl,rfl,trivial⟩,E.o⟩ ?_;clear O E;clear a;rintro i a w13 ⟨⟨hi,hlv⟩,O,E⟩;replace E:=Bx.mk E;revert a;refine xsr<|xr 1 rfl<|xne<|xsq<|xcd 77 rfl (fun _ dcc7=>?_) fun _ dcc7=>?_
 refine xct rfl<|xsk<|xet<|xsq<|xbl<|xsq ?_;obtain ⟨g8,rfl,_,_,_,_⟩:=E.o.rowOpen 0 rfl (by omega);refine xrl<|xr 1 rfl<|xy rfl (vx 40 i 5 rfl)<|xy rfl (fun a O=>ylr (cs:=pL (xs.getD i PtrD.zero)) rfl (O.ev rfl) (E.o.elem PtrD.cells_len 0 rfl (Zh (xs:=xs) (j:=i) (d:=PtrD.zero) (by omega)))) ?_;refine yal z5 E ?_;clear E;intro w14 b9 E;refine xr 1 rfl ?_;refine yst E 0 ?_;clear E;intro w15 E;replace E:=E.nm;refine xne<|xsr<|xr 1 rfl<|Xw 0 5 E rfl rfl ?_;refine ycB (Zaa a0 c0 a1 c1 a2 c2 a4 c4 a6 c6 st (xs.getD i PtrD.zero) b _ (HB.out.below E.o.bel (Nat.le_refl _)) (HR.out.below E.o.bel) hrow (hoks _ (YI (by omega)))) func93 E ?_;clear E;intro w16 E;refine xr 5 rfl<|xne<|xsr<|xr 3 rfl<|xcs 89 rfl (fun cc8=>?_) fun cc8=>?_;refine xr 15 rfl<|xne<|xct rfl<|xsr<|xr 2 rfl<|xne<|xre<|xbr<|xtr<|xtr<|xbr<|xtr<|xb2 results89 rfl rfl ?_;have hd0:downL (kids st) (depthN t.am) [t.ac]=some xs:=hd;have hst:=Ui hlv (show i<xs.length by omega);rw [Zjj (p:=(xs.getD i PtrD.zero)) (by simpa using cc8)] at hst;exact .inr ⟨Uh hd0 hst,rfl,E.o.bel⟩;refine Xf 4 rfl<|Xl 0 E rfl rfl<|xr 3 rfl<|xcn 94 rfl (fun cc9 dcc9=>?_) fun cc9 dcc9=>?_;refine xr 10 rfl<|xne<|xct rfl<|xsr<|xr 2 rfl<|xne<|xre<|xbr<|xtr<|xtr<|xbr<|xtr<|xb2 results89 rfl rfl ?_;have hd0:downL (kids st) (depthN t.am) [t.ac]=some xs:=hd;have hst:=Ui hlv (show i<xs.length by omega);rw [Zig (p:=(xs.getD i PtrD.zero)) (by simpa using dcc9)] at hst;exact .inr ⟨Uh hd0 hst,rfl,E.o.bel⟩;refine xr 1 rfl<|Xf 6 rfl<|Xl 2 E rfl rfl<|xr 2 rfl<|xcd 99 rfl (fun _ dcc10=>?_) fun _ dcc10=>?_;refine Xw 0 5 E rfl rfl ?_;refine Ji (Ye (xs.getD i PtrD.zero) _) func60 E ?_;clear E;intro w17 E;refine xr 3 rfl<|xne<|xcs 104 rfl (fun cc11=>?_) fun cc11=>?_;refine xct rfl<|xsr<|xr 2 rfl<|xne<|xre<|xbr<|xtr<|xtr<|xbr<|xtr<|xb2 results89 rfl rfl ?_;have hd0:downL (kids st) (depthN t.am) [t.ac]=some xs:=hd;have hst:=Ui hlv (show i<xs.length by omega);rw [ZkP (p:=(xs.getD i PtrD.zero)) (by simpa using cc11) (by omega)] at hst;exact .inr ⟨Uh hd0 hst,rfl,E.o.bel⟩;refine xcf rfl<|xsk<|xeb<|xet<|xrl<|xy rfl (vad rfl)<|xr 1 rfl<|xne ?_;have hst:=Ui hlv (show i<xs.length by omega);rw [ZgA (p:=(xs.getD i PtrD.zero)) (by simpa using cc8) (by simpa using cc9) (.inl (by simpa using cc11)),Bool.true_and] at hst;replace E:=E.pks [2,2];intro a O;exact ⟨i+1,⟨⟨by omega,hst⟩,O.less _ ⟨rfl,rfl,rfl,rfl,rfl,rfl,rfl,rfl,rfl,trivial⟩,(E.o.erase 2)⟩,(by omega)⟩;refine xr 5 rfl<|xne<|xcf rfl<|xsk<|xeb<|xet<|xrl<|xy rfl (vad rfl)<|xr 1 rfl<|xne ?_;have hst:=Ui hlv (show i<xs.length by omega);rw [ZgA (p:=(xs.getD i PtrD.zero)) (by simpa using cc8) (by simpa using cc9) (.inr (by omega)),Bool.true_and] at hst;replace E:=E.pks [2,2];intro a O;exact ⟨i+1,⟨⟨by omega,hst⟩,O.less _ ⟨rfl,rfl,rfl,rfl,rfl,rfl,rfl,rfl,rfl,trivial⟩,(E.o.erase 2)⟩,(by omega)⟩;refine xcf rfl<|xex<|xtx<|xtx<|xbh<|xet<|xsq ?_;have hall:=Zjh hlv (by omega);have hd0:downL (kids st) (depthN t.am) [t.ac]=some xs:=hd;have hxl:xs.length=4 ^ depthN t.am:=by rw [Zbm (fun p n k=>Y4) hd0];simp
 have hfan:=V8 hin.2;have htk:(xs.take t.am.toNat).length=t.am.toNat:=by rw [length_take];omega
 have hmle:t.am.toNat≤xs.length:=by omega
 refine xrl<|xr 1 rfl<|Xf 6 rfl<|Xl 1 E rfl rfl<|Xf 6 rfl<|Xl 1 E rfl rfl<|xy rfl (fun a O=>Zjf (e:=40) (size:=5) (k:=t.am.toNat) rfl (O.ev rfl) (O.ev rfl) (O.ev rfl) (by kernel_rfl) (by omega) (by omega) (Nat.le_trans (by omega) (St.capLe E.o 0 rfl)))<|xr 2 rfl<|xne<|xre<|xb2 results89 rfl rfl ?_;replace E:=E.pks [0];have hh:=E.o.hold (P:=fun w=>Rd PtrD.cells 5 w ao (xs.take t.am.toNat).length (xs.take t.am.toNat)) (fun w f h=>by rw [htk];exact (J0 PtrD.cells_len h).take hmle);exact .inl ⟨xs.take t.am.toNat,Vf htop hd0 hall,ao,by rw [htk],(hh.erase 1)⟩
theorem Zjk {st:Za} {t:Zf} {l:List PtrD} (h:leavesF st t=some l):l.length≤16:=by
 obtain ⟨x,ht,hd,_,rfl,hx,hn⟩:=XP h;unfold topB at ht;rw [Bool.and_eq_true] at ht;have:=Zo ht.1
 omega
noncomputable def leavesT (st:Za) (t:Zf):Option (List PtrD):=bif st.ok then leavesF st t else none
theorem Zae {st:Za} {t:Zf} (h:st.ok=true):leavesT st t=leavesF st t:=by unfold leavesT;rw [h];rfl
theorem Zjl {st:Za} {t:Zf} (h:st.ok=false):leavesT st t=none:=by unfold leavesT;rw [h];rfl
theorem Zfi (a0:Option Addr) (c0:Nat) (a1:Option Addr) (c1:Nat) (a2:Option Addr) (c2:Nat) (a4:Option Addr) (c4:Nat) (a6:Option Addr) (c6:Nat) (st:Za) (t:Zf) (w0:World) (hT:Xq w0) (hM:X1 w0) (hE:X2 w0) (hV0:Za.Reads w0 (sV a0 c0 a1 c1 a2 c2 a4 c4 a6 c6 st) st) (hf:st.Fit):Calls prog 61 #[sV a0 c0 a1 c1 a2 c2 a4 c4 a6 c6 st,tV t] w0 fun e w'=>(∃ l,leavesT st t=some l∧∃ ao cp,e=.returned (.tuple #[.slice ao l.length cp,.bool true])∧St w0 [Zd PtrD.cells 5 40 (.slice ao l.length cp) l] w')∨(leavesT st t=none∧∃ ao cp,e=.returned (.tuple #[.slice ao 0 cp,.bool false])∧Below w0.heap.size w0 w'):=by
 have HT:=Bx.mk hT;have HM:=Bx.mk hM;have HE:=Bx.mk hE;have hV:=Bx.mk hV0;clear hT hM hE hV0;have E:=Bx.mk (St.start w0);refine ent func61 ntmps61 ?_;refine xsr ?_;refine ybx E ?_;clear E;intro w1 b1 E;refine ybx E ?_;clear E;intro w2 b2 E;refine xr 2 rfl<|xne<|xsq<|xsr<|Xw 1 8 E rfl rfl ?_;refine ycB (Zap _ st _ (hV.out.below E.o.bel) hf) func86 E ?_;clear E;intro w3 E;refine xr 1 rfl<|xne<|xcs 10 rfl (fun cc1=>?_) fun cc1=>?_;have hsok:st.ok=false:=by simpa using cc1
 refine xct rfl<|xsr<|xr 2 rfl<|xne<|xre<|xtr<|xb2 results61 rfl rfl ?_;exact .inr ⟨Zjl hsok,none,0,rfl,E.o.bel⟩;have hsok:st.ok=true:=by simpa using cc1
 refine xcf rfl<|xsk<|xet<|xsr<|Xw 0 7 E rfl rfl ?_;refine yc (Zad a0 c0 a1 c1 a2 c2 a4 c4 a6 c6 st t b1 _ (HT.o.below E.o.bel) (HM.o.below E.o.bel) (HE.o.below E.o.bel) (E.o.box 1 rfl) ((Zac hV.out).below E.o.bel) (QU hsok)) func89 ?_;rintro _ w4 (⟨l,hlf,ao,rfl,hs1⟩|⟨hlf,rfl,hb⟩);refine ⟨_,rfl,?_⟩;replace E:=E.ad hs1;clear hs1;refine xr 5 rfl<|xne<|xsr<|xr 1 rfl ?_;refine yc (ZcM ao _ l _ (by have:=Zjk hlf;omega) (E.o.holds 0 rfl)) func90 ?_;rintro _ w5 ⟨ao3,cp3,rfl,hs⟩;refine ⟨_,rfl,?_⟩;replace E:=E.ad hs;clear hs;refine xr 3 rfl<|xne<|xre<|xb2 results61 rfl rfl ?_;exact .inl ⟨l,(Zae hsok).trans hlf,_,_,rfl,(E.o.erS [3,2,1])⟩;refine ⟨_,rfl,?_⟩;replace E:=Bx.mk (E.o.later hb);clear hb;refine xr 5 rfl<|xne<|xsr<|xr 1 rfl ?_;refine yc (ZcM none 0 [] _ (by decide) (Zgj _ _ _ _)) func90 ?_;rintro _ w6 ⟨ao4,cp4,rfl,hs⟩;refine ⟨_,rfl,?_⟩;replace E:=E.ad hs;clear hs;refine xr 3 rfl<|xne<|xre<|xb2 results61 rfl rfl ?_;exact .inr ⟨(Zae hsok).trans hlf,_,_,rfl,E.o.bel⟩
noncomputable def okT (st:Za) (t:Zf):Bool:=(leavesT st t).isSome
theorem ZoO {st:Za} {t:Zf} (h:st.ok=true):okT st t=okS st t:=by
 have h0:=(Za.ok_spec h).txg;unfold okT;rw [Zae h,Ze6 (by omega)];rfl
theorem ZaQ (a0:Option Addr) (c0:Nat) (a1:Option Addr) (c1:Nat) (a2:Option Addr) (c2:Nat) (a4:Option Addr) (c4:Nat) (a6:Option Addr) (c6:Nat) (st:Za) (t:Zf) (w0:World) (hT:Xq w0) (hM:X1 w0) (hE:X2 w0) (hV0:Za.Reads w0 (sV a0 c0 a1 c1 a2 c2 a4 c4 a6 c6 st) st) (hf:st.Fit):Calls prog 30 #[sV a0 c0 a1 c1 a2 c2 a4 c4 a6 c6 st,tV t] w0 fun e w'=>e=.returned (.bool (okT st t))∧Below w0.heap.size w0 w':=by
 have HT:=Bx.mk hT;have HM:=Bx.mk hM;have HE:=Bx.mk hE;have hV:=Bx.mk hV0;clear hT hM hE hV0;have E:=Bx.mk (St.start w0);refine ent func30 ntmps30 ?_;refine xsr ?_;refine ybx E ?_;clear E;intro w1 b1 E;refine ybx E ?_;clear E;intro w2 b2 E;refine xr 1 rfl<|xne<|xsr<|Xw 1 8 E rfl rfl<|Xw 0 7 E rfl rfl ?_;refine yc (Zfi a0 c0 a1 c1 a2 c2 a4 c4 a6 c6 st t _ (HT.o.below E.o.bel) (HM.o.below E.o.bel) (HE.o.below E.o.bel) (hV.out.below E.o.bel) hf) func61 ?_;rintro _ w3 (⟨l,hlf,ao,cp,rfl,hs1⟩|⟨hlf,ao,cp,rfl,hb⟩);refine ⟨_,rfl,?_⟩;replace E:=E.ad hs1;clear hs1;refine xr 5 rfl<|xne<|xsr<|xr 2 rfl<|xne<|xre<|xb1 results30 rfl ?_;have h:okT st t=true:=by unfold okT;rw [hlf];rfl
 exact ⟨by rw [h] <;> rfl,E.o.bel⟩;refine ⟨_,rfl,?_⟩;replace E:=Bx.mk (E.o.later hb);clear hb;refine xr 5 rfl<|xne<|xsr<|xr 2 rfl<|xne<|xre<|xb1 results30 rfl ?_;have h:okT st t=false:=by unfold okT;rw [hlf];rfl
 exact ⟨by rw [h] <;> rfl,E.o.bel⟩
def wg:Nat→Nat
 | 0=>1
 | n+1=>1+4*wg n
theorem Zml {k m:Nat} (h:k<4):k*m+m≤4*m:=by
 have:=Nat.mul_le_mul_right m (show k+1≤4 by omega);rw [Nat.succ_mul] at this;exact this
theorem Zha {vis:PtrD→List PtrD} (h:∀ p,(vis p).length≤1):∀ l:List PtrD,(l.flatMap vis).length≤l.length
 | []=>Nat.le_refl _
 | p::r=>by
  rw [flatMap_cons,length_append,length_cons];have:=Zha h r;have:=h p
  omega
theorem ZgB {f:PtrD→List PtrD} {m:Nat}:∀ {l:List PtrD},(∀ p ∈ l,(f p).length≤m)→(l.flatMap f).length≤l.length*m
 | [],_=>by simp
 | p::r,h=>by
  rw [flatMap_cons,length_append,length_cons,Nat.succ_mul];have:=ZgB fun q hq=>h q (mem_cons_of_mem _ hq)
  have:=h p (mem_cons_self ..)
  omega
theorem Zfj {st:Za}:∀ {n:Nat} {p:PtrD},Wf st n p→(allL st n p).length≤wg n
 | 0,p,_=>by
  cases hh:p.hole with
  | true=>rw [Xr hh];exact Nat.zero_le _
  | false=>rw [UF hh];exact Nat.le_refl _
 | n+1,p,⟨_,_,l,hk,hw⟩=>by
  cases hh:p.hole with
  | true=>rw [Xr hh];exact Nat.zero_le _
  | false =>
   rw [Qo hh hk,length_cons];have h1:=ZgB (f:=allL st n) (m:=wg n) fun q hq=>Zfj (hw q hq)
   rw [Y4 hk] at h1;show _≤1+4*wg n
   omega
theorem Qi {l:List PtrD} {k:Nat} (h:k<l.length):l.take (k+1)=l.take k++[l.getD k PtrD.zero]:=by
 rw [List.take_succ_eq_append_getElem h,getD_eq_getElem?_getD,getElem?_eq_getElem h];rfl
def accA (b:Nat) (xs:List PtrD):Asr:=exA fun (q:Option Addr × Nat)=>sepA [boxA b 1 37 (.agg #[.slice q.1 xs.length q.2]),Zd PtrD.cells 5 40 (.slice q.1 xs.length q.2) xs]
theorem St.accOut {W w:World} {b:Nat} {xs:List PtrD} {F:List Asr} (h:St W (accA b xs::F) w):∃ ao cp,St W (boxA b 1 37 (.agg #[.slice ao xs.length cp])::Zd PtrD.cells 5 40 (.slice ao xs.length cp) xs::F) w:=by
 obtain ⟨⟨ao,cp⟩,h⟩:=h.ex;exact ⟨ao,cp,(St.join (r:=[_,_])).2 h⟩
theorem St.accIn {W w:World} {b:Nat} {xs:List PtrD} {F:List Asr} {ao:Option Addr} {cp:Nat} (h:St W (boxA b 1 37 (.agg #[.slice ao xs.length cp])::Zd PtrD.cells 5 40 (.slice ao xs.length cp) xs::F) w):St W (accA b xs::F) w:=St.exI (A:=fun (q:Option Addr × Nat)=>sepA [boxA b 1 37 (.agg #[.slice q.1 xs.length q.2]),Zd PtrD.cells 5 40 (.slice q.1 xs.length q.2) xs]) (ao,cp) ((St.join (r:=[_,_])).1 h)
open Go.Lib
theorem Zhb:digitVal 58=none:=by decide
theorem Zj8 {s:ByteArray} {n k:Nat} (h:l1S s n k) (h0:k≠0) (hc:s.data.toList[k]? = some 58):k<s.size∧Jk (s.extract 0 k)=some n:=by
 have hz:=Zg s;have hk:k<s.data.toList.length:=(List.getElem?_eq_some_iff.1 hc).1;refine ⟨by omega,?_⟩;rcases h with ⟨h1,h2,h3,_,h5⟩|⟨rfl,rfl,_,b,d,h4,h6⟩
 ·have hsz:(s.extract 0 k).size=k:=by rw [size_extract];omega
  have hl:(s.extract 0 k).data.toList=s.data.toList.take k:=by rw [Y3];simp
  refine ZjY (k:=k) (.inl ⟨h1,by omega,by rw [hl,List.take_take,Nat.min_self];exact h3,.inl hsz.symm,fun hx=>h5 ⟨hx.1,?_⟩⟩) h0 hsz.symm;rw [hl] at hx
  match hx2:s.data.toList,hk with
  | a::r,_ =>
   rw [hx2] at hx
   match k,h0 with
   | k+1,_=>exact hx.2
 ·rw [hc] at h4
  obtain rfl:=Option.some.inj h4;rw [Zhb] at h6;cases h6
theorem Zhc {l:List UInt8} {b:UInt8} (hb:b ∈ l) (hd:digitVal b=none):∀ acc,decFrom acc l=none:=by
 induction l with
 | nil=>cases hb
 | cons c r ih =>
  intro acc;unfold decFrom;rcases mem_cons.1 hb with rfl|hb
  ·rw [hd]
  ·cases digitVal c with
   | none=>rfl
   | some d=>exact ih hb _
theorem ZnU {s:ByteArray} {n k m:Nat} {t:List UInt8} (h:l1S s n k) (hm:m≤999999999) (hs:s.data.toList=(ZM m).data.toList++58::t):k=(ZM m).size∧n=m∧s.data.toList[k]? = some 58:=by
 have hz:=Zg s;have hd9:=V2 hm;have hdp:=ZeM m;have hdz:=Zg (ZM m);have hall:=JZ m;rw [← Yx] at hall;have hlen:s.data.toList.length=(ZM m).data.toList.length+(t.length+1):=by rw [hs,length_append,length_cons]
 have hcol:s.data.toList[(ZM m).size]? = some 58:=by rw [hs,hdz,List.getElem?_append_right (Nat.le_refl _),Nat.sub_self];rfl
 have hin:∀ i,i<(ZM m).size→∃ b d,s.data.toList[i]? = some b∧digitVal b=some d:=fun i hi=>by
  have hi2:i<(ZM m).data.toList.length:=by omega
  obtain ⟨d,hd⟩:=hall _ (List.getElem_mem hi2);exact ⟨_,d,by rw [hs,List.getElem?_append_left hi2,getElem?_eq_getElem hi2],hd⟩
 have hk:k=(ZM m).size:=by
  rcases h with ⟨h1,h2,h3,h4,_⟩|⟨rfl,rfl,h3,b,d,h4,h6⟩
  ·rcases Nat.lt_trichotomy k (ZM m).size with hlt|he|hgt
   ·obtain ⟨b,d,hb,hd⟩:=hin k hlt
    rcases h4 with h4|h4|⟨c,h4,h6⟩
    ·omega
    ·omega
    ·rw [hb] at h4
     obtain rfl:=Option.some.inj h4;rw [hd] at h6;cases h6
   ·exact he
   ·have hmem:(58:UInt8) ∈ s.data.toList.take k:=by
     refine List.mem_of_getElem? (i:=(ZM m).size) ?_;rw [List.getElem?_take,if_pos hgt];exact hcol
    rw [Zhc hmem Zhb] at h3;cases h3
  ·rcases Nat.lt_or_ge m 10 with hlt|hge
   ·have h1:(ZM m).size=1:=by rw [hdz,Yx,decDigits_one hlt];rfl
    rw [h1] at hcol;rw [hcol] at h4;obtain rfl:=Option.some.inj h4;rw [Zhb] at h6;cases h6
   ·obtain ⟨e,he,h1,h9⟩:=ZdM m hge
    rw [← Yx] at he;have:s.data.toList.head? = (ZM m).data.toList.head?:=by
     rw [hs]
     match hq:(ZM m).data.toList,hdp,hdz with
     | a::r,_,_=>rfl
     | [],hp,hq2=>have hz0:([]:List UInt8).length=0:=rfl;omega
    rw [this,he] at h3;have hv:=Option.some.inj h3;have:(UInt8.ofNat (48+e)).toNat=48+e:=by rw [UInt8.toNat_ofNat'];omega
    rw [hv] at this;have:(48:UInt8).toNat=48:=rfl
    omega
 refine ⟨hk,?_,by rw [hk];exact hcol⟩;have hnum:=Zj8 h (by omega) (by rw [hk];exact hcol);have he:s.extract 0 k=ZM m:=Xc (by rw [Y3,hs,hk,hdz];simp);rw [he,ZaA hm] at hnum;exact (Option.some.inj hnum.2).symm
theorem QV {s:ByteArray} (i:Nat):(s.extract i s.size).data.toList=s.data.toList.drop i:=by
 rw [Y3,List.take_of_length_le (by rw [List.length_drop,← Zg];exact Nat.le_refl _)]
theorem Zmm {s:ByteArray} {xs:List ByteArray} {p k n:Nat} (h:U0 s xs (s.extract p s.size)) (hl:l1S (s.extract p s.size) n k) (h0:k≠0) (hk:p+k<s.size) (hc:s.get! (p+k)=58) (hn:n≤s.size - (p+k+1)):U0 s (xs++[s.extract (p+k+1) (p+k+1+n)]) (s.extract (p+k+1+n) s.size):=by
 have hz:=Zg s;have hcol:(s.extract p s.size).data.toList[k]? = some 58:=by rw [QV,List.getElem?_drop,Uq hk,hc]
 obtain ⟨hk2,hnum⟩:=Zj8 hl h0 hcol;have hcut:(s.extract p s.size).data.toList=((s.extract p s.size).extract 0 k).data.toList++58::(s.extract (p+k+1) s.size).data.toList:=by
  rw [Y3 (a:=s.extract p s.size),QV,QV,drop_zero,Nat.sub_zero];have e:(s.data.toList.drop p).drop k=58::s.data.toList.drop (p+k+1):=by
   rw [List.drop_drop];have hlt:p+k<s.data.toList.length:=by omega
   rw [List.drop_eq_getElem_cons hlt];have:=Uq hk;rw [getElem?_eq_getElem hlt] at this;rw [Option.some.inj this,hc]
  rw [← e,List.take_append_drop]
 have hsz:(s.extract (p+k+1) s.size).size=s.size - (p+k+1):=by rw [size_extract];omega
 have:=h.step hcut hnum (by omega);have e1:(s.extract (p+k+1) s.size).extract 0 n=s.extract (p+k+1) (p+k+1+n):=Xc (by
  rw [Y3,QV,Y3,drop_zero]
  congr 1;omega)
 have e2:(s.extract (p+k+1) s.size).extract n (s.extract (p+k+1) s.size).size=s.extract (p+k+1+n) s.size:=Xc (by
  rw [QV,QV,QV,List.drop_drop])
 rw [e1,e2] at this;exact this
theorem Zhd {s:ByteArray} {xs l:List ByteArray} {p k n:Nat} (h:U0 s xs (s.extract p s.size)) (hl:l1S (s.extract p s.size) n k) (hr:IsRec s l) (hs:s.size≤2048) (hp:p<s.size):k≠0∧p+k<s.size∧s.get! (p+k)=58∧n≤s.size - (p+k+1):=by
 have hz:=Zg s;have hsz:(s.extract p s.size).size=s.size - p:=by rw [size_extract];omega
 have hne:((s.extract p s.size).toList == (⟨#[]⟩:ByteArray).toList)=false:=by
  cases hq:((s.extract p s.size).toList == (⟨#[]⟩:ByteArray).toList) with
  | false=>rfl
  | true =>
   have:=Yi hq;rw [this] at hsz;have:(⟨#[]⟩:ByteArray).size=0:=rfl
   omega
 obtain ⟨y,ws,e1,e2,e3,e4⟩:=h.go hr.is hs hr.many hne;have hy:=(Qn e3).1;obtain ⟨k1,k2,k3⟩:=ZnU hl hy e2;have hp1:=ZeM y.size;have hlen:=congrArg length e2;rw [length_append,length_cons,length_append,← Zg,← Zg,← Zg,hsz] at hlen;have hkl:p+k<s.size:=by omega
 refine ⟨by omega,hkl,?_,by omega⟩;rw [QV,List.getElem?_drop,Uq hkl] at k3;exact Option.some.inj k3
theorem ZcN {s:ByteArray} {xs:List ByteArray} {p:Nat} (h:U0 s xs (s.extract p s.size)) (hp:¬ p<s.size):Yk xs=s:=by
 refine h.done ?_;have:s.extract p s.size=(⟨#[]⟩:ByteArray):=Xc (by rw [QV,List.drop_eq_nil_of_le (by rw [← Zg];omega)]);rw [this];exact beq_self_eq_true _
section
variable {P:Program} {o:Oper} {a:Act} {w:World} {e:TypeId}
theorem Zjm {t:TypeId} {x y z:Operand} (ho:o.op=.slice t x (some y) (some z) none) {g off n cap:Nat} (hx:a.eval x=.slice (some ⟨g,off,none⟩) n cap) {kk kl:IntKind} {m l:Int} (hy:a.eval y=.int kk m) (hz:a.eval z=.int kl l) {size:Nat} (hu:Yu P t=some (e,size)) {k j:Nat} (hm:m=(k:Int)) (hl:l=(j:Int)) (hk:k≤j) (hj:j≤cap) (hc:k<cap):Yl P w o a (.slice (some ⟨g,off+k*size,none⟩) (j - k) (cap - k)):=by
 unfold Yu at hu
 split at hu
 ·rename_i e' hu'
  split at hu
  ·rename_i inf hq
   simp only [Option.some.injEq,Prod.mk.injEq] at hu;obtain ⟨_,rfl⟩:=hu;subst hm;subst hl;have h2:((k:Int)≤(j:Int)):=by omega
   have h4:((j:Int)≤(cap:Int)):=by omega
   have h3:¬ cap=k:=by omega
   unfold Yl execOp;simp only [ho,hx,hy,hz,map_some,Option.map_none,Instr.sliceAt,Instr.slice,Sem.run_bind,run_underlying hu' w,Result.andThen_ok];simp [Instr.slice,Instr.sliceBounds,Instr.sliceBound,asIntOf,go_sem,run_underlying hu' w,sizeOf,typeInfo,hq,h2,h3,h4,Addr.add];rw [if_pos hj]
   by_cases hz:k*inf.size=0
   ·rw [if_pos hz,if_pos hk,hz,Nat.add_zero]
   ·rw [if_neg hz,if_pos hk]
  ·cases hu
 ·cases hu
end
theorem ZaR {y:ByteArray} {n:Nat} (h:Jk y=some n):0≤(n:Int)∧(n:Int)≤999999999∧ZX (n:Int)=y:=by
 have h1:=Qn h;refine ⟨by omega,by omega,?_⟩;rw [XF (by omega) (by omega),Int.toNat_natCast,h1.2]
structure IsTree (x y z:ByteArray) (t:Zf):Prop where
  ok:t.ac.ok=true
  p:Z5 t.ac=x
  d:0≤t.az∧t.az≤999999999∧ZX t.az=y
  m:0≤t.am∧t.am≤999999999∧ZX t.am=z
theorem Ud {m n:Int} {y:ByteArray} (h:0≤m∧m≤999999999∧ZX m=y) (k:0≤n∧n≤999999999∧ZX n=y):m=n:=by
 have h1:=Ys ⟨h.1,h.2.1⟩;have h2:=Ys ⟨k.1,k.2.1⟩;rw [h.2.2] at h1;rw [k.2.2,h1] at h2;have:=Option.some.inj h2
 omega
theorem IsTree.one {x y z:ByteArray} {t u:Zf} (h:IsTree x y z t) (k:IsTree x y z u):t=u:=by
 have h1:=ZcG h.ok k.ok (h.p.trans k.p.symm);have h2:=Ud h.d k.d;have h3:=Ud h.m k.m
 cases t;cases u
 simp only at h1 h2 h3;rw [h1,h2,h3]
theorem Zdi {y:ByteArray} {n:Int} (h:0≤n∧n≤999999999∧ZX n=y) (hg:Jk y=none):False:=by
 have:=Ys ⟨h.1,h.2.1⟩;rw [h.2.2,hg] at this
 cases this
theorem Zmn (y:ByteArray) (ys:List ByteArray):(Yk (y::ys)).size=(ZM y.size).size+1+y.size+(Yk ys).size:=by
 have h:=congrArg length (XW y ys);rw [← Zg,length_append,length_cons,length_append,← Zg,← Zg,← Zg] at h
 omega
theorem Zb0 {y:ByteArray} {ys:List ByteArray} {B:Nat} (h:y.size≤100) (hb:(Yk ys).size≤B):(Yk (y::ys)).size≤B+110:=by
 rw [Zmn];have:=V2 (n:=y.size) (by omega)
 omega
theorem Zjn (a0:Option Addr) (c0:Nat) (x y z:ByteArray) (w0:World) (hT:Xq w0) (hM:X1 w0) (hE:X2 w0) (hx:x.size≤4294967280) (hR:Rd Zt 1 w0 a0 3 [x,y,z]):Calls prog 145 #[.slice a0 3 c0] w0 fun e w'=>(∃ t:Zf,IsTree x y z t∧e=.returned (.tuple #[tV t,.bool true])∧Below w0.heap.size w0 w')∨(∃ t:Zf,(∀ u,IsTree x y z u→False)∧e=.returned (.tuple #[tV t,.bool false])∧Below w0.heap.size w0 w'):=by
 have HT:=Bx.mk hT;have HM:=Bx.mk hM;have HE:=Bx.mk hE;clear hT hM hE;obtain ⟨g0,o0,r0⟩:=hR.opn;have R0:=Bx.mk r0;clear r0 hR;have E:=Bx.mk (St.start w0);refine ent func145 ntmps145 ?_;refine xsr ?_;refine yal z7 E ?_;clear E;intro w1 b1 E;refine xr 1 rfl<|xne<|xsr<|xr 1 rfl<|xy rfl (vxr 9 0 1 rfl (R0.out.ao 0 (by omega)))<|xy rfl (fun a O=>ylo (v:=.string x) rfl (O.ev rfl) (R0.out.elem1 E.o (show ([x,y,z]:List _)[0]? = some _ from rfl) rfl)) ?_;refine yc (Ze1 x _ (HT.o.below E.o.bel) (HM.o.below E.o.bel) (HE.o.below E.o.bel) (by omega)) func160 ?_;rintro _ w2 (⟨p2,hpo2,hpt2,rfl,hb⟩|⟨hpn2,rfl,hb⟩);refine ⟨_,rfl,?_⟩;replace E:=Bx.mk (E.o.later hb);clear hb;refine xr 3 rfl ?_;refine yal z5 E ?_;clear E;intro w3 b3 E;refine yst E 0 ?_;clear E;intro w4 E;replace E:=E.nm;refine xr 1 rfl<|xne<|xsr<|xr 1 rfl<|xy rfl (vxr 9 1 1 rfl (R0.out.ao 1 (by omega)))<|xy rfl (fun a O=>ylo (v:=.string y) rfl (O.ev rfl) (R0.out.elem1 E.o (show ([x,y,z]:List _)[1]? = some _ from rfl) rfl)) ?_;refine yc (ZV y _ (HT.o.below E.o.bel) (HE.o.below E.o.bel)) func144 ?_;rintro _ w5 (⟨n4,hg4,rfl,hb⟩|⟨hg4,rfl,hb⟩);refine ⟨_,rfl,?_⟩;replace E:=Bx.mk (E.o.later hb);clear hb;refine xr 5 rfl<|xne<|xsr<|xr 1 rfl<|xy rfl (vxr 9 2 1 rfl (R0.out.ao 2 (by omega)))<|xy rfl (fun a O=>ylo (v:=.string z) rfl (O.ev rfl) (R0.out.elem1 E.o (show ([x,y,z]:List _)[2]? = some _ from rfl) rfl)) ?_;refine yc (ZV z _ (HT.o.below E.o.bel) (HE.o.below E.o.bel)) func144 ?_;rintro _ w6 (⟨n5,hg5,rfl,hb⟩|⟨hg5,rfl,hb⟩);refine ⟨_,rfl,?_⟩;replace E:=Bx.mk (E.o.later hb);clear hb;refine xr 5 rfl<|xne<|xsr<|Xw 0 5 E rfl rfl<|xr 2 rfl<|xy rfl (vb [.int .i64 p2.aA,.int .i64 p2.ah,.int .i64 p2.al,.int .i64 p2.ax,.int .i64 p2.ak,.int .i64 (n4:Int),.int .i64 (n5:Int)] rfl)<|xr 7 rfl ?_;refine yst E 1 ?_;clear E;intro w7 E;replace E:=E.nm;refine xr 1 rfl<|xne<|xre ?_;intro a O;refine Zw O results145 (O.resBox rfl (E.o.box 1 rfl) (by kernel_rfl)) (O.res rfl) ?_;exact .inl ⟨⟨p2,(n4:Int),(n5:Int)⟩,⟨hpo2,hpt2,ZaR hg4,ZaR hg5⟩,rfl,E.o.bel⟩;refine ⟨_,rfl,?_⟩;replace E:=Bx.mk (E.o.later hb);clear hb;refine xr 5 rfl<|xne<|xsr<|Xw 0 5 E rfl rfl<|xr 2 rfl<|xy rfl (vb [.int .i64 p2.aA,.int .i64 p2.ah,.int .i64 p2.al,.int .i64 p2.ax,.int .i64 p2.ak,.int .i64 (n4:Int),.int .i64 0] rfl)<|xr 7 rfl ?_;refine yst E 1 ?_;clear E;intro w8 E;replace E:=E.nm;refine xr 1 rfl<|xne<|xre ?_;intro a O;refine Zw O results145 (O.resBox rfl (E.o.box 1 rfl) (by kernel_rfl)) (O.res rfl) ?_;exact .inr ⟨⟨⟨p2.aA,p2.ah,p2.al,p2.ax,p2.ak⟩,(n4:Int),0⟩,fun u hu=>Zdi hu.m hg5,rfl,E.o.bel⟩;refine ⟨_,rfl,?_⟩;replace E:=Bx.mk (E.o.later hb);clear hb;refine xr 5 rfl<|xne<|xsr<|xr 1 rfl<|xy rfl (vxr 9 2 1 rfl (R0.out.ao 2 (by omega)))<|xy rfl (fun a O=>ylo (v:=.string z) rfl (O.ev rfl) (R0.out.elem1 E.o (show ([x,y,z]:List _)[2]? = some _ from rfl) rfl)) ?_;refine yc (ZV z _ (HT.o.below E.o.bel) (HE.o.below E.o.bel)) func144 ?_;rintro _ w9 (⟨n6,hg6,rfl,hb⟩|⟨hg6,rfl,hb⟩);refine ⟨_,rfl,?_⟩;replace E:=Bx.mk (E.o.later hb);clear hb;refine xr 5 rfl<|xne<|xsr<|Xw 0 5 E rfl rfl<|xr 2 rfl<|xy rfl (vb [.int .i64 p2.aA,.int .i64 p2.ah,.int .i64 p2.al,.int .i64 p2.ax,.int .i64 p2.ak,.int .i64 0,.int .i64 (n6:Int)] rfl)<|xr 7 rfl ?_;refine yst E 1 ?_;clear E;intro w10 E;replace E:=E.nm;refine xr 1 rfl<|xne<|xre ?_;intro a O;refine Zw O results145 (O.resBox rfl (E.o.box 1 rfl) (by kernel_rfl)) (O.res rfl) ?_;exact .inr ⟨⟨⟨p2.aA,p2.ah,p2.al,p2.ax,p2.ak⟩,0,(n6:Int)⟩,fun u hu=>Zdi hu.d hg4,rfl,E.o.bel⟩;refine ⟨_,rfl,?_⟩;replace E:=Bx.mk (E.o.later hb);clear hb;refine xr 5 rfl<|xne<|xsr<|Xw 0 5 E rfl rfl<|xr 2 rfl<|xy rfl (vb [.int .i64 p2.aA,.int .i64 p2.ah,.int .i64 p2.al,.int .i64 p2.ax,.int .i64 p2.ak,.int .i64 0,.int .i64 0] rfl)<|xr 7 rfl ?_;refine yst E 1 ?_;clear E;intro w11 E;replace E:=E.nm;refine xr 1 rfl<|xne<|xre ?_;intro a O;refine Zw O results145 (O.resBox rfl (E.o.box 1 rfl) (by kernel_rfl)) (O.res rfl) ?_;exact .inr ⟨⟨⟨p2.aA,p2.ah,p2.al,p2.ax,p2.ak⟩,0,0⟩,fun u hu=>Zdi hu.d hg4,rfl,E.o.bel⟩;refine ⟨_,rfl,?_⟩;replace E:=Bx.mk (E.o.later hb);clear hb;refine xr 3 rfl ?_;refine yal z5 E ?_;clear E;intro w12 b7 E;refine yst E 0 ?_;clear E;intro w13 E;replace E:=E.nm;refine xr 1 rfl<|xne<|xsr<|xr 1 rfl<|xy rfl (vxr 9 1 1 rfl (R0.out.ao 1 (by omega)))<|xy rfl (fun a O=>ylo (v:=.string y) rfl (O.ev rfl) (R0.out.elem1 E.o (show ([x,y,z]:List _)[1]? = some _ from rfl) rfl)) ?_;refine yc (ZV y _ (HT.o.below E.o.bel) (HE.o.below E.o.bel)) func144 ?_;rintro _ w14 (⟨n8,hg8,rfl,hb⟩|⟨hg8,rfl,hb⟩);refine ⟨_,rfl,?_⟩;replace E:=Bx.mk (E.o.later hb);clear hb;refine xr 5 rfl<|xne<|xsr<|xr 1 rfl<|xy rfl (vxr 9 2 1 rfl (R0.out.ao 2 (by omega)))<|xy rfl (fun a O=>ylo (v:=.string z) rfl (O.ev rfl) (R0.out.elem1 E.o (show ([x,y,z]:List _)[2]? = some _ from rfl) rfl)) ?_;refine yc (ZV z _ (HT.o.below E.o.bel) (HE.o.below E.o.bel)) func144 ?_;rintro _ w15 (⟨n9,hg9,rfl,hb⟩|⟨hg9,rfl,hb⟩);refine ⟨_,rfl,?_⟩;replace E:=Bx.mk (E.o.later hb);clear hb;refine xr 5 rfl<|xne<|xsr<|Xw 0 5 E rfl rfl<|xr 2 rfl<|xy rfl (vb [.int .i64 0,.int .i64 0,.int .i64 0,.int .i64 0,.int .i64 0,.int .i64 (n8:Int),.int .i64 (n9:Int)] rfl)<|xr 7 rfl ?_;refine yst E 1 ?_;clear E;intro w16 E;replace E:=E.nm;refine xr 1 rfl<|xne<|xre ?_;intro a O;refine Zw O results145 (O.resBox rfl (E.o.box 1 rfl) (by kernel_rfl)) (O.res rfl) ?_;exact .inr ⟨⟨⟨0,0,0,0,0⟩,(n8:Int),(n9:Int)⟩,fun u hu=>hpn2 u.ac hu.ok hu.p,rfl,E.o.bel⟩;refine ⟨_,rfl,?_⟩;replace E:=Bx.mk (E.o.later hb);clear hb;refine xr 5 rfl<|xne<|xsr<|Xw 0 5 E rfl rfl<|xr 2 rfl<|xy rfl (vb [.int .i64 0,.int .i64 0,.int .i64 0,.int .i64 0,.int .i64 0,.int .i64 (n8:Int),.int .i64 0] rfl)<|xr 7 rfl ?_;refine yst E 1 ?_;clear E;intro w17 E;replace E:=E.nm;refine xr 1 rfl<|xne<|xre ?_;intro a O;refine Zw O results145 (O.resBox rfl (E.o.box 1 rfl) (by kernel_rfl)) (O.res rfl) ?_;exact .inr ⟨⟨⟨0,0,0,0,0⟩,(n8:Int),0⟩,fun u hu=>hpn2 u.ac hu.ok hu.p,rfl,E.o.bel⟩;refine ⟨_,rfl,?_⟩;replace E:=Bx.mk (E.o.later hb);clear hb;refine xr 5 rfl<|xne<|xsr<|xr 1 rfl<|xy rfl (vxr 9 2 1 rfl (R0.out.ao 2 (by omega)))<|xy rfl (fun a O=>ylo (v:=.string z) rfl (O.ev rfl) (R0.out.elem1 E.o (show ([x,y,z]:List _)[2]? = some _ from rfl) rfl)) ?_;refine yc (ZV z _ (HT.o.below E.o.bel) (HE.o.below E.o.bel)) func144 ?_;rintro _ w18 (⟨n10,hg10,rfl,hb⟩|⟨hg10,rfl,hb⟩);refine ⟨_,rfl,?_⟩;replace E:=Bx.mk (E.o.later hb);clear hb;refine xr 5 rfl<|xne<|xsr<|Xw 0 5 E rfl rfl<|xr 2 rfl<|xy rfl (vb [.int .i64 0,.int .i64 0,.int .i64 0,.int .i64 0,.int .i64 0,.int .i64 0,.int .i64 (n10:Int)] rfl)<|xr 7 rfl ?_;refine yst E 1 ?_;clear E;intro w19 E;replace E:=E.nm;refine xr 1 rfl<|xne<|xre ?_;intro a O;refine Zw O results145 (O.resBox rfl (E.o.box 1 rfl) (by kernel_rfl)) (O.res rfl) ?_;exact .inr ⟨⟨⟨0,0,0,0,0⟩,0,(n10:Int)⟩,fun u hu=>hpn2 u.ac hu.ok hu.p,rfl,E.o.bel⟩;refine ⟨_,rfl,?_⟩;replace E:=Bx.mk (E.o.later hb);clear hb;refine xr 5 rfl<|xne<|xsr<|Xw 0 5 E rfl rfl<|xr 2 rfl<|xy rfl (vb z7 rfl)<|xr 7 rfl ?_;refine yst E 1 ?_;clear E;intro w20 E;replace E:=E.nm;refine xr 1 rfl<|xne<|xre ?_;intro a O;refine Zw O results145 (O.resBox rfl (E.o.box 1 rfl) (by kernel_rfl)) (O.res rfl) ?_;exact .inr ⟨⟨⟨0,0,0,0,0⟩,0,0⟩,fun u hu=>hpn2 u.ac hu.ok hu.p,rfl,E.o.bel⟩
structure Zi where
  aB:Int
  aC:Int
  al:Int
  aw:Zf
abbrev nPL (k l s:Int) (t:Zf):List Value:=[.int .i64 k,.int .i64 l,.int .i64 s,.int .i64 t.ac.aA,.int .i64 t.ac.ah,.int .i64 t.ac.al,.int .i64 t.ac.ax,.int .i64 t.ac.ak,.int .i64 t.az,.int .i64 t.am]
abbrev nL (n:Zi):List Value:=[.int .i64 n.aB,.int .i64 n.aC,.int .i64 n.al,.int .i64 n.aw.ac.aA,.int .i64 n.aw.ac.ah,.int .i64 n.aw.ac.al,.int .i64 n.aw.ac.ax,.int .i64 n.aw.ac.ak,.int .i64 n.aw.az,.int .i64 n.aw.am]
abbrev nV (n:Zi):Value:=.agg #[.int .i64 n.aB,.int .i64 n.aC,.int .i64 n.al,.int .i64 n.aw.ac.aA,.int .i64 n.aw.ac.ah,.int .i64 n.aw.ac.al,.int .i64 n.aw.ac.ax,.int .i64 n.aw.ac.ak,.int .i64 n.aw.az,.int .i64 n.aw.am]
def YE (kind:Int):Int:=if kind=1 then 12 else if kind=2 then 128 else 0
theorem Zb1 {k:Int} (h1:k≠1) (h2:k≠2):YE k=0:=by unfold YE;rw [if_neg h1,if_neg h2]
def YC (kind size:Int):Int:=if YE kind=0∨¬ (0≤size∧size≤16*YE kind) then -1 else (size+YE kind - 1) / YE kind
theorem Zb2 {k s:Int} (h:YE k=0):YC k s=-1:=if_pos (.inl h)
theorem Vk {k s:Int} (h:¬ (0≤s∧s≤16*YE k)):YC k s=-1:=if_pos (.inr h)
theorem Zaf {k s:Int} (h:YE k≠0) (h1:0≤s) (h2:s≤16*YE k):YC k s=(s+YE k - 1) / YE k:=if_neg fun e=>e.elim h fun e=>e ⟨h1,h2⟩
structure Zb3 (n:Zi):Prop where
  many:0≤YC n.aB n.al
  links:1≤n.aC∧n.aC≤if n.aB=2 then 1 else 9
  tmany:n.aw.am=YC n.aB n.al
  depth:n.aw.az=((depthN (YC n.aB n.al):Nat):Int)
  root:n.aw.ac.ok=true
  level:n.aw.ac.hole=true∨n.aw.ac.ak=n.aw.az
instance (n:Zi):Decidable (Zb3 n):=decidable_of_iff (0≤YC n.aB n.al∧(1≤n.aC∧n.aC≤if n.aB=2 then 1 else 9)∧n.aw.am=YC n.aB n.al∧n.aw.az=((depthN (YC n.aB n.al):Nat):Int)∧n.aw.ac.ok=true∧(n.aw.ac.hole=true∨n.aw.ac.ak=n.aw.az)) ⟨fun ⟨a,b,c,d,e,f⟩=>⟨a,b,c,d,e,f⟩,fun ⟨a,b,c,d,e,f⟩=>⟨a,b,c,d,e,f⟩⟩
def Zi.ok (n:Zi):Bool:=decide (Zb3 n)
theorem Zi.ok_yes {n:Zi} (h:Zb3 n):n.ok=true:=decide_eq_true h
theorem Zi.ok_no {n:Zi} (h:¬ Zb3 n):n.ok=false:=decide_eq_false h
theorem Zi.ok_is {n:Zi} (h:n.ok=true):Zb3 n:=of_decide_eq_true h
structure Zoy (n:Zi):Prop where
  kind:n.aB=1∨n.aB=2
  links:1≤n.aC∧n.aC≤9
  size:0≤n.al∧n.al≤16*YE n.aB
  is:YC n.aB n.al=(n.al+YE n.aB - 1) / YE n.aB
  many:0≤n.aw.am∧n.aw.am≤16
  depth:0≤n.aw.az∧n.aw.az≤2
theorem Zb3.small {n:Zi} (h:Zb3 n):Zoy n:=by
 have hk:n.aB=1∨n.aB=2:=by
  by_cases h1:n.aB=1
  ·exact .inl h1
  ·by_cases h2:n.aB=2
   ·exact .inr h2
   ·have:=h.many
    rw [Zb2 (Zb1 h1 h2)] at this
    omega
 have he:12≤YE n.aB∧YE n.aB≤128:=by rcases hk with e|e <;> rw [e] <;> decide
 have hs:0≤n.al∧n.al≤16*YE n.aB:=by
  by_cases hs:0≤n.al∧n.al≤16*YE n.aB
  ·exact hs
  ·have:=h.many
   rw [Vk hs] at this
   omega
 have hp:=Zaf (k:=n.aB) (by omega) hs.1 hs.2;have hl:=h.links;have hm:YC n.aB n.al≤16:=by
  rw [hp];have:(n.al+YE n.aB - 1) / YE n.aB<17:=Int.ediv_lt_of_lt_mul (by omega) (by omega)
  omega
 have hd:=YU (YC n.aB n.al);have h1:=h.many;have h2:=h.tmany;have h3:=h.depth;refine ⟨hk,⟨hl.1,?_⟩,hs,hp,by omega,by omega⟩;have:=hl.2
 split at this <;> omega
def Zmo:ByteArray:=⟨#[101,110,100]⟩
def XY (n:Zi):List ByteArray:=[ZX n.aB,ZX n.aC,ZX n.al,Z5 n.aw.ac,ZX n.aw.az,ZX n.aw.am,Zmo]
def Xe (n:Zi):ByteArray:=bif n.ok then (Yy (XY n)).1 else ByteArray.empty
theorem ZaS {n:Zi} (h:n.ok=false):Xe n=ByteArray.empty:=by unfold Xe;rw [h];rfl
theorem Zdj {n:Zi} (h:n.ok=true):Xe n=(Yy (XY n)).1:=by unfold Xe;rw [h];rfl
theorem Zih (n:Zi):(Yk (XY n)).size≤1000:=by
 refine Nat.le_trans (Zb0 (Nat.le_trans (YB _) (by decide)) (Zb0 (Nat.le_trans (YB _) (by decide)) (Zb0 (Nat.le_trans (YB _) (by decide)) (Zb0 (Nat.le_trans (ZcE _) (by decide)) (Zb0 (Nat.le_trans (YB _) (by decide)) (Zb0 (Nat.le_trans (YB _) (by decide)) (Zb0 (y:=Zmo) (by decide) (Nat.le_refl (Yk []).size)))))))) ?_;have h0:(Yk []).size=0:=rfl
 omega
theorem Y6 {n:Zi} (h:n.ok=true):IsRec (Xe n) (XY n):=by
 rw [Zdj h,Xo (by simp only [XY,length_cons,length_nil];omega) (Nat.le_trans (Zih n) (by decide))];exact ⟨rfl,by simp only [XY,length_cons,length_nil];omega⟩
theorem XA (n:Zi):(Xe n).size≤1000:=by
 cases h:n.ok with
 | false=>rw [ZaS h];exact Nat.zero_le _
 | true=>rw [← (Y6 h).is];exact Zih n
theorem ZkQ {m n:Zi} (hm:m.ok=true) (hn:n.ok=true) (h:Xe m=Xe n):m=n:=by
 have h1:=Y6 hm;have h2:=Y6 hn;rw [h] at h1;have e:=h1.one h2;simp only [XY,List.cons.injEq,and_true] at e;obtain ⟨e1,e2,e3,e4,e5,e6⟩:=e;have a:=(Zi.ok_is hm);have b:=(Zi.ok_is hn);have sa:=a.small;have sb:=b.small;have ea:YE m.aB≤128:=by rcases sa.kind with e|e <;> rw [e] <;> decide
 have eb:YE n.aB≤128:=by rcases sb.kind with e|e <;> rw [e] <;> decide
 have k1:=sa.links;have k2:=sa.size;have k3:=sa.many;have k4:=sa.depth;have k5:=sa.kind;have l1:=sb.links;have l2:=sb.size;have l3:=sb.many;have l4:=sb.depth;have l5:=sb.kind;have j1:m.aB=n.aB:=Ud (y:=ZX n.aB) ⟨by omega,by omega,e1⟩ ⟨by omega,by omega,rfl⟩;have j2:m.aC=n.aC:=Ud (y:=ZX n.aC) ⟨by omega,by omega,e2⟩ ⟨by omega,by omega,rfl⟩;have j3:m.al=n.al:=Ud (y:=ZX n.al) ⟨by omega,by omega,e3⟩ ⟨by omega,by omega,rfl⟩;have j4:=ZcG a.root b.root e4;have j5:m.aw.az=n.aw.az:=Ud (y:=ZX n.aw.az) ⟨by omega,by omega,e5⟩ ⟨by omega,by omega,rfl⟩;have j6:m.aw.am=n.aw.am:=Ud (y:=ZX n.aw.am) ⟨by omega,by omega,e6⟩ ⟨by omega,by omega,rfl⟩;obtain ⟨_,_,_,⟨_,_,_⟩⟩:=m;obtain ⟨_,_,_,⟨_,_,_⟩⟩:=n;simp only at j1 j2 j3 j4 j5 j6;rw [j1,j2,j3,j4,j5,j6]
open Classical in
noncomputable def VH (s:ByteArray):Option Zi:=if h:∃ n:Zi,n.ok=true∧Xe n=s then some h.choose else none
theorem Zbp {s:ByteArray} {n:Zi} (hn:n.ok=true) (h:Xe n=s):VH s=some n:=by
 have he:∃ n:Zi,n.ok=true∧Xe n=s:=⟨n,hn,h⟩;unfold VH;rw [dif_pos he];have hc:=he.choose_spec;rw [ZkQ hc.1 hn (hc.2.trans h.symm)]
theorem Zii {s:ByteArray} (h:∀ n:Zi,n.ok=true→Xe n=s→False):VH s=none:=by
 unfold VH;rw [dif_neg fun ⟨n,hn,hs⟩=>h n hn hs]
theorem Zmp {s:ByteArray} {n:Zi} (h:VH s=some n):n.ok=true∧Xe n=s:=by
 unfold VH at h
 split at h
 ·next he=>rw [← Option.some.inj h];exact he.choose_spec
 ·cases h
theorem XZ {n:Zi} (h:n.ok=true):Zoy n∧Jk (ZX n.aB)=some n.aB.toNat∧Jk (ZX n.aC)=some n.aC.toNat∧Jk (ZX n.al)=some n.al.toNat∧Jk (ZX n.aw.az)=some n.aw.az.toNat∧Jk (ZX n.aw.am)=some n.aw.am.toNat:=by
 have sa:=(Zi.ok_is h).small;have ea:YE n.aB≤128:=by rcases sa.kind with e|e <;> rw [e] <;> decide
 have k1:=sa.links;have k2:=sa.size;have k3:=sa.many;have k4:=sa.depth;have k5:=sa.kind;exact ⟨sa,Ys (by omega),Ys (by omega),Ys (by omega),Ys (by omega),Ys (by omega)⟩
theorem ZoP {s:ByteArray} {n k:Nat} (h:l1S s n k):k≤9:=by
 rcases h with ⟨h,_⟩|⟨_,rfl,_⟩
 ·exact h
 ·decide
theorem ZoQ {b:UInt8} (h:((b.toNat:Nat):Int)=58):b=58:=UInt8.toNat_inj.1 (by show b.toNat=58;omega)
theorem Zij {s:ByteArray} {xs:List ByteArray} {r:ByteArray} (h:U0 s xs r) (hs:s.size≤1000000):szs xs:=fun k=>by
 by_cases hk:k<xs.length
 ·have h1:=YT xs hk
  have h2:=congrArg length h.is;rw [length_append,← Zg,← Zg] at h2
  omega
 ·rw [getD_eq_getElem?_getD,List.getElem?_eq_none (by omega)];decide
theorem ZaT {l:List ByteArray} (h:(Yy l).2=true):l.length≤60∧(Yy l).1=Yk l∧(Yk l).size≤2048:=by
 unfold Yy at h ⊢
 split at h
 ·next e=>rw [if_pos e];exact ⟨e.1,rfl,e.2⟩
 ·cases h
theorem ZcO (s:ByteArray) (w0:World) (hs:s.size≤1000000):Calls prog 104 #[.string s] w0 fun e w'=>(∃ xs,IsRec s xs∧s.size≤2048∧∃ ao cp,e=.returned (.tuple #[.slice ao xs.length cp,.bool true])∧St w0 [Zd Zt 1 9 (.slice ao xs.length cp) xs] w')∨((∀ l,IsRec s l→s.size≤2048→False)∧∃ ao,e=.returned (.tuple #[.slice ao 0 0,.bool false])∧Below w0.heap.size w0 w'):=by
 have E:=Bx.mk (St.start w0);refine ent func104 ntmps104 ?_;refine xsr<|xr 2 rfl<|xne<|xsr ?_;refine yem 9 1 E ?_;clear E;intro w1 b1 E;refine xr 1 rfl<|xne<|xsr<|xr 1 rfl<|xne<|xsq<|xbl ?_;replace E:=Bx.mk (E.o.nilRow Zt 1 9 (some ⟨b1,0,none⟩));intro a O;refine ZD (ι:=Nat) (fun p a w=>∃ (ao:Option Addr) (cp:Nat) (xs:List ByteArray),(p≤s.size∧xs.length≤p∧U0 s xs (s.extract p s.size)∧(p≠0→s.size≤2048))∧Fr 92 a [(0,.string s),(2,.slice none 0 0),(3,.bool false),(4,.slice ao xs.length cp),(5,.int .i64 (p:Int))]∧St w0 ([Zd Zt 1 9 (.slice ao xs.length cp) xs]) w) (fun p=>s.size - p) 0 ⟨_,_,[],⟨Nat.zero_le _,Nat.zero_le _,by rw [show s.extract 0 s.size=s from ByteArray.extract_zero_size];exact U0.zero s,fun h=>absurd rfl h⟩,O.ls _,E.o⟩ ?_;clear O E;clear a;rintro p a w2 ⟨ao,cp,xs,⟨hp,hxp,hto,hps⟩,O,E⟩;replace E:=Bx.mk E;revert a;refine xsq<|xsr<|xr 2 rfl<|xy rfl (fun a O=>YN rfl (O.ev rfl) (by kernel_rfl))<|xr 2 rfl<|xcd 15 rfl (fun _ dcc1=>?_) fun _ dcc1=>?_
 refine xr 1 rfl<|xy rfl (fun a O=>YN rfl (O.ev rfl) (by kernel_rfl))<|xr 2 rfl<|xne<|xcd 19 rfl (fun _ dcc2=>?_) fun _ dcc2=>?_;refine xct rfl<|xsk<|xet<|xbl<|xsr<|xr 2 rfl<|xy rfl (fun a O=>ZbR (k:=p) rfl (O.ev rfl) (O.ev rfl) (by kernel_rfl) (by omega) (by omega)) ?_;refine yc (Zgt (s.extract p s.size) _ (by rw [size_extract];omega)) func136 ?_;rintro _ w3 ⟨n,k,hl1,hn9,rfl,hb⟩;refine ⟨_,rfl,?_⟩;replace E:=Bx.mk (E.o.later hb);clear hb;have hk9:=ZoP hl1;refine xr 5 rfl<|xne<|xsq<|xsr<|xr 3 rfl<|xce 29 rfl (fun _ dcc3=>?_) fun _ dcc3=>?_;refine xr 26 rfl<|xne<|xct rfl<|xsr ?_;refine yem 9 1 E ?_;clear E;intro w4 b2 E;refine xr 2 rfl<|xne<|xre<|xtr<|xbr<|xtr<|xbr<|xtr<|xb2 results104 rfl rfl ?_;refine .inr ⟨fun l h h2=>?_,_,rfl,E.o.bel⟩;obtain ⟨q0,q1,q2,q3⟩:=Zhd hto hl1 h h2 (by omega)
 omega
 refine xr 2 rfl<|xy rfl (vad rfl)<|xr 1 rfl<|xy rfl (fun a O=>YN rfl (O.ev rfl) (by kernel_rfl))<|xr 3 rfl<|xcd 37 rfl (fun _ dcc4=>?_) fun _ dcc4=>?_;refine xr 18 rfl<|xne<|xct rfl<|xsr ?_;refine yem 9 1 E ?_;clear E;intro w5 b3 E;refine xr 2 rfl<|xne<|xre<|xtr<|xbr<|xtr<|xbr<|xtr<|xb2 results104 rfl rfl ?_;refine .inr ⟨fun l h h2=>?_,_,rfl,E.o.bel⟩;obtain ⟨q0,q1,q2,q3⟩:=Zhd hto hl1 h h2 (by omega)
 omega
 refine xr 3 rfl<|xy rfl (vad rfl)<|xy rfl (fun a O=>XU (i:=p+k) rfl (O.ev rfl) (O.ev rfl) (by kernel_rfl) (by omega) (by omega))<|xr 3 rfl<|xcn 45 rfl (fun _ dcc5=>?_) fun _ dcc5=>?_;refine xr 10 rfl<|xne<|xct rfl<|xsr ?_;refine yem 9 1 E ?_;clear E;intro w6 b4 E;refine xr 2 rfl<|xne<|xre<|xtr<|xbr<|xtr<|xbr<|xtr<|xb2 results104 rfl rfl ?_;refine .inr ⟨fun l h h2=>?_,_,rfl,E.o.bel⟩;obtain ⟨q0,q1,q2,q3⟩:=Zhd hto hl1 h h2 (by omega);have hq:=congrArg UInt8.toNat q2;have h58:(58:UInt8).toNat=58:=rfl;omega;refine xr 2 rfl<|xy rfl (fun a O=>YN rfl (O.ev rfl) (by kernel_rfl))<|xr 1 rfl<|xy rfl (fun a O=>XE rfl (O.ev rfl) (O.ev rfl) (Qt (by omega)))<|xr 1 rfl<|xy rfl (fun a O=>XE rfl (O.ev rfl) (O.ev rfl) (Qt (by omega)))<|xy rfl (fun a O=>XE rfl (O.ev rfl) (O.ev rfl) (Qt (by omega)))<|xr 2 rfl<|xne<|xcd 55 rfl (fun _ dcc6=>?_) fun _ dcc6=>?_;refine xct rfl<|xsr ?_;refine yem 9 1 E ?_;clear E;intro w7 b5 E;refine xr 2 rfl<|xne<|xre<|xtr<|xbr<|xtr<|xbr<|xtr<|xb2 results104 rfl rfl ?_;refine .inr ⟨fun l h h2=>?_,_,rfl,E.o.bel⟩;obtain ⟨q0,q1,q2,q3⟩:=Zhd hto hl1 h h2 (by omega)
 omega
 refine xcf rfl<|xsk<|xet<|xsr<|xr 4 rfl<|xy rfl (vad rfl)<|xy rfl (vad rfl)<|xr 2 rfl<|xy rfl (vad rfl)<|xy rfl (vad rfl)<|xr 1 rfl<|xy rfl (vad rfl)<|xy rfl (fun a O=>Ze0 (i:=(p+k)+1) (j:=((p+k)+1)+n) rfl (O.ev rfl) (O.ev rfl) (O.ev rfl) (by kernel_rfl) (by omega) (by omega) (by omega) (by omega)) ?_;refine ybs Zt 9 1 [s.extract ((p+k)+1) (((p+k)+1)+n)] E ?_;clear E;intro b6 w8 E;refine yap XR encS_len E 1 (St.rdN E.o encS_len 0 rfl) (Zy _) ?_;clear E;intro ao7 cp8 w9 E;refine xr 1 rfl<|xne<|xrl<|xr 2 rfl<|xy rfl (vad rfl)<|xy rfl (vad rfl)<|xr 1 rfl<|xy rfl (vad rfl)<|xr 1 rfl<|xni<|xeb<|xet ?_;have hz:xs.length+([s.extract ((p+k)+1) (((p+k)+1)+n)]).length=(xs++([s.extract ((p+k)+1) (((p+k)+1)+n)])).length:=(length_append ..).symm;intro a O;rw [hz] at E O;have hto2:=Zmm hto hl1 (by omega) (by omega) (ZoQ (by omega)) (by omega);replace E:=E.pks [1];exact ⟨p+k+1+n,⟨_,_,xs++[s.extract ((p+k)+1) (((p+k)+1)+n)],⟨by omega,by rw [length_append,length_cons,length_nil];omega,hto2,fun _=>by omega⟩,O.less _ ⟨rfl,rfl,rfl,rfl,rfl,trivial⟩,(E.o.erase 1)⟩,(by omega)⟩;refine xcf rfl<|xex<|xtx<|xtx<|xbh<|xet<|xsr<|xr 1 rfl ?_;refine ycB (UR _ _ _ xs _ (by omega) (Zij hto (by omega)) (St.rdOf E.o encS_len 0 rfl)) func83 E ?_;clear E;intro w10 E;refine xr 5 rfl<|xne<|xsq<|xsr<|xr 3 rfl<|xcs 85 rfl (fun cc7=>?_) fun cc7=>?_;refine xr 4 rfl<|xne<|xct rfl<|xsr ?_;refine yem 9 1 E ?_;clear E;intro w11 b9 E;refine xr 2 rfl<|xne<|xre<|xtr<|xb2 results104 rfl rfl ?_;refine .inr ⟨fun l h h2=>?_,_,rfl,E.o.bel⟩;have hx:Yk xs=s:=ZcN hto (by omega);have e:xs=l:=ZaE (hx.trans h.is.symm);subst e;have hy:=Xo h.many (by rw [hx];exact h2);rw [hx] at hy;simp [hy] at cc7;refine xr 2 rfl<|xy rfl (fun a O=>Jg rfl (O.ev rfl) (O.ev rfl))<|xr 1 rfl<|xne<|xcs 89 rfl (fun cc8=>?_) fun cc8=>?_;refine xct rfl<|xsr ?_;refine yem 9 1 E ?_;clear E;intro w12 b10 E;refine xr 2 rfl<|xne<|xre<|xtr<|xb2 results104 rfl rfl ?_;refine .inr ⟨fun l h h2=>?_,_,rfl,E.o.bel⟩;have hx:Yk xs=s:=ZcN hto (by omega);have e:xs=l:=ZaE (hx.trans h.is.symm);subst e;have hy:=Xo h.many (by rw [hx];exact h2);rw [hx] at hy;simp [hy] at cc8;refine xcf rfl<|xsk<|xet<|xsr<|xr 3 rfl<|xne<|xre<|xb2 results104 rfl rfl ?_;have hf2:(Yy xs).2=true:=(by simpa using cc7);have hf1:(Yy xs).1=s:=Yi (by simpa using cc8);obtain ⟨q1,q2⟩:=ZaT hf2;rw [q2.1] at hf1;have hq2:=q2.2;rw [hf1] at hq2;exact .inl ⟨xs,⟨hf1,q1⟩,hq2,_,_,rfl,E.o⟩;refine xr 4 rfl<|xne<|xcf rfl<|xex<|xtx<|xtx<|xbh<|xet<|xsr<|xr 1 rfl ?_;refine ycB (UR _ _ _ xs _ (by omega) (Zij hto (by omega)) (St.rdOf E.o encS_len 0 rfl)) func83 E ?_;clear E;intro w13 E;refine xr 5 rfl<|xne<|xsq<|xsr<|xr 3 rfl<|xcs 85 rfl (fun cc9=>?_) fun cc9=>?_;refine xr 4 rfl<|xne<|xct rfl<|xsr ?_;refine yem 9 1 E ?_;clear E;intro w14 b11 E;refine xr 2 rfl<|xne<|xre<|xtr<|xb2 results104 rfl rfl ?_;refine .inr ⟨fun l h h2=>?_,_,rfl,E.o.bel⟩;have hx:Yk xs=s:=ZcN hto (by omega);have e:xs=l:=ZaE (hx.trans h.is.symm);subst e;have hy:=Xo h.many (by rw [hx];exact h2);rw [hx] at hy;simp [hy] at cc9;refine xr 2 rfl<|xy rfl (fun a O=>Jg rfl (O.ev rfl) (O.ev rfl))<|xr 1 rfl<|xne<|xcs 89 rfl (fun cc10=>?_) fun cc10=>?_;refine xct rfl<|xsr ?_;refine yem 9 1 E ?_;clear E;intro w15 b12 E;refine xr 2 rfl<|xne<|xre<|xtr<|xb2 results104 rfl rfl ?_;refine .inr ⟨fun l h h2=>?_,_,rfl,E.o.bel⟩;have hx:Yk xs=s:=ZcN hto (by omega);have e:xs=l:=ZaE (hx.trans h.is.symm);subst e;have hy:=Xo h.many (by rw [hx];exact h2);rw [hx] at hy;simp [hy] at cc10;refine xcf rfl<|xsk<|xet<|xsr<|xr 3 rfl<|xne<|xre<|xb2 results104 rfl rfl ?_;have hf2:(Yy xs).2=true:=(by simpa using cc9);have hf1:(Yy xs).1=s:=Yi (by simpa using cc10);obtain ⟨q1,q2⟩:=ZaT hf2;rw [q2.1] at hf1;have hq2:=q2.2;rw [hf1] at hq2;exact .inl ⟨xs,⟨hf1,q1⟩,hq2,_,_,rfl,E.o⟩
theorem Zik (kind:Int) (w0:World):Calls prog 74 #[.int .i64 kind] w0 fun e w'=>e=.returned (.int .i64 (YE kind))∧Below w0.heap.size w0 w':=by
 have E:=Bx.mk (St.start w0);refine ent func74 ntmps74 ?_;refine xsr<|xr 1 rfl<|xne<|xsq<|xsr<|xr 1 rfl<|xne<|xbl<|xsr<|xr 2 rfl<|xne<|xce 4 rfl (fun _ dcc1=>?_) fun _ dcc1=>?_;refine xct rfl<|xsr<|xr 1 rfl<|xne<|xre<|xbr<|xtr<|xb1 results74 rfl ?_;have he:YE kind=12:=by rw [dcc1];rfl
 exact ⟨by rw [he],E.o.bel⟩;refine xcf rfl<|xsr<|xr 2 rfl<|xne<|xce 6 rfl (fun _ dcc2=>?_) fun _ dcc2=>?_;refine xct rfl<|xsr<|xr 1 rfl<|xne<|xre<|xbr<|xtr<|xb1 results74 rfl ?_;have he:YE kind=128:=by rw [dcc2];rfl
 exact ⟨by rw [he],E.o.bel⟩;refine xcf rfl<|xsk<|xeb<|xet<|xsr<|xr 1 rfl<|xne<|xre<|xb1 results74 rfl ?_;have he:YE kind=0:=Zb1 dcc1 dcc2;exact ⟨by rw [he],E.o.bel⟩
theorem Zf3 (size each:Int) (h0:0≤size) (h1:1≤each) (hs:size≤1000000) (he:each≤1000000) (w0:World):Calls prog 75 #[.int .i64 size,.int .i64 each] w0 fun e w'=>e=.returned (.int .i64 ((size+each - (1:Int)) / each))∧Below w0.heap.size w0 w':=by
 have E:=Bx.mk (St.start w0);refine ent func75 ntmps75 ?_;refine xsr<|xr 1 rfl<|xne<|xsr<|xr 2 rfl<|xy rfl (vad rfl)<|xy rfl (fun a O=>XE rfl (O.ev rfl) (O.ev rfl) (Qt (by omega)))<|xr 1 rfl<|xy rfl (fun a O=>Zef rfl (O.ev rfl) (O.ev rfl) (by omega) (Zeg (by omega) (by omega) (by omega)))<|xr 1 rfl<|xne<|xre<|xb1 results75 rfl ?_;exact ⟨rfl,E.o.bel⟩
theorem Xg (k:Int):0≤YE k∧YE k≤128:=by
 unfold YE
 split
 ·omega
 ·split <;> omega
theorem Zb4 (kind size:Int) (w0:World):Calls prog 57 #[.int .i64 kind,.int .i64 size] w0 fun e w'=>e=.returned (.int .i64 (YC kind size))∧Below w0.heap.size w0 w':=by
 have E:=Bx.mk (St.start w0);refine ent func57 ntmps57 ?_;refine xsr<|xr 1 rfl<|xne<|xsr<|xr 1 rfl<|xne<|xsq<|xsq ?_;have hel:=Xg kind;refine xrl<|xr 1 rfl<|xne<|xbl<|xsr<|xr 2 rfl<|xne<|xce 7 rfl (fun _ dcc1=>?_) fun _ dcc1=>?_;refine xct rfl<|xrl<|xr 1 rfl<|xni<|xeb<|xet<|xsq<|xsr<|xr 3 rfl ?_;intro a O;replace O:=O.know (k:=13) (c:=false) rfl (by decide);revert a;refine xr 2 rfl<|xy rfl (fun a O=>Uv (r:=192) rfl (O.ev rfl) (O.ev rfl) (by decide)) ?_;refine Ji ((Yd size 0 192 _).mono fun _ _ h=>⟨h.1,h.2 ▸ Below.refl _ _⟩) func28 E ?_;clear E;intro w1 E;refine xr 2 rfl<|xne<|xcs 19 rfl (fun cc2=>?_) fun cc2=>?_;have hin:inB size 0 192=false:=by simpa using cc2
 refine xct rfl<|xsr<|xr 1 rfl<|xne<|xre<|xtr<|xb1 results57 rfl ?_;have he:YE kind=12:=by rw [dcc1];rfl
 have hp:YC kind size=-1:=Vk (fun h=>by rw [he] at h;rw [V6 h.1 (by omega)] at hin;cases hin);exact ⟨by rw [hp],E.o.bel⟩;have hin:inB size 0 192=true:=by simpa using cc2
 have hib:=Zo hin;refine xcf rfl<|xsk<|xet<|xsr<|xr 2 rfl<|xy rfl (vad rfl)<|xy rfl (fun a O=>XE rfl (O.ev rfl) (O.ev rfl) (Qt (by omega)))<|xr 1 rfl<|xy rfl (fun a O=>Zef rfl (O.ev rfl) (O.ev rfl) (by omega) (Zeg (by omega) (by omega) (by omega)))<|xr 1 rfl<|xne<|xre<|xb1 results57 rfl ?_;have he:YE kind=12:=by rw [dcc1];rfl
 have hp:YC kind size=((size+12) - 1) / 12:=by rw [Zaf (k:=kind) (by omega) (by omega) (by omega),he]
 exact ⟨by rw [hp],E.o.bel⟩;refine xcf rfl<|xsr<|xr 2 rfl<|xne<|xce 9 rfl (fun _ dcc3=>?_) fun _ dcc3=>?_;refine xct rfl<|xrl<|xr 1 rfl<|xni<|xeb<|xet<|xsq<|xsr<|xr 3 rfl ?_;intro a O;replace O:=O.know (k:=13) (c:=false) rfl (by decide);revert a;refine xr 2 rfl<|xy rfl (fun a O=>Uv (r:=2048) rfl (O.ev rfl) (O.ev rfl) (by decide)) ?_;refine Ji ((Yd size 0 2048 _).mono fun _ _ h=>⟨h.1,h.2 ▸ Below.refl _ _⟩) func28 E ?_;clear E;intro w2 E;refine xr 2 rfl<|xne<|xcs 19 rfl (fun cc4=>?_) fun cc4=>?_;have hin:inB size 0 2048=false:=by simpa using cc4
 refine xct rfl<|xsr<|xr 1 rfl<|xne<|xre<|xtr<|xb1 results57 rfl ?_;have he:YE kind=128:=by rw [dcc3];rfl
 have hp:YC kind size=-1:=Vk (fun h=>by rw [he] at h;rw [V6 h.1 (by omega)] at hin;cases hin);exact ⟨by rw [hp],E.o.bel⟩;have hin:inB size 0 2048=true:=by simpa using cc4
 have hib:=Zo hin;refine xcf rfl<|xsk<|xet<|xsr<|xr 2 rfl<|xy rfl (vad rfl)<|xy rfl (fun a O=>XE rfl (O.ev rfl) (O.ev rfl) (Qt (by omega)))<|xr 1 rfl<|xy rfl (fun a O=>Zef rfl (O.ev rfl) (O.ev rfl) (by omega) (Zeg (by omega) (by omega) (by omega)))<|xr 1 rfl<|xne<|xre<|xb1 results57 rfl ?_;have he:YE kind=128:=by rw [dcc3];rfl
 have hp:YC kind size=((size+128) - 1) / 128:=by rw [Zaf (k:=kind) (by omega) (by omega) (by omega),he]
 exact ⟨by rw [hp],E.o.bel⟩;refine xcf rfl<|xsk<|xeb<|xet<|xsq<|xsr<|xr 3 rfl ?_;intro a O;replace O:=O.know (k:=13) (c:=true) rfl (by decide);revert a;refine xr 6 rfl<|xne<|xct rfl<|xsr<|xr 1 rfl<|xne<|xre<|xtr<|xb1 results57 rfl ?_;have he:YE kind=0:=Zb1 dcc1 dcc3;have hp:YC kind size=-1:=Zb2 (he);exact ⟨by rw [hp],E.o.bel⟩
theorem Zb5 (kind size:Int) (w0:World):Calls prog 46 #[.int .i64 kind,.int .i64 size] w0 fun e w'=>e=.returned (.int .i64 (YC kind size))∧Below w0.heap.size w0 w':=by
 have E:=Bx.mk (St.start w0);refine ent func46 ntmps46 ?_;refine xsr<|xr 1 rfl<|xne<|xsr<|xr 1 rfl ?_;refine ycB (Zik kind _) func74 E ?_;clear E;intro w1 E;refine xr 1 rfl<|xne<|xsq<|xsq ?_;have hel:=Xg kind;refine xrl<|xr 3 rfl<|xce 10 rfl (fun _ dcc1=>?_) fun _ dcc1=>?_;refine xr 6 rfl<|xne<|xct rfl<|xsr<|xr 1 rfl<|xne<|xre<|xtr<|xb1 results46 rfl ?_;have hp:YC kind size=-1:=Zb2 (by omega);exact ⟨by rw [hp],E.o.bel⟩;refine xr 2 rfl<|xy rfl (fun a O=>Uv rfl (O.ev rfl) (O.ev rfl) (Qt (by omega))) ?_;refine Ji ((YY size 0 ((16:Int)*(YE kind)) _).mono fun _ _ h=>⟨h.1,h.2 ▸ Below.refl _ _⟩) func18 E ?_;clear E;intro w2 E;refine xr 2 rfl<|xne<|xcs 16 rfl (fun cc2=>?_) fun cc2=>?_;have hin:inB size 0 ((16:Int)*(YE kind))=false:=by simpa using cc2
 refine xct rfl<|xsr<|xr 1 rfl<|xne<|xre<|xtr<|xb1 results46 rfl ?_;have hp:YC kind size=-1:=Vk (fun h=>by rw [V6 h.1 (by omega)] at hin;cases hin);exact ⟨by rw [hp],E.o.bel⟩;have hin:inB size 0 ((16:Int)*(YE kind))=true:=by simpa using cc2
 have hib:=Zo hin;refine xcf rfl<|xsk<|xet<|xsr<|xr 2 rfl ?_;refine ycB (Zf3 size (YE kind) (by omega) (by omega) (by omega) (by omega) _) func75 E ?_;clear E;intro w3 E;refine xr 1 rfl<|xne<|xre<|xb1 results46 rfl ?_;have hp:YC kind size=((size+(YE kind) - (1:Int)) / (YE kind)):=Zaf (k:=kind) (by omega) (by omega) (by omega);exact ⟨by rw [hp],E.o.bel⟩
theorem ZaU (n:Zi) (w0:World):Calls prog 29 #[nV n] w0 fun e w'=>e=.returned (.bool n.ok)∧Below w0.heap.size w0 w':=by
 have E:=Bx.mk (St.start w0);refine ent func29 ntmps29 ?_;refine xsr ?_;refine ybx E ?_;clear E;intro w1 b1 E;refine xr 1 rfl<|xne<|xsr<|Xf 0 rfl<|Xl 0 E rfl rfl<|Xf 2 rfl<|Xl 0 E rfl rfl ?_;refine ycB (Zb4 n.aB n.al _) func57 E ?_;clear E;intro w2 E;refine xr 1 rfl<|xne<|xsr<|xr 1 rfl<|xne<|xsq<|xsr<|Xf 0 rfl<|Xl 0 E rfl rfl<|xr 1 rfl<|xne<|xce 12 rfl (fun _ dcc1=>?_) fun _ dcc1=>?_;refine xct rfl<|xrl<|xr 1 rfl<|xne<|xsq ?_;intro a O;refine Yr (by kernel_rfl) (by kernel_rfl) E.o ?_;revert a;refine xqr 3 rfl<|xcd 15 rfl (fun _ dcc2=>?_) fun _ dcc2=>?_
 refine Qf 1 rfl<|Ql 0 rfl rfl<|xqr 1 rfl ?_;refine yqg (fun _ E=>((Yd n.aC 1 1 _).mono fun _ _ h=>⟨h.1,h.2 ▸ Below.refl _ _⟩)) func28 ?_;refine xqr 2 rfl<|xcs 21 rfl (fun cc3=>?_) fun cc3=>?_;refine Qf 3 rfl<|Qf 6 rfl<|Ql 0 rfl rfl<|xqr 4 rfl<|xce 28 rfl (fun _ dcc4=>?_) fun _ dcc4=>?_;refine Qf 3 rfl<|Qf 5 rfl<|Ql 0 rfl rfl<|xqr 1 rfl ?_;refine yqg (fun _ E=>Vj (YC n.aB n.al) _) func58 ?_;refine xqr 3 rfl<|xce 36 rfl (fun _ dcc5=>?_) fun _ dcc5=>?_;refine Qf 3 rfl<|Qf 0 rfl<|Qw 0 5 rfl rfl ?_;refine yqg (fun _ E=>Xm n.aw.ac _) func59 ?_;refine xqr 2 rfl<|xcs 42 rfl (fun cc6=>?_) fun cc6=>?_;refine Qf 3 rfl<|Qf 0 rfl<|Qw 0 5 rfl rfl ?_;refine yqg (fun _ E=>Ye n.aw.ac _) func60 ?_;refine xqr 1 rfl<|xcs 47 rfl (fun cc7=>?_) fun cc7=>?_;refine xqr 11 rfl ?_;intro a O;refine wpQuiet_nil ?_;intro w3 E;replace E:=Bx.mk E;revert a;refine xet<|xre<|xb1 results29 rfl ?_;have hok:n.ok=true:=Zi.ok_yes ⟨by omega,by have h:=Zo (by simpa using cc3);rw [if_pos dcc1];exact h,by simpa using dcc4,by simpa using dcc5,by simpa using cc6,.inl (by simpa using cc7)⟩;exact ⟨by rw [hok],E.o.bel⟩;refine Qf 3 rfl<|Qf 0 rfl<|Qf 4 rfl<|Ql 0 rfl rfl<|Qf 3 rfl<|Qf 5 rfl<|Ql 0 rfl rfl<|xqr 4 rfl ?_;intro a O;refine wpQuiet_nil ?_;intro w4 E;replace E:=Bx.mk E;revert a;refine xet<|xre<|xb1 results29 rfl ?_
 cases hlast:(n.aw.ac.ak == n.aw.az) with
 | true =>
   have hok:n.ok=true:=Zi.ok_yes ⟨by omega,by have h:=Zo (by simpa using cc3);rw [if_pos dcc1];exact h,by simpa using dcc4,by simpa using dcc5,by simpa using cc6,.inr (eq_of_beq hlast)⟩;exact ⟨by rw [hok] <;> rfl,E.o.bel⟩
 | false =>
   have hok:n.ok=false:=Zi.ok_no fun h=>by
     rcases h.level with h|h
     · rw [h] at cc7;simp at cc7
     · rw [h] at hlast;simp at hlast
   exact ⟨by rw [hok] <;> rfl,E.o.bel⟩
 refine xqr 16 rfl ?_;intro a O;refine wpQuiet_nil ?_;intro w5 E;replace E:=Bx.mk E;revert a;refine xet<|xre<|xb1 results29 rfl ?_;have hok:n.ok=false:=Zi.ok_no fun h=>by
   rw [h.root] at cc6;simp at cc6
 exact ⟨by rw [hok],E.o.bel⟩;refine xqr 22 rfl ?_;intro a O;refine wpQuiet_nil ?_;intro w6 E;replace E:=Bx.mk E;revert a;refine xet<|xre<|xb1 results29 rfl ?_;have hok:n.ok=false:=Zi.ok_no fun h=>by
   exact dcc5 h.depth
 exact ⟨by rw [hok],E.o.bel⟩;refine xqr 30 rfl ?_;intro a O;refine wpQuiet_nil ?_;intro w7 E;replace E:=Bx.mk E;revert a;refine xet<|xre<|xb1 results29 rfl ?_;have hok:n.ok=false:=Zi.ok_no fun h=>by
   exact dcc4 h.tmany
 exact ⟨by rw [hok],E.o.bel⟩;refine xqr 37 rfl ?_;intro a O;refine wpQuiet_nil ?_;intro w8 E;replace E:=Bx.mk E;revert a;refine xet<|xre<|xb1 results29 rfl ?_;have hok:n.ok=false:=Zi.ok_no fun h=>by
   have h1:=h.links;rw [if_pos dcc1] at h1;rw [V6 h1.1 h1.2] at cc3;simp at cc3
 exact ⟨by rw [hok],E.o.bel⟩;refine xqr 43 rfl ?_;intro a O;refine wpQuiet_nil ?_;intro w9 E;replace E:=Bx.mk E;revert a;refine xet<|xre<|xb1 results29 rfl ?_;have hok:n.ok=false:=Zi.ok_no fun h=>by
   have:=h.many;omega
 exact ⟨by rw [hok],E.o.bel⟩;refine xcf rfl<|xsk<|xet<|xsq ?_;intro a O;refine Yr (by kernel_rfl) (by kernel_rfl) E.o ?_;revert a;refine xqr 3 rfl<|xcd 15 rfl (fun _ dcc8=>?_) fun _ dcc8=>?_
 refine Qf 1 rfl<|Ql 0 rfl rfl<|xqr 1 rfl ?_;refine yqg (fun _ E=>((Yd n.aC 1 9 _).mono fun _ _ h=>⟨h.1,h.2 ▸ Below.refl _ _⟩)) func28 ?_;refine xqr 2 rfl<|xcs 21 rfl (fun cc9=>?_) fun cc9=>?_;refine Qf 3 rfl<|Qf 6 rfl<|Ql 0 rfl rfl<|xqr 4 rfl<|xce 28 rfl (fun _ dcc10=>?_) fun _ dcc10=>?_;refine Qf 3 rfl<|Qf 5 rfl<|Ql 0 rfl rfl<|xqr 1 rfl ?_;refine yqg (fun _ E=>Vj (YC n.aB n.al) _) func58 ?_;refine xqr 3 rfl<|xce 36 rfl (fun _ dcc11=>?_) fun _ dcc11=>?_;refine Qf 3 rfl<|Qf 0 rfl<|Qw 0 5 rfl rfl ?_;refine yqg (fun _ E=>Xm n.aw.ac _) func59 ?_;refine xqr 2 rfl<|xcs 42 rfl (fun cc12=>?_) fun cc12=>?_;refine Qf 3 rfl<|Qf 0 rfl<|Qw 0 5 rfl rfl ?_;refine yqg (fun _ E=>Ye n.aw.ac _) func60 ?_;refine xqr 1 rfl<|xcs 47 rfl (fun cc13=>?_) fun cc13=>?_;refine xqr 11 rfl ?_;intro a O;refine wpQuiet_nil ?_;intro w10 E;replace E:=Bx.mk E;revert a;refine xet<|xre<|xb1 results29 rfl ?_;have hok:n.ok=true:=Zi.ok_yes ⟨by omega,by have h:=Zo (by simpa using cc9);rw [if_neg dcc1];exact h,by simpa using dcc10,by simpa using dcc11,by simpa using cc12,.inl (by simpa using cc13)⟩;exact ⟨by rw [hok],E.o.bel⟩;refine Qf 3 rfl<|Qf 0 rfl<|Qf 4 rfl<|Ql 0 rfl rfl<|Qf 3 rfl<|Qf 5 rfl<|Ql 0 rfl rfl<|xqr 4 rfl ?_;intro a O;refine wpQuiet_nil ?_;intro w11 E;replace E:=Bx.mk E;revert a;refine xet<|xre<|xb1 results29 rfl ?_
 cases hlast:(n.aw.ac.ak == n.aw.az) with
 | true =>
   have hok:n.ok=true:=Zi.ok_yes ⟨by omega,by have h:=Zo (by simpa using cc9);rw [if_neg dcc1];exact h,by simpa using dcc10,by simpa using dcc11,by simpa using cc12,.inr (eq_of_beq hlast)⟩;exact ⟨by rw [hok] <;> rfl,E.o.bel⟩
 | false =>
   have hok:n.ok=false:=Zi.ok_no fun h=>by
     rcases h.level with h|h
     · rw [h] at cc13;simp at cc13
     · rw [h] at hlast;simp at hlast
   exact ⟨by rw [hok] <;> rfl,E.o.bel⟩
 refine xqr 16 rfl ?_;intro a O;refine wpQuiet_nil ?_;intro w12 E;replace E:=Bx.mk E;revert a;refine xet<|xre<|xb1 results29 rfl ?_;have hok:n.ok=false:=Zi.ok_no fun h=>by
   rw [h.root] at cc12;simp at cc12
 exact ⟨by rw [hok],E.o.bel⟩;refine xqr 22 rfl ?_;intro a O;refine wpQuiet_nil ?_;intro w13 E;replace E:=Bx.mk E;revert a;refine xet<|xre<|xb1 results29 rfl ?_;have hok:n.ok=false:=Zi.ok_no fun h=>by
   exact dcc11 h.depth
 exact ⟨by rw [hok],E.o.bel⟩;refine xqr 30 rfl ?_;intro a O;refine wpQuiet_nil ?_;intro w14 E;replace E:=Bx.mk E;revert a;refine xet<|xre<|xb1 results29 rfl ?_;have hok:n.ok=false:=Zi.ok_no fun h=>by
   exact dcc10 h.tmany
 exact ⟨by rw [hok],E.o.bel⟩;refine xqr 37 rfl ?_;intro a O;refine wpQuiet_nil ?_;intro w15 E;replace E:=Bx.mk E;revert a;refine xet<|xre<|xb1 results29 rfl ?_;have hok:n.ok=false:=Zi.ok_no fun h=>by
   have h1:=h.links;rw [if_neg dcc1] at h1;rw [V6 h1.1 h1.2] at cc9;simp at cc9
 exact ⟨by rw [hok],E.o.bel⟩;refine xqr 43 rfl ?_;intro a O;refine wpQuiet_nil ?_;intro w16 E;replace E:=Bx.mk E;revert a;refine xet<|xre<|xb1 results29 rfl ?_;have hok:n.ok=false:=Zi.ok_no fun h=>by
   have:=h.many;omega
 exact ⟨by rw [hok],E.o.bel⟩
theorem UU (n:Zi) (w0:World):Calls prog 19 #[nV n] w0 fun e w'=>e=.returned (.bool n.ok)∧Below w0.heap.size w0 w':=by
 have E:=Bx.mk (St.start w0);refine ent func19 ntmps19 ?_;refine xsr ?_;refine ybx E ?_;clear E;intro w1 b1 E;refine xr 1 rfl<|xne<|xsr<|Xf 0 rfl<|Xl 0 E rfl rfl<|Xf 2 rfl<|Xl 0 E rfl rfl ?_;refine ycB (Zb5 n.aB n.al _) func46 E ?_;clear E;intro w2 E;refine xr 1 rfl<|xne<|xsq<|xsq ?_;intro a O;refine Yr (by kernel_rfl) (by kernel_rfl) E.o ?_;revert a;refine xqr 3 rfl<|xcd 12 rfl (fun _ dcc1=>?_) fun _ dcc1=>?_
 refine xqr 21 rfl ?_;intro a O;refine wpQuiet_nil ?_;intro w3 E;replace E:=Bx.mk E;revert a;refine xet<|xct rfl<|xsr<|xr 1 rfl<|xne<|xre<|xtr<|xb1 results19 rfl ?_;have hok:n.ok=false:=Zi.ok_no fun h=>by
   have:=h.many;omega
 exact ⟨by rw [hok],E.o.bel⟩;refine Qf 3 rfl<|Qf 6 rfl<|Ql 0 rfl rfl<|xqr 4 rfl<|xcn 19 rfl (fun _ dcc2=>?_) fun _ dcc2=>?_;refine xqr 14 rfl ?_;intro a O;refine wpQuiet_nil ?_;intro w4 E;replace E:=Bx.mk E;revert a;refine xet<|xct rfl<|xsr<|xr 1 rfl<|xne<|xre<|xtr<|xb1 results19 rfl ?_;have hok:n.ok=false:=Zi.ok_no fun h=>by
   exact dcc2 h.tmany
 exact ⟨by rw [hok],E.o.bel⟩;refine Qf 3 rfl<|Qf 5 rfl<|Ql 0 rfl rfl<|xqr 1 rfl ?_;refine yqg (fun _ E=>ZaO (YC n.aB n.al) _) func47 ?_;refine xqr 3 rfl<|xcn 27 rfl (fun _ dcc3=>?_) fun _ dcc3=>?_;refine xqr 6 rfl ?_;intro a O;refine wpQuiet_nil ?_;intro w5 E;replace E:=Bx.mk E;revert a;refine xet<|xct rfl<|xsr<|xr 1 rfl<|xne<|xre<|xtr<|xb1 results19 rfl ?_;have hok:n.ok=false:=Zi.ok_no fun h=>by
   exact dcc3 h.depth
 exact ⟨by rw [hok],E.o.bel⟩;refine Qf 3 rfl<|Qf 0 rfl<|Qw 0 5 rfl rfl ?_;refine yqg (fun _ E=>ZZ n.aw.ac _) func48 ?_;refine xqr 2 rfl ?_;intro a O;refine wpQuiet_nil ?_;intro w6 E;replace E:=Bx.mk E;revert a;refine xet<|xcs 33 rfl (fun cc4=>?_) fun cc4=>?_
 refine xct rfl<|xsr<|xr 1 rfl<|xne<|xre<|xtr<|xb1 results19 rfl ?_;have hok:n.ok=false:=Zi.ok_no fun h=>by
   rw [h.root] at cc4;simp at cc4
 exact ⟨by rw [hok],E.o.bel⟩;refine xcf rfl<|xsk<|xet<|xsr<|xr 1 rfl<|xne<|xsq<|xsr<|Xf 0 rfl<|Xl 0 E rfl rfl<|xr 1 rfl<|xne<|xce 36 rfl (fun _ dcc5=>?_) fun _ dcc5=>?_;refine xct rfl<|xrl<|xr 1 rfl<|xne<|xsr<|Xf 1 rfl<|Xl 0 E rfl rfl<|xr 1 rfl ?_;refine ycB ((YY n.aC 1 1 _).mono fun _ _ h=>⟨h.1,h.2 ▸ Below.refl _ _⟩) func18 E ?_;clear E;intro w7 E;refine xr 1 rfl<|xcs 41 rfl (fun cc6=>?_) fun cc6=>?_;refine Xf 3 rfl<|Xf 0 rfl<|Xw 0 5 E rfl rfl ?_;refine Ji (ZL n.aw.ac _) func49 E ?_;clear E;intro w8 E;refine xr 1 rfl<|xcs 46 rfl (fun cc7=>?_) fun cc7=>?_;refine xr 11 rfl<|xne<|xre<|xb1 results19 rfl ?_;have hok:n.ok=true:=Zi.ok_yes ⟨by omega,by have h:=Zo (by simpa using cc6);rw [if_pos dcc5];exact h,by simpa using dcc2,by simpa using dcc3,by simpa using cc4,.inl (by simpa using cc7)⟩;exact ⟨by rw [hok],E.o.bel⟩;refine Xf 3 rfl<|Xf 0 rfl<|Xf 4 rfl<|Xl 0 E rfl rfl<|Xf 3 rfl<|Xf 5 rfl<|Xl 0 E rfl rfl<|xr 4 rfl<|xne<|xre<|xb1 results19 rfl ?_
 cases hlast:(n.aw.ac.ak == n.aw.az) with
 | true =>
   have hok:n.ok=true:=Zi.ok_yes ⟨by omega,by have h:=Zo (by simpa using cc6);rw [if_pos dcc5];exact h,by simpa using dcc2,by simpa using dcc3,by simpa using cc4,.inr (eq_of_beq hlast)⟩;exact ⟨by rw [hok] <;> rfl,E.o.bel⟩
 | false =>
   have hok:n.ok=false:=Zi.ok_no fun h=>by
     rcases h.level with h|h
     · rw [h] at cc7;simp at cc7
     · rw [h] at hlast;simp at hlast
   exact ⟨by rw [hok] <;> rfl,E.o.bel⟩
 refine xr 16 rfl<|xne<|xre<|xb1 results19 rfl ?_;have hok:n.ok=false:=Zi.ok_no fun h=>by
   have h1:=h.links;rw [if_pos dcc5] at h1;rw [V6 h1.1 h1.2] at cc6;simp at cc6
 exact ⟨by rw [hok],E.o.bel⟩;refine xcf rfl<|xsk<|xet<|xsr<|Xf 1 rfl<|Xl 0 E rfl rfl<|xr 1 rfl ?_;refine ycB ((YY n.aC 1 9 _).mono fun _ _ h=>⟨h.1,h.2 ▸ Below.refl _ _⟩) func18 E ?_;clear E;intro w9 E;refine xr 1 rfl<|xcs 41 rfl (fun cc8=>?_) fun cc8=>?_;refine Xf 3 rfl<|Xf 0 rfl<|Xw 0 5 E rfl rfl ?_;refine Ji (ZL n.aw.ac _) func49 E ?_;clear E;intro w10 E;refine xr 1 rfl<|xcs 46 rfl (fun cc9=>?_) fun cc9=>?_;refine xr 11 rfl<|xne<|xre<|xb1 results19 rfl ?_;have hok:n.ok=true:=Zi.ok_yes ⟨by omega,by have h:=Zo (by simpa using cc8);rw [if_neg dcc5];exact h,by simpa using dcc2,by simpa using dcc3,by simpa using cc4,.inl (by simpa using cc9)⟩;exact ⟨by rw [hok],E.o.bel⟩;refine Xf 3 rfl<|Xf 0 rfl<|Xf 4 rfl<|Xl 0 E rfl rfl<|Xf 3 rfl<|Xf 5 rfl<|Xl 0 E rfl rfl<|xr 4 rfl<|xne<|xre<|xb1 results19 rfl ?_
 cases hlast:(n.aw.ac.ak == n.aw.az) with
 | true =>
   have hok:n.ok=true:=Zi.ok_yes ⟨by omega,by have h:=Zo (by simpa using cc8);rw [if_neg dcc5];exact h,by simpa using dcc2,by simpa using dcc3,by simpa using cc4,.inr (eq_of_beq hlast)⟩;exact ⟨by rw [hok] <;> rfl,E.o.bel⟩
 | false =>
   have hok:n.ok=false:=Zi.ok_no fun h=>by
     rcases h.level with h|h
     · rw [h] at cc9;simp at cc9
     · rw [h] at hlast;simp at hlast
   exact ⟨by rw [hok] <;> rfl,E.o.bel⟩
 refine xr 16 rfl<|xne<|xre<|xb1 results19 rfl ?_;have hok:n.ok=false:=Zi.ok_no fun h=>by
   have h1:=h.links;rw [if_neg dcc5] at h1;rw [V6 h1.1 h1.2] at cc8;simp at cc8
 exact ⟨by rw [hok],E.o.bel⟩
theorem Box.putAt {w:World} {b n:Nat} {t:TypeId} {cs:List Value} (h:Box w b n t (.agg cs.toArray)) (k:Nat) (ds:List Value) (hk:k+ds.length≤cs.length) (g1:∀ u ∈ ds,u.oneCell'=true) :
  w.there b k ds.length∧Box (w.setCells b k ds) b n t (.agg (YK cs k ds).toArray)∧YA b (b+1) w (w.setCells b k ds):=by
 obtain ⟨cs',e,hl,h1,hh⟩:=h;obtain rfl:cs=cs':=by simpa using e
 obtain ⟨k1,k2,k3⟩:=VV ds k w cs hh hk;refine ⟨fun j hj=>⟨by rw [Zc hh];simp;omega,ZE hh _⟩,⟨_,rfl,?_,?_,k1⟩,k2⟩
 ·unfold YK;simp;omega
 ·intro u hu
  unfold YK at hu;rcases mem_append.1 hu with hu|hu
  ·rcases mem_append.1 hu with hu|hu
   ·exact h1 u (List.mem_of_mem_take hu)
   ·exact g1 u hu
  ·exact h1 u (List.mem_of_mem_drop hu)
section
variable {P:Program} {ops:Array Oper} {Q:Exit→Act→World→Prop} {rest:List Oper} {o:Oper} {a:Act} {W w:World} {s:List Asr}
theorem Y7 (hg:o.guard=none) {t:TypeId} {x y:Operand} (ho:o.op=.store t x y) (hd:o.dst=none) {b n k:Nat} {T:TypeId} {cs ds rs:List Value} (hx:a.eval x=.pointer (some ⟨b,k,none⟩)) (hy:a.eval y=.agg ds.toArray) (hS:St W s w) (i:Nat) (hi:s[i]? = some (boxA b n T (.agg cs.toArray))) (hk:Nat.ble (k+ds.length) cs.length=true) (hv:(ds.all fun u=>u.oneCell')=true) (hn:QA P t ds.length=true) (hr:YK cs k ds=rs)
  (h:∀ w',St W (s.set i (boxA b n T (.agg rs.toArray))) w'→wpList P ops Q rest a w'):wpList P ops Q (o::rest) a w:=by
 obtain ⟨k1,k2,k3⟩:=(hS.box i hi).putAt k ds (Nat.le_of_ble_eq_true hk) (List.all_eq_true.1 hv);refine wpList_plain hg fun K hK=>wp_store_mid t x y ho b k ds.toArray hx hy (by simpa using k1) (by rw [(Jh hn).2];simp) (by simpa using hv) ?_;rw [hd];exact hK _ _ (h _ (by rw [← hr];exact hS.putBox i hi k2 k3))
end
theorem VI (n:Zi):szs (XY n):=YO (Nat.le_trans (YB _) (by decide)) (YO (Nat.le_trans (YB _) (by decide)) (YO (Nat.le_trans (YB _) (by decide)) (YO (Nat.le_trans (ZcE _) (by decide)) (YO (Nat.le_trans (YB _) (by decide)) (YO (Nat.le_trans (YB _) (by decide)) (YO (by decide) Vc))))))
theorem VJ (n:Zi):(XY n).length=7:=rfl
theorem Zaq (n:Zi) (w0:World) (hT:Xq w0):Calls prog 32 #[nV n] w0 fun e w'=>e=.returned (.string (Xe n))∧Below w0.heap.size w0 w':=by
 have HT:=Bx.mk hT;clear hT;have E:=Bx.mk (St.start w0);refine ent func32 ntmps32 ?_;refine xsr ?_;refine ybx E ?_;clear E;intro w1 b1 E;refine xr 1 rfl<|xne<|xsq<|xsr<|Xw 0 10 E rfl rfl ?_;refine ycB (ZaU n _) func29 E ?_;clear E;intro w2 E;refine xr 1 rfl<|xne<|xcs 7 rfl (fun cc1=>?_) fun cc1=>?_;refine xct rfl<|xsr<|xr 1 rfl<|xne<|xre<|xtr<|xb1 results32 rfl ?_;exact ⟨by rw [ZaS (by simpa using cc1)];rfl,E.o.bel⟩;refine xcf rfl<|xsk<|xet<|xsq ?_;intro a O;refine V5 (R:=fun a w=>∃ (b7:Nat) (ao4:Option Addr) (cp4:Nat) (ao8:Option Addr) (cp9:Nat) (b2:Nat),Fr 27 a [(0,nV n),(1,.pointer (some ⟨b1,0,none⟩)),(2,.string (⟨#[]⟩:ByteArray)),(5,nV n),(6,.bool n.ok),(7,.bool false),(3,.string ((Yy (XY n)).1))]∧St w0 ([Zd Zt 1 9 (.slice (some ⟨b7,0,none⟩) 1 1) ([(⟨#[101,110,100]⟩:ByteArray)]),Zd Zt 1 9 (.slice ao4 3 cp4) (US n.aw),Zd Zt 1 9 (.slice ao8 (((([n.aB,n.aC,n.al]).map ZX)++(US n.aw)).length+([(⟨#[101,110,100]⟩:ByteArray)]).length) cp9) (((([n.aB,n.aC,n.al]).map ZX)++(US n.aw))++([(⟨#[101,110,100]⟩:ByteArray)])),Zd Zu 1 3 (.slice (some ⟨b2,0,none⟩) 3 3) ([n.aB,n.aC,n.al]),boxA b1 10 48 (nV n)]) w) ?_ ?_;have hok:n.ok=true:=by simpa using cc1
 have hsm:=(Zi.ok_is hok).small;have k1:=hsm.links;have k2:=hsm.size;have k3:=hsm.many;have k4:=hsm.depth;have k5:=hsm.kind;have hel:=Xg n.aB;revert a;refine hld [] E ?_;clear E;intro w3 E U;refine Hf 0 0 E rfl<|Hl 1 0 E rfl rfl<|Hf 2 1 E rfl<|Hl 3 0 E rfl rfl<|Hf 4 2 E rfl<|Hl 5 0 E rfl rfl<|Hf 8 3 E rfl<|Hw 9 0 7 E rfl rfl ?_;refine Zdb 6 12 ?_ ?_;intro a O;refine Yc (enc:=Zu) (e:=3) (size:=1) rfl rfl O rfl rfl rfl (ps:=[(0,.int .i64 n.aB),(1,.int .i64 n.aC),(2,.int .i64 n.al)]) rfl (cells:=[.int .i64 n.aB,.int .i64 n.aC,.int .i64 n.al]) (by kernel_rfl) [n.aB,n.aC,n.al] rfl rfl (by unfold maxLen;omega) rfl U.o E.o ?_;clear O E U a;intro b2 a w5 O U E;replace E:=Bx.mk E;replace U:=Bx.mk U;refine ⟨E.o,?_⟩;revert a;refine Zdb 7 12 ?_ ?_;refine yo (X7 _ _ _ ([n.aB,n.aC,n.al]) _ (HT.o.below U.o.bel) (by simp) (St.rdN U.o encI_len 0 rfl)) func65 ?_;rintro _ w7 ⟨ao3,cp3,rfl,hs⟩;refine ⟨_,rfl,?_⟩;replace E:=Bx.mk (E.o.later hs.bel);replace U:=U.ad hs;clear hs;intro a O;replace U:=U.nm;refine ⟨E.o,?_⟩;revert a;refine Zdb 10 12 ?_ ?_;refine yo (JD n.aw _ (HT.o.below U.o.bel)) func66 ?_;rintro _ w9 ⟨ao4,cp4,rfl,hs⟩;refine ⟨_,rfl,?_⟩;replace E:=Bx.mk (E.o.later hs.bel);replace U:=U.ad hs;clear hs;intro a O;replace U:=U.nm;refine ⟨E.o,?_⟩;revert a;refine Zdb 11 12 ?_ ?_;intro a O;refine Y2 rfl rfl O rfl rfl rfl (O.ev rfl) (O.ev rfl) XR encS_len U.o 1 (xs:=([n.aB,n.aC,n.al]).map ZX) rfl (ys:=US n.aw) (St.rdN U.o encS_len 0 rfl) (Zy _) (by unfold maxLen;(try simp only [length_append,length_cons,length_nil,nil_append,length_map,Yp,length_map]);omega) (by (try simp only [length_append,length_cons,length_nil,nil_append,length_map,Yp,length_map]);omega) ?_;clear O E U a;intro ao5 cp6 w11 a O U;replace U:=Bx.mk U;replace U:=U.nm;have E:=U.ers [2,1,0];refine ⟨E.o,?_⟩;revert a;refine ZI 12 ?_;intro a O;refine Yc (enc:=Zt) (e:=9) (size:=1) rfl rfl O rfl rfl rfl (ps:=[(0,.string (⟨#[101,110,100]⟩:ByteArray))]) rfl (cells:=[.string (⟨#[101,110,100]⟩:ByteArray)]) (by kernel_rfl) [(⟨#[101,110,100]⟩:ByteArray)] rfl rfl (by unfold maxLen;omega) rfl U.o E.o ?_;clear O E U a;intro b7 a w13 O U E;replace E:=Bx.mk E;replace U:=Bx.mk U;refine ⟨E.o,?_⟩;revert a;refine ZI 13 ?_;intro a O;refine Y2 rfl rfl O rfl rfl rfl (O.ev rfl) (O.ev rfl) XR encS_len U.o 2 (xs:=(([n.aB,n.aC,n.al]).map ZX)++(US n.aw)) rfl (ys:=[(⟨#[101,110,100]⟩:ByteArray)]) (St.rdN U.o encS_len 0 rfl) (Zy _) (by unfold maxLen;(try simp only [length_append,length_cons,length_nil,nil_append,length_map,Yp,length_map]);omega) (by (try simp only [length_append,length_cons,length_nil,nil_append,length_map,Yp,length_map]);omega) ?_;clear O E U a;intro ao8 cp9 w15 a O U;replace U:=Bx.mk U;replace U:=U.nm;have E:=U.ers [3,2,1,0];refine ⟨E.o,?_⟩;revert a;refine ZI 14 ?_;refine yoB (QE _ _ _ (XY n) _ (HT.o.below U.o.bel) (by rw [VJ];omega) (VI n) (St.rdN U.o encS_len 2 rfl)) func64 ?_;intro w16 hb;replace E:=Bx.mk (E.o.later hb);replace U:=Bx.mk (U.o.later hb);clear hb;refine onb E.o ?_;refine Hp 15 E rfl<|Hp 16 E rfl<|Hp 17 E rfl<|Hp 18 E rfl<|Hp 19 E rfl ?_;refine hdn ?_;replace E:=U;clear U;intro a O;exact ZaC ⟨_,_,_,_,_,_,O.ls _,E.o⟩;intro a O;refine Yc (enc:=Zt) (e:=9) (size:=1) rfl rfl O rfl rfl rfl (ps:=[(0,.string (⟨#[101,110,100]⟩:ByteArray))]) rfl (cells:=[.string (⟨#[101,110,100]⟩:ByteArray)]) (by kernel_rfl) [(⟨#[101,110,100]⟩:ByteArray)] rfl rfl (by unfold maxLen;omega) rfl U.o E.o ?_;clear O E U a;intro b10 a w18 O U E;replace E:=Bx.mk E;replace U:=Bx.mk U;refine ⟨E.o,?_⟩;revert a;refine ZI 11 ?_;intro a O;refine Y2 rfl rfl O rfl rfl rfl (O.ev rfl) (O.ev rfl) XR encS_len U.o 2 (xs:=([n.aB,n.aC,n.al]).map ZX) rfl (ys:=US n.aw) (St.rdN U.o encS_len 1 rfl) (Zy _) (by unfold maxLen;(try simp only [length_append,length_cons,length_nil,nil_append,length_map,Yp,length_map]);omega) (by (try simp only [length_append,length_cons,length_nil,nil_append,length_map,Yp,length_map]);omega) ?_;clear O E U a;intro ao11 cp12 w20 a O U;replace U:=Bx.mk U;replace U:=U.nm;have E:=U.ers [3,2,1,0];refine ⟨E.o,?_⟩;revert a;refine ZI 13 ?_;intro a O;refine Y2 rfl rfl O rfl rfl rfl (O.ev rfl) (O.ev rfl) XR encS_len U.o 2 (xs:=(([n.aB,n.aC,n.al]).map ZX)++(US n.aw)) rfl (ys:=[(⟨#[101,110,100]⟩:ByteArray)]) (St.rdN U.o encS_len 0 rfl) (Zy _) (by unfold maxLen;(try simp only [length_append,length_cons,length_nil,nil_append,length_map,Yp,length_map]);omega) (by (try simp only [length_append,length_cons,length_nil,nil_append,length_map,Yp,length_map]);omega) ?_;clear O E U a;intro ao13 cp14 w22 a O U;replace U:=Bx.mk U;replace U:=U.nm;have E:=U.ers [3,2,1,0];refine ⟨E.o,?_⟩;revert a;refine ZI 14 ?_;refine yoB (QE _ _ _ (XY n) _ (HT.o.below U.o.bel) (by rw [VJ];omega) (VI n) (St.rdN U.o encS_len 2 rfl)) func64 ?_;intro w23 hb;replace E:=Bx.mk (E.o.later hb);replace U:=Bx.mk (U.o.later hb);clear hb;refine onb E.o ?_;refine Hp 15 E rfl<|Hp 16 E rfl<|Hp 17 E rfl<|Hp 18 E rfl<|Hp 19 E rfl ?_;refine hdn ?_;replace E:=U;clear U;intro a O;exact ZaC ⟨_,_,_,_,_,_,O.ls _,E.o⟩;intro a O;refine Yc (enc:=Zt) (e:=9) (size:=1) rfl rfl O rfl rfl rfl (ps:=[(0,.string (⟨#[101,110,100]⟩:ByteArray))]) rfl (cells:=[.string (⟨#[101,110,100]⟩:ByteArray)]) (by kernel_rfl) [(⟨#[101,110,100]⟩:ByteArray)] rfl rfl (by unfold maxLen;omega) rfl U.o E.o ?_;clear O E U a;intro b15 a w25 O U E;replace E:=Bx.mk E;replace U:=Bx.mk U;refine ⟨E.o,?_⟩;revert a;refine ZI 10 ?_;refine yo (JD n.aw _ (HT.o.below U.o.bel)) func66 ?_;rintro _ w27 ⟨ao16,cp16,rfl,hs⟩;refine ⟨_,rfl,?_⟩;replace E:=Bx.mk (E.o.later hs.bel);replace U:=U.ad hs;clear hs;intro a O;replace U:=U.nm;refine ⟨E.o,?_⟩;revert a;refine ZI 11 ?_;intro a O;refine Y2 rfl rfl O rfl rfl rfl (O.ev rfl) (O.ev rfl) XR encS_len U.o 2 (xs:=([n.aB,n.aC,n.al]).map ZX) rfl (ys:=US n.aw) (St.rdN U.o encS_len 0 rfl) (Zy _) (by unfold maxLen;(try simp only [length_append,length_cons,length_nil,nil_append,length_map,Yp,length_map]);omega) (by (try simp only [length_append,length_cons,length_nil,nil_append,length_map,Yp,length_map]);omega) ?_;clear O E U a;intro ao17 cp18 w29 a O U;replace U:=Bx.mk U;replace U:=U.nm;have E:=U.ers [3,2,1,0];refine ⟨E.o,?_⟩;revert a;refine ZI 13 ?_;intro a O;refine Y2 rfl rfl O rfl rfl rfl (O.ev rfl) (O.ev rfl) XR encS_len U.o 2 (xs:=(([n.aB,n.aC,n.al]).map ZX)++(US n.aw)) rfl (ys:=[(⟨#[101,110,100]⟩:ByteArray)]) (St.rdN U.o encS_len 1 rfl) (Zy _) (by unfold maxLen;(try simp only [length_append,length_cons,length_nil,nil_append,length_map,Yp,length_map]);omega) (by (try simp only [length_append,length_cons,length_nil,nil_append,length_map,Yp,length_map]);omega) ?_;clear O E U a;intro ao19 cp20 w31 a O U;replace U:=Bx.mk U;replace U:=U.nm;have E:=U.ers [3,2,1,0];refine ⟨E.o,?_⟩;revert a;refine ZI 14 ?_;refine yoB (QE _ _ _ (XY n) _ (HT.o.below U.o.bel) (by rw [VJ];omega) (VI n) (St.rdN U.o encS_len 2 rfl)) func64 ?_;intro w32 hb;replace E:=Bx.mk (E.o.later hb);replace U:=Bx.mk (U.o.later hb);clear hb;refine onb E.o ?_;refine Hp 15 E rfl<|Hp 16 E rfl<|Hp 17 E rfl<|Hp 18 E rfl<|Hp 19 E rfl ?_;refine hdn ?_;replace E:=U;clear U;replace E:=E.pks [4,4,4,3,4];intro a O;exact ZaC ⟨_,_,_,_,_,_,O.ls _,E.o⟩;intro a O;refine Yc (enc:=Zt) (e:=9) (size:=1) rfl rfl O rfl rfl rfl (ps:=[(0,.string (⟨#[101,110,100]⟩:ByteArray))]) rfl (cells:=[.string (⟨#[101,110,100]⟩:ByteArray)]) (by kernel_rfl) [(⟨#[101,110,100]⟩:ByteArray)] rfl rfl (by unfold maxLen;omega) rfl U.o E.o ?_;clear O E U a;intro b21 a w34 O U E;replace E:=Bx.mk E;replace U:=Bx.mk U;refine ⟨E.o,?_⟩;revert a;refine ZI 7 ?_;refine yo (X7 _ _ _ ([n.aB,n.aC,n.al]) _ (HT.o.below U.o.bel) (by simp) (St.rdN U.o encI_len 1 rfl)) func65 ?_;rintro _ w36 ⟨ao22,cp22,rfl,hs⟩;refine ⟨_,rfl,?_⟩;replace E:=Bx.mk (E.o.later hs.bel);replace U:=U.ad hs;clear hs;intro a O;replace U:=U.nm;refine ⟨E.o,?_⟩;revert a;refine ZI 10 ?_;refine yo (JD n.aw _ (HT.o.below U.o.bel)) func66 ?_;rintro _ w38 ⟨ao23,cp23,rfl,hs⟩;refine ⟨_,rfl,?_⟩;replace E:=Bx.mk (E.o.later hs.bel);replace U:=U.ad hs;clear hs;intro a O;replace U:=U.nm;refine ⟨E.o,?_⟩;revert a;refine ZI 11 ?_;intro a O;refine Y2 rfl rfl O rfl rfl rfl (O.ev rfl) (O.ev rfl) XR encS_len U.o 1 (xs:=([n.aB,n.aC,n.al]).map ZX) rfl (ys:=US n.aw) (St.rdN U.o encS_len 0 rfl) (Zy _) (by unfold maxLen;(try simp only [length_append,length_cons,length_nil,nil_append,length_map,Yp,length_map]);omega) (by (try simp only [length_append,length_cons,length_nil,nil_append,length_map,Yp,length_map]);omega) ?_;clear O E U a;intro ao24 cp25 w40 a O U;replace U:=Bx.mk U;replace U:=U.nm;have E:=U.ers [3,2,1,0];refine ⟨E.o,?_⟩;revert a;refine ZI 13 ?_;intro a O;refine Y2 rfl rfl O rfl rfl rfl (O.ev rfl) (O.ev rfl) XR encS_len U.o 1 (xs:=(([n.aB,n.aC,n.al]).map ZX)++(US n.aw)) rfl (ys:=[(⟨#[101,110,100]⟩:ByteArray)]) (St.rdN U.o encS_len 2 rfl) (Zy _) (by unfold maxLen;(try simp only [length_append,length_cons,length_nil,nil_append,length_map,Yp,length_map]);omega) (by (try simp only [length_append,length_cons,length_nil,nil_append,length_map,Yp,length_map]);omega) ?_;clear O E U a;intro ao26 cp27 w42 a O U;replace U:=Bx.mk U;replace U:=U.nm;have E:=U.ers [3,2,1,0];refine ⟨E.o,?_⟩;revert a;refine ZI 14 ?_;refine yoB (QE _ _ _ (XY n) _ (HT.o.below U.o.bel) (by rw [VJ];omega) (VI n) (St.rdN U.o encS_len 1 rfl)) func64 ?_;intro w43 hb;replace E:=Bx.mk (E.o.later hb);replace U:=Bx.mk (U.o.later hb);clear hb;refine onb E.o ?_;refine Hp 15 E rfl<|Hp 16 E rfl<|Hp 17 E rfl<|Hp 18 E rfl<|Hp 19 E rfl ?_;refine hdn ?_;replace E:=U;clear U;replace E:=E.pks [4,4,3,3,4];intro a O;exact ZaC ⟨_,_,_,_,_,_,O.ls _,E.o⟩;intro a O;refine Yc (enc:=Zt) (e:=9) (size:=1) rfl rfl O rfl rfl rfl (ps:=[(0,.string (⟨#[101,110,100]⟩:ByteArray))]) rfl (cells:=[.string (⟨#[101,110,100]⟩:ByteArray)]) (by kernel_rfl) [(⟨#[101,110,100]⟩:ByteArray)] rfl rfl (by unfold maxLen;omega) rfl U.o E.o ?_;clear O E U a;intro b28 a w45 O U E;replace E:=Bx.mk E;replace U:=Bx.mk U;refine ⟨E.o,?_⟩;revert a;refine ZI 6 ?_;intro a O;refine Yc (enc:=Zu) (e:=3) (size:=1) rfl rfl O rfl rfl rfl (ps:=[(0,.int .i64 n.aB),(1,.int .i64 n.aC),(2,.int .i64 n.al)]) rfl (cells:=[.int .i64 n.aB,.int .i64 n.aC,.int .i64 n.al]) (by kernel_rfl) [n.aB,n.aC,n.al] rfl rfl (by unfold maxLen;omega) rfl U.o E.o ?_;clear O E U a;intro b29 a w47 O U E;replace E:=Bx.mk E;replace U:=Bx.mk U;refine ⟨E.o,?_⟩;revert a;refine ZI 7 ?_;refine yo (X7 _ _ _ ([n.aB,n.aC,n.al]) _ (HT.o.below U.o.bel) (by simp) (St.rdN U.o encI_len 0 rfl)) func65 ?_;rintro _ w49 ⟨ao30,cp30,rfl,hs⟩;refine ⟨_,rfl,?_⟩;replace E:=Bx.mk (E.o.later hs.bel);replace U:=U.ad hs;clear hs;intro a O;replace U:=U.nm;refine ⟨E.o,?_⟩;revert a;refine ZI 10 ?_;refine yo (JD n.aw _ (HT.o.below U.o.bel)) func66 ?_;rintro _ w51 ⟨ao31,cp31,rfl,hs⟩;refine ⟨_,rfl,?_⟩;replace E:=Bx.mk (E.o.later hs.bel);replace U:=U.ad hs;clear hs;intro a O;replace U:=U.nm;refine ⟨E.o,?_⟩;revert a;refine ZI 11 ?_;intro a O;refine Y2 rfl rfl O rfl rfl rfl (O.ev rfl) (O.ev rfl) XR encS_len U.o 1 (xs:=([n.aB,n.aC,n.al]).map ZX) rfl (ys:=US n.aw) (St.rdN U.o encS_len 0 rfl) (Zy _) (by unfold maxLen;(try simp only [length_append,length_cons,length_nil,nil_append,length_map,Yp,length_map]);omega) (by (try simp only [length_append,length_cons,length_nil,nil_append,length_map,Yp,length_map]);omega) ?_;clear O E U a;intro ao32 cp33 w53 a O U;replace U:=Bx.mk U;replace U:=U.nm;have E:=U.ers [3,2,1,0];refine ⟨E.o,?_⟩;revert a;refine ZI 13 ?_;intro a O;refine Y2 rfl rfl O rfl rfl rfl (O.ev rfl) (O.ev rfl) XR encS_len U.o 1 (xs:=(([n.aB,n.aC,n.al]).map ZX)++(US n.aw)) rfl (ys:=[(⟨#[101,110,100]⟩:ByteArray)]) (St.rdN U.o encS_len 3 rfl) (Zy _) (by unfold maxLen;(try simp only [length_append,length_cons,length_nil,nil_append,length_map,Yp,length_map]);omega) (by (try simp only [length_append,length_cons,length_nil,nil_append,length_map,Yp,length_map]);omega) ?_;clear O E U a;intro ao34 cp35 w55 a O U;replace U:=Bx.mk U;replace U:=U.nm;have E:=U.ers [3,2,1,0];refine ⟨E.o,?_⟩;revert a;refine ZI 14 ?_;refine yoB (QE _ _ _ (XY n) _ (HT.o.below U.o.bel) (by rw [VJ];omega) (VI n) (St.rdN U.o encS_len 1 rfl)) func64 ?_;intro w56 hb;replace E:=Bx.mk (E.o.later hb);replace U:=Bx.mk (U.o.later hb);clear hb;refine onb E.o ?_;refine Hp 15 E rfl<|Hp 16 E rfl<|Hp 17 E rfl<|Hp 18 E rfl<|Hp 19 E rfl ?_;refine hdn ?_;replace E:=U;clear U;replace E:=E.pks [4,3,3,3,4];intro a O;exact ZaC ⟨_,_,_,_,_,_,O.ls _,E.o⟩;clear O E a;rintro a w57 ⟨b7,ao4,cp4,ao8,cp9,b2,O,E⟩;replace E:=Bx.mk E;revert a;refine xet<|xsr<|xr 2 rfl<|xne<|xre<|xb1 results32 rfl ?_;have hok:n.ok=true:=by simpa using cc1
 exact ⟨by rw [Zdj hok] <;> rfl,E.o.bel⟩
theorem Zar (n:Zi) (w0:World):Calls prog 53 #[nV n] w0 fun e w'=>e=.returned (.string (Xe n))∧Below w0.heap.size w0 w':=by
 have E:=Bx.mk (St.start w0);refine ent func53 ntmps53 ?_;refine xsr ?_;refine ybx E ?_;clear E;intro w1 b1 E;refine xr 1 rfl<|xne<|xsq<|xsr<|Xw 0 10 E rfl rfl ?_;refine ycB (UU n _) func19 E ?_;clear E;intro w2 E;refine xr 1 rfl<|xne<|xcs 7 rfl (fun cc1=>?_) fun cc1=>?_;refine xct rfl<|xsr<|xr 1 rfl<|xne<|xre<|xtr<|xb1 results53 rfl ?_;exact ⟨by rw [ZaS (by simpa using cc1)];rfl,E.o.bel⟩;refine xcf rfl<|xsk<|xet<|xsq ?_;have hok:n.ok=true:=by simpa using cc1
 have hsm:=(Zi.ok_is hok).small;have k1:=hsm.links;have k2:=hsm.size;have k3:=hsm.many;have k4:=hsm.depth;have k5:=hsm.kind;have hel:=Xg n.aB;have hz_fKind:(ZM n.aB.toNat).size≤9:=V2 (by omega);have hz_fLinks:(ZM n.aC.toNat).size≤9:=V2 (by omega);have hz_fSize:(ZM n.al.toNat).size≤9:=V2 (by omega);have hz_fTree_fDepth:(ZM n.aw.az.toNat).size≤9:=V2 (by omega);have hz_fTree_fMany:(ZM n.aw.am.toNat).size≤9:=V2 (by omega);refine hld [] E ?_;clear E;intro w3 E U;refine Hf 0 0 E rfl<|Hl 1 0 E rfl rfl<|Hf 3 1 E rfl<|Hl 4 0 E rfl rfl<|Hf 6 2 E rfl<|Hl 7 0 E rfl rfl<|Hf 9 3 E rfl<|Hf 10 0 E rfl<|Hw 11 0 5 E rfl rfl<|Hf 13 3 E rfl<|Hf 14 5 E rfl<|Hl 15 0 E rfl rfl<|Hf 17 3 E rfl<|Hf 18 6 E rfl<|Hl 19 0 E rfl rfl ?_;refine ZI 2 ?_;refine yoB (XN n.aB (by omega) (by omega) _) func84 ?_;intro w4 hb;replace E:=Bx.mk (E.o.later hb);replace U:=Bx.mk (U.o.later hb);clear hb;refine onb E.o ?_;refine ZI 5 ?_;refine yoB (XN n.aC (by omega) (by omega) _) func84 ?_;intro w5 hb;replace E:=Bx.mk (E.o.later hb);replace U:=Bx.mk (U.o.later hb);clear hb;refine onb E.o ?_;refine ZI 8 ?_;refine yoB (XN n.al (by omega) (by omega) _) func84 ?_;intro w6 hb;replace E:=Bx.mk (E.o.later hb);replace U:=Bx.mk (U.o.later hb);clear hb;refine onb E.o ?_;refine ZI 12 ?_;refine yoB (Ug n.aw.ac _) func85 ?_;intro w7 hb;replace E:=Bx.mk (E.o.later hb);replace U:=Bx.mk (U.o.later hb);clear hb;refine onb E.o ?_;refine ZI 16 ?_;refine yoB (XN n.aw.az (by omega) (by omega) _) func84 ?_;intro w8 hb;replace E:=Bx.mk (E.o.later hb);replace U:=Bx.mk (U.o.later hb);clear hb;refine onb E.o ?_;refine ZI 20 ?_;refine yoB (XN n.aw.am (by omega) (by omega) _) func84 ?_;intro w9 hb;replace E:=Bx.mk (E.o.later hb);replace U:=Bx.mk (U.o.later hb);clear hb;refine onb E.o ?_;refine ZI 21 ?_;intro a O;refine Yc (enc:=Zt) (e:=9) (size:=1) rfl rfl O rfl rfl rfl (ps:=[(0,.string (ZM n.aB.toNat)),(1,.string (ZM n.aC.toNat)),(2,.string (ZM n.al.toNat)),(3,.string (Z5 n.aw.ac)),(4,.string (ZM n.aw.az.toNat)),(5,.string (ZM n.aw.am.toNat)),(6,.string (⟨#[101,110,100]⟩:ByteArray))]) rfl (cells:=[.string (ZM n.aB.toNat),.string (ZM n.aC.toNat),.string (ZM n.al.toNat),.string (Z5 n.aw.ac),.string (ZM n.aw.az.toNat),.string (ZM n.aw.am.toNat),.string (⟨#[101,110,100]⟩:ByteArray)]) (by kernel_rfl) [ZM n.aB.toNat,ZM n.aC.toNat,ZM n.al.toNat,Z5 n.aw.ac,ZM n.aw.az.toNat,ZM n.aw.am.toNat,(⟨#[101,110,100]⟩:ByteArray)] rfl rfl (by unfold maxLen;omega) rfl U.o E.o ?_;clear O E U a;intro b2 a w11 O U E;replace E:=Bx.mk E;replace U:=Bx.mk U;refine ⟨E.o,?_⟩;revert a;refine ZI 22 ?_;refine yoB (UR _ _ _ ([ZM n.aB.toNat,ZM n.aC.toNat,ZM n.al.toNat,Z5 n.aw.ac,ZM n.aw.az.toNat,ZM n.aw.am.toNat,(⟨#[101,110,100]⟩:ByteArray)]) _ (by (try simp only [length_append,length_cons,length_nil,nil_append,length_map]);omega) (YO (by omega) (YO (by omega) (YO (by omega) (YO (Nat.le_trans (ZcE _) (by decide)) (YO (by omega) (YO (by omega) (YO (by decide) Vc))))))) (St.rdN U.o encS_len 0 rfl)) func83 ?_;intro w12 hb;replace E:=Bx.mk (E.o.later hb);replace U:=Bx.mk (U.o.later hb);clear hb;refine onb E.o ?_;refine Hp 23 E rfl<|Hp 24 E rfl<|Hp 25 E rfl<|Hp 26 E rfl<|Hp 27 E rfl ?_;refine hdn ?_;replace E:=U;clear U;refine xet<|xsr<|xr 2 rfl<|xne<|xre<|xb1 results53 rfl ?_;have hok:n.ok=true:=by simpa using cc1
 have hsm:=(Zi.ok_is hok).small;have k1:=hsm.links;have k2:=hsm.size;have k3:=hsm.many;have k4:=hsm.depth;have k5:=hsm.kind;have hel:=Xg n.aB;have hL:XY n=[ZM n.aB.toNat,ZM n.aC.toNat,ZM n.al.toNat,Z5 n.aw.ac,ZM n.aw.az.toNat,ZM n.aw.am.toNat,Zmo]:=by unfold XY;rw [XF (n:=n.aB) (by omega) (by omega),XF (n:=n.aC) (by omega) (by omega),XF (n:=n.al) (by omega) (by omega),XF (n:=n.aw.az) (by omega) (by omega),XF (n:=n.aw.am) (by omega) (by omega)]
 exact ⟨by rw [Zdj hok,hL] <;> rfl,E.o.bel⟩
theorem Zoz {α:Type} {l:List α} (h:l.length=7):∃ a b c d e f g,l=[a,b,c,d,e,f,g]:=by
 match l,h with
 | [a,b,c,d,e,f,g],_=>exact ⟨a,b,c,d,e,f,g,rfl⟩
theorem ZgC {n:Zi} (h:n.ok=true):IsTree (Z5 n.aw.ac) (ZX n.aw.az) (ZX n.aw.am) n.aw:=by
 have a:=Zi.ok_is h;have s:=a.small;have k3:=s.many;have k4:=s.depth;exact ⟨a.root,rfl,⟨by omega,by omega,rfl⟩,⟨by omega,by omega,rfl⟩⟩
theorem Zd4 (s:ByteArray) (w0:World) (hT:Xq w0) (hM:X1 w0) (hE:X2 w0) (hs:s.size≤1000000):Calls prog 120 #[.string s] w0 fun e w'=>(∃ n:Zi,n.ok=true∧Xe n=s∧e=.returned (.tuple #[nV n,.bool true])∧Below w0.heap.size w0 w')∨((∀ n:Zi,n.ok=true→Xe n=s→False)∧e=.returned (.tuple #[Zo6,.bool false])∧Below w0.heap.size w0 w'):=by
 have HT:=Bx.mk hT;have HM:=Bx.mk hM;have HE:=Bx.mk hE;clear hT hM hE;have E:=Bx.mk (St.start w0);refine ent func120 ntmps120 ?_;refine xsr ?_;refine yal z10 E ?_;clear E;intro w1 b1 E;refine xr 1 rfl<|xne<|xsr<|xr 1 rfl ?_;refine yc (ZfY s _ (HT.o.below E.o.bel) (HM.o.below E.o.bel) (HE.o.below E.o.bel) (by omega)) func143 ?_;rintro _ w2 (⟨xs,hrec,hsz,ao,cp,rfl,hs1⟩|⟨hno,rfl,hb⟩);refine ⟨_,rfl,?_⟩;replace E:=E.ad hs1;clear hs1;refine xr 5 rfl<|xne<|xsq<|xsr<|xr 4 rfl<|xy rfl (vn 9 1 rfl)<|xr 2 rfl<|xne<|xcn 20 rfl (fun _ dcc1=>?_) fun _ dcc1=>?_;refine xct rfl<|xsr<|xy rfl (vb z10 rfl) ?_;refine yst E 1 ?_;clear E;intro w3 E;replace E:=E.nm;refine xr 1 rfl<|xne<|xre<|xtr ?_;intro a O;refine Zw O results120 (O.resBox rfl (E.o.box 1 rfl) (by kernel_rfl)) (O.res rfl) ?_;refine .inr ⟨fun x hx hxs=>?_,rfl,E.o.bel⟩;have hl6:=Y6 hx;rw [hxs] at hl6;have hx2:=XA x;rw [hxs] at hx2;have hsm:=(XZ hx).1;have k1:=hsm.links;have k2:=hsm.size;have k3:=hsm.many;have k4:=hsm.depth;have k5:=hsm.kind;have hel:=Xg x.aB;have hone:=hrec.one hl6;rw [hone] at dcc1;exact dcc1 rfl;refine xcf rfl<|xsk<|xet<|xsq ?_;obtain ⟨y0,y1,y2,y3,y4,y5,y6,rfl⟩:=Zoz (l:=xs) (by omega);intro a O;replace O:Fr 63 a [(0,.string s),(2,.pointer (some ⟨b1,0,none⟩)),(3,.bool false),(10,.string s),(12,.slice ao 7 cp),(13,.bool true),(4,.slice ao 7 cp),(5,.bool true),(14,.bool true),(15,.bool false),(16,.bool false),(17,.slice ao 7 cp),(20,.bool false)]:=O.ls _;obtain ⟨g2,rfl,_,_,_,_⟩:=E.o.rowOpen 0 rfl (Nat.succ_pos _);have hcap:=E.o.capLe 0 rfl;have hy0:y0.size≤2048:=by have:=YT [y0,y1,y2,y3,y4,y5,y6] (k:=0) (by simp only [length_cons,length_nil];omega);rw [hrec.is] at this;have e:([y0,y1,y2,y3,y4,y5,y6]:List ByteArray).getD 0 ByteArray.empty=y0:=rfl;rw [e] at this;omega
 have hy1:y1.size≤2048:=by have:=YT [y0,y1,y2,y3,y4,y5,y6] (k:=1) (by simp only [length_cons,length_nil];omega);rw [hrec.is] at this;have e:([y0,y1,y2,y3,y4,y5,y6]:List ByteArray).getD 1 ByteArray.empty=y1:=rfl;rw [e] at this;omega
 have hy2:y2.size≤2048:=by have:=YT [y0,y1,y2,y3,y4,y5,y6] (k:=2) (by simp only [length_cons,length_nil];omega);rw [hrec.is] at this;have e:([y0,y1,y2,y3,y4,y5,y6]:List ByteArray).getD 2 ByteArray.empty=y2:=rfl;rw [e] at this;omega
 have hy3:y3.size≤2048:=by have:=YT [y0,y1,y2,y3,y4,y5,y6] (k:=3) (by simp only [length_cons,length_nil];omega);rw [hrec.is] at this;have e:([y0,y1,y2,y3,y4,y5,y6]:List ByteArray).getD 3 ByteArray.empty=y3:=rfl;rw [e] at this;omega
 have hy4:y4.size≤2048:=by have:=YT [y0,y1,y2,y3,y4,y5,y6] (k:=4) (by simp only [length_cons,length_nil];omega);rw [hrec.is] at this;have e:([y0,y1,y2,y3,y4,y5,y6]:List ByteArray).getD 4 ByteArray.empty=y4:=rfl;rw [e] at this;omega
 have hy5:y5.size≤2048:=by have:=YT [y0,y1,y2,y3,y4,y5,y6] (k:=5) (by simp only [length_cons,length_nil];omega);rw [hrec.is] at this;have e:([y0,y1,y2,y3,y4,y5,y6]:List ByteArray).getD 5 ByteArray.empty=y5:=rfl;rw [e] at this;omega
 have hy6:y6.size≤2048:=by have:=YT [y0,y1,y2,y3,y4,y5,y6] (k:=6) (by simp only [length_cons,length_nil];omega);rw [hrec.is] at this;have e:([y0,y1,y2,y3,y4,y5,y6]:List ByteArray).getD 6 ByteArray.empty=y6:=rfl;rw [e] at this;omega
 revert a;refine xrl ?_;refine yal z10 E ?_;clear E;intro w4 b3 E;refine xne<|xsq<|xsr<|Xf 0 rfl<|Xf 1 rfl<|Xf 2 rfl ?_;refine ybs Zg1 159 1 [(some ⟨b3,0+0,none⟩),(some ⟨b3,0+1,none⟩),(some ⟨b3,0+2,none⟩)] E ?_;clear E;intro b4 w5 E;refine xy rfl (vn 159 1 rfl)<|xr 1 rfl<|xne<|xbl ?_;intro a O;refine XI 5 ?_;revert a;refine xsr<|xr 1 rfl<|xne<|xsq ?_;intro a O;replace O:=O.know (k:=28) (c:=true) rfl (by decide);revert a;refine xct rfl<|xsk<|xet<|xsq<|xbl<|xsr<|xr 1 rfl<|xy rfl (vx 159 0 1 rfl)<|xy rfl (ve Xx E.o 0 0 rfl rfl rfl rfl)<|xr 2 rfl<|xne<|xsr<|xr 3 rfl<|xy rfl (vx 9 0 1 rfl)<|xy rfl (ve encS_len E.o 2 0 rfl rfl rfl rfl) ?_;refine yc (ZV y0 _ (HT.o.below E.o.bel) (HE.o.below E.o.bel)) func144 ?_;rintro _ w6 (⟨n5,hg5,rfl,hb⟩|⟨hg5,rfl,hb⟩);refine ⟨_,rfl,?_⟩;replace E:=Bx.mk (E.o.later hb);clear hb;refine xr 4 rfl ?_;refine ysF 1 E ?_;clear E;intro w7 E;replace E:=E.nm;refine xr 1 rfl<|xne<|xsr<|xr 2 rfl<|xne<|xcf rfl<|xsk<|xeb<|xet<|xrl<|xy rfl (fun a O=>ZW (r:=1) rfl (O.ev rfl) (O.ev rfl) (by decide))<|xr 1 rfl<|xne ?_;intro a O;refine Ym 4 ?_;revert a;refine xsr<|xr 1 rfl<|xne<|xsq ?_;intro a O;replace O:=O.know (k:=28) (c:=true) rfl (by decide);revert a;refine xct rfl<|xsk<|xet<|xsq<|xbl<|xsr<|xr 1 rfl<|xy rfl (vx 159 1 1 rfl)<|xy rfl (ve Xx E.o 0 1 rfl rfl rfl rfl)<|xr 2 rfl<|xne<|xsr<|xr 3 rfl<|xy rfl (vx 9 1 1 rfl)<|xy rfl (ve encS_len E.o 2 1 rfl rfl rfl rfl) ?_;refine yc (ZV y1 _ (HT.o.below E.o.bel) (HE.o.below E.o.bel)) func144 ?_;rintro _ w8 (⟨n6,hg6,rfl,hb⟩|⟨hg6,rfl,hb⟩);refine ⟨_,rfl,?_⟩;replace E:=Bx.mk (E.o.later hb);clear hb;refine xr 4 rfl ?_;refine ysF 1 E ?_;clear E;intro w9 E;replace E:=E.nm;refine xr 1 rfl<|xne<|xsr<|xr 2 rfl<|xne<|xcf rfl<|xsk<|xeb<|xet<|xrl<|xy rfl (fun a O=>ZW (r:=2) rfl (O.ev rfl) (O.ev rfl) (by decide))<|xr 1 rfl<|xne ?_;intro a O;refine Ym 3 ?_;revert a;refine xsr<|xr 1 rfl<|xne<|xsq ?_;intro a O;replace O:=O.know (k:=28) (c:=true) rfl (by decide);revert a;refine xct rfl<|xsk<|xet<|xsq<|xbl<|xsr<|xr 1 rfl<|xy rfl (vx 159 2 1 rfl)<|xy rfl (ve Xx E.o 0 2 rfl rfl rfl rfl)<|xr 2 rfl<|xne<|xsr<|xr 3 rfl<|xy rfl (vx 9 2 1 rfl)<|xy rfl (ve encS_len E.o 2 2 rfl rfl rfl rfl) ?_;refine yc (ZV y2 _ (HT.o.below E.o.bel) (HE.o.below E.o.bel)) func144 ?_;rintro _ w10 (⟨n7,hg7,rfl,hb⟩|⟨hg7,rfl,hb⟩);refine ⟨_,rfl,?_⟩;replace E:=Bx.mk (E.o.later hb);clear hb;refine xr 4 rfl ?_;refine ysF 1 E ?_;clear E;intro w11 E;replace E:=E.nm;refine xr 1 rfl<|xne<|xsr<|xr 2 rfl<|xne<|xcf rfl<|xsk<|xeb<|xet<|xrl<|xy rfl (fun a O=>ZW (r:=3) rfl (O.ev rfl) (O.ev rfl) (by decide))<|xr 1 rfl<|xne ?_;intro a O;refine Ym 2 ?_;revert a;refine xsr<|xr 1 rfl<|xne<|xsq ?_;intro a O;replace O:=O.know (k:=28) (c:=false) rfl (by decide);revert a;refine xcf rfl<|xex<|xtx<|xtx<|xbh<|xet<|xsr<|xr 1 rfl<|xy rfl (fun a O=>Zjm (e:=9) (size:=1) (k:=3) (j:=6) rfl (O.ev rfl) (O.ev rfl) (O.ev rfl) (by kernel_rfl) rfl rfl (by decide) (by omega) (by omega)) ?_;refine yc (Zjn _ _ y3 y4 y5 _ (HT.o.below E.o.bel) (HM.o.below E.o.bel) (HE.o.below E.o.bel) (by omega) (((St.rdN E.o encS_len 2 rfl).drop (k:=3) (by simp)).take (k:=3) (by simp))) func145 ?_;rintro _ w12 (⟨t,htr,rfl,hb⟩|⟨t,htn,rfl,hb⟩);refine ⟨_,rfl,?_⟩;replace E:=Bx.mk (E.o.later hb);clear hb;refine xr 3 rfl<|Xf 3 rfl ?_;intro a O;refine Y7 rfl rfl rfl (O.ev rfl) (O.ev rfl) E.o 1 rfl (by kernel_rfl) rfl (by kernel_rfl) (rs:=nPL (n5:Int) (n6:Int) (n7:Int) t) rfl ?_;clear E;intro w13 E;replace E:=Bx.mk E;replace E:=E.nm;revert a;refine xr 1 rfl<|xne<|xsq<|xsr<|xr 3 rfl<|Xw 1 10 E rfl rfl ?_;refine Ji (Zaq (⟨(n5:Int),(n6:Int),(n7:Int),⟨t.ac,t.az,t.am⟩⟩:Zi) _ (HT.o.below E.o.bel)) func32 E ?_;clear E;intro w14 E;refine xr 1 rfl<|xy rfl (fun a O=>Jg rfl (O.ev rfl) (O.ev rfl))<|xr 1 rfl<|xne<|xcs 60 rfl (fun cc2=>?_) fun cc2=>?_;refine xct rfl<|xsr<|xy rfl (vb z10 rfl) ?_;refine yst E 3 ?_;clear E;intro w15 E;replace E:=E.nm;refine xr 1 rfl<|xne<|xre<|xtr ?_;intro a O;refine Zw O results120 (O.resBox rfl (E.o.box 3 rfl) (by kernel_rfl)) (O.res rfl) ?_;refine .inr ⟨fun x hx hxs=>?_,rfl,E.o.bel⟩;have hl6:=Y6 hx;rw [hxs] at hl6;have hx2:=XA x;rw [hxs] at hx2;have hsm:=(XZ hx).1;have k1:=hsm.links;have k2:=hsm.size;have k3:=hsm.many;have k4:=hsm.depth;have k5:=hsm.kind;have hel:=Xg x.aB;have hone:=hrec.one hl6;simp only [XY,List.cons.injEq,and_true] at hone;obtain ⟨z0,z1,z2,z3,z4,z5,_⟩:=hone;have hxt:=ZgC hx;rw [← z3,← z4,← z5] at hxt;have e0:(n5:Int)=x.aB:=Ud (ZaR hg5) ⟨by omega,by omega,z0.symm⟩;have e1:(n6:Int)=x.aC:=Ud (ZaR hg6) ⟨by omega,by omega,z1.symm⟩;have e2:(n7:Int)=x.al:=Ud (ZaR hg7) ⟨by omega,by omega,z2.symm⟩;have e4:=htr.one hxt;have e3:(⟨(n5:Int),(n6:Int),(n7:Int),t⟩:Zi)=x:=by rw [e0,e1,e2,e4]
 rw [e3,hxs] at cc2;simp at cc2;refine xcf rfl<|xsk<|xet<|xsr<|Xw 1 10 E rfl rfl ?_;refine yst E 3 ?_;clear E;intro w16 E;replace E:=E.nm;refine xr 1 rfl<|xne<|xre ?_;intro a O;refine Zw O results120 (O.resBox rfl (E.o.box 3 rfl) (by kernel_rfl)) (O.res rfl) ?_;have hrt:Xe (⟨(n5:Int),(n6:Int),(n7:Int),t⟩:Zi)=s:=Yi (by simpa using cc2);have hro:(⟨(n5:Int),(n6:Int),(n7:Int),t⟩:Zi).ok=true:=by
     cases ho:(⟨(n5:Int),(n6:Int),(n7:Int),t⟩:Zi).ok with
     | true=>rfl
     | false =>
       rw [ZaS ho] at hrt;have:=hrec.is;rw [← hrt] at this;exact absurd (by rw [this];rfl) (Zg4 y0 [y1,y2,y3,y4,y5,y6])
 exact .inl ⟨_,hro,hrt,rfl,E.o.bel⟩;refine ⟨_,rfl,?_⟩;replace E:=Bx.mk (E.o.later hb);clear hb;refine xr 3 rfl<|Xf 3 rfl ?_;intro a O;refine Y7 rfl rfl rfl (O.ev rfl) (O.ev rfl) E.o 1 rfl (by kernel_rfl) rfl (by kernel_rfl) (rs:=nPL (n5:Int) (n6:Int) (n7:Int) t) rfl ?_;clear E;intro w17 E;replace E:=Bx.mk E;replace E:=E.nm;revert a;refine xr 1 rfl<|xne<|xsq<|xsr<|xr 8 rfl<|xne<|xct rfl<|xsr<|xy rfl (vb z10 rfl) ?_;refine yst E 3 ?_;clear E;intro w18 E;replace E:=E.nm;refine xr 1 rfl<|xne<|xre<|xtr ?_;intro a O;refine Zw O results120 (O.resBox rfl (E.o.box 3 rfl) (by kernel_rfl)) (O.res rfl) ?_;refine .inr ⟨fun x hx hxs=>?_,rfl,E.o.bel⟩;have hl6:=Y6 hx;rw [hxs] at hl6;have hx2:=XA x;rw [hxs] at hx2;have hsm:=(XZ hx).1;have k1:=hsm.links;have k2:=hsm.size;have k3:=hsm.many;have k4:=hsm.depth;have k5:=hsm.kind;have hel:=Xg x.aB;have hone:=hrec.one hl6;simp only [XY,List.cons.injEq,and_true] at hone;obtain ⟨z0,z1,z2,z3,z4,z5,_⟩:=hone;have hxt:=ZgC hx;rw [← z3,← z4,← z5] at hxt;exact htn _ hxt;refine ⟨_,rfl,?_⟩;replace E:=Bx.mk (E.o.later hb);clear hb;refine xr 4 rfl ?_;refine ysF 1 E ?_;clear E;intro w19 E;replace E:=E.nm;refine xr 1 rfl<|xne<|xsr<|xr 2 rfl<|xne<|xct rfl<|xsr<|xy rfl (vb z10 rfl) ?_;refine yst E 3 ?_;clear E;intro w20 E;replace E:=E.nm;refine xr 1 rfl<|xne<|xre<|xbr<|xtr<|xtr<|xbr<|xtr ?_;intro a O;refine Zw O results120 (O.resBox rfl (E.o.box 3 rfl) (by kernel_rfl)) (O.res rfl) ?_;refine .inr ⟨fun x hx hxs=>?_,rfl,E.o.bel⟩;have hl6:=Y6 hx;rw [hxs] at hl6;have hx2:=XA x;rw [hxs] at hx2;have hsm:=(XZ hx).1;have k1:=hsm.links;have k2:=hsm.size;have k3:=hsm.many;have k4:=hsm.depth;have k5:=hsm.kind;have hel:=Xg x.aB;have hone:=hrec.one hl6;simp only [XY,List.cons.injEq,and_true] at hone;obtain ⟨z0,z1,z2,z3,z4,z5,_⟩:=hone;exact Zdi (n:=x.al) ⟨by omega,by omega,z2.symm⟩ hg7;refine ⟨_,rfl,?_⟩;replace E:=Bx.mk (E.o.later hb);clear hb;refine xr 4 rfl ?_;refine ysF 1 E ?_;clear E;intro w21 E;replace E:=E.nm;refine xr 1 rfl<|xne<|xsr<|xr 2 rfl<|xne<|xct rfl<|xsr<|xy rfl (vb z10 rfl) ?_;refine yst E 3 ?_;clear E;intro w22 E;replace E:=E.nm;refine xr 1 rfl<|xne<|xre<|xbr<|xtr<|xtr<|xbr<|xtr ?_;intro a O;refine Zw O results120 (O.resBox rfl (E.o.box 3 rfl) (by kernel_rfl)) (O.res rfl) ?_;refine .inr ⟨fun x hx hxs=>?_,rfl,E.o.bel⟩;have hl6:=Y6 hx;rw [hxs] at hl6;have hx2:=XA x;rw [hxs] at hx2;have hsm:=(XZ hx).1;have k1:=hsm.links;have k2:=hsm.size;have k3:=hsm.many;have k4:=hsm.depth;have k5:=hsm.kind;have hel:=Xg x.aB;have hone:=hrec.one hl6;simp only [XY,List.cons.injEq,and_true] at hone;obtain ⟨z0,z1,z2,z3,z4,z5,_⟩:=hone;exact Zdi (n:=x.aC) ⟨by omega,by omega,z1.symm⟩ hg6;refine ⟨_,rfl,?_⟩;replace E:=Bx.mk (E.o.later hb);clear hb;refine xr 4 rfl ?_;refine ysF 1 E ?_;clear E;intro w23 E;replace E:=E.nm;refine xr 1 rfl<|xne<|xsr<|xr 2 rfl<|xne<|xct rfl<|xsr<|xy rfl (vb z10 rfl) ?_;refine yst E 3 ?_;clear E;intro w24 E;replace E:=E.nm;refine xr 1 rfl<|xne<|xre<|xbr<|xtr<|xtr<|xbr<|xtr ?_;intro a O;refine Zw O results120 (O.resBox rfl (E.o.box 3 rfl) (by kernel_rfl)) (O.res rfl) ?_;refine .inr ⟨fun x hx hxs=>?_,rfl,E.o.bel⟩;have hl6:=Y6 hx;rw [hxs] at hl6;have hx2:=XA x;rw [hxs] at hx2;have hsm:=(XZ hx).1;have k1:=hsm.links;have k2:=hsm.size;have k3:=hsm.many;have k4:=hsm.depth;have k5:=hsm.kind;have hel:=Xg x.aB;have hone:=hrec.one hl6;simp only [XY,List.cons.injEq,and_true] at hone;obtain ⟨z0,z1,z2,z3,z4,z5,_⟩:=hone;exact Zdi (n:=x.aB) ⟨by omega,by omega,z0.symm⟩ hg5;refine ⟨_,rfl,?_⟩;replace E:=Bx.mk (E.o.later hb);clear hb;refine xr 5 rfl<|xne<|xsq<|xsr<|xr 7 rfl<|xne<|xct rfl<|xsr<|xy rfl (vb z10 rfl) ?_;refine yst E 0 ?_;clear E;intro w25 E;replace E:=E.nm;refine xr 1 rfl<|xne<|xre<|xtr ?_;intro a O;refine Zw O results120 (O.resBox rfl (E.o.box 0 rfl) (by kernel_rfl)) (O.res rfl) ?_;refine .inr ⟨fun x hx hxs=>?_,rfl,E.o.bel⟩;have hl6:=Y6 hx;rw [hxs] at hl6;have hx2:=XA x;rw [hxs] at hx2;have hsm:=(XZ hx).1;have k1:=hsm.links;have k2:=hsm.size;have k3:=hsm.many;have k4:=hsm.depth;have k5:=hsm.kind;have hel:=Xg x.aB;exact hno _ hl6 (by omega)
def Q4 (y:ByteArray):Int:=match Jk y with|some n=>(n:Int)|none=>0
theorem JG (y:ByteArray) (w0:World) (hs:y.size≤1000000):Calls prog 105 #[.string y] w0 fun e w'=>e=.returned (.tuple #[.int .i64 (Q4 y),.bool (Jk y).isSome])∧Below w0.heap.size w0 w':=by
 refine (ZaD y w0 (by omega)).mono ?_;rintro e w' (⟨n,hg,rfl,hb⟩|⟨hg,rfl,hb⟩)
 ·exact ⟨by unfold Q4;rw [hg];rfl,hb⟩
 ·exact ⟨by unfold Q4;rw [hg];rfl,hb⟩
theorem Je {n:Int} (h:0≤n∧n≤999999999):Q4 (ZX n)=n:=by
 unfold Q4;rw [Ys h];show ((n.toNat:Nat):Int)=n
 omega
open Classical in
noncomputable def ZkR (s:ByteArray):Option PtrD:=if h:∃ p:PtrD,p.ok=true∧Z5 p=s then some h.choose else none
theorem Zfk {s:ByteArray} {p:PtrD} (hp:p.ok=true) (h:Z5 p=s):ZkR s=some p:=by
 have he:∃ p:PtrD,p.ok=true∧Z5 p=s:=⟨p,hp,h⟩;unfold ZkR;rw [dif_pos he];have hc:=he.choose_spec;rw [ZcG hc.1 hp (hc.2.trans h.symm)]
theorem ZnV {s:ByteArray} (h:∀ p:PtrD,p.ok=true→Z5 p=s→False):ZkR s=none:=by
 unfold ZkR;rw [dif_neg fun ⟨p,hp,hs⟩=>h p hp hs]
noncomputable def Vr (y:ByteArray):PtrD:=(ZkR y).getD PtrD.zero
theorem Zhe (y:ByteArray) (w0:World) (hs:y.size≤1000000):Calls prog 106 #[.string y] w0 fun e w'=>e=.returned (.tuple #[.agg #[.int .i64 ((Vr y).aA),.int .i64 ((Vr y).ah),.int .i64 ((Vr y).al),.int .i64 ((Vr y).ax),.int .i64 ((Vr y).ak)],.bool (ZkR y).isSome])∧Below w0.heap.size w0 w':=by
 refine (ZaM y w0 hs).mono ?_;rintro e w' (⟨p,hp,ht,rfl,hb⟩|⟨hn,rfl,hb⟩)
 ·exact ⟨by unfold Vr;rw [Zfk hp ht];rfl,hb⟩
 ·exact ⟨by unfold Vr;rw [ZnV hn];rfl,hb⟩
theorem Zd5 (s:ByteArray) (w0:World) (hs:s.size≤1000000):Calls prog 73 #[.string s] w0 fun e w'=>(∃ n:Zi,n.ok=true∧Xe n=s∧e=.returned (.tuple #[nV n,.bool true])∧Below w0.heap.size w0 w')∨((∀ n:Zi,n.ok=true→Xe n=s→False)∧e=.returned (.tuple #[Zo6,.bool false])∧Below w0.heap.size w0 w'):=by
 have E:=Bx.mk (St.start w0);refine ent func73 ntmps73 ?_;refine xsr ?_;refine yal z10 E ?_;clear E;intro w1 b1 E;refine xr 1 rfl<|xne<|xsr<|xr 1 rfl ?_;refine yc (ZcO s _ (by omega)) func104 ?_;rintro _ w2 (⟨xs,hrec,hsz,ao,cp,rfl,hs1⟩|⟨hno,ae,rfl,hb⟩);refine ⟨_,rfl,?_⟩;replace E:=E.ad hs1;clear hs1;refine xr 5 rfl<|xne<|xsq<|xsr<|xr 4 rfl<|xy rfl (vn 9 1 rfl)<|xr 2 rfl<|xne<|xcn 18 rfl (fun _ dcc1=>?_) fun _ dcc1=>?_;refine xct rfl<|xsr<|xy rfl (vb z10 rfl) ?_;refine yst E 1 ?_;clear E;intro w3 E;replace E:=E.nm;refine xr 1 rfl<|xne<|xre<|xtr ?_;intro a O;refine Zw O results73 (O.resBox rfl (E.o.box 1 rfl) (by kernel_rfl)) (O.res rfl) ?_;refine .inr ⟨fun x hx hxs=>?_,rfl,E.o.bel⟩;have hl6:=Y6 hx;rw [hxs] at hl6;have hx2:=XA x;rw [hxs] at hx2;have hsm:=(XZ hx).1;have k1:=hsm.links;have k2:=hsm.size;have k3:=hsm.many;have k4:=hsm.depth;have k5:=hsm.kind;have hel:=Xg x.aB;have hone:=hrec.one hl6;rw [hone] at dcc1;exact dcc1 rfl;refine xcf rfl<|xsk<|xet<|xsq ?_;obtain ⟨y0,y1,y2,y3,y4,y5,y6,rfl⟩:=Zoz (l:=xs) (by omega);intro a O;replace O:Fr 83 a [(0,.string s),(2,.pointer (some ⟨b1,0,none⟩)),(3,.bool false),(8,.string s),(10,.slice ao 7 cp),(11,.bool true),(4,.slice ao 7 cp),(5,.bool true),(12,.bool true),(13,.bool false),(14,.bool false),(15,.slice ao 7 cp),(18,.bool false)]:=O.ls _;obtain ⟨g2,rfl,_,_,_,_⟩:=E.o.rowOpen 0 rfl (Nat.succ_pos _);have hcap:=E.o.capLe 0 rfl;have hy0:y0.size≤2048:=by have:=YT [y0,y1,y2,y3,y4,y5,y6] (k:=0) (by simp only [length_cons,length_nil];omega);rw [hrec.is] at this;have e:([y0,y1,y2,y3,y4,y5,y6]:List ByteArray).getD 0 ByteArray.empty=y0:=rfl;rw [e] at this;omega
 have hy1:y1.size≤2048:=by have:=YT [y0,y1,y2,y3,y4,y5,y6] (k:=1) (by simp only [length_cons,length_nil];omega);rw [hrec.is] at this;have e:([y0,y1,y2,y3,y4,y5,y6]:List ByteArray).getD 1 ByteArray.empty=y1:=rfl;rw [e] at this;omega
 have hy2:y2.size≤2048:=by have:=YT [y0,y1,y2,y3,y4,y5,y6] (k:=2) (by simp only [length_cons,length_nil];omega);rw [hrec.is] at this;have e:([y0,y1,y2,y3,y4,y5,y6]:List ByteArray).getD 2 ByteArray.empty=y2:=rfl;rw [e] at this;omega
 have hy3:y3.size≤2048:=by have:=YT [y0,y1,y2,y3,y4,y5,y6] (k:=3) (by simp only [length_cons,length_nil];omega);rw [hrec.is] at this;have e:([y0,y1,y2,y3,y4,y5,y6]:List ByteArray).getD 3 ByteArray.empty=y3:=rfl;rw [e] at this;omega
 have hy4:y4.size≤2048:=by have:=YT [y0,y1,y2,y3,y4,y5,y6] (k:=4) (by simp only [length_cons,length_nil];omega);rw [hrec.is] at this;have e:([y0,y1,y2,y3,y4,y5,y6]:List ByteArray).getD 4 ByteArray.empty=y4:=rfl;rw [e] at this;omega
 have hy5:y5.size≤2048:=by have:=YT [y0,y1,y2,y3,y4,y5,y6] (k:=5) (by simp only [length_cons,length_nil];omega);rw [hrec.is] at this;have e:([y0,y1,y2,y3,y4,y5,y6]:List ByteArray).getD 5 ByteArray.empty=y5:=rfl;rw [e] at this;omega
 have hy6:y6.size≤2048:=by have:=YT [y0,y1,y2,y3,y4,y5,y6] (k:=6) (by simp only [length_cons,length_nil];omega);rw [hrec.is] at this;have e:([y0,y1,y2,y3,y4,y5,y6]:List ByteArray).getD 6 ByteArray.empty=y6:=rfl;rw [e] at this;omega
 revert a;refine xrl<|xy rfl (vb z10 rfl) ?_;refine yal z10 E ?_;clear E;intro w4 b3 E;refine yst E 0 ?_;clear E;intro w5 E;replace E:=E.nm;refine xne<|xsr<|xr 1 rfl<|xy rfl (vx 9 0 1 rfl)<|xy rfl (ve encS_len E.o 1 0 rfl rfl rfl rfl) ?_;refine ycB (JG y0 _ (by omega)) func105 E ?_;clear E;intro w6 E;refine xr 3 rfl<|Xf 0 rfl ?_;refine ysF 0 E ?_;clear E;intro w7 E;replace E:=E.nm;refine xne<|xsr<|xr 1 rfl<|xy rfl (vx 9 1 1 rfl)<|xy rfl (ve encS_len E.o 1 1 rfl rfl rfl rfl) ?_;refine ycB (JG y1 _ (by omega)) func105 E ?_;clear E;intro w8 E;refine xr 3 rfl<|Xf 1 rfl ?_;refine ysF 0 E ?_;clear E;intro w9 E;replace E:=E.nm;refine xne<|xsr<|xr 1 rfl<|xy rfl (vx 9 2 1 rfl)<|xy rfl (ve encS_len E.o 1 2 rfl rfl rfl rfl) ?_;refine ycB (JG y2 _ (by omega)) func105 E ?_;clear E;intro w10 E;refine xr 3 rfl<|Xf 2 rfl ?_;refine ysF 0 E ?_;clear E;intro w11 E;replace E:=E.nm;refine xne<|xsr<|xr 1 rfl<|xy rfl (vx 9 3 1 rfl)<|xy rfl (ve encS_len E.o 1 3 rfl rfl rfl rfl) ?_;refine ycB (Zhe y3 _ (by omega)) func106 E ?_;clear E;intro w12 E;refine xr 3 rfl<|Xf 3 rfl<|Xf 0 rfl ?_;intro a O;refine Y7 rfl rfl rfl (O.ev rfl) (O.ev rfl) E.o 0 rfl (by kernel_rfl) rfl (by kernel_rfl) (rs:=[.int .i64 (Q4 y0),.int .i64 (Q4 y1),.int .i64 (Q4 y2),.int .i64 ((Vr y3).aA),.int .i64 ((Vr y3).ah),.int .i64 ((Vr y3).al),.int .i64 ((Vr y3).ax),.int .i64 ((Vr y3).ak),.int .i64 0,.int .i64 0]) rfl ?_;clear E;intro w13 E;replace E:=Bx.mk E;replace E:=E.nm;revert a;refine xne<|xsr<|xr 1 rfl<|xy rfl (vx 9 4 1 rfl)<|xy rfl (ve encS_len E.o 1 4 rfl rfl rfl rfl) ?_;refine ycB (JG y4 _ (by omega)) func105 E ?_;clear E;intro w14 E;refine xr 3 rfl<|Xf 3 rfl<|Xf 5 rfl ?_;refine ysF 0 E ?_;clear E;intro w15 E;replace E:=E.nm;refine xne<|xsr<|xr 1 rfl<|xy rfl (vx 9 5 1 rfl)<|xy rfl (ve encS_len E.o 1 5 rfl rfl rfl rfl) ?_;refine ycB (JG y5 _ (by omega)) func105 E ?_;clear E;intro w16 E;refine xr 3 rfl<|Xf 3 rfl<|Xf 6 rfl ?_;refine ysF 0 E ?_;clear E;intro w17 E;replace E:=E.nm;refine xne<|xsq<|xsr<|Xw 0 10 E rfl rfl ?_;refine ycB (UU (⟨Q4 y0,Q4 y1,Q4 y2,⟨Vr y3,Q4 y4,Q4 y5⟩⟩:Zi) _) func19 E ?_;clear E;intro w18 E;refine xr 2 rfl<|xcs 75 rfl (fun cc2=>?_) fun cc2=>?_;refine xr 5 rfl<|xne<|xct rfl<|xsr<|xy rfl (vb z10 rfl) ?_;refine yst E 2 ?_;clear E;intro w19 E;replace E:=E.nm;refine xr 1 rfl<|xne<|xre<|xtr ?_;intro a O;refine Zw O results73 (O.resBox rfl (E.o.box 2 rfl) (by kernel_rfl)) (O.res rfl) ?_;refine .inr ⟨fun x hx hxs=>?_,rfl,E.o.bel⟩;have hl6:=Y6 hx;rw [hxs] at hl6;have hx2:=XA x;rw [hxs] at hx2;have hsm:=(XZ hx).1;have k1:=hsm.links;have k2:=hsm.size;have k3:=hsm.many;have k4:=hsm.depth;have k5:=hsm.kind;have hel:=Xg x.aB;have hone:=hrec.one hl6;simp only [XY,List.cons.injEq,and_true] at hone;obtain ⟨z0,z1,z2,z3,z4,z5,_⟩:=hone;have e3:(⟨Q4 y0,Q4 y1,Q4 y2,⟨Vr y3,Q4 y4,Q4 y5⟩⟩:Zi)=x:=by rw [z0,z1,z2,z3,z4,z5,Je (by omega),Je (by omega),Je (by omega),Je (by omega),Je (by omega),show Vr (Z5 x.aw.ac)=x.aw.ac from by unfold Vr;rw [Zfk (Zi.ok_is hx).root rfl];rfl]
 rw [e3] at cc2;simp [hx] at cc2;refine Xw 0 10 E rfl rfl ?_;refine Ji (Zar (⟨Q4 y0,Q4 y1,Q4 y2,⟨Vr y3,Q4 y4,Q4 y5⟩⟩:Zi) _) func53 E ?_;clear E;intro w20 E;refine xr 1 rfl<|xy rfl (fun a O=>Jg rfl (O.ev rfl) (O.ev rfl))<|xr 1 rfl<|xne<|xcs 80 rfl (fun cc3=>?_) fun cc3=>?_;refine xct rfl<|xsr<|xy rfl (vb z10 rfl) ?_;refine yst E 2 ?_;clear E;intro w21 E;replace E:=E.nm;refine xr 1 rfl<|xne<|xre<|xtr ?_;intro a O;refine Zw O results73 (O.resBox rfl (E.o.box 2 rfl) (by kernel_rfl)) (O.res rfl) ?_;refine .inr ⟨fun x hx hxs=>?_,rfl,E.o.bel⟩;have hl6:=Y6 hx;rw [hxs] at hl6;have hx2:=XA x;rw [hxs] at hx2;have hsm:=(XZ hx).1;have k1:=hsm.links;have k2:=hsm.size;have k3:=hsm.many;have k4:=hsm.depth;have k5:=hsm.kind;have hel:=Xg x.aB;have hone:=hrec.one hl6;simp only [XY,List.cons.injEq,and_true] at hone;obtain ⟨z0,z1,z2,z3,z4,z5,_⟩:=hone;have e3:(⟨Q4 y0,Q4 y1,Q4 y2,⟨Vr y3,Q4 y4,Q4 y5⟩⟩:Zi)=x:=by rw [z0,z1,z2,z3,z4,z5,Je (by omega),Je (by omega),Je (by omega),Je (by omega),Je (by omega),show Vr (Z5 x.aw.ac)=x.aw.ac from by unfold Vr;rw [Zfk (Zi.ok_is hx).root rfl];rfl]
 rw [e3,hxs] at cc3;simp [hx] at cc3;refine xcf rfl<|xsk<|xet<|xsr<|Xw 0 10 E rfl rfl ?_;refine yst E 2 ?_;clear E;intro w22 E;replace E:=E.nm;refine xr 1 rfl<|xne<|xre ?_;intro a O;refine Zw O results73 (O.resBox rfl (E.o.box 2 rfl) (by kernel_rfl)) (O.res rfl) ?_;exact .inl ⟨(⟨Q4 y0,Q4 y1,Q4 y2,⟨Vr y3,Q4 y4,Q4 y5⟩⟩:Zi),by simpa using cc2,Yi (by simpa using cc3),rfl,E.o.bel⟩;refine ⟨_,rfl,?_⟩;replace E:=Bx.mk (E.o.later hb);clear hb;refine xr 5 rfl<|xne<|xsq<|xsr<|xr 7 rfl<|xne<|xct rfl<|xsr<|xy rfl (vb z10 rfl) ?_;refine yst E 0 ?_;clear E;intro w23 E;replace E:=E.nm;refine xr 1 rfl<|xne<|xre<|xtr ?_;intro a O;refine Zw O results73 (O.resBox rfl (E.o.box 0 rfl) (by kernel_rfl)) (O.res rfl) ?_;refine .inr ⟨fun x hx hxs=>?_,rfl,E.o.bel⟩;have hl6:=Y6 hx;rw [hxs] at hl6;have hx2:=XA x;rw [hxs] at hx2;have hsm:=(XZ hx).1;have k1:=hsm.links;have k2:=hsm.size;have k3:=hsm.many;have k4:=hsm.depth;have k5:=hsm.kind;have hel:=Xg x.aB;exact hno _ hl6 (by omega)
theorem Zil {st:Za}:∀ {n:Nat} {l m:List PtrD},(∀ p ∈ l,p.ok=true)→downL (kids st) n l=some m→∀ p ∈ m,p.ok=true
 | 0,l,m,h,hd=>by obtain rfl:l=m:=Option.some.inj hd;exact h
 | n+1,l,m,h,hd=>by
  cases hn:YX (fun p=>kids st p ((n+1:Nat):Int)) l with
  | none=>rw [Jd hn] at hd;cases hd
  | some x =>
   rw [QQ hn] at hd;refine Zil (fun q hq=>?_) hd;obtain ⟨p,_,k,hk,hq⟩:=(VE hn).2.1 q hq;exact (Xy hk).2.1 q hq
theorem Zjo {st:Za} {t:Zf} {l:List PtrD} (h:leavesF st t=some l) (hr:t.ac.ok=true):∀ p ∈ l,p.ok=true:=by
 obtain ⟨x,_,hd,_,rfl,_,_⟩:=XP h;exact fun p hp=>Zil (fun q hq=>by rw [mem_singleton.1 hq];exact hr) hd p (List.mem_of_mem_take hp)
noncomputable def QW (st:Za):List PtrD→Option (List (Option Zi))
 | []=>some []
 | p::r=>bif p.hole then (QW st r).map (none::·) else match VH (ZA st p) with
  | none=>none
  | some n=>bif JF st n.aw then (QW st r).map (some n::·) else none
noncomputable def tabF (st:Za) (t:Zf):Option (List (Option Zi)):=(leavesF st t).bind (QW st)
theorem Zdk {st:Za} {t:Zf} (h:leavesF st t=none):tabF st t=none:=by unfold tabF;rw [h];rfl
theorem J5 {st:Za} {t:Zf} {l:List PtrD} (h:leavesF st t=some l):tabF st t=QW st l:=by unfold tabF;rw [h];rfl
theorem Zbq {st:Za} {p:PtrD} {r:List PtrD} (h:p.hole=true):QW st (p::r)=(QW st r).map (none::·):=by
 show (bif p.hole then _ else _)=_;rw [h];rfl
theorem ZcP {st:Za} {p:PtrD} {r:List PtrD} (h:p.hole=false) (hn:VH (ZA st p)=none):QW st (p::r)=none:=by
 show (bif p.hole then _ else _)=_;rw [h,hn];rfl
theorem Zbr {st:Za} {p:PtrD} {r:List PtrD} {n:Zi} (h:p.hole=false) (hn:VH (ZA st p)=some n) (ht:JF st n.aw=false):QW st (p::r)=none:=by
 show (bif p.hole then _ else _)=_;rw [h,hn];simp only [cond_false,ht]
theorem ZcQ {st:Za} {p:PtrD} {r:List PtrD} {n:Zi} (h:p.hole=false) (hn:VH (ZA st p)=some n) (ht:JF st n.aw=true):QW st (p::r)=(QW st r).map (some n::·):=by
 show (bif p.hole then _ else _)=_;rw [h,hn];simp only [cond_false,ht,cond_true]
theorem Zmq {α:Type} {o:Option (List α)} (a b:List α):(o.map (b++·)).map (a++·)=o.map ((a++b)++·):=by cases o <;> simp
theorem Zim {α:Type} {o:Option (List α)}:o=o.map (([]:List α)++·):=by cases o <;> simp
theorem Zfl {xs:List PtrD} {i:Nat} (h:i<xs.length):xs.drop i=xs.getD i PtrD.zero::xs.drop (i+1):=by
 rw [List.drop_eq_getElem_cons h,getD_eq_getElem?_getD,getElem?_eq_getElem h];rfl
theorem ZcR {st:Za} {xs:List PtrD} {i:Nat} {b:List (Option Zi)} (h:QW st xs=(QW st (xs.drop i)).map (b++·)) (hi:i<xs.length) (hp:QW st (xs.getD i PtrD.zero::xs.drop (i+1))=none):QW st xs=none:=by
 rw [h,Zfl hi,hp];rfl
theorem ZcS {st:Za} {xs:List PtrD} {i:Nat} {b:List (Option Zi)} (h:QW st xs=(QW st (xs.drop i)).map (b++·)) (hi:i<xs.length) {o:Option Zi} (hp:QW st (xs.getD i PtrD.zero::xs.drop (i+1))=(QW st (xs.drop (i+1))).map (o::·)):QW st xs=(QW st (xs.drop (i+1))).map ((b++[o])++·):=by
 rw [h,Zfl hi,hp,← Zmq];rfl
theorem Zj9 {st:Za} {xs:List PtrD} {i:Nat} {b:List (Option Zi)} (h:QW st xs=(QW st (xs.drop i)).map (b++·)) (hi:¬ i<xs.length):QW st xs=some b:=by
 rw [h,List.drop_of_length_le (by omega)];show some (b++[])=_;rw [append_nil]
theorem Zin {st:Za}:∀ {l:List PtrD} {ns:List (Option Zi)},QW st l=some ns→ns.length=l.length
 | [],ns,h=>by obtain rfl:=Option.some.inj h;rfl
 | p::r,ns,h=>by
  have key:∀ o:Option Zi,(QW st r).map (o::·)=some ns→ns.length=(p::r).length:=fun o h=>by
   cases hr:QW st r with
   | none=>rw [hr] at h;cases h
   | some m =>
    rw [hr] at h;obtain rfl:=Option.some.inj h;rw [length_cons,length_cons,Zin hr]
  cases hh:p.hole with
  | true=>exact key _ ((Zbq hh).symm.trans h)
  | false =>
   cases hn:VH (ZA st p) with
   | none=>rw [ZcP hh hn] at h;cases h
   | some n =>
    cases ht:JF st n.aw with
    | false=>rw [Zbr hh hn ht] at h;cases h
    | true=>exact key _ ((ZcQ hh hn ht).symm.trans h)
theorem ZgD {st:Za} {t:Zf} {l:List PtrD} (h:leavesF st t=some l):l.length≤16:=by
 obtain ⟨x,ht,hd,_,rfl,hx,hn⟩:=XP h;unfold topB at ht;rw [Bool.and_eq_true] at ht;have:=Zo ht.1
 omega
def Zmr (st:Za) (p:PtrD) (o:Option Zi):Prop:=(p.hole=true∧o=none)∨(p.hole=false∧∃ n,o=some n∧VH (ZA st p)=some n∧JF st n.aw=true)
theorem Zka {st:Za}:∀ {l:List PtrD} {ns:List (Option Zi)},QW st l=some ns→∀ k,k<l.length→Zmr st (l.getD k PtrD.zero) (ns.getD k none)
 | [],ns,h,k,hk=>absurd hk (Nat.not_lt_zero _)
 | p::r,ns,h,k,hk=>by
  have key:∀ o:Option Zi,Zmr st p o→(QW st r).map (o::·)=some ns→Zmr st ((p::r).getD k PtrD.zero) (ns.getD k none):=fun o ho h=>by
   cases hr:QW st r with
   | none=>rw [hr] at h;cases h
   | some m =>
    rw [hr] at h;obtain rfl:=Option.some.inj h
    cases k with
    | zero=>exact ho
    | succ k=>exact Zka hr k (by simpa using hk)
  cases hh:p.hole with
  | true=>exact key _ (.inl ⟨hh,rfl⟩) ((Zbq hh).symm.trans h)
  | false =>
   cases hn:VH (ZA st p) with
   | none=>rw [ZcP hh hn] at h;cases h
   | some n =>
    cases ht:JF st n.aw with
    | false=>rw [Zbr hh hn ht] at h;cases h
    | true=>exact key _ (.inr ⟨hh,n,rfl,hn,ht⟩) ((ZcQ hh hn ht).symm.trans h)
theorem ZnW {st:Za} {t:Zf} {ns:List (Option Zi)} (h:tabF st t=some ns):∃ l,leavesF st t=some l∧QW st l=some ns∧ns.length=l.length:=by
 cases hl:leavesF st t with
 | none=>rw [Zdk hl] at h;cases h
 | some l=>rw [J5 hl] at h;exact ⟨l,rfl,h,Zin h⟩
theorem Zjp {st:Za} {t:Zf} {l:List PtrD} (h:leavesF st t=some l):JF st t=true:=by unfold JF;rw [h];rfl
theorem ZkS {st:Za} {t:Zf} (h:leavesF st t=none):JF st t=false:=by unfold JF;rw [h];rfl
noncomputable def tabT (st:Za) (t:Zf):Option (List (Option Zi)):=bif st.ok then tabF st t else none
theorem Zhf {st:Za} {t:Zf} (h:st.ok=false):tabT st t=none:=by unfold tabT;rw [h];rfl
theorem Zel {st:Za} {t:Zf} (h:st.ok=true):tabT st t=tabF st t:=by unfold tabT;rw [h];rfl
theorem Zkb {st:Za} {t:Zf} {ns:List (Option Zi)} (h:tabT st t=some ns):st.ok=true∧tabF st t=some ns:=by
 cases hs:st.ok with
 | false=>rw [Zhf hs] at h;cases h
 | true=>rw [Zel hs] at h;exact ⟨rfl,h⟩
theorem Zpk:ZbA prog 84 145 1 8:=by
 obtain ⟨i0,hi,hz0,hz1,hz2⟩:=info_parts (P:=prog) (e:=145) (z:=.pointer none) (size:=1) (bytes:=8) (by kernel_rfl);exact ⟨Tryz.underlying84,⟨i0,_,hi,hz0,hz1,hz2,rfl⟩,by decide⟩
def Zi.val (n:Zi):Value:=.agg #[.int .i64 n.aB,.int .i64 n.aC,.int .i64 n.al,.int .i64 n.aw.ac.aA,.int .i64 n.aw.ac.ah,.int .i64 n.aw.ac.al,.int .i64 n.aw.ac.ax,.int .i64 n.aw.ac.ak,.int .i64 n.aw.az,.int .i64 n.aw.am]
def Zas:Option Addr × Option Zi→Asr
 | (none,none)=>pureA True
 | (some p,some n)=>⟨fun w f=>p=⟨p.block,0,none⟩∧(boxA p.block 10 48 n.val).P w f,fun w w' f hs hb h=>⟨h.1,(boxA p.block 10 48 n.val).loc w w' f hs hb h.2⟩⟩
 | _=>pureA False
def Zms (w:World):Option Addr × Option Zi→Prop
 | (none,none)=>True
 | (some p,some n)=>p=⟨p.block,0,none⟩∧Box w p.block 10 48 n.val
 | _=>False
theorem ZnX {w:World} {f:List Nat}:∀ {q:Option Addr × Option Zi},(Zas q).P w f→Zms w q
 | (none,none),_=>trivial
 | (some p,some n),h=>⟨h.1,h.2.2⟩
 | (none,some _),h=>h.1.elim
 | (some _,none),h=>h.1.elim
theorem Zio {w:World}:∀ {qs:List (Option Addr × Option Zi)} {f:List Nat},(sepA (qs.map Zas)).P w f→∀ q ∈ qs,Zms w q
 | [],_,_,q,hq=>by cases hq
 | x::r,f,h,q,hq=>by
  obtain ⟨f1,f2,_,h1,h2⟩:=h;rcases mem_cons.1 hq with rfl|hq
  ·exact ZnX h1
  ·exact Zio (f:=f2) h2 q hq
def Zjq (ao:Option Addr) (ns:List (Option Zi)) (w:World):Prop:=∃ qs:List (Option Addr × Option Zi),qs.map Prod.snd=ns∧Rd Zg1 1 w ao ns.length (qs.map Prod.fst)∧∀ q ∈ qs,Zms w q
abbrev nd0:Option Addr × Option Zi:=(none,none)
abbrev nd1 (b:Nat) (n:Zi):Option Addr × Option Zi:=(some ⟨b,0,none⟩,some n)
theorem St.nodeNil {W w:World} {qs:List (Option Addr × Option Zi)} {F:List Asr} (h:St W (sepA (qs.map Zas)::F) w):St W (sepA ((qs++[nd0]).map Zas)::F) w:=by
 have h1:=St.join.2 h;have h2:St W (pureA True::(qs.map Zas++F)) w:=St.pure.2 ⟨trivial,h1⟩;rw [map_append];refine St.join.1 (h2.perm ?_);rw [List.append_assoc];exact List.perm_middle.symm
theorem St.nodeSnoc {W w:World} {b:Nat} {n:Zi} {qs:List (Option Addr × Option Zi)} {F:List Asr} (h:St W (boxA b 10 48 n.val::sepA (qs.map Zas)::F) w):St W (sepA ((qs++[nd1 b n]).map Zas)::F) w:=by
 have h1:St W (Zas (some ⟨b,0,none⟩,some n)::sepA (qs.map Zas)::F) w:=h.imp fun f hf _ _=>(⟨rfl,hf⟩:(⟨b,0,none⟩:Addr)=⟨b,0,none⟩∧(boxA b 10 48 n.val).P w f)
 have h2:=St.join.2 (h1.perm (List.Perm.swap _ _ _));rw [map_append];refine St.join.1 (h2.perm ?_);rw [List.append_assoc];exact List.Perm.refl _
theorem Zmt {α:Type} {av qs:List (Option α)} {m:Nat} (h:av=qs++replicate m none) (hm:0<m) (x:Option α):av.set qs.length x=(qs++[x])++replicate (m - 1) none:=by
 obtain ⟨m,rfl⟩:∃ j,m=j+1:=⟨m - 1,by omega⟩;subst h;rw [List.set_append_right _ _ (Nat.le_refl _),Nat.sub_self,List.replicate_succ,List.set_cons_zero,List.append_assoc];rfl
theorem ZnY {α:Type} {av qs:List (Option α)} {m:Nat} (h:av=qs++replicate m none) (hm:0<m):av=(qs++[none])++replicate (m - 1) none:=by
 obtain ⟨m,rfl⟩:∃ j,m=j+1:=⟨m - 1,by omega⟩;rw [h,List.replicate_succ,List.append_assoc];rfl
theorem ZkT {W w:World} {ao:Option Addr} {c:Nat} {T:TypeId} {qs:List (Option Addr × Option Zi)} {F:List Asr} (h:St W (Zd Zg1 1 T (.slice ao (qs.map Prod.fst).length c) (qs.map Prod.fst)::sepA (qs.map Zas)::F) w):St W (holdsA (Zjq ao (qs.map Prod.snd))::F) w:=by
 have h1:=(St.join (r:=[_,_])).1 h;refine h1.hold fun w f hf=>?_;obtain ⟨f1,_,_,k1,f3,_,_,k2,_⟩:=hf;have:=J0 Xx k1;rw [length_map] at this;exact ⟨qs,rfl,by rw [length_map];exact this,Zio k2⟩
theorem Zip {st:Za} {t:Zf} {l:List PtrD} (h:leavesF st t=some l):t.ac.ok=true:=by
 obtain ⟨x,ht,_⟩:=XP h;unfold topB at ht;simp only [Bool.and_eq_true] at ht;exact ht.2.2.1
theorem ZkU (a0:Option Addr) (c0:Nat) (a1:Option Addr) (c1:Nat) (a2:Option Addr) (c2:Nat) (a4:Option Addr) (c4:Nat) (a6:Option Addr) (c6:Nat) (st:Za) (t:Zf) (b:Nat) (w0:World) (hT:Xq w0) (hM:X1 w0) (hE:X2 w0) (hB:Box w0 b 8 39 (sV a0 c0 a1 c1 a2 c2 a4 c4 a6 c6 st)) (hR:Rd Zt 1 w0 a0 st.af.length st.af) (hrow:Y5 st):Calls prog 87 #[.pointer (some ⟨b,0,none⟩),tV t] w0 fun e w'=>(∃ ns,tabF st t=some ns∧∃ ao,e=.returned (.tuple #[.slice ao ns.length ns.length,.bool true])∧St w0 [holdsA (Zjq ao ns)] w')∨(tabF st t=none∧e=.returned (.tuple #[.slice none 0 0,.bool false])∧Below w0.heap.size w0 w'):=by
 have HT:=Bx.mk hT;have HM:=Bx.mk hM;have HE:=Bx.mk hE;have HB:=Bx.mk hB;have HR:=Bx.mk hR;clear hT hM hE hB hR;have E:=Bx.mk (St.start w0);refine ent func87 ntmps87 ?_;refine xsr ?_;refine ybx E ?_;clear E;intro w1 b1 E;refine xr 2 rfl<|xne<|xsr<|xr 1 rfl<|Xw 0 7 E rfl rfl ?_;refine yc (Zad a0 c0 a1 c1 a2 c2 a4 c4 a6 c6 st t b _ (HT.o.below E.o.bel) (HM.o.below E.o.bel) (HE.o.below E.o.bel) (HB.out.below E.o.bel (Nat.le_refl _)) (HR.out.below E.o.bel) hrow) func89 ?_;rintro _ w2 (⟨l,hlf,ao,rfl,hs1⟩|⟨hlf,rfl,hb⟩);refine ⟨_,rfl,?_⟩;replace E:=E.ad hs1;clear hs1;refine xr 5 rfl<|xne<|xsq<|xsr<|xr 2 rfl<|xne<|xcf rfl<|xsk<|xet<|xsq ?_;have hl16:=ZgD hlf;have hoks:=Zjo hlf (Zip hlf);refine xrl<|xr 1 rfl<|xy rfl (vn 40 5 rfl) ?_;intro a O;refine ZeX (enc:=Zg1) (n:=l.length) rfl O rfl rfl rfl Zpk (O.ev rfl) (O.ev rfl) (by omega) (by omega) (by omega) (by unfold maxLen;omega) (none:Option Addr) (u:=.pointer none) (by kernel_rfl) rfl rfl E.o ?_;clear O E a;intro b2 a w3 O E;replace E:=Bx.mk E;revert a;refine xr 1 rfl<|xne<|xsq<|xsr<|xr 1 rfl<|xy rfl (vn 40 5 rfl)<|xr 1 rfl<|xne<|xbl ?_;replace E:=Bx.mk (St.pure.2 ⟨trivial,E.o⟩);replace E:Bx (St w0 (sepA (([]:List (Option Addr × Option Zi)).map Zas)::[Zd Zg1 1 145 (.slice (some ⟨b2,0,none⟩) l.length l.length) (replicate l.length (none:Option Addr)),holdsA (fun w=>Rd PtrD.cells 5 w ao l.length l),boxA b1 7 42 (tV t)]) _):=⟨(St.join (r:=[])).1 (St.pure.1 E.o).2⟩;obtain ⟨av,has⟩:∃ av:List (Option Addr),av=replicate l.length none:=⟨_,rfl⟩;rw [← has] at E;have hal:av.length=l.length:=by rw [has];exact length_replicate ..
 intro a O;refine ZD (ι:=Nat) (fun k a w=>∃ (qs:List (Option Addr × Option Zi)) (av:List (Option Addr)),(k≤l.length∧qs.length=k∧av=qs.map Prod.fst++replicate (l.length - k) none∧av.length=l.length∧QW st l=(QW st (l.drop k)).map (qs.map Prod.snd++·))∧Fr 64 a [(0,.pointer (some ⟨b,0,none⟩)),(8,.slice (some ⟨b2,0,none⟩) l.length l.length),(28,.slice ao l.length l.length),(29,.int .i64 (l.length:Int)),(30,.int .i64 (k:Int))]∧St w0 ([sepA (qs.map Zas),Zd Zg1 1 145 (.slice (some ⟨b2,0,none⟩) l.length l.length) av,holdsA (fun w=>Rd PtrD.cells 5 w ao l.length l),boxA b1 7 42 (tV t)]) w) (fun k=>l.length - k) 0 ⟨[],av,⟨Nat.zero_le _,rfl,has,hal,Zim⟩,O.ls _,E.o⟩ ?_;clear O E;clear a;rintro k a w4 ⟨qs,av,⟨hk,hql,has,hal,htl⟩,O,E⟩;replace E:=Bx.mk E;revert a;refine xsr<|xr 1 rfl<|xne<|xsq<|xcd 31 rfl (fun _ dcc1=>?_) fun _ dcc1=>?_
 refine xct rfl<|xsk<|xet<|xsq<|xbl<|xsq ?_;obtain ⟨g7,o7,r7⟩:=(E.o.holds 2 rfl).opn;have RL:=Bx.mk r7;clear r7;have hrt:=ZcK hrow (l.getD k PtrD.zero);refine xrl<|xr 1 rfl<|xy rfl (vxr 40 k 5 rfl (RL.out.ao k (by omega)))<|xy rfl (fun a O=>ylr (cs:=pL (l.getD k PtrD.zero)) rfl (O.ev rfl) (RL.out.elem (St.start _) (Zh (xs:=l) (j:=k) (d:=PtrD.zero) (by omega)))) ?_;refine yal z5 E ?_;clear E;intro w5 b3 E;refine xr 1 rfl ?_;refine yst E 0 ?_;clear E;intro w6 E;replace E:=E.nm;refine xne<|xsq<|xsr<|Xw 0 5 E rfl rfl ?_;refine ycB (Ye (l.getD k PtrD.zero) _) func60 E ?_;clear E;intro w7 E;refine xne<|xcs 36 rfl (fun cc2=>?_) fun cc2=>?_;refine xct rfl<|xex<|xtx<|xbh<|xet<|xrl<|xy rfl (vad rfl)<|xr 1 rfl<|xne ?_;replace E:=E.pks [1];replace E:=Bx.mk E.o.nodeNil;have hstep:=ZcS htl (show k<l.length by omega) (Zbq cc2);have hrep:av=((qs++[nd0]).map Prod.fst)++replicate (l.length - (k+1)) none:=by have:=ZnY has (by omega);rw [map_append,Nat.sub_add_eq];exact this
 replace E:=E.pks [4,4,4,3];intro a O;exact ⟨(k+1),⟨qs++[nd0],av,⟨by omega,by rw [length_append,hql];rfl,hrep,hal,by rw [map_append];exact hstep⟩,O.less _ ⟨rfl,rfl,rfl,rfl,rfl,trivial⟩,(E.o.erase 4)⟩,(by omega)⟩;refine xcf rfl<|xsk<|xet<|xsr<|xr 1 rfl<|Xw 0 5 E rfl rfl ?_;refine ycB (Zaa a0 c0 a1 c1 a2 c2 a4 c4 a6 c6 st (l.getD k PtrD.zero) b _ (HB.out.below E.o.bel (Nat.le_refl _)) (HR.out.below E.o.bel) hrow (hoks _ (YI (by omega)))) func93 E ?_;clear E;intro w8 E;refine xr 5 rfl<|xne<|xsr<|xr 1 rfl ?_;refine yc (Zd4 (ZA st (l.getD k PtrD.zero)) _ (HT.o.below E.o.bel) (HM.o.below E.o.bel) (HE.o.below E.o.bel) hrt) func120 ?_;rintro _ w9 (⟨n,hno,hnb,rfl,hb⟩|⟨hnn,rfl,hb⟩);refine ⟨_,rfl,?_⟩;replace E:=Bx.mk (E.o.later hb);clear hb;refine xr 3 rfl ?_;refine yal z10 E ?_;clear E;intro w10 b4 E;refine yst E 0 ?_;clear E;intro w11 E;replace E:=E.nm;refine xr 1 rfl<|xne<|xsq<|xsr<|xr 2 rfl<|xne<|xcf rfl<|xsk<|xet<|xsq<|xsr<|xr 1 rfl<|Xf 3 rfl<|Xw 0 7 E rfl rfl ?_;refine yc (Zad a0 c0 a1 c1 a2 c2 a4 c4 a6 c6 st n.aw b _ (HT.o.below E.o.bel) (HM.o.below E.o.bel) (HE.o.below E.o.bel) (HB.out.below E.o.bel (Nat.le_refl _)) (HR.out.below E.o.bel) hrow) func89 ?_;rintro _ w12 (⟨l2,hlf2,ao2,rfl,hs1⟩|⟨hlf2,rfl,hb⟩);refine ⟨_,rfl,?_⟩;replace E:=E.ad hs1;clear hs1;refine xr 5 rfl<|xne<|xsr<|xr 2 rfl<|xne<|xcf rfl<|xsk<|xet<|xrl<|xr 2 rfl<|xy rfl (vx 145 k 1 rfl) ?_;intro a O;refine ZQ Xx rfl rfl rfl (O.ev rfl) (O.ev rfl) (by kernel_rfl) E.o 4 rfl (by omega) (z:=(some ⟨b4,0,none⟩)) rfl rfl ?_;clear E;intro w13 E;replace E:=Bx.mk E;revert a;refine xni<|xeb<|xet<|xrl<|xy rfl (vad rfl)<|xr 1 rfl<|xne ?_;replace E:=E.pks [3,2];replace E:=Bx.mk (St.nodeSnoc (n:=n) E.o);have hstep:=ZcS htl (show k<l.length by omega) (ZcQ cc2 (Zbp hno hnb) (Zjp hlf2));obtain ⟨as2,has2⟩:∃ as2:List (Option Addr),as2=av.set k (some ⟨b4,0,none⟩):=⟨_,rfl⟩;rw [← has2] at E;have hrep:as2=((qs++[nd1 b4 n]).map Prod.fst)++replicate (l.length - (k+1)) none:=by have:=Zmt has (by omega) (some ⟨b4,0,none⟩);rw [length_map,hql] at this;rw [has2,map_append,Nat.sub_add_eq];exact this
 have hal2:as2.length=l.length:=by rw [has2,length_set];exact hal
 replace E:=E.pks [5,5,5,3];intro a O;exact ⟨(k+1),⟨qs++[nd1 b4 n],as2,⟨by omega,by rw [length_append,hql];rfl,hrep,hal2,by rw [map_append];exact hstep⟩,O.less _ ⟨rfl,rfl,rfl,rfl,rfl,trivial⟩,(E.o.erS [5,4])⟩,(by omega)⟩;refine ⟨_,rfl,?_⟩;replace E:=Bx.mk (E.o.later hb);clear hb;refine xr 5 rfl<|xne<|xsr<|xr 2 rfl<|xne<|xct rfl<|xsr<|xr 2 rfl<|xne<|xre<|xtr<|xbr<|xtr<|xtr<|xbr<|xtr<|xb2 results87 rfl rfl ?_;exact .inr ⟨by rw [J5 hlf];exact ZcR htl (show k<l.length by omega) (Zbr cc2 (Zbp hno hnb) (ZkS hlf2)),rfl,E.o.bel⟩;refine ⟨_,rfl,?_⟩;replace E:=Bx.mk (E.o.later hb);clear hb;refine xr 3 rfl ?_;refine yal z10 E ?_;clear E;intro w14 b5 E;refine yst E 0 ?_;clear E;intro w15 E;replace E:=E.nm;refine xr 1 rfl<|xne<|xsq<|xsr<|xr 2 rfl<|xne<|xct rfl<|xsr<|xr 2 rfl<|xne<|xre<|xtr<|xbr<|xtr<|xtr<|xbr<|xtr<|xb2 results87 rfl rfl ?_;exact .inr ⟨by rw [J5 hlf];exact ZcR htl (show k<l.length by omega) (ZcP cc2 (Zii hnn)),rfl,E.o.bel⟩;refine xcf rfl<|xex<|xtx<|xtx<|xbh<|xet<|xsr<|xr 3 rfl<|xne<|xre<|xb2 results87 rfl rfl ?_;obtain rfl:k=l.length:=by omega
 have hns:=Zj9 htl (Nat.lt_irrefl _);rw [Nat.sub_self,List.replicate_zero,append_nil] at has;subst has;replace E:=E.pks [0,1];have hq1:l.length=(qs.map Prod.fst).length:=by rw [length_map];exact hql.symm
 have hq2:l.length=(qs.map Prod.snd).length:=by rw [length_map];exact hql.symm
 have HS9:=ZkT (ao:=some ⟨b2,0,none⟩) (c:=l.length) (qs:=qs) (by have h:=E.o;rw [← hq1];exact h);refine .inl ⟨qs.map Prod.snd,by rw [J5 hlf];exact hns,some ⟨b2,0,none⟩,by rw [← hq2],((HS9.erase 2).erase 1)⟩;refine ⟨_,rfl,?_⟩;replace E:=Bx.mk (E.o.later hb);clear hb;refine xr 5 rfl<|xne<|xsq<|xsr<|xr 2 rfl<|xne<|xct rfl<|xsr<|xr 2 rfl<|xne<|xre<|xtr<|xb2 results87 rfl rfl ?_;exact .inr ⟨Zdk hlf,rfl,E.o.bel⟩
theorem ZkV (a0:Option Addr) (c0:Nat) (a1:Option Addr) (c1:Nat) (a2:Option Addr) (c2:Nat) (a4:Option Addr) (c4:Nat) (a6:Option Addr) (c6:Nat) (st:Za) (t:Zf) (w0:World) (hT:Xq w0) (hM:X1 w0) (hE:X2 w0) (hV0:Za.Reads w0 (sV a0 c0 a1 c1 a2 c2 a4 c4 a6 c6 st) st) (hf:st.Fit):Calls prog 56 #[sV a0 c0 a1 c1 a2 c2 a4 c4 a6 c6 st,tV t] w0 fun e w'=>(∃ ns,tabT st t=some ns∧∃ ao,e=.returned (.tuple #[.slice ao ns.length ns.length,.bool true])∧St w0 [holdsA (Zjq ao ns)] w')∨(tabT st t=none∧e=.returned (.tuple #[.slice none 0 0,.bool false])∧Below w0.heap.size w0 w'):=by
 have HT:=Bx.mk hT;have HM:=Bx.mk hM;have HE:=Bx.mk hE;have hV:=Bx.mk hV0;clear hT hM hE hV0;have E:=Bx.mk (St.start w0);refine ent func56 ntmps56 ?_;refine xsr ?_;refine ybx E ?_;clear E;intro w1 b1 E;refine ybx E ?_;clear E;intro w2 b2 E;refine xr 2 rfl<|xne<|xsq<|xsr<|Xw 1 8 E rfl rfl ?_;refine ycB (Zap _ st _ (hV.out.below E.o.bel) hf) func86 E ?_;clear E;intro w3 E;refine xr 1 rfl<|xne<|xcs 8 rfl (fun cc1=>?_) fun cc1=>?_;have hsok:st.ok=false:=by simpa using cc1
 refine xct rfl<|xsr<|xr 2 rfl<|xne<|xre<|xtr<|xb2 results56 rfl rfl ?_;exact .inr ⟨Zhf hsok,rfl,E.o.bel⟩;have hsok:st.ok=true:=by simpa using cc1
 refine xcf rfl<|xsk<|xet<|xsr<|Xw 0 7 E rfl rfl ?_;refine yc (ZkU a0 c0 a1 c1 a2 c2 a4 c4 a6 c6 st t b1 _ (HT.o.below E.o.bel) (HM.o.below E.o.bel) (HE.o.below E.o.bel) (E.o.box 1 rfl) ((Zac hV.out).below E.o.bel) (QU hsok)) func87 ?_;rintro _ w4 (⟨ns,htb,ao,rfl,hs1⟩|⟨htb,rfl,hb⟩);refine ⟨_,rfl,?_⟩;replace E:=E.ad hs1;clear hs1;refine xr 4 rfl<|xne<|xre<|xb2 results56 rfl rfl ?_;exact .inl ⟨ns,(Zel hsok).trans htb,ao,rfl,(E.o.erS [2,1])⟩;refine ⟨_,rfl,?_⟩;replace E:=Bx.mk (E.o.later hb);clear hb;refine xr 4 rfl<|xne<|xre<|xb2 results56 rfl rfl ?_;exact .inr ⟨(Zel hsok).trans htb,rfl,E.o.bel⟩
theorem Zd6 (a0:Option Addr) (c0:Nat) (a1:Option Addr) (c1:Nat) (a2:Option Addr) (c2:Nat) (a4:Option Addr) (c4:Nat) (a6:Option Addr) (c6:Nat) (st:Za) (t:Zf) (w0:World) (hT:Xq w0) (hM:X1 w0) (hE:X2 w0) (hV0:Za.Reads w0 (sV a0 c0 a1 c1 a2 c2 a4 c4 a6 c6 st) st) (hf:st.Fit):Calls prog 27 #[sV a0 c0 a1 c1 a2 c2 a4 c4 a6 c6 st,tV t] w0 fun e w'=>e=.returned (.bool (tabT st t).isSome)∧Below w0.heap.size w0 w':=by
 have HT:=Bx.mk hT;have HM:=Bx.mk hM;have HE:=Bx.mk hE;have hV:=Bx.mk hV0;clear hT hM hE hV0;have E:=Bx.mk (St.start w0);refine ent func27 ntmps27 ?_;refine xsr ?_;refine ybx E ?_;clear E;intro w1 b1 E;refine ybx E ?_;clear E;intro w2 b2 E;refine xr 1 rfl<|xne<|xsr<|Xw 1 8 E rfl rfl<|Xw 0 7 E rfl rfl ?_;refine yc (ZkV a0 c0 a1 c1 a2 c2 a4 c4 a6 c6 st t _ (HT.o.below E.o.bel) (HM.o.below E.o.bel) (HE.o.below E.o.bel) (hV.out.below E.o.bel) hf) func56 ?_;rintro _ w3 (⟨ns,htb,ao,rfl,hs1⟩|⟨htb,rfl,hb⟩);refine ⟨_,rfl,?_⟩;replace E:=E.ad hs1;clear hs1;refine xr 5 rfl<|xne<|xsr<|xr 2 rfl<|xne<|xre<|xb1 results27 rfl ?_;exact ⟨by rw [htb] <;> rfl,E.o.bel⟩;refine ⟨_,rfl,?_⟩;replace E:=Bx.mk (E.o.later hb);clear hb;refine xr 5 rfl<|xne<|xsr<|xr 2 rfl<|xne<|xre<|xb1 results27 rfl ?_;exact ⟨by rw [htb] <;> rfl,E.o.bel⟩
variable {ds:List Deferred}
def kvE (e:MapEntry):Value × Value:=(e.key,e.val)
variable {ds:List Deferred}
theorem Fr.resBox1 {P:Program} {w:World} {a:Act} {N:Nat} {l:List (Nat × Value)} (h:Fr N a l ds) {k t b n:Nat} (hk:lk l k=some (.pointer (some ⟨b,0,none⟩))) {T:TypeId} {v:Value} (hb:Box w b n T (.agg #[v])) (hs:Xh P t=true):Zco P a w (.cell k t) v:=by
 have hc:w.cell? ⟨b,0,none⟩=some v:=(hb.cell 0).trans rfl;refine ⟨_,h.ev (x:=.tmp k) hk,?_⟩;unfold loadVar;simp only [Sem.run_bind,Zcn hs w,Result.andThen_ok];simp [go_sem,hc]
theorem Zbs (ao:Option Addr) (cap:Nat) (xs:List PtrD) (w:World) (hlen:xs.length≤1048576) (hr:Rd PtrD.cells 5 w ao xs.length xs) :
  Calls prog 90 #[.slice ao xs.length cap] w fun e w'=>∃ ao' cap',e=.returned (.slice ao' xs.length cap')∧St w [Zd PtrD.cells 5 40 (.slice ao' xs.length cap') xs] w' :=
 (VU ao cap xs w hlen hr).mono fun e w' h=>by
  obtain ⟨⟨ao',cap',h1,h2⟩,hb⟩:=h;exact ⟨ao',cap',h1,St.ofRow h2 hb⟩
def ZcT (st:Za) (text:ByteArray) (level:Int):Int:=if st.au && (level == 0) then ZbB st text else -1
def Jm (st:Za) (text:ByteArray) (level:Int):Int:=if ZcT st text level<0 then Va st.aa else ZcT st text level
def Za.mayW (st:Za) (text:ByteArray) (level:Int):Bool:=st.ok && (inB text.size 1 128 && (inB level 0 2 && decide (writeAt st text level<64)))
def Za.wrote (st:Za) (text:ByteArray) (level:Int):Za:=if st.mayW text level then st.putAt (writeAt st text level) (st.af.set (writeAt st text level) text) else Za.zero
def Za.wptr (st:Za) (text:ByteArray) (level:Int):PtrD:=if st.mayW text level then X5 (writeAt st text level:Nat) st.aq level text else PtrD.zero
theorem Zbt {a b:ByteArray} (h:(a.toList == b.toList)=true):a=b:=by
 have h:=eq_of_beq h;rw [ByteArray.toList_eq,ByteArray.toList_eq] at h;exact ByteArray.ext (Array.toList_inj.1 h)
section
variable {st:Za} {text:ByteArray} {level:Int}
theorem Zfm (h:XG st text level<64):QZ st text (XG st text level)=true:=by
 unfold XG at h ⊢
 split
 ·rename_i hs
  rw [if_pos hs] at h;exact ZeK _ 64 0 (by omega)
 ·rename_i hs
  rw [if_neg hs] at h
  omega
theorem Zmu (hok:st.ok=true) (hsz:inB text.size 1 128=true) (hlv:inB level 0 2=true) {i:Nat} (hi:i<64) (hw:writeAt st text level=i) :
  st.mayW text level=true∧st.wrote text level=st.putAt i (st.af.set i text)∧st.wptr text level=X5 (i:Int) st.aq level text∧Xv (i:Int) st.aq level text=true∧(XG st text level<64→st.af.set i text=st.af):=by
 have hO:=Za.ok_spec hok;have hP:=Zp.ok_spec hO.space;have hm:st.mayW text level=true:=by unfold Za.mayW;rw [hok,hsz,hlv,hw];simp [hi]
 have h8:8≤i:=by
  by_cases hl:XG st text level<64
  ·have:=Zfm hl
   have e:XG st text level=i:=by unfold writeAt at hw;rw [if_pos hl] at hw;exact hw
   rw [e] at this;unfold QZ at this;simp only [Bool.and_eq_true,decide_eq_true_eq] at this;rcases Nat.lt_or_ge i 8 with h|h
   ·have:=(hP.each i hi).2.2.2.2 h;omega
   ·exact h
  ·unfold writeAt at hw
   rw [if_neg hl] at hw;have:=Jc (X6 st) 56 8
   omega
 refine ⟨hm,by unfold Za.wrote;rw [hm,hw];rfl,by unfold Za.wptr;rw [hm,hw];rfl,?_,fun hl=>?_⟩
 ·have:=ZlS text
  have h1:=hO.txg;have h2:=Zo hsz;have h3:=Zo hlv;unfold Xv PtrD.ok X5;rw [hsz];dsimp only;rw [JA (by omega) (by omega),JA (by omega) (by omega),JA (by omega) (by omega),JA (by omega) (by omega)]
  simp
 ·have:=Zfm hl
  have e:XG st text level=i:=by unfold writeAt at hw;rw [if_pos hl] at hw;exact hw
  rw [e] at this;unfold QZ at this;simp only [Bool.and_eq_true] at this;have h1:=Zbt this.1.1.2;have hl2:i<st.af.length:=by rw [hO.rows];exact hi
  refine List.ext_getElem (by simp) fun j h2 h3=>?_;rw [List.getElem_set]
  split
  ·rename_i e2
   subst e2;rw [← h1];simp [List.getD,hl2]
  ·rfl
theorem ZoR (hok:st.ok=true) (hsz:inB text.size 1 128=true):(Jm st text level<0→writeAt st text level=64)∧∀ i:Nat,Jm st text level=i→writeAt st text level=i:=by
 have hO:=Za.ok_spec hok;have hP:=Zp.ok_spec hO.space;have hs:=Zo hsz;have hlike:ZF (QZ st text) 64 0=ZF (U9 st text) 56 8:=by
  have h0:ZF (QZ st text) (8+56) 0=ZF (QZ st text) 56 (0+8):=ZhN 8 56 0 fun i _ h2=>by
   have:=(hP.each i (by omega)).2.2.2.2 (by omega);unfold QZ;rw [this];rfl
  refine h0.trans (Zcs 56 8 fun i h1 h2=>?_);have hi:i<64:=by omega
  have he:=hP.each i hi;have hr:=Vu hO.each hi;unfold QZ U9
  cases h3:((st.af.getD i ByteArray.empty).toList == text.toList) with
  | false=>cases decide (0<st.aa.ab.getD i 0) <;> rfl
  | true =>
   have h4:=Zbt h3;unfold XK at hr;simp only [Bool.and_eq_true,beq_iff_eq,decide_eq_true_eq,Bool.not_eq_true',bne_iff_ne] at hr;have h5:st.aa.ab.getD i 0≠0:=fun h0=>by
    have hz:(st.af.getD i ByteArray.empty).size≠0:=by rw [h4];omega
    simp_all
   have h6:decide (0<st.aa.ab.getD i 0)=true:=decide_eq_true (by omega);rw [h6];rfl
 have hfree:ZF (X6 st) 56 8=ZF (Zaz st.aa) 56 8:=Zcs 56 8 fun i h1 h2=>by
  have he:=hP.each i (by omega);unfold X6 Zaz
  by_cases h0:st.aa.ab.getD i 0=0
  ·rw [h0];rfl
  ·have h1:decide (0<st.aa.ab.getD i 0)=true:=decide_eq_true (by omega)
   rw [h1,beq_eq_false_iff_ne.2 h0];rfl
 have hb1:=Jc (U9 st text) 56 8;have hb2:=Jc (Zaz st.aa) 56 8;unfold Jm writeAt ZcT XG ZbB Va;rw [hlike,hfree]
 cases hsm:(st.au && (level == 0)) with
 | true =>
  simp only [if_true];unfold ZgX
  constructor
  ·split <;> split <;> (try split) <;> omega
  ·intro i;split <;> split <;> (try split) <;> omega
 | false =>
  simp only [Bool.false_eq_true,if_false];unfold ZgX
  constructor
  ·simp;split <;> omega
  ·intro i;simp;split <;> omega
end
theorem Zkr.ok {s:Zp} (h:Zkr s):s.ok=true:=by
 unfold Zp.ok;simp only [Bool.and_eq_true,beq_iff_eq];refine ⟨⟨h.refs,h.last⟩,?_⟩;unfold Q1;rw [List.all_eq_true];intro i hi;have hi:=List.mem_range.1 hi;have e:=h.each i hi;rw [Za9 hi];unfold Qq;simp only [Bool.and_eq_true,Bool.or_eq_true,decide_eq_true_eq,bne_iff_ne,beq_iff_eq,Bool.not_eq_true',decide_eq_false_iff_not];refine ⟨JA (by omega) (by omega),JA (by omega) (by omega),?_,?_⟩
 ·by_cases h0:s.ab.getD i 0=0
  ·exact .inr (e.2.2.2.1 h0)
  ·exact .inl h0
 ·by_cases h8:i<8
  ·exact .inl (by rw [e.2.2.2.2 h8];exact Int.le_refl 0)
  ·exact .inr (by omega)
theorem Zny.ok {st:Za} (h:Zny st):st.ok=true:=by
 unfold Za.ok;simp only [Bool.and_eq_true,beq_iff_eq];exact ⟨h.rows,h.space,JA h.txg.1 h.txg.2,JA h.keep.1 h.keep.2,h.each,h.gone,h.dead,h.owed⟩
theorem UH {st:Za}:Qc st 64=true ↔ ∀ i,i<64→(st.af.getD i ByteArray.empty).size≤128∧((st.af.getD i ByteArray.empty).size=0 ↔ st.aa.ab.getD i 0=0)∧st.aa.ag.getD i 0≤st.aq:=by
 constructor
 ·intro h i hi
  have:=Vu h hi;unfold XK at this;simp only [Bool.and_eq_true,decide_eq_true_eq,beq_iff_eq] at this;refine ⟨this.1,?_,this.2.2⟩;have h2:=this.2.1
  constructor
  ·intro e;rw [beq_iff_eq.2 e] at h2;exact beq_iff_eq.1 h2.symm
  ·intro e;rw [beq_iff_eq.2 e] at h2;exact beq_iff_eq.1 h2
 ·intro h
  unfold Qc;rw [List.all_eq_true];intro i hi;obtain ⟨a,b,c⟩:=h i (List.mem_range.1 hi);unfold XK;simp only [Bool.and_eq_true,decide_eq_true_eq,beq_iff_eq];refine ⟨a,?_,c⟩;rw [Bool.eq_iff_iff];simp only [beq_iff_eq];exact b
theorem Zbu {refs:List Int} {ps:List PtrD}:Qs refs ps=true ↔ ∀ i,i<64→(cnt ps i:Int)≤refs.getD i 0:=by
 unfold Qs;rw [List.all_eq_true];exact ⟨fun h i hi=>by have:=h i (List.mem_range.2 hi);simpa using this,fun h i hi=>by have:=h i (List.mem_range.1 hi);simpa using this⟩
theorem Ziq (p:PtrD) (ps:List PtrD) (i:Nat):cnt (p::ps) i=(if p.aA=(i:Int) then 1 else 0)+cnt ps i:=by
 rw [show p::ps=[p]++ps from rfl,ZbL]
 congr 1
 unfold cnt
 by_cases h:p.aA=(i:Int) <;> simp [h]
theorem Zkc (i:Nat):cnt [] i=0:=rfl
theorem ZnZ {ps:List PtrD} {q:PtrD} {i:Nat} (hq:q ∈ ps) (h:q.aA=(i:Int)):1≤cnt ps i:=by
 unfold cnt;exact List.length_pos_of_mem (List.mem_filter.2 ⟨hq,by simp [h]⟩)
theorem J6 {α:Type} {xs:List α} {i j:Nat} {x d:α} (hi:i<xs.length):(xs.set i x).getD j d=if i=j then x else xs.getD j d:=by
 by_cases h:i=j
 ·subst h;rw [if_pos rfl,getD_eq_getElem?_getD,List.getElem?_set_self hi];rfl
 ·rw [if_neg h,getD_eq_getElem?_getD,getD_eq_getElem?_getD,List.getElem?_set_ne h]
structure Inv (st:Za) (X:List PtrD):Prop where
  ok:st.ok=true
  owes:∀ i:Nat,8≤i→i<64→((cnt X i+cnt (st.ai++st.aj) i:Nat):Int)≤st.aa.ab.getD i 0
structure Zpl (st st':Za) (X:List PtrD):Prop where
  row:∀ q ∈ X,q.ok=true→q.hole=false→Yb st' q=Yb st q
  txg:st'.aq=st.aq
  keep:st'.ar=st.ar
  same:st'.au=st.au
theorem Zjr {p:PtrD} (h:p.ok=true) (hh:p.hole=false):8≤p.aA∧p.aA≤63:=by
 unfold PtrD.ok at h;rw [hh,Bool.false_or] at h;simp only [Bool.and_eq_true] at h;exact Zo h.1.1.1.1
theorem Vs {q:PtrD} (ho:q.ok=true) (hh:q.hole=false):∃ i:Nat,8≤i∧i<64∧q.aA=(i:Int):=by
 obtain ⟨h1,h2⟩:=Zjr ho hh;exact ⟨q.aA.toNat,by omega,by omega,by omega⟩
theorem Inv.live {st:Za} {X:List PtrD} (h:Inv st X) {q:PtrD} (hq:q ∈ X) {i:Nat} (h8:8≤i) (hi:i<64) (e:q.aA=(i:Int)):1≤st.aa.ab.getD i 0:=by
 have:=h.owes i h8 hi;have:=ZnZ hq e
 omega
theorem JH {st:Za} {q:PtrD} {i:Nat} (e:q.aA=(i:Int)):Yb st q=st.af.getD i ByteArray.empty:=by unfold Yb;rw [e,Int.toNat_natCast]
section
variable {st:Za} {X:List PtrD} {text:ByteArray} {level:Int} {i:Nat}
theorem UI (hok:st.ok=true) (hi:i<64) (hw:writeAt st text level=i):8≤i∧(st.aa.ab.getD i 0=0∧st.aa.ag.getD i 0=0∨0<st.aa.ab.getD i 0∧st.af.getD i ByteArray.empty=text∧st.aa.ab.getD i 0<st.aq):=by
 have hO:=Za.ok_spec hok;have hP:=Zp.ok_spec hO.space
 by_cases hl:XG st text level<64
 ·have:=Zfm hl
  have e:XG st text level=i:=by unfold writeAt at hw;rw [if_pos hl] at hw;exact hw
  rw [e] at this;unfold QZ at this;simp only [Bool.and_eq_true,decide_eq_true_eq] at this;refine ⟨?_,.inr ⟨this.1.1.1,Zbt this.1.1.2,this.2⟩⟩;rcases Nat.lt_or_ge i 8 with h|h
  ·have:=(hP.each i hi).2.2.2.2 h;omega
  ·exact h
 ·unfold writeAt at hw
  rw [if_neg hl] at hw;have hb:=Jc (X6 st) 56 8;have hh:=ZeK (X6 st) 56 8 (by omega);rw [hw] at hh;unfold X6 at hh;have h0:=(hP.each i hi).1;rw [Bool.not_eq_true'] at hh;have hz:st.aa.ab.getD i 0=0:=by have:=of_decide_eq_false hh;omega
  exact ⟨by omega,.inl ⟨hz,(hP.each i hi).2.2.2.1 hz⟩⟩
theorem Inv.write (h:Inv st X) (hsz:inB text.size 1 128=true) (hlv:inB level 0 2=true) (hi:i<64) (hw:writeAt st text level=i) :
  Inv (st.putAt i (st.af.set i text)) (X5 (i:Int) st.aq level text::X)∧Zpl st (st.putAt i (st.af.set i text)) X∧Yb (st.putAt i (st.af.set i text)) (X5 (i:Int) st.aq level text)=text:=by
 obtain ⟨h8,hrow⟩:=UI h.ok hi hw;have hO:=Za.ok_spec h.ok;have hP:=Zp.ok_spec hO.space;have hs:=Zo hsz;have hl0:i<st.af.length:=by rw [hO.rows];exact hi
 have hl1:i<st.aa.ab.length:=by rw [hP.refs];exact hi
 have hl2:i<st.aa.ag.length:=by rw [hP.last];exact hi
 have hrefs:∀ j:Nat,(st.putAt i (st.af.set i text)).aa.ab.getD j 0=if i=j then st.aa.ab.getD i 0+1 else st.aa.ab.getD j 0:=fun j=>J6 hl1
 have hlast:∀ j:Nat,(st.putAt i (st.af.set i text)).aa.ag.getD j 0=if i=j then st.aq else st.aa.ag.getD j 0:=fun j=>J6 hl2
 have hrows:∀ j:Nat,(st.putAt i (st.af.set i text)).af.getD j ByteArray.empty=if i=j then text else st.af.getD j ByteArray.empty:=fun j=>J6 hl0
 have hEi:=hP.each i hi;have hlt:st.aa.ab.getD i 0<st.aq:=by rcases hrow with ⟨e,_⟩|⟨_,_,e⟩ <;> have:=hO.txg <;> omega
 have hO2:Zny (st.putAt i (st.af.set i text)):=by
  refine ⟨by show (st.af.set i text).length=64;rw [length_set];exact hO.rows,Zkr.ok ⟨?_,?_,?_⟩,hO.txg,hO.keep,?_,hO.gone,hO.dead,?_⟩
  ·show (st.aa.ab.set _ _).length=64;rw [length_set];exact hP.refs
  ·show (st.aa.ag.set _ _).length=64;rw [length_set];exact hP.last
  ·intro j hj
   rw [hrefs,hlast];have:=hP.each j hj;have:=hO.txg
   split
   ·rename_i e;subst e
    refine ⟨by omega,by omega,by omega,by omega,by omega⟩
   ·exact hP.each j hj
  ·rw [UH]
   intro j hj;rw [hrows,hrefs,hlast];have:=UH.1 hO.each j hj
   split
   ·rename_i e;subst e
    exact ⟨by omega,⟨by omega,by omega⟩,Int.le_refl _⟩
   ·exact this
  ·rw [Zbu]
   intro j hj;rw [hrefs];have:=Zbu.1 hO.owed j hj;show (cnt (st.ai++st.aj) j:Int)≤_
   split
   ·rename_i e;subst e;omega
   ·exact this
 refine ⟨⟨hO2.ok,fun j h8j hj=>?_⟩,⟨fun q hq ho hh=>?_,rfl,rfl,rfl⟩,?_⟩
 ·rw [hrefs,Ziq]
  have:=h.owes j h8j hj;show ((((if (i:Int)=(j:Int) then 1 else 0)+cnt X j+cnt (st.ai++st.aj) j:Nat)):Int)≤_
  by_cases e:i=j
  ·subst e;rw [if_pos rfl,if_pos rfl];omega
  ·rw [if_neg (by omega),if_neg e];omega
 ·obtain ⟨j,h8j,hj,e⟩:=Vs ho hh
  rw [JH e,JH e,hrows]
  by_cases ej:i=j
  ·subst ej
   rw [if_pos rfl];rcases hrow with ⟨e0,_⟩|⟨_,e1,_⟩
   ·have:=h.live hq h8j hj e;omega
   ·exact e1.symm
  ·rw [if_neg ej]
 ·rw [JH (i:=i) rfl,hrows,if_pos rfl]
end
structure Rows (st st':Za) (X:List PtrD):Prop where
  row:∀ q ∈ X,q.ok=true→q.hole=false→Yb st' q=Yb st q
  txg:st.aq≤st'.aq
theorem Rows.mono {a b:Za} {X Y:List PtrD} (h:Rows a b X) (hs:∀ q ∈ Y,q ∈ X):Rows a b Y:=⟨fun q hq=>h.row q (hs q hq),h.txg⟩
theorem Zdl {st st':Za} {p:PtrD} (h:p.hole=false→Yb st' p=Yb st p):YL st' p=YL st p:=by
 cases hh:p.hole with
 | true=>rw [Jl hh,Jl hh]
 | false=>rw [XX hh,XX hh,h hh]
theorem ZkW {st st':Za} {p:PtrD} (h:p.hole=false→Yb st' p=Yb st p):ZA st' p=ZA st p:=by
 cases hh:p.hole with
 | true=>rw [J1 hh,J1 hh]
 | false=>unfold ZA;rw [hh,h hh]
theorem Zfn {st st':Za} {p:PtrD} {n:Int} (h:p.hole=false→Yb st' p=Yb st p):kids st' p n=kids st p n:=by
 unfold kids;rw [Zdl h,ZkW h]
noncomputable def lvL (st:Za):Nat→PtrD→List PtrD
 | 0,p=>[p]
 | n+1,p=>((kids st p ((n+1:Nat):Int)).getD []).flatMap (lvL st n)
theorem VK {st:Za} {p:PtrD} {n:Nat} {l:List PtrD} (hk:kids st p ((n+1:Nat):Int)=some l):lvL st (n+1) p=l.flatMap (lvL st n):=by
 show ((kids st p ((n+1:Nat):Int)).getD []).flatMap (lvL st n)=_;rw [hk];rfl
theorem JI {f g:PtrD→List PtrD}:∀ {l:List PtrD},(∀ q ∈ l,f q=g q)→l.flatMap f=l.flatMap g
 | [],_=>rfl
 | q::r,h=>by rw [flatMap_cons,flatMap_cons,h q (mem_cons_self ..),JI fun x hx=>h x (mem_cons_of_mem _ hx)]
theorem Wf.stays {st st':Za} (ht:st.aq≤st'.aq):∀ {n:Nat} {p:PtrD},Wf st n p→(∀ q ∈ allL st n p,Yb st' q=Yb st q)→Wf st' n p∧allL st' n p=allL st n p∧lvL st' n p=lvL st n p
 | 0,p,h,hr=>by
  have e:p.hole=false→Yb st' p=Yb st p:=fun hh=>hr p (by rw [UF hh];exact mem_singleton.2 rfl)
  exact ⟨⟨h.1,by have:=h.2.1;omega,h.2.2.1,by rw [Zdl e];exact h.2.2.2⟩,rfl,rfl⟩
 | n+1,p,⟨ho,hb,l,hk,hw⟩,hr=>by
  have e:p.hole=false→Yb st' p=Yb st p:=fun hh=>hr p (by rw [Qo hh hk];exact mem_cons_self ..)
  have hk2:kids st' p ((n+1:Nat):Int)=some l:=by rw [Zfn e];exact hk
  have ih:∀ q ∈ l,Wf st' n q∧allL st' n q=allL st n q∧lvL st' n q=lvL st n q:=fun q hq=>Wf.stays ht (hw q hq) fun x hx=>by
   cases hh:p.hole with
   | false=>exact hr x (by rw [Qo hh hk];exact mem_cons_of_mem _ (List.mem_flatMap.2 ⟨q,hq,hx⟩))
   | true =>
    rcases (Xy hk).2.2 with ⟨_,rfl⟩|⟨h2,_⟩
    ·simp only [XO,mem_cons,not_mem_nil,or_false,or_self] at hq
     rw [hq,Xr J2] at hx;cases hx
    ·rw [hh] at h2;cases h2
  refine ⟨⟨ho,by omega,l,hk2,fun q hq=>(ih q hq).1⟩,?_,?_⟩
  ·cases hh:p.hole with
   | true=>rw [Xr hh,Xr hh]
   | false=>rw [Qo hh hk,Qo hh hk2,JI fun q hq=>(ih q hq).2.1]
  ·rw [VK hk,VK hk2,JI fun q hq=>(ih q hq).2.2]
theorem QI {st:Za}:∀ {n:Nat} {p:PtrD},Wf st n p→∀ q ∈ allL st n p,q.ok=true∧q.hole=false
 | 0,p,h,q,hq=>by
  cases hh:p.hole with
  | true=>rw [Xr hh] at hq;cases hq
  | false=>rw [UF hh,mem_singleton] at hq;rw [hq];exact ⟨h.1,hh⟩
 | n+1,p,⟨ho,hb,l,hk,hw⟩,q,hq=>by
  cases hh:p.hole with
  | true=>rw [Xr hh] at hq;cases hq
  | false =>
   rw [Qo hh hk] at hq;rcases mem_cons.1 hq with rfl|hq
   ·exact ⟨ho,hh⟩
   ·obtain ⟨k,hkl,hq⟩:=List.mem_flatMap.1 hq
    exact QI (hw k hkl) q hq
theorem Zn0 {st:Za} (h0:0≤st.aq) {n:Nat} {p:PtrD} (h:p.hole=true):Wf st n p:=by rw [QP h];exact Wf.zero h0 n
theorem Zhg {st:Za}:∀ {n:Nat} {p:PtrD},Wf st n p→(lvL st n p).length=4 ^ n
 | 0,p,_=>rfl
 | n+1,p,⟨ho,hb,l,hk,hw⟩=>by
  rw [VK hk];have:∀ m:List PtrD,(∀ q ∈ m,Wf st n q)→(m.flatMap (lvL st n)).length=m.length*4 ^ n:=by
   intro m
   induction m with
   | nil=>intro _;simp
   | cons q r ih=>intro hq;rw [flatMap_cons,length_append,Zhg (hq q (mem_cons_self ..)),ih fun x hx=>hq x (mem_cons_of_mem _ hx),length_cons,Nat.add_mul];omega
  rw [this l hw,Y4 hk,Nat.pow_succ];omega
theorem Zem {st:Za}:∀ {n:Nat} {p:PtrD},Wf st n p→∀ q ∈ lvL st n p,Wf st 0 q
 | 0,p,h,q,hq=>by rw [show lvL st 0 p=[p] from rfl,mem_singleton] at hq;rw [hq];exact h
 | n+1,p,⟨ho,hb,l,hk,hw⟩,q,hq=>by
  rw [VK hk] at hq;obtain ⟨k,hkl,hq⟩:=List.mem_flatMap.1 hq;exact Zem (hw k hkl) q hq
theorem Za.own_st {w w':World} {v:Value} {x:Za} (h:Za.Own w' w.heap.size w'.heap.size v x) (hb:Below w.heap.size w w'):∃ (a0:Option Addr) (c0:Nat) (a1:Option Addr) (c1:Nat) (a2:Option Addr) (c2:Nat) (a4:Option Addr) (c4:Nat) (a6:Option Addr) (c6:Nat),v=.agg #[.slice a0 x.af.length c0,.slice a1 x.aa.ab.length c1,.slice a2 x.aa.ag.length c2,.int .i64 x.aq,.slice a4 x.ai.length c4,.int .i64 x.ar,.slice a6 x.aj.length c6,.bool x.au]∧St w [Zd Zt 1 9 (.slice a0 x.af.length c0) x.af,Zd Zu 1 3 (.slice a1 x.aa.ab.length c1) x.aa.ab,Zd Zu 1 3 (.slice a2 x.aa.ag.length c2) x.aa.ag,Zd PtrD.cells 5 40 (.slice a4 x.ai.length c4) x.ai,Zd PtrD.cells 5 40 (.slice a6 x.aj.length c6) x.aj] w':=by
 obtain ⟨a0,c0,a1,c1,a2,c2,a4,c4,a6,c6,rfl,r0,r1,r2,r4,r6,p0_1,p0_2,p0_4,p0_6,p1_2,p1_4,p1_6,p2_4,p2_6,p4_6⟩:=h;have hn:([(.slice a0 x.af.length c0:Value),(.slice a1 x.aa.ab.length c1:Value),(.slice a2 x.aa.ag.length c2:Value),(.slice a4 x.ai.length c4:Value),(.slice a6 x.aj.length c6:Value)].flatMap fun v=>(Value.rowBlock v).toList).Nodup:=ZdF (by simp only [List.pairwise_cons,mem_cons,not_mem_nil,or_false,forall_eq_or_imp,forall_eq,List.Pairwise.nil,and_true,false_imp_iff,implies_true];exact ⟨⟨p0_1,p0_2,p0_4,p0_6⟩,⟨p1_2,p1_4,p1_6⟩,⟨p2_4,p2_6⟩,p4_6⟩);simp only [flatMap_cons,List.flatMap_nil] at hn;refine ⟨a0,c0,a1,c1,a2,c2,a4,c4,a6,c6,rfl,hb,_,⟨_,_,rfl,r0.asr,⟨_,_,rfl,r1.asr,⟨_,_,rfl,r2.asr,⟨_,_,rfl,r4.asr,⟨_,_,rfl,r6.asr,rfl⟩⟩⟩⟩⟩,hn,fun b hm=>?_⟩;simp only [mem_append,not_mem_nil,or_false] at hm;rcases hm with h|h|h|h|h
 ·have:=r0.foot b h;omega
 ·have:=r1.foot b h;omega
 ·have:=r2.foot b h;omega
 ·have:=r4.foot b h;omega
 ·have:=r6.foot b h;omega
theorem Za.st_own {W w:World} {x:Za} {a0:Option Addr} {c0:Nat} {a1:Option Addr} {c1:Nat} {a2:Option Addr} {c2:Nat} {a4:Option Addr} {c4:Nat} {a6:Option Addr} {c6:Nat} {F:List Asr} (h:St W (Zd Zt 1 9 (.slice a0 x.af.length c0) x.af::Zd Zu 1 3 (.slice a1 x.aa.ab.length c1) x.aa.ab::Zd Zu 1 3 (.slice a2 x.aa.ag.length c2) x.aa.ag::Zd PtrD.cells 5 40 (.slice a4 x.ai.length c4) x.ai::Zd PtrD.cells 5 40 (.slice a6 x.aj.length c6) x.aj::F) w):Za.Own w W.heap.size w.heap.size (.agg #[.slice a0 x.af.length c0,.slice a1 x.aa.ab.length c1,.slice a2 x.aa.ag.length c2,.int .i64 x.aq,.slice a4 x.ai.length c4,.int .i64 x.ar,.slice a6 x.aj.length c6,.bool x.au]) x:=by
 have hr:=h;obtain ⟨f,⟨f0,_,rfl,⟨e0,_⟩,⟨f1,_,rfl,⟨e1,_⟩,⟨f2,_,rfl,⟨e2,_⟩,⟨f4,_,rfl,⟨e4,_⟩,⟨f6,_,rfl,⟨e6,_⟩,_⟩⟩⟩⟩⟩,hn,_⟩:=h.sep;subst e0 e1 e2 e4 e6;have hn:([(.slice a0 x.af.length c0:Value),(.slice a1 x.aa.ab.length c1:Value),(.slice a2 x.aa.ag.length c2:Value),(.slice a4 x.ai.length c4:Value),(.slice a6 x.aj.length c6:Value)].flatMap fun v=>(Value.rowBlock v).toList).Nodup:=by
  simp only [flatMap_cons,List.flatMap_nil,append_nil];simp only [← List.append_assoc] at hn ⊢;exact (List.nodup_append.1 hn).1
 have ha:=ZdG hn;simp only [List.pairwise_cons,mem_cons,not_mem_nil,or_false,forall_eq_or_imp,forall_eq,List.Pairwise.nil,and_true,false_imp_iff,implies_true] at ha;obtain ⟨⟨p0_1,p0_2,p0_4,p0_6⟩,⟨p1_2,p1_4,p1_6⟩,⟨p2_4,p2_6⟩,p4_6⟩:=ha;exact ⟨a0,c0,a1,c1,a2,c2,a4,c4,a6,c6,rfl,hr.row 0 rfl,hr.row 1 rfl,hr.row 2 rfl,hr.row 3 rfl,hr.row 4 rfl,p0_1,p0_2,p0_4,p0_6,p1_2,p1_4,p1_6,p2_4,p2_6,p4_6⟩
theorem Za.reads_of {W w:World} {s:List Asr} (h:St W s w) (x:Za) (a0:Option Addr) (c0:Nat) (a1:Option Addr) (c1:Nat) (a2:Option Addr) (c2:Nat) (a4:Option Addr) (c4:Nat) (a6:Option Addr) (c6:Nat) (i0:Nat) (i1:Nat) (i2:Nat) (i4:Nat) (i6:Nat) (h0:s[i0]? = some (Zd Zt 1 9 (.slice a0 x.af.length c0) x.af)) (h1:s[i1]? = some (Zd Zu 1 3 (.slice a1 x.aa.ab.length c1) x.aa.ab)) (h2:s[i2]? = some (Zd Zu 1 3 (.slice a2 x.aa.ag.length c2) x.aa.ag)) (h4:s[i4]? = some (Zd PtrD.cells 5 40 (.slice a4 x.ai.length c4) x.ai)) (h6:s[i6]? = some (Zd PtrD.cells 5 40 (.slice a6 x.aj.length c6) x.aj)):Za.Reads w (.agg #[.slice a0 x.af.length c0,.slice a1 x.aa.ab.length c1,.slice a2 x.aa.ag.length c2,.int .i64 x.aq,.slice a4 x.ai.length c4,.int .i64 x.ar,.slice a6 x.aj.length c6,.bool x.au]) x:=by
 obtain ⟨_,_,e0,r0⟩:=h.rdS encS_len i0 h0;simp only [Value.slice.injEq,true_and] at e0;obtain ⟨rfl,rfl⟩:=e0;obtain ⟨_,_,e1,r1⟩:=h.rdS encI_len i1 h1;simp only [Value.slice.injEq,true_and] at e1;obtain ⟨rfl,rfl⟩:=e1;obtain ⟨_,_,e2,r2⟩:=h.rdS encI_len i2 h2;simp only [Value.slice.injEq,true_and] at e2;obtain ⟨rfl,rfl⟩:=e2;obtain ⟨_,_,e4,r4⟩:=h.rdS PtrD.cells_len i4 h4;simp only [Value.slice.injEq,true_and] at e4;obtain ⟨rfl,rfl⟩:=e4;obtain ⟨_,_,e6,r6⟩:=h.rdS PtrD.cells_len i6 h6;simp only [Value.slice.injEq,true_and] at e6;obtain ⟨rfl,rfl⟩:=e6;exact ⟨a0,c0,a1,c1,a2,c2,a4,c4,a6,c6,rfl,r0,r1,r2,r4,r6⟩
theorem Za.Own.loc (w w':World) (B B1:Nat) (v:Value) (x:Za) (hb:∀ b,B≤b→b<B1→w'.heap[b]? = w.heap[b]?) (h:Za.Own w B B1 v x):Za.Own w' B B1 v x:=by
 obtain ⟨a0,c0,a1,c1,a2,c2,a4,c4,a6,c6,rfl,r0,r1,r2,r4,r6,p0_1,p0_2,p0_4,p0_6,p1_2,p1_4,p1_6,p2_4,p2_6,p4_6⟩:=h;exact ⟨a0,c0,a1,c1,a2,c2,a4,c4,a6,c6,rfl,r0.loc hb,r1.loc hb,r2.loc hb,r4.loc hb,r6.loc hb,p0_1,p0_2,p0_4,p0_6,p1_2,p1_4,p1_6,p2_4,p2_6,p4_6⟩
theorem Zjs (v:Value) (st:Za) (text:ByteArray) (w0:World) (hr:Za.Reads w0 v st) (h0:st.af.length=64) (h1:st.aa.ab.length=64) (h2:st.aa.ag.length=64):Calls prog 110 #[v,.string text] w0 fun e w'=>e=.returned (.int .i64 (ZbB st text))∧Below w0.heap.size w0 w':=by
 obtain ⟨a0,c0,a1,c1,a2,c2,a4,c4,a6,c6,rfl,r0,r1,r2,_,_⟩:=hr;obtain ⟨g0,o0,r0⟩:=r0.opn;obtain ⟨g1,o1,r1⟩:=r1.opn;obtain ⟨g2,o2,r2⟩:=r2.opn;have R0:=Bx.mk r0;have R1:=Bx.mk r1;have R2:=Bx.mk r2;clear r0 r1 r2;have E:=Bx.mk (St.start w0);refine Q9 func110 rfl ntmps110 [(0,sV a0 c0 a1 c1 a2 c2 a4 c4 a6 c6 st),(1,.string text)] ⟨rfl,rfl,trivial⟩ rfl ?_;refine xsr ?_;refine ybx E ?_;clear E;intro w1 b1 E;refine xr 1 rfl<|xne<|xsq<|xsr<|xr 1 rfl<|xne<|xbl ?_;intro a O;refine ZD (ι:=Nat) (fun k a w=>((8≤k∧k≤64)∧ZF (U9 st text) 56 8=ZF (U9 st text) (64 - k) k)∧Fr 40 a [(1,.string text),(2,.pointer (some ⟨b1,0,none⟩)),(5,.int .i64 (k:Int))]∧St w0 ([boxA b1 8 39 (sV a0 c0 a1 c1 a2 c2 a4 c4 a6 c6 st)]) w) (fun k=>64 - k) 8 ⟨⟨by omega,rfl⟩,O.less _ ⟨rfl,rfl,rfl,trivial⟩,E.o⟩ ?_;clear O E;clear a;rintro k a w2 ⟨⟨⟨hk,hk2⟩,hf⟩,O,E⟩;replace E:=Bx.mk E;revert a;refine xsq<|xsr<|xr 2 rfl<|xne<|xcs 7 rfl (fun cc1=>?_) fun cc1=>?_
 have cc1:=of_decide_eq_true cc1;refine xct rfl<|xsk<|xet<|xsq<|xbl<|xsq ?_;intro a O;refine Yr (by kernel_rfl) (by kernel_rfl) E.o ?_;revert a;refine Qf 0 rfl<|Ql 0 rfl rfl<|xqr 1 rfl<|xq rfl (fun E=>vxr 9 k 1 rfl (R0.out.ao k (by omega)))<|xq rfl (fun E a O=>ylo (v:=.string (st.af.getD k ByteArray.empty)) rfl (O.ev rfl) (R0.out.elem1 E (Zh (xs:=st.af) (j:=k) (d:=ByteArray.empty) (by omega)) rfl))<|xqr 1 rfl<|xq rfl (fun E a O=>U6 rfl (O.ev rfl) (O.ev rfl))<|xqr 1 rfl<|xcs 17 rfl (fun cc2=>?_) fun cc2=>?_
 refine Qf 1 rfl<|Qf 1 rfl<|Ql 0 rfl rfl<|xqr 1 rfl<|xq rfl (fun E=>vxr 3 k 1 rfl (R2.out.ao k (by omega)))<|xq rfl (fun E a O=>ylo (v:=.int .i64 (st.aa.ag.getD k 0)) rfl (O.ev rfl) (R2.out.elem1 E (Zh (xs:=st.aa.ag) (j:=k) (d:=0) (by omega)) rfl))<|Qf 3 rfl<|Ql 0 rfl rfl<|xqr 3 rfl<|xcs 28 rfl (fun cc3=>?_) fun cc3=>?_;refine Qf 1 rfl<|Qf 0 rfl<|Ql 0 rfl rfl<|xqr 1 rfl<|xq rfl (fun E=>vxr 3 k 1 rfl (R1.out.ao k (by omega)))<|xq rfl (fun E a O=>ylo (v:=.int .i64 (st.aa.ab.getD k 0)) rfl (O.ev rfl) (R1.out.elem1 E (Zh (xs:=st.aa.ab) (j:=k) (d:=0) (by omega)) rfl))<|Qf 3 rfl<|Ql 0 rfl rfl<|xqr 2 rfl ?_;intro a O;refine wpQuiet_nil ?_;intro w3 E;replace E:=Bx.mk E;revert a;refine xet<|xcs 38 rfl (fun cc4=>?_) fun cc4=>?_
 refine xct rfl<|xsr<|xr 2 rfl<|xne<|xre<|xbr<|xtr<|xtr<|xbr<|xtr<|xb1 results110 rfl ?_;have hp:U9 st text k=true:=by unfold U9;rw [cc2,cc3,cc4];rfl
 have he:ZbB st text=k:=by unfold ZbB;rw [Zbf (by omega) hp hf];exact ZjX (by omega)
 exact ⟨by rw [he],E.o.bel⟩;refine xcf rfl<|xsk<|xeb<|xet<|xrl<|xr 1 rfl<|xy rfl (vad rfl)<|xr 1 rfl<|xne ?_;have hp:U9 st text k=false:=by unfold U9;rw [cc2,cc3,cc4];rfl
 intro a O;exact ⟨k+1,⟨⟨by omega,UB (by omega) hp hf rfl⟩,O.less _ ⟨rfl,rfl,rfl,trivial⟩,E.o⟩,(by omega)⟩;refine xqr 10 rfl ?_;intro a O;refine wpQuiet_nil ?_;intro w4 E;replace E:=Bx.mk E;revert a;refine xet<|xcf rfl<|xsk<|xeb<|xet<|xrl<|xr 1 rfl<|xy rfl (vad rfl)<|xr 1 rfl<|xne ?_;have hp:U9 st text k=false:=by unfold U9;rw [cc2,cc3];rfl
 intro a O;exact ⟨k+1,⟨⟨by omega,UB (by omega) hp hf rfl⟩,O.less _ ⟨rfl,rfl,rfl,trivial⟩,E.o⟩,(by omega)⟩;refine xqr 21 rfl ?_;intro a O;refine wpQuiet_nil ?_;intro w5 E;replace E:=Bx.mk E;revert a;refine xet<|xcf rfl<|xsk<|xeb<|xet<|xrl<|xr 1 rfl<|xy rfl (vad rfl)<|xr 1 rfl<|xne ?_;have hp:U9 st text k=false:=by unfold U9;rw [cc2];rfl
 intro a O;exact ⟨k+1,⟨⟨by omega,UB (by omega) hp hf rfl⟩,O.less _ ⟨rfl,rfl,rfl,trivial⟩,E.o⟩,(by omega)⟩;have cc1:=of_decide_eq_false cc1;refine xcf rfl<|xex<|xtx<|xtx<|xbh<|xet<|xsr<|xr 1 rfl<|xne<|xre<|xb1 results110 rfl ?_;have he:ZbB st text=-1:=by unfold ZbB;rw [Zcu (by omega) hf];rfl
 exact ⟨by rw [he],E.o.bel⟩
theorem Zmv (ao:Option Addr) (cap:Nat) (xs:List Int) (n:Int) (w0:World) (hr:Rd Zu 1 w0 ao xs.length xs) (hl:xs.length≤9223372036854775806):Calls prog 138 #[.slice ao xs.length cap,.int .i64 n] w0 fun e w'=>e=.returned (.bool (inL xs n))∧Below w0.heap.size w0 w':=by
 obtain ⟨g0,o0,r0⟩:=hr.opn;have R0:=Bx.mk r0;clear r0;have E:=Bx.mk (St.start w0);refine ent func138 ntmps138 ?_;refine xsr<|xr 1 rfl<|xne<|xsq<|xsr<|xr 1 rfl<|xne<|xbl ?_;intro a O;refine ZD (ι:=Nat) (fun k a w=>(k≤xs.length∧(xs.take k).any (· == n)=false)∧Fr 18 a [(0,.slice ao xs.length cap),(1,.int .i64 n),(5,.int .i64 (k:Int))]∧St w0 ([]) w) (fun k=>xs.length - k) 0 ⟨⟨Nat.zero_le _,rfl⟩,O.ls _,E.o⟩ ?_;clear O E;clear a;rintro k a w1 ⟨⟨hk,hf⟩,O,E⟩;replace E:=Bx.mk E;revert a;refine xsq<|xsr<|xr 2 rfl<|xy rfl (vn 3 1 rfl)<|xr 1 rfl<|xne<|xcs 9 rfl (fun cc1=>?_) fun cc1=>?_
 have cc1:=of_decide_eq_true cc1;refine xct rfl<|xsk<|xet<|xsq<|xbl<|xsr<|xr 2 rfl<|xy rfl (vxr 3 k 1 rfl (R0.out.ao k (by omega)))<|xy rfl (fun a O=>ylo (v:=.int .i64 (xs.getD k 0)) rfl (O.ev rfl) (R0.out.elem1 E.o (Zh (xs:=xs) (j:=k) (d:=0) (by omega)) rfl))<|xr 2 rfl<|xne<|xcs 17 rfl (fun cc2=>?_) fun cc2=>?_;refine xct rfl<|xsr<|xr 1 rfl<|xne<|xre<|xbr<|xtr<|xtr<|xbr<|xtr<|xb1 results138 rfl ?_;exact ⟨by rw [ZlT (by omega) cc2],E.o.bel⟩;refine xcf rfl<|xsk<|xeb<|xet<|xrl<|xr 1 rfl<|xy rfl (vad rfl)<|xr 1 rfl<|xne ?_;intro a O;exact ⟨k+1,⟨⟨by omega,ZlU (by omega) cc2 hf⟩,O.less _ ⟨rfl,rfl,rfl,trivial⟩,E.o⟩,(by omega)⟩;have cc1:=of_decide_eq_false cc1;refine xcf rfl<|xex<|xtx<|xtx<|xbh<|xet<|xsr<|xr 1 rfl<|xne<|xre<|xb1 results138 rfl ?_;exact ⟨by rw [ZnK (by omega) hf],E.o.bel⟩
theorem Zb6 (ao a2 a3:Option Addr) (cap n2 c2 c3:Nat) (s:Zp) (w0:World) (hr:Rd Zu 1 w0 ao s.ab.length s.ab) (hl:s.ab.length=64):Calls prog 111 #[.agg #[.slice ao s.ab.length cap,.slice a2 n2 c2],.int .i64 8,.slice a3 0 c3] w0 fun e w'=>e=.returned (.int .i64 (Va s))∧Below w0.heap.size w0 w':=by
 obtain ⟨g0,o0,r0⟩:=hr.opn;have R0:=Bx.mk r0;clear r0;have E:=Bx.mk (St.start w0);refine ent func111 ntmps111 ?_;refine xsr ?_;refine ybx E ?_;clear E;intro w1 b1 E;refine xr 1 rfl<|xne<|xsq<|xsr<|xr 1 rfl ?_;refine ycB ((QM 8 _).mono fun _ _ h=>⟨h.1,h.2 ▸ Below.refl _ _⟩) func76 E ?_;clear E;intro w2 E;refine xr 1 rfl<|xne<|xcs 12 rfl (fun cc1=>?_) fun cc1=>?_;exact absurd cc1 (by decide);refine xcf rfl<|xsk<|xet<|xsr<|xr 1 rfl<|xne<|xsq<|xsr<|xr 1 rfl<|xne<|xbl ?_;intro a O;refine ZD (ι:=Nat) (fun i a w=>(i≤56∧ZF (Zaz s) 56 8=ZF (Zaz s) (56 - i) (8+i))∧Fr 38 a [(1,.int .i64 8),(2,.slice a3 0 c3),(3,.pointer (some ⟨b1,0,none⟩)),(7,.int .i64 56),(8,.int .i64 (i:Int))]∧St w0 ([boxA b1 2 36 (.agg #[.slice ao s.ab.length cap,.slice a2 n2 c2])]) w) (fun i=>56 - i) 0 ⟨⟨Nat.zero_le _,rfl⟩,O.ls _,E.o⟩ ?_;clear O E;clear a;rintro i a w3 ⟨⟨hk,hf⟩,O,E⟩;replace E:=Bx.mk E;revert a;refine xsq<|xsr<|xr 3 rfl<|xne<|xcs 15 rfl (fun cc2=>?_) fun cc2=>?_
 have cc2:=of_decide_eq_true cc2;refine xct rfl<|xsk<|xet<|xsq<|xbl<|xsr<|xr 1 rfl<|xy rfl (fun a O=>XE rfl (O.ev rfl) (O.ev rfl) (Qt (by omega)))<|xr 1 rfl<|xy rfl (vad rfl)<|xr 1 rfl<|xy rfl (fun a O=>Ua rfl (O.ev rfl) (O.ev rfl) (by omega) (Ub (by omega) (by omega)))<|xy rfl (fun a O=>ZW (r:=((8+i:Nat):Int)) rfl (O.ev rfl) (O.ev rfl) ((Qt (by omega)).trans (by omega)))<|xr 1 rfl<|xne<|xsr<|Xf 0 rfl<|Xl 0 E rfl rfl<|xr 1 rfl<|xy rfl (vxr 3 (8+i) 1 rfl (R0.out.ao (8+i) (by omega)))<|xy rfl (fun a O=>ylo (v:=.int .i64 (s.ab.getD (8+i) 0)) rfl (O.ev rfl) (R0.out.elem1 E.o (Zh (xs:=s.ab) (j:=8+i) (d:=0) (by omega)) rfl))<|xr 2 rfl<|xcs 31 rfl (fun cc3=>?_) fun cc3=>?_;refine xr 2 rfl ?_;refine Ji (Zmv _ _ ([]:List Int) ((8+i:Nat):Int) _ ⟨rfl,fun i hi=>absurd hi (Nat.not_lt_zero _)⟩ (by simp)) func138 E ?_;clear E;intro w4 E;refine xr 2 rfl<|xne<|xcs 36 rfl (fun cc4=>?_) fun cc4=>?_;refine xct rfl<|xsr<|xr 2 rfl<|xne<|xre<|xbr<|xtr<|xtr<|xbr<|xtr<|xb1 results111 rfl ?_;have hp:Zaz s (8+i)=true:=cc3;exact ⟨by rw [show Va s=((8+i:Nat):Int) by unfold Va;rw [hf,show 56 - i=(55 - i)+1 by omega,ZbN hp];exact ZjX (by omega)],E.o.bel⟩;refine xcf rfl<|xsk<|xeb<|xet<|xrl<|xr 1 rfl<|xy rfl (vad rfl)<|xr 1 rfl<|xne ?_;have hp:Zaz s (8+i)=false:=by unfold Zaz;first|exact cc3|(exfalso;simp [inL] at cc4)
 intro a O;exact ⟨i+1,⟨⟨by omega,by rw [hf,show 56 - i=(56 - (i+1))+1 by omega,Vw hp];rfl⟩,O.less _ ⟨rfl,rfl,rfl,rfl,rfl,trivial⟩,E.o⟩,(by omega)⟩;refine xr 5 rfl<|xne<|xcf rfl<|xsk<|xeb<|xet<|xrl<|xr 1 rfl<|xy rfl (vad rfl)<|xr 1 rfl<|xne ?_;have hp:Zaz s (8+i)=false:=by unfold Zaz;first|exact cc3|(exfalso;simp [inL] at cc3)
 intro a O;exact ⟨i+1,⟨⟨by omega,by rw [hf,show 56 - i=(56 - (i+1))+1 by omega,Vw hp];rfl⟩,O.less _ ⟨rfl,rfl,rfl,rfl,rfl,trivial⟩,E.o⟩,(by omega)⟩;have cc2:=of_decide_eq_false cc2;refine xcf rfl<|xex<|xtx<|xtx<|xbh<|xet<|xsr<|xr 1 rfl<|xne<|xre<|xb1 results111 rfl ?_;exact ⟨by rw [show Va s=-1 by unfold Va;rw [hf,show 56 - i=0 by omega,show i=56 by omega];rfl],E.o.bel⟩
def ZoS (w0:World) (b:Nat) (st:Za) (text:ByteArray) (level:Int) (a0:Option Addr) (c0:Nat) (a1:Option Addr) (c1:Nat) (a2:Option Addr) (c2:Nat) (a4:Option Addr) (c4:Nat) (a6:Option Addr) (c6:Nat) (F:List Asr) (e:Ending) (w':World):Prop :=
 (writeAt st text level=64∧e=.returned (.tuple #[.agg #[.int .i64 0,.int .i64 0,.int .i64 0,.int .i64 0,.int .i64 0],.bool false])∧St w0 (boxA b 8 39 (.agg #[.slice a0 st.af.length c0,.slice a1 st.aa.ab.length c1,.slice a2 st.aa.ag.length c2,.int .i64 st.aq,.slice a4 st.ai.length c4,.int .i64 st.ar,.slice a6 st.aj.length c6,.bool st.au])::Zd Zt 1 9 (.slice a0 st.af.length c0) st.af::Zd Zu 1 3 (.slice a1 st.aa.ab.length c1) st.aa.ab::Zd Zu 1 3 (.slice a2 st.aa.ag.length c2) st.aa.ag::F) w') ∨
 (∃ i:Nat,i<64∧writeAt st text level=i∧e=.returned (.tuple #[.agg #[.int .i64 (Up (i:Int) st.aq level text).aA,.int .i64 (Up (i:Int) st.aq level text).ah,.int .i64 (Up (i:Int) st.aq level text).al,.int .i64 (Up (i:Int) st.aq level text).ax,.int .i64 (Up (i:Int) st.aq level text).ak],.bool (Xv (i:Int) st.aq level text)]) ∧
  ((XG st text level<64∧St w0 (boxA b 8 39 (.agg #[.slice a0 st.af.length c0,.slice a1 st.aa.ab.length c1,.slice a2 st.aa.ag.length c2,.int .i64 st.aq,.slice a4 st.ai.length c4,.int .i64 st.ar,.slice a6 st.aj.length c6,.bool st.au])::Zd Zt 1 9 (.slice a0 st.af.length c0) st.af::Zd Zu 1 3 (.slice a1 st.aa.ab.length c1) (st.aa.ab.set i (st.aa.ab.getD i 0+1))::Zd Zu 1 3 (.slice a2 st.aa.ag.length c2) (st.aa.ag.set i st.aq)::F) w')∨(¬ XG st text level<64∧St w0 (boxA b 8 39 (.agg #[.slice a0 st.af.length c0,.slice a1 st.aa.ab.length c1,.slice a2 st.aa.ag.length c2,.int .i64 st.aq,.slice a4 st.ai.length c4,.int .i64 st.ar,.slice a6 st.aj.length c6,.bool st.au])::Zd Zt 1 9 (.slice a0 st.af.length c0) (st.af.set i text)::Zd Zu 1 3 (.slice a1 st.aa.ab.length c1) (st.aa.ab.set i (st.aa.ab.getD i 0+1))::Zd Zu 1 3 (.slice a2 st.aa.ag.length c2) (st.aa.ag.set i st.aq)::F) w')))
theorem ZkX (w0 w:World) (b:Nat) (a0:Option Addr) (c0:Nat) (a1:Option Addr) (c1:Nat) (a2:Option Addr) (c2:Nat) (a4:Option Addr) (c4:Nat) (a6:Option Addr) (c6:Nat) (st:Za) (text:ByteArray) (level:Int) (F:List Asr) (hS:St w0 (boxA b 8 39 (sV a0 c0 a1 c1 a2 c2 a4 c4 a6 c6 st)::Zd Zt 1 9 (.slice a0 st.af.length c0) st.af::Zd Zu 1 3 (.slice a1 st.aa.ab.length c1) st.aa.ab::Zd Zu 1 3 (.slice a2 st.aa.ag.length c2) st.aa.ag::F) w) (h0:st.af.length=64) (h1:st.aa.ab.length=64) (h2:st.aa.ag.length=64) (hs:text.size≤9223372036854775806) (hr:∀ i,0≤st.aa.ab.getD i 0∧st.aa.ab.getD i 0≤900):Calls prog 94 #[.pointer (some ⟨b,0,none⟩),.string text,.int .i64 level] w (ZoS w0 b st text level a0 c0 a1 c1 a2 c2 a4 c4 a6 c6 F):=by
 obtain ⟨g0,rfl,_,_,_,_⟩:=hS.rowOpen 1 rfl (by omega);obtain ⟨g1,rfl,_,_,_,_⟩:=hS.rowOpen 2 rfl (by omega);obtain ⟨g2,rfl,_,_,_,_⟩:=hS.rowOpen 3 rfl (by omega);have E:=Bx.mk hS;clear hS;refine ent func94 ntmps94 ?_;refine xsr ?_;refine yal z5 E ?_;clear E;intro w1 b1 E;refine xr 1 rfl<|xne<|xsr<|xr 1 rfl<|xne<|xsq<|xsr<|xr 2 rfl<|Xf 7 rfl<|Xl 1 E rfl rfl<|xr 1 rfl<|xcs 15 rfl (fun cc1=>?_) fun cc1=>?_;refine xr 3 rfl<|xne<|xcs 18 rfl (fun cc2=>?_) fun cc2=>?_;have hsame:(st.au && (level == 0))=true:=by rw [cc1,cc2];rfl
 refine xct rfl<|xsr<|xr 2 rfl<|Xf 0 rfl<|Xl 1 E rfl rfl<|xy rfl (vn 9 1 rfl)<|xr 1 rfl<|xne<|xbl ?_;intro a O;refine ZD (ι:=Nat) (fun k a w=>(k≤64∧ZF (QZ st text) 64 0=ZF (QZ st text) (64 - k) k)∧Fr 133 a [(0,.pointer (some ⟨b,0,none⟩)),(1,.string text),(2,.int .i64 level),(6,.pointer (some ⟨b1,0,none⟩)),(7,.bool false),(8,.int .i64 (-1)),(22,.slice (some ⟨g0,0,none⟩) st.af.length c0),(23,.int .i64 (st.af.length:Int)),(24,.int .i64 (k:Int))]∧St w0 (boxA b1 5 40 (az5)::boxA b 8 39 (.agg #[.slice (some ⟨g0,0,none⟩) st.af.length c0,.slice (some ⟨g1,0,none⟩) st.aa.ab.length c1,.slice (some ⟨g2,0,none⟩) st.aa.ag.length c2,.int .i64 st.aq,.slice a4 st.ai.length c4,.int .i64 st.ar,.slice a6 st.aj.length c6,.bool st.au])::Zd Zt 1 9 (.slice (some ⟨g0,0,none⟩) st.af.length c0) st.af::Zd Zu 1 3 (.slice (some ⟨g1,0,none⟩) st.aa.ab.length c1) st.aa.ab::Zd Zu 1 3 (.slice (some ⟨g2,0,none⟩) st.aa.ag.length c2) st.aa.ag::F) w) (fun k=>64 - k) 0 ⟨⟨Nat.zero_le _,rfl⟩,O.ls _,E.o⟩ ?_;clear O E;clear a;rintro k a w2 ⟨⟨hk,hf⟩,O,E⟩;replace E:=Bx.mk E;revert a;refine xsr<|xr 1 rfl<|xne<|xsq<|xcs 25 rfl (fun cc3=>?_) fun cc3=>?_
 have cc3:=of_decide_eq_true cc3;refine xct rfl<|xsk<|xet<|xsq<|xbl<|xsr<|xr 1 rfl<|xy rfl (vx 9 k 1 rfl)<|xy rfl (fun a O=>ylo (v:=.string (st.af.getD k ByteArray.empty)) rfl (O.ev rfl) (E.o.elem1 encS_len 2 rfl (Zh (xs:=st.af) (j:=k) (d:=ByteArray.empty) (by omega)) rfl))<|xr 2 rfl<|xne<|xsq ?_;intro a O;refine Yr (by kernel_rfl) (by kernel_rfl) E.o ?_;revert a;refine xqr 2 rfl<|Qf 1 rfl<|Qf 0 rfl<|Ql 1 rfl rfl<|xqr 1 rfl<|xq rfl (fun E=>vx 3 k 1 rfl)<|xq rfl (fun E a O=>ylo (v:=.int .i64 (st.aa.ab.getD k 0)) rfl (O.ev rfl) (E.elem1 encI_len 3 rfl (Zh (xs:=st.aa.ab) (j:=k) (d:=0) (by omega)) rfl))<|xqr 2 rfl<|xcs 38 rfl (fun cc4=>?_) fun cc4=>?_
 refine xqr 2 rfl<|xq rfl (fun E a O=>U6 rfl (O.ev rfl) (O.ev rfl))<|xqr 2 rfl<|xcs 43 rfl (fun cc5=>?_) fun cc5=>?_;refine xqr 2 rfl<|Qf 1 rfl<|Qf 1 rfl<|Ql 1 rfl rfl<|xqr 1 rfl<|xq rfl (fun E=>vx 3 k 1 rfl)<|xq rfl (fun E a O=>ylo (v:=.int .i64 (st.aa.ag.getD k 0)) rfl (O.ev rfl) (E.elem1 encI_len 4 rfl (Zh (xs:=st.aa.ag) (j:=k) (d:=0) (by omega)) rfl))<|xqr 2 rfl<|Qf 3 rfl<|Ql 1 rfl rfl<|xqr 3 rfl<|xcs 58 rfl (fun cc6=>?_) fun cc6=>?_;refine xqr 2 rfl<|Qf 3 rfl<|Ql 1 rfl rfl<|xqr 2 rfl<|Qf 1 rfl<|Qf 0 rfl<|Ql 1 rfl rfl<|xqr 1 rfl<|xq rfl (fun E=>vx 3 k 1 rfl)<|xq rfl (fun E a O=>ylo (v:=.int .i64 (st.aa.ab.getD k 0)) rfl (O.ev rfl) (E.elem1 encI_len 3 rfl (Zh (xs:=st.aa.ab) (j:=k) (d:=0) (by omega)) rfl))<|xqr 2 rfl ?_;intro a O;refine wpQuiet_nil ?_;intro w3 E;replace E:=Bx.mk E;revert a;refine xet<|xcs 72 rfl (fun cc7=>?_) fun cc7=>?_
 have hp:QZ st text k=true:=by unfold QZ;rw [cc4,cc5,cc6,cc7];rfl
 have hlk:XG st text level=k:=by unfold XG;rw [if_pos hsame,Zi1 (by omega) hp hf]
 refine xct rfl<|xsr<|xr 2 rfl<|xne<|xex ?_;intro a O;refine ZfV rfl ?_;revert a;refine xtx<|xtx<|xbh<|xet<|xsq<|xsr<|xr 2 rfl<|xne<|xcs 76 rfl (fun cc8=>?_) fun cc8=>?_
 exact absurd (of_decide_eq_true cc8) (by omega);refine xcf rfl<|xsk<|xet<|xsq ?_;have hrb:=hr k;refine xrl<|xr 2 rfl<|Xf 1 rfl<|Xf 0 rfl<|Xl 1 E rfl rfl<|xr 1 rfl<|xy rfl (vx 3 k 1 rfl)<|xy rfl (fun a O=>ylo (v:=.int .i64 (st.aa.ab.getD k 0)) rfl (O.ev rfl) (E.o.elem1 encI_len 3 rfl (Zh (xs:=st.aa.ab) (j:=k) (d:=0) (by omega)) rfl))<|xy rfl (vad rfl)<|xy rfl (vx 3 k 1 rfl) ?_;intro a O;refine ZQ encI_len rfl rfl rfl (O.ev rfl) (O.ev rfl) (by kernel_rfl) E.o 3 rfl (by omega) (z:=((st.aa.ab.getD k 0)+1)) rfl rfl ?_;clear E;intro w4 E;replace E:=Bx.mk E;refine Zk<|wp_seq ?_;refine Uc 11 (by kernel_rfl) (by kernel_rfl) E.o ?_;simp only [List.take_succ_cons,take_zero,List.drop_succ_cons,drop_zero];intro w5 E;replace E:=Bx.mk E;refine ZH rfl O rfl rfl (Yf rfl (O.ev rfl)) ?_;clear O a;intro a O;refine ZH rfl O rfl rfl (Yt rfl (O.ev rfl)) ?_;clear O a;intro a O;refine ZH rfl O rfl rfl (yfa 1 rfl (O.ev rfl)) ?_;clear O a;intro a O;refine ZH rfl O rfl rfl (yfa 1 rfl (O.ev rfl)) ?_;clear O a;intro a O;refine ZH rfl O rfl rfl (ylo (v:=.slice (some ⟨g2,0,none⟩) st.aa.ag.length c2) rfl (O.ev rfl) (((E.o.box 1 rfl).cell 2).trans rfl)) ?_;clear O a;intro a O;refine ZH rfl O rfl rfl (Yf rfl (O.ev rfl)) ?_;clear O a;intro a O;refine ZH rfl O rfl rfl (Yf rfl (O.ev rfl)) ?_;clear O a;intro a O;refine ZH rfl O rfl rfl (Yt rfl (O.ev rfl)) ?_;clear O a;intro a O;refine ZH rfl O rfl rfl (yfa 3 rfl (O.ev rfl)) ?_;clear O a;intro a O;refine ZH rfl O rfl rfl (ylo (v:=.int .i64 st.aq) rfl (O.ev rfl) (((E.o.box 1 rfl).cell 3).trans rfl)) ?_;clear O a;intro a O;refine ZH rfl O rfl rfl (ZG (e:=3) (i:=k) (size:=1) rfl (O.ev rfl) (O.ev rfl) (by kernel_rfl) rfl (by omega)) ?_;clear O a;intro a O;refine wpStill_nil ?_;refine ZQ encI_len rfl rfl rfl (O.ev rfl) (O.ev rfl) (by kernel_rfl) E.o 4 rfl (by omega) (z:=st.aq) rfl rfl ?_;clear E;intro w6 E;replace E:=Bx.mk E;revert a;refine xne<|xsr<|xr 3 rfl<|Xf 3 rfl<|Xl 1 E rfl rfl<|xr 2 rfl ?_;refine ycB (V3 (k:Int) st.aq level text _ (by omega)) func124 E ?_;clear E;intro w7 E;refine xr 2 rfl ?_;refine yst E 0 ?_;clear E;intro w8 E;replace E:=E.nm;refine xr 1 rfl<|xne<|xre ?_;intro a O;refine Zw O results94 (O.resBox rfl (E.o.box 0 rfl) (by kernel_rfl)) (O.res rfl) ?_;exact .inr ⟨k,by omega,by unfold writeAt;rw [if_pos (by omega)];exact hlk,rfl,.inl ⟨by omega,E.o.tail⟩⟩;refine xcf rfl<|xsk<|xeb<|xet<|xrl<|xy rfl (vad rfl)<|xr 1 rfl<|xne ?_;have hp:QZ st text k=false:=by unfold QZ;rw [cc4,cc5,cc6,cc7];rfl
 intro a O;exact ⟨k+1,⟨⟨by omega,VY (by omega) hp hf⟩,O.less _ ⟨rfl,rfl,rfl,rfl,rfl,rfl,rfl,rfl,rfl,trivial⟩,E.o⟩,(by omega)⟩;refine xqr 14 rfl ?_;intro a O;refine wpQuiet_nil ?_;intro w9 E;replace E:=Bx.mk E;revert a;refine xet<|xcf rfl<|xsk<|xeb<|xet<|xrl<|xy rfl (vad rfl)<|xr 1 rfl<|xne ?_;have hp:QZ st text k=false:=by unfold QZ;rw [cc4,cc5,cc6];rfl
 intro a O;exact ⟨k+1,⟨⟨by omega,VY (by omega) hp hf⟩,O.less _ ⟨rfl,rfl,rfl,rfl,rfl,rfl,rfl,rfl,rfl,trivial⟩,E.o⟩,(by omega)⟩;refine xqr 29 rfl ?_;intro a O;refine wpQuiet_nil ?_;intro w10 E;replace E:=Bx.mk E;revert a;refine xet<|xcf rfl<|xsk<|xeb<|xet<|xrl<|xy rfl (vad rfl)<|xr 1 rfl<|xne ?_;have hp:QZ st text k=false:=by unfold QZ;rw [cc4,cc5];rfl
 intro a O;exact ⟨k+1,⟨⟨by omega,VY (by omega) hp hf⟩,O.less _ ⟨rfl,rfl,rfl,rfl,rfl,rfl,rfl,rfl,rfl,trivial⟩,E.o⟩,(by omega)⟩;refine xqr 34 rfl ?_;intro a O;refine wpQuiet_nil ?_;intro w11 E;replace E:=Bx.mk E;revert a;refine xet<|xcf rfl<|xsk<|xeb<|xet<|xrl<|xy rfl (vad rfl)<|xr 1 rfl<|xne ?_;have hp:QZ st text k=false:=by unfold QZ;rw [cc4];rfl
 intro a O;exact ⟨k+1,⟨⟨by omega,VY (by omega) hp hf⟩,O.less _ ⟨rfl,rfl,rfl,rfl,rfl,rfl,rfl,rfl,rfl,trivial⟩,E.o⟩,(by omega)⟩;have cc3:=of_decide_eq_false cc3;have hlk:XG st text level=64:=by unfold XG;rw [if_pos hsame,Zkz (by omega) hf]
 refine xcf rfl<|xex<|xtx<|xtx<|xbh<|xet<|xsq<|xsr<|xr 2 rfl<|xne ?_;intro a O;replace O:=O.know (k:=76) (c:=true) rfl (by decide);revert a;refine xct rfl<|xsr<|xr 1 rfl<|xne<|xsq<|xbl ?_;intro a O;refine ZD (ι:=Nat) (fun j a w=>((8≤j∧j≤64)∧ZF (X6 st) 56 8=ZF (X6 st) (64 - j) j)∧Fr 133 a [(0,.pointer (some ⟨b,0,none⟩)),(1,.string text),(2,.int .i64 level),(6,.pointer (some ⟨b1,0,none⟩)),(7,.bool false),(8,.int .i64 (j:Int))]∧St w0 (boxA b1 5 40 (az5)::boxA b 8 39 (.agg #[.slice (some ⟨g0,0,none⟩) st.af.length c0,.slice (some ⟨g1,0,none⟩) st.aa.ab.length c1,.slice (some ⟨g2,0,none⟩) st.aa.ag.length c2,.int .i64 st.aq,.slice a4 st.ai.length c4,.int .i64 st.ar,.slice a6 st.aj.length c6,.bool st.au])::Zd Zt 1 9 (.slice (some ⟨g0,0,none⟩) st.af.length c0) st.af::Zd Zu 1 3 (.slice (some ⟨g1,0,none⟩) st.aa.ab.length c1) st.aa.ab::Zd Zu 1 3 (.slice (some ⟨g2,0,none⟩) st.aa.ag.length c2) st.aa.ag::F) w) (fun j=>64 - j) 8 ⟨⟨by omega,rfl⟩,O.less _ ⟨rfl,rfl,rfl,rfl,rfl,rfl,trivial⟩,E.o⟩ ?_;clear O E;clear a;rintro j a w12 ⟨⟨⟨hj8,hj⟩,hg⟩,O,E⟩;replace E:=Bx.mk E;revert a;refine xsq<|xsr<|xr 3 rfl<|xcs 79 rfl (fun cc9=>?_) fun cc9=>?_
 have hj64:=of_decide_eq_true cc9;refine xr 2 rfl<|Xf 1 rfl<|Xf 0 rfl<|Xl 1 E rfl rfl<|xr 1 rfl<|xy rfl (vx 3 j 1 rfl)<|xy rfl (fun a O=>ylo (v:=.int .i64 (st.aa.ab.getD j 0)) rfl (O.ev rfl) (E.o.elem1 encI_len 3 rfl (Zh (xs:=st.aa.ab) (j:=j) (d:=0) (by omega)) rfl))<|xr 2 rfl<|xne<|xcs 89 rfl (fun cc10=>?_) fun cc10=>?_;refine xct rfl<|xsk<|xet<|xbl<|xrl<|xr 1 rfl<|xy rfl (vad rfl)<|xr 1 rfl<|xni<|xeb<|xet ?_;have hp:X6 st j=false:=by unfold X6;rw [cc10];rfl
 intro a O;exact ⟨j+1,⟨⟨by omega,UB (by omega) hp hg rfl⟩,O.less _ ⟨rfl,rfl,rfl,rfl,rfl,rfl,trivial⟩,E.o⟩,(by omega)⟩;have hp:X6 st j=true:=by unfold X6;rw [cc10];rfl
 have hwr:writeAt st text level=j:=by unfold writeAt;rw [if_neg (by omega),Zbf (by omega) hp hg]
 refine xcf rfl<|xex<|xtx<|xtx<|xbh<|xet<|xsq<|xsr<|xr 2 rfl<|xne<|xcs 93 rfl (fun cc11=>?_) fun cc11=>?_;exact absurd (eq_of_beq cc11) (by omega);refine xcf rfl<|xsk<|xet<|xrl<|xr 2 rfl<|Xf 0 rfl<|Xl 1 E rfl rfl<|xr 2 rfl<|xy rfl (vx 9 j 1 rfl) ?_;intro a O;refine ZQ encS_len rfl rfl rfl (O.ev rfl) (O.ev rfl) (by kernel_rfl) E.o 2 rfl (by omega) (z:=text) rfl rfl ?_;clear E;intro w13 E;replace E:=Bx.mk E;refine Zk<|wp_seq ?_;have hrb:=hr j;revert a;refine xrl<|xr 2 rfl<|Xf 1 rfl<|Xf 0 rfl<|Xl 1 E rfl rfl<|xr 1 rfl<|xy rfl (vx 3 j 1 rfl)<|xy rfl (fun a O=>ylo (v:=.int .i64 (st.aa.ab.getD j 0)) rfl (O.ev rfl) (E.o.elem1 encI_len 3 rfl (Zh (xs:=st.aa.ab) (j:=j) (d:=0) (by omega)) rfl))<|xy rfl (vad rfl)<|xy rfl (vx 3 j 1 rfl) ?_;intro a O;refine ZQ encI_len rfl rfl rfl (O.ev rfl) (O.ev rfl) (by kernel_rfl) E.o 3 rfl (by omega) (z:=((st.aa.ab.getD j 0)+1)) rfl rfl ?_;clear E;intro w14 E;replace E:=Bx.mk E;refine Zk<|wp_seq ?_;refine Uc 11 (by kernel_rfl) (by kernel_rfl) E.o ?_;simp only [List.take_succ_cons,take_zero,List.drop_succ_cons,drop_zero];intro w15 E;replace E:=Bx.mk E;refine ZH rfl O rfl rfl (Yf rfl (O.ev rfl)) ?_;clear O a;intro a O;refine ZH rfl O rfl rfl (Yt rfl (O.ev rfl)) ?_;clear O a;intro a O;refine ZH rfl O rfl rfl (yfa 1 rfl (O.ev rfl)) ?_;clear O a;intro a O;refine ZH rfl O rfl rfl (yfa 1 rfl (O.ev rfl)) ?_;clear O a;intro a O;refine ZH rfl O rfl rfl (ylo (v:=.slice (some ⟨g2,0,none⟩) st.aa.ag.length c2) rfl (O.ev rfl) (((E.o.box 1 rfl).cell 2).trans rfl)) ?_;clear O a;intro a O;refine ZH rfl O rfl rfl (Yf rfl (O.ev rfl)) ?_;clear O a;intro a O;refine ZH rfl O rfl rfl (Yf rfl (O.ev rfl)) ?_;clear O a;intro a O;refine ZH rfl O rfl rfl (Yt rfl (O.ev rfl)) ?_;clear O a;intro a O;refine ZH rfl O rfl rfl (yfa 3 rfl (O.ev rfl)) ?_;clear O a;intro a O;refine ZH rfl O rfl rfl (ylo (v:=.int .i64 st.aq) rfl (O.ev rfl) (((E.o.box 1 rfl).cell 3).trans rfl)) ?_;clear O a;intro a O;refine ZH rfl O rfl rfl (ZG (e:=3) (i:=j) (size:=1) rfl (O.ev rfl) (O.ev rfl) (by kernel_rfl) rfl (by omega)) ?_;clear O a;intro a O;refine wpStill_nil ?_;refine ZQ encI_len rfl rfl rfl (O.ev rfl) (O.ev rfl) (by kernel_rfl) E.o 4 rfl (by omega) (z:=st.aq) rfl rfl ?_;clear E;intro w16 E;replace E:=Bx.mk E;revert a;refine xne<|xsr<|xr 3 rfl<|Xf 3 rfl<|Xl 1 E rfl rfl<|xr 2 rfl ?_;refine ycB (V3 (j:Int) st.aq level text _ (by omega)) func124 E ?_;clear E;intro w17 E;refine xr 2 rfl ?_;refine yst E 0 ?_;clear E;intro w18 E;replace E:=E.nm;refine xr 1 rfl<|xne<|xre ?_;intro a O;refine Zw O results94 (O.resBox rfl (E.o.box 0 rfl) (by kernel_rfl)) (O.res rfl) ?_;exact .inr ⟨j,by omega,hwr,rfl,.inr ⟨by omega,E.o.tail⟩⟩;have hj64:=of_decide_eq_false cc9;refine xr 10 rfl<|xne<|xcf rfl<|xex<|xtx<|xtx<|xbh<|xet<|xsq<|xsr<|xr 2 rfl<|xne<|xcs 93 rfl (fun cc12=>?_) fun cc12=>?_;refine xct rfl<|xsr<|xy rfl (vb z5 rfl) ?_;refine yst E 0 ?_;clear E;intro w19 E;replace E:=E.nm;refine xr 1 rfl<|xne<|xre<|xtr<|xtr ?_;intro a O;refine Zw O results94 (O.resBox rfl (E.o.box 0 rfl) (by kernel_rfl)) (O.res rfl) ?_;exact .inl ⟨by unfold writeAt;rw [if_neg (by omega),Zcu (by omega) hg],rfl,E.o.tail⟩;exact absurd (beq_eq_false_iff_ne.1 cc12) (by omega);have hsame:(st.au && (level == 0))=false:=by rw [cc1,cc2];rfl
 have hlk:XG st text level=64:=by unfold XG;rw [if_neg (by rw [hsame];simp)]
 refine xcf rfl<|xsk<|xet<|xsq<|xsr<|xr 2 rfl<|xne ?_;intro a O;replace O:=O.know (k:=76) (c:=true) rfl (by decide);revert a;refine xct rfl<|xsr<|xr 1 rfl<|xne<|xsq<|xbl ?_;intro a O;refine ZD (ι:=Nat) (fun j a w=>((8≤j∧j≤64)∧ZF (X6 st) 56 8=ZF (X6 st) (64 - j) j)∧Fr 133 a [(0,.pointer (some ⟨b,0,none⟩)),(1,.string text),(2,.int .i64 level),(6,.pointer (some ⟨b1,0,none⟩)),(7,.bool false),(8,.int .i64 (j:Int))]∧St w0 (boxA b1 5 40 (az5)::boxA b 8 39 (.agg #[.slice (some ⟨g0,0,none⟩) st.af.length c0,.slice (some ⟨g1,0,none⟩) st.aa.ab.length c1,.slice (some ⟨g2,0,none⟩) st.aa.ag.length c2,.int .i64 st.aq,.slice a4 st.ai.length c4,.int .i64 st.ar,.slice a6 st.aj.length c6,.bool st.au])::Zd Zt 1 9 (.slice (some ⟨g0,0,none⟩) st.af.length c0) st.af::Zd Zu 1 3 (.slice (some ⟨g1,0,none⟩) st.aa.ab.length c1) st.aa.ab::Zd Zu 1 3 (.slice (some ⟨g2,0,none⟩) st.aa.ag.length c2) st.aa.ag::F) w) (fun j=>64 - j) 8 ⟨⟨by omega,rfl⟩,O.less _ ⟨rfl,rfl,rfl,rfl,rfl,rfl,trivial⟩,E.o⟩ ?_;clear O E;clear a;rintro j a w20 ⟨⟨⟨hj8,hj⟩,hg⟩,O,E⟩;replace E:=Bx.mk E;revert a;refine xsq<|xsr<|xr 3 rfl<|xcs 79 rfl (fun cc13=>?_) fun cc13=>?_
 have hj64:=of_decide_eq_true cc13;refine xr 2 rfl<|Xf 1 rfl<|Xf 0 rfl<|Xl 1 E rfl rfl<|xr 1 rfl<|xy rfl (vx 3 j 1 rfl)<|xy rfl (fun a O=>ylo (v:=.int .i64 (st.aa.ab.getD j 0)) rfl (O.ev rfl) (E.o.elem1 encI_len 3 rfl (Zh (xs:=st.aa.ab) (j:=j) (d:=0) (by omega)) rfl))<|xr 2 rfl<|xne<|xcs 89 rfl (fun cc14=>?_) fun cc14=>?_;refine xct rfl<|xsk<|xet<|xbl<|xrl<|xr 1 rfl<|xy rfl (vad rfl)<|xr 1 rfl<|xni<|xeb<|xet ?_;have hp:X6 st j=false:=by unfold X6;rw [cc14];rfl
 intro a O;exact ⟨j+1,⟨⟨by omega,UB (by omega) hp hg rfl⟩,O.less _ ⟨rfl,rfl,rfl,rfl,rfl,rfl,trivial⟩,E.o⟩,(by omega)⟩;have hp:X6 st j=true:=by unfold X6;rw [cc14];rfl
 have hwr:writeAt st text level=j:=by unfold writeAt;rw [if_neg (by omega),Zbf (by omega) hp hg]
 refine xcf rfl<|xex<|xtx<|xtx<|xbh<|xet<|xsq<|xsr<|xr 2 rfl<|xne<|xcs 93 rfl (fun cc15=>?_) fun cc15=>?_;exact absurd (eq_of_beq cc15) (by omega);refine xcf rfl<|xsk<|xet<|xrl<|xr 2 rfl<|Xf 0 rfl<|Xl 1 E rfl rfl<|xr 2 rfl<|xy rfl (vx 9 j 1 rfl) ?_;intro a O;refine ZQ encS_len rfl rfl rfl (O.ev rfl) (O.ev rfl) (by kernel_rfl) E.o 2 rfl (by omega) (z:=text) rfl rfl ?_;clear E;intro w21 E;replace E:=Bx.mk E;refine Zk<|wp_seq ?_;have hrb:=hr j;revert a;refine xrl<|xr 2 rfl<|Xf 1 rfl<|Xf 0 rfl<|Xl 1 E rfl rfl<|xr 1 rfl<|xy rfl (vx 3 j 1 rfl)<|xy rfl (fun a O=>ylo (v:=.int .i64 (st.aa.ab.getD j 0)) rfl (O.ev rfl) (E.o.elem1 encI_len 3 rfl (Zh (xs:=st.aa.ab) (j:=j) (d:=0) (by omega)) rfl))<|xy rfl (vad rfl)<|xy rfl (vx 3 j 1 rfl) ?_;intro a O;refine ZQ encI_len rfl rfl rfl (O.ev rfl) (O.ev rfl) (by kernel_rfl) E.o 3 rfl (by omega) (z:=((st.aa.ab.getD j 0)+1)) rfl rfl ?_;clear E;intro w22 E;replace E:=Bx.mk E;refine Zk<|wp_seq ?_;refine Uc 11 (by kernel_rfl) (by kernel_rfl) E.o ?_;simp only [List.take_succ_cons,take_zero,List.drop_succ_cons,drop_zero];intro w23 E;replace E:=Bx.mk E;refine ZH rfl O rfl rfl (Yf rfl (O.ev rfl)) ?_;clear O a;intro a O;refine ZH rfl O rfl rfl (Yt rfl (O.ev rfl)) ?_;clear O a;intro a O;refine ZH rfl O rfl rfl (yfa 1 rfl (O.ev rfl)) ?_;clear O a;intro a O;refine ZH rfl O rfl rfl (yfa 1 rfl (O.ev rfl)) ?_;clear O a;intro a O;refine ZH rfl O rfl rfl (ylo (v:=.slice (some ⟨g2,0,none⟩) st.aa.ag.length c2) rfl (O.ev rfl) (((E.o.box 1 rfl).cell 2).trans rfl)) ?_;clear O a;intro a O;refine ZH rfl O rfl rfl (Yf rfl (O.ev rfl)) ?_;clear O a;intro a O;refine ZH rfl O rfl rfl (Yf rfl (O.ev rfl)) ?_;clear O a;intro a O;refine ZH rfl O rfl rfl (Yt rfl (O.ev rfl)) ?_;clear O a;intro a O;refine ZH rfl O rfl rfl (yfa 3 rfl (O.ev rfl)) ?_;clear O a;intro a O;refine ZH rfl O rfl rfl (ylo (v:=.int .i64 st.aq) rfl (O.ev rfl) (((E.o.box 1 rfl).cell 3).trans rfl)) ?_;clear O a;intro a O;refine ZH rfl O rfl rfl (ZG (e:=3) (i:=j) (size:=1) rfl (O.ev rfl) (O.ev rfl) (by kernel_rfl) rfl (by omega)) ?_;clear O a;intro a O;refine wpStill_nil ?_;refine ZQ encI_len rfl rfl rfl (O.ev rfl) (O.ev rfl) (by kernel_rfl) E.o 4 rfl (by omega) (z:=st.aq) rfl rfl ?_;clear E;intro w24 E;replace E:=Bx.mk E;revert a;refine xne<|xsr<|xr 3 rfl<|Xf 3 rfl<|Xl 1 E rfl rfl<|xr 2 rfl ?_;refine ycB (V3 (j:Int) st.aq level text _ (by omega)) func124 E ?_;clear E;intro w25 E;refine xr 2 rfl ?_;refine yst E 0 ?_;clear E;intro w26 E;replace E:=E.nm;refine xr 1 rfl<|xne<|xre ?_;intro a O;refine Zw O results94 (O.resBox rfl (E.o.box 0 rfl) (by kernel_rfl)) (O.res rfl) ?_;exact .inr ⟨j,by omega,hwr,rfl,.inr ⟨by omega,E.o.tail⟩⟩;have hj64:=of_decide_eq_false cc13;refine xr 10 rfl<|xne<|xcf rfl<|xex<|xtx<|xtx<|xbh<|xet<|xsq<|xsr<|xr 2 rfl<|xne<|xcs 93 rfl (fun cc16=>?_) fun cc16=>?_;refine xct rfl<|xsr<|xy rfl (vb z5 rfl) ?_;refine yst E 0 ?_;clear E;intro w27 E;replace E:=E.nm;refine xr 1 rfl<|xne<|xre<|xtr<|xtr ?_;intro a O;refine Zw O results94 (O.resBox rfl (E.o.box 0 rfl) (by kernel_rfl)) (O.res rfl) ?_;exact .inl ⟨by unfold writeAt;rw [if_neg (by omega),Zcu (by omega) hg],rfl,E.o.tail⟩;exact absurd (beq_eq_false_iff_ne.1 cc16) (by omega);have hsame:(st.au && (level == 0))=false:=by rw [cc1];rfl
 have hlk:XG st text level=64:=by unfold XG;rw [if_neg (by rw [hsame];simp)]
 refine xr 3 rfl<|xne<|xcf rfl<|xsk<|xet<|xsq<|xsr<|xr 2 rfl<|xne ?_;intro a O;replace O:=O.know (k:=76) (c:=true) rfl (by decide);revert a;refine xct rfl<|xsr<|xr 1 rfl<|xne<|xsq<|xbl ?_;intro a O;refine ZD (ι:=Nat) (fun j a w=>((8≤j∧j≤64)∧ZF (X6 st) 56 8=ZF (X6 st) (64 - j) j)∧Fr 133 a [(0,.pointer (some ⟨b,0,none⟩)),(1,.string text),(2,.int .i64 level),(6,.pointer (some ⟨b1,0,none⟩)),(7,.bool false),(8,.int .i64 (j:Int))]∧St w0 (boxA b1 5 40 (az5)::boxA b 8 39 (.agg #[.slice (some ⟨g0,0,none⟩) st.af.length c0,.slice (some ⟨g1,0,none⟩) st.aa.ab.length c1,.slice (some ⟨g2,0,none⟩) st.aa.ag.length c2,.int .i64 st.aq,.slice a4 st.ai.length c4,.int .i64 st.ar,.slice a6 st.aj.length c6,.bool st.au])::Zd Zt 1 9 (.slice (some ⟨g0,0,none⟩) st.af.length c0) st.af::Zd Zu 1 3 (.slice (some ⟨g1,0,none⟩) st.aa.ab.length c1) st.aa.ab::Zd Zu 1 3 (.slice (some ⟨g2,0,none⟩) st.aa.ag.length c2) st.aa.ag::F) w) (fun j=>64 - j) 8 ⟨⟨by omega,rfl⟩,O.less _ ⟨rfl,rfl,rfl,rfl,rfl,rfl,trivial⟩,E.o⟩ ?_;clear O E;clear a;rintro j a w28 ⟨⟨⟨hj8,hj⟩,hg⟩,O,E⟩;replace E:=Bx.mk E;revert a;refine xsq<|xsr<|xr 3 rfl<|xcs 79 rfl (fun cc17=>?_) fun cc17=>?_
 have hj64:=of_decide_eq_true cc17;refine xr 2 rfl<|Xf 1 rfl<|Xf 0 rfl<|Xl 1 E rfl rfl<|xr 1 rfl<|xy rfl (vx 3 j 1 rfl)<|xy rfl (fun a O=>ylo (v:=.int .i64 (st.aa.ab.getD j 0)) rfl (O.ev rfl) (E.o.elem1 encI_len 3 rfl (Zh (xs:=st.aa.ab) (j:=j) (d:=0) (by omega)) rfl))<|xr 2 rfl<|xne<|xcs 89 rfl (fun cc18=>?_) fun cc18=>?_;refine xct rfl<|xsk<|xet<|xbl<|xrl<|xr 1 rfl<|xy rfl (vad rfl)<|xr 1 rfl<|xni<|xeb<|xet ?_;have hp:X6 st j=false:=by unfold X6;rw [cc18];rfl
 intro a O;exact ⟨j+1,⟨⟨by omega,UB (by omega) hp hg rfl⟩,O.less _ ⟨rfl,rfl,rfl,rfl,rfl,rfl,trivial⟩,E.o⟩,(by omega)⟩;have hp:X6 st j=true:=by unfold X6;rw [cc18];rfl
 have hwr:writeAt st text level=j:=by unfold writeAt;rw [if_neg (by omega),Zbf (by omega) hp hg]
 refine xcf rfl<|xex<|xtx<|xtx<|xbh<|xet<|xsq<|xsr<|xr 2 rfl<|xne<|xcs 93 rfl (fun cc19=>?_) fun cc19=>?_;exact absurd (eq_of_beq cc19) (by omega);refine xcf rfl<|xsk<|xet<|xrl<|xr 2 rfl<|Xf 0 rfl<|Xl 1 E rfl rfl<|xr 2 rfl<|xy rfl (vx 9 j 1 rfl) ?_;intro a O;refine ZQ encS_len rfl rfl rfl (O.ev rfl) (O.ev rfl) (by kernel_rfl) E.o 2 rfl (by omega) (z:=text) rfl rfl ?_;clear E;intro w29 E;replace E:=Bx.mk E;refine Zk<|wp_seq ?_;have hrb:=hr j;revert a;refine xrl<|xr 2 rfl<|Xf 1 rfl<|Xf 0 rfl<|Xl 1 E rfl rfl<|xr 1 rfl<|xy rfl (vx 3 j 1 rfl)<|xy rfl (fun a O=>ylo (v:=.int .i64 (st.aa.ab.getD j 0)) rfl (O.ev rfl) (E.o.elem1 encI_len 3 rfl (Zh (xs:=st.aa.ab) (j:=j) (d:=0) (by omega)) rfl))<|xy rfl (vad rfl)<|xy rfl (vx 3 j 1 rfl) ?_;intro a O;refine ZQ encI_len rfl rfl rfl (O.ev rfl) (O.ev rfl) (by kernel_rfl) E.o 3 rfl (by omega) (z:=((st.aa.ab.getD j 0)+1)) rfl rfl ?_;clear E;intro w30 E;replace E:=Bx.mk E;refine Zk<|wp_seq ?_;refine Uc 11 (by kernel_rfl) (by kernel_rfl) E.o ?_;simp only [List.take_succ_cons,take_zero,List.drop_succ_cons,drop_zero];intro w31 E;replace E:=Bx.mk E;refine ZH rfl O rfl rfl (Yf rfl (O.ev rfl)) ?_;clear O a;intro a O;refine ZH rfl O rfl rfl (Yt rfl (O.ev rfl)) ?_;clear O a;intro a O;refine ZH rfl O rfl rfl (yfa 1 rfl (O.ev rfl)) ?_;clear O a;intro a O;refine ZH rfl O rfl rfl (yfa 1 rfl (O.ev rfl)) ?_;clear O a;intro a O;refine ZH rfl O rfl rfl (ylo (v:=.slice (some ⟨g2,0,none⟩) st.aa.ag.length c2) rfl (O.ev rfl) (((E.o.box 1 rfl).cell 2).trans rfl)) ?_;clear O a;intro a O;refine ZH rfl O rfl rfl (Yf rfl (O.ev rfl)) ?_;clear O a;intro a O;refine ZH rfl O rfl rfl (Yf rfl (O.ev rfl)) ?_;clear O a;intro a O;refine ZH rfl O rfl rfl (Yt rfl (O.ev rfl)) ?_;clear O a;intro a O;refine ZH rfl O rfl rfl (yfa 3 rfl (O.ev rfl)) ?_;clear O a;intro a O;refine ZH rfl O rfl rfl (ylo (v:=.int .i64 st.aq) rfl (O.ev rfl) (((E.o.box 1 rfl).cell 3).trans rfl)) ?_;clear O a;intro a O;refine ZH rfl O rfl rfl (ZG (e:=3) (i:=j) (size:=1) rfl (O.ev rfl) (O.ev rfl) (by kernel_rfl) rfl (by omega)) ?_;clear O a;intro a O;refine wpStill_nil ?_;refine ZQ encI_len rfl rfl rfl (O.ev rfl) (O.ev rfl) (by kernel_rfl) E.o 4 rfl (by omega) (z:=st.aq) rfl rfl ?_;clear E;intro w32 E;replace E:=Bx.mk E;revert a;refine xne<|xsr<|xr 3 rfl<|Xf 3 rfl<|Xl 1 E rfl rfl<|xr 2 rfl ?_;refine ycB (V3 (j:Int) st.aq level text _ (by omega)) func124 E ?_;clear E;intro w33 E;refine xr 2 rfl ?_;refine yst E 0 ?_;clear E;intro w34 E;replace E:=E.nm;refine xr 1 rfl<|xne<|xre ?_;intro a O;refine Zw O results94 (O.resBox rfl (E.o.box 0 rfl) (by kernel_rfl)) (O.res rfl) ?_;exact .inr ⟨j,by omega,hwr,rfl,.inr ⟨by omega,E.o.tail⟩⟩;have hj64:=of_decide_eq_false cc17;refine xr 10 rfl<|xne<|xcf rfl<|xex<|xtx<|xtx<|xbh<|xet<|xsq<|xsr<|xr 2 rfl<|xne<|xcs 93 rfl (fun cc20=>?_) fun cc20=>?_;refine xct rfl<|xsr<|xy rfl (vb z5 rfl) ?_;refine yst E 0 ?_;clear E;intro w35 E;replace E:=E.nm;refine xr 1 rfl<|xne<|xre<|xtr<|xtr ?_;intro a O;refine Zw O results94 (O.resBox rfl (E.o.box 0 rfl) (by kernel_rfl)) (O.res rfl) ?_;exact .inl ⟨by unfold writeAt;rw [if_neg (by omega),Zcu (by omega) hg],rfl,E.o.tail⟩;exact absurd (beq_eq_false_iff_ne.1 cc20) (by omega)
theorem Zag (k:Nat):ZgX k<0∨∃ i:Nat,ZgX k=i∧i<64:=by
 unfold ZgX
 split
 ·exact .inr ⟨k,rfl,by assumption⟩
 ·exact .inl (by omega)
def ZoT (w0:World) (st:Za) (text:ByteArray) (level:Int) (a0:Option Addr) (c0:Nat) (a1:Option Addr) (c1:Nat) (a2:Option Addr) (c2:Nat) (a4:Option Addr) (c4:Nat) (a6:Option Addr) (c6:Nat) (F:List Asr) (e:Ending) (w':World):Prop :=
 (Jm st text level<0∧e=.returned (.tuple #[.agg #[.slice a0 st.af.length c0,.slice a1 st.aa.ab.length c1,.slice a2 st.aa.ag.length c2,.int .i64 st.aq,.slice a4 st.ai.length c4,.int .i64 st.ar,.slice a6 st.aj.length c6,.bool st.au],.agg #[.int .i64 0,.int .i64 0,.int .i64 0,.int .i64 0,.int .i64 0],.bool false])∧St w0 (Zd Zt 1 9 (.slice a0 st.af.length c0) st.af::Zd Zu 1 3 (.slice a1 st.aa.ab.length c1) st.aa.ab::Zd Zu 1 3 (.slice a2 st.aa.ag.length c2) st.aa.ag::Zd PtrD.cells 5 40 (.slice a4 st.ai.length c4) st.ai::Zd PtrD.cells 5 40 (.slice a6 st.aj.length c6) st.aj::F) w') ∨
 (∃ i:Nat,i<64∧Jm st text level=i∧((Xv (i:Int) st.aq level text=false∧e=.returned (.tuple #[.agg #[.slice a0 st.af.length c0,.slice a1 st.aa.ab.length c1,.slice a2 st.aa.ag.length c2,.int .i64 st.aq,.slice a4 st.ai.length c4,.int .i64 st.ar,.slice a6 st.aj.length c6,.bool st.au],.agg #[.int .i64 0,.int .i64 0,.int .i64 0,.int .i64 0,.int .i64 0],.bool false])∧St w0 (Zd Zt 1 9 (.slice a0 st.af.length c0) st.af::Zd Zu 1 3 (.slice a1 st.aa.ab.length c1) st.aa.ab::Zd Zu 1 3 (.slice a2 st.aa.ag.length c2) st.aa.ag::Zd PtrD.cells 5 40 (.slice a4 st.ai.length c4) st.ai::Zd PtrD.cells 5 40 (.slice a6 st.aj.length c6) st.aj::F) w')∨(Xv (i:Int) st.aq level text=true∧e=.returned (.tuple #[.agg #[.slice a0 st.af.length c0,.slice a1 st.aa.ab.length c1,.slice a2 st.aa.ag.length c2,.int .i64 st.aq,.slice a4 st.ai.length c4,.int .i64 st.ar,.slice a6 st.aj.length c6,.bool st.au],.agg #[.int .i64 (Up (i:Int) st.aq level text).aA,.int .i64 (Up (i:Int) st.aq level text).ah,.int .i64 (Up (i:Int) st.aq level text).al,.int .i64 (Up (i:Int) st.aq level text).ax,.int .i64 (Up (i:Int) st.aq level text).ak],.bool true])∧St w0 (Zd Zt 1 9 (.slice a0 st.af.length c0) (st.af.set i text)::Zd Zu 1 3 (.slice a1 st.aa.ab.length c1) (st.aa.ab.set i (st.aa.ab.getD i 0+1))::Zd Zu 1 3 (.slice a2 st.aa.ag.length c2) (st.aa.ag.set i st.aq)::Zd PtrD.cells 5 40 (.slice a4 st.ai.length c4) st.ai::Zd PtrD.cells 5 40 (.slice a6 st.aj.length c6) st.aj::F) w')))
theorem Zir (w0 w:World) (a0:Option Addr) (c0:Nat) (a1:Option Addr) (c1:Nat) (a2:Option Addr) (c2:Nat) (a4:Option Addr) (c4:Nat) (a6:Option Addr) (c6:Nat) (st:Za) (text:ByteArray) (level:Int) (F:List Asr) (hS:St w0 (Zd Zt 1 9 (.slice a0 st.af.length c0) st.af::Zd Zu 1 3 (.slice a1 st.aa.ab.length c1) st.aa.ab::Zd Zu 1 3 (.slice a2 st.aa.ag.length c2) st.aa.ag::Zd PtrD.cells 5 40 (.slice a4 st.ai.length c4) st.ai::Zd PtrD.cells 5 40 (.slice a6 st.aj.length c6) st.aj::F) w) (h0:st.af.length=64) (h1:st.aa.ab.length=64) (h2:st.aa.ag.length=64) (hs:text.size≤9223372036854775806) (hr:∀ i,0≤st.aa.ab.getD i 0∧st.aa.ab.getD i 0≤900):Calls prog 80 #[sV a0 c0 a1 c1 a2 c2 a4 c4 a6 c6 st,.string text,.int .i64 level] w (ZoT w0 st text level a0 c0 a1 c1 a2 c2 a4 c4 a6 c6 F):=by
 obtain ⟨g0,rfl,_,_,_,_⟩:=hS.rowOpen 0 rfl (by omega);obtain ⟨g1,rfl,_,_,_,_⟩:=hS.rowOpen 1 rfl (by omega);obtain ⟨g2,rfl,_,_,_,_⟩:=hS.rowOpen 2 rfl (by omega);have E:=Bx.mk hS;clear hS;refine Q9 func80 rfl ntmps80 [(0,.agg #[.slice (some ⟨g0,0,none⟩) st.af.length c0,.slice (some ⟨g1,0,none⟩) st.aa.ab.length c1,.slice (some ⟨g2,0,none⟩) st.aa.ag.length c2,.int .i64 st.aq,.slice a4 st.ai.length c4,.int .i64 st.ar,.slice a6 st.aj.length c6,.bool st.au]),(1,.string text),(2,.int .i64 level)] ⟨rfl,rfl,rfl,trivial⟩ rfl ?_;refine xsr ?_;refine ybx E ?_;clear E;intro w1 b1 E;refine yal z8 E ?_;clear E;intro w2 b2 E;refine yal z5 E ?_;clear E;intro w3 b3 E;refine xr 1 rfl<|xne<|xsr<|xr 1 rfl<|xne<|xsq<|xsr<|Xf 7 rfl<|Xl 2 E rfl rfl<|xr 1 rfl<|xcs 14 rfl (fun cc1=>?_) fun cc1=>?_;refine xr 3 rfl<|xne<|xcs 17 rfl (fun cc2=>?_) fun cc2=>?_;have hls:ZcT st text level=ZbB st text:=by unfold ZcT;rw [cc1,cc2];rfl
 refine xct rfl<|xrl<|Xw 2 8 E rfl rfl<|xr 1 rfl ?_;refine ycB (Zjs _ st text _ (Za.reads_of E.o st _ _ _ _ _ _ _ _ _ _ 3 4 5 6 7 rfl rfl rfl rfl rfl) (by omega) (by omega) (by omega)) func110 E ?_;clear E;intro w4 E;refine xr 1 rfl<|xne<|xsq<|xsr<|xr 2 rfl<|xne<|xcs 22 rfl (fun cc3=>?_) fun cc3=>?_;have hws:Jm st text level=Va st.aa:=by unfold Jm;rw [if_pos (by rw [hls];exact of_decide_eq_true cc3)]
 refine xct rfl ?_;have hws:Jm st text level=Va st.aa:=by unfold Jm;rw [if_pos (by rw [hls];first|omega|(exact of_decide_eq_true (by assumption)))]
 refine xrl<|Xf 1 rfl<|Xw 2 2 E rfl rfl ?_;refine yem 3 1 E ?_;clear E;intro w5 b4 E;refine ycB (Zb6 _ _ _ _ _ _ _ st.aa _ (St.rdOf E.o encI_len 4 rfl) (by omega)) func111 E ?_;clear E;intro w6 E;refine xr 1 rfl<|xne<|xsq<|xsr<|xr 2 rfl<|xne<|xcs 28 rfl (fun cc4=>?_) fun cc4=>?_;have hneg:=of_decide_eq_true cc4;refine xct rfl<|xsr<|Xw 2 8 E rfl rfl<|xy rfl (vb z5 rfl) ?_;refine yst E 1 ?_;clear E;intro w7 E;replace E:=E.nm;refine yst E 0 ?_;clear E;intro w8 E;replace E:=E.nm;refine xr 1 rfl<|xne<|xre<|xtr ?_;intro a O;refine ZO O results80 (O.resBox rfl (E.o.box 1 rfl) (by kernel_rfl)) (O.resBox rfl (E.o.box 0 rfl) (by kernel_rfl)) (O.res rfl) ?_;exact .inl ⟨by rw [hws];exact hneg,rfl,E.o.tail.tail.tail⟩;obtain ⟨i,hi,hi64⟩:∃ i:Nat,Va st.aa=i∧i<64:=(Zag _).resolve_left (of_decide_eq_false cc4);intro a O;replace O:Fr 70 a [(1,.string text),(2,.int .i64 level),(3,.pointer (some ⟨b1,0,none⟩)),(6,.pointer (some ⟨b2,0,none⟩)),(7,.pointer (some ⟨b3,0,none⟩)),(8,.bool false),(9,.int .i64 (i:Int)),(22,.bool true),(28,.bool false)]:=by
   rw [← hi];exact O.ls _
 rw [hi] at hws;revert a;refine xcf rfl<|xsk<|xet<|xsr<|xr 1 rfl<|Xf 3 rfl<|Xl 2 E rfl rfl<|xr 2 rfl ?_;refine ycB (V4 (i:Int) st.aq level text _ (by omega)) func112 E ?_;clear E;intro w9 E;refine xr 3 rfl ?_;refine yal z5 E ?_;clear E;intro w10 b5 E;refine yst E 0 ?_;clear E;intro w11 E;replace E:=E.nm;refine xr 1 rfl<|xne<|xsq<|xsr<|xr 2 rfl<|xne<|xcs 41 rfl (fun cc5=>?_) fun cc5=>?_;have hpk:Xv (i:Int) st.aq level text=false:=by simpa using cc5
 refine xct rfl<|xsr<|Xw 3 8 E rfl rfl<|xy rfl (vb z5 rfl) ?_;refine yst E 2 ?_;clear E;intro w12 E;replace E:=E.nm;refine yst E 1 ?_;clear E;intro w13 E;replace E:=E.nm;refine xr 1 rfl<|xne<|xre<|xtr ?_;intro a O;refine ZO O results80 (O.resBox rfl (E.o.box 2 rfl) (by kernel_rfl)) (O.resBox rfl (E.o.box 1 rfl) (by kernel_rfl)) (O.res rfl) ?_;exact .inr ⟨i,hi64,hws,.inl ⟨hpk,rfl,E.o.tail.tail.tail.tail⟩⟩;have hpk:Xv (i:Int) st.aq level text=true:=by simpa using cc5
 refine xcf rfl<|xsk<|xet<|xsr<|Xf 0 rfl<|Xl 3 E rfl rfl<|xr 2 rfl<|xy rfl (vx 9 i 1 rfl) ?_;intro a O;refine ZQ encS_len rfl rfl rfl (O.ev rfl) (O.ev rfl) (by kernel_rfl) E.o 4 rfl (by omega) (z:=text) rfl rfl ?_;clear E;intro w14 E;replace E:=Bx.mk E;refine Zk<|wp_seq ?_;have hrb:=hr i;refine Uc 12 (by kernel_rfl) (by kernel_rfl) E.o ?_;simp only [List.take_succ_cons,take_zero,List.drop_succ_cons,drop_zero];intro w15 E;replace E:=Bx.mk E;refine ZH rfl O rfl rfl (yfa 1 rfl (O.ev rfl)) ?_;clear O a;intro a O;refine ZH rfl O rfl rfl (yfa 0 rfl (O.ev rfl)) ?_;clear O a;intro a O;refine ZH rfl O rfl rfl (ylo (v:=.slice (some ⟨g1,0,none⟩) st.aa.ab.length c1) rfl (O.ev rfl) (((E.o.box 3 rfl).cell 1).trans rfl)) ?_;clear O a;intro a O;refine ZH rfl O rfl rfl (Yf rfl (O.ev rfl)) ?_;clear O a;intro a O;refine ZH rfl O rfl rfl (yfa 1 rfl (O.ev rfl)) ?_;clear O a;intro a O;refine ZH rfl O rfl rfl (yfa 0 rfl (O.ev rfl)) ?_;clear O a;intro a O;refine ZH rfl O rfl rfl (ylo (v:=.slice (some ⟨g1,0,none⟩) st.aa.ab.length c1) rfl (O.ev rfl) (((E.o.box 3 rfl).cell 1).trans rfl)) ?_;clear O a;intro a O;refine ZH rfl O rfl rfl (Yf rfl (O.ev rfl)) ?_;clear O a;intro a O;refine ZH rfl O rfl rfl (ZG (e:=3) (i:=i) (size:=1) rfl (O.ev rfl) (O.ev rfl) (by kernel_rfl) rfl (by omega)) ?_;clear O a;intro a O;refine ZH rfl O rfl rfl (ylo (v:=.int .i64 (st.aa.ab.getD i 0)) rfl (O.ev rfl) (E.o.elem1 encI_len 5 rfl (Zh (xs:=st.aa.ab) (j:=i) (d:=0) (by omega)) rfl)) ?_;clear O a;intro a O;refine ZH rfl O rfl rfl (ZW rfl (O.ev rfl) (O.ev rfl) (Qt (by omega))) ?_;clear O a;intro a O;refine ZH rfl O rfl rfl (ZG (e:=3) (i:=i) (size:=1) rfl (O.ev rfl) (O.ev rfl) (by kernel_rfl) rfl (by omega)) ?_;clear O a;intro a O;refine wpStill_nil ?_;refine ZQ encI_len rfl rfl rfl (O.ev rfl) (O.ev rfl) (by kernel_rfl) E.o 5 rfl (by omega) (z:=((st.aa.ab.getD i 0)+1)) rfl rfl ?_;clear E;intro w16 E;replace E:=Bx.mk E;revert a;refine xne<|xsr<|Xf 1 rfl<|Xf 1 rfl<|Xl 3 E rfl rfl<|xr 1 rfl<|Xf 3 rfl<|Xl 3 E rfl rfl<|xy rfl (vx 3 i 1 rfl) ?_;intro a O;refine ZQ encI_len rfl rfl rfl (O.ev rfl) (O.ev rfl) (by kernel_rfl) E.o 6 rfl (by omega) (z:=st.aq) rfl rfl ?_;clear E;intro w17 E;replace E:=Bx.mk E;revert a;refine xne<|xsq ?_;refine hld [2,1] E ?_;clear E;intro w18 E U;refine Hw 0 1 8 E rfl rfl<|Hw 1 0 5 E rfl rfl ?_;refine ZI 2 ?_;refine yos 2 [2,1] U ?_;clear E U;intro w19 E U;refine ZI 3 ?_;refine yos 1 [2,1] U ?_;clear E U;intro w20 E U;refine Hp 4 E rfl ?_;refine hdn ?_;replace E:=U;clear U;refine xet<|xre ?_;intro a O;refine ZO O results80 (O.resBox rfl (E.o.box 2 rfl) (by kernel_rfl)) (O.resBox rfl (E.o.box 1 rfl) (by kernel_rfl)) (O.res rfl) ?_;exact .inr ⟨i,hi64,hws,.inr ⟨hpk,rfl,E.o.tail.tail.tail.tail⟩⟩;have hws:Jm st text level=ZbB st text:=by unfold Jm;rw [hls,if_neg (of_decide_eq_false cc3)]
 obtain ⟨i,hi,hi64⟩:∃ i:Nat,ZbB st text=i∧i<64:=(Zag _).resolve_left (of_decide_eq_false cc3);intro a O;replace O:Fr 70 a [(1,.string text),(2,.int .i64 level),(3,.pointer (some ⟨b1,0,none⟩)),(6,.pointer (some ⟨b2,0,none⟩)),(7,.pointer (some ⟨b3,0,none⟩)),(8,.bool false),(9,.int .i64 (i:Int)),(22,.bool false)]:=by
   rw [← hi];exact O.ls _
 rw [hi] at hws;revert a;refine xcf rfl<|xsk<|xet<|xsq<|xsr<|xr 2 rfl<|xne<|xcs 28 rfl (fun cc6=>?_) fun cc6=>?_
 exact absurd (of_decide_eq_true cc6) (by omega);refine xcf rfl<|xsk<|xet<|xsr<|xr 1 rfl<|Xf 3 rfl<|Xl 2 E rfl rfl<|xr 2 rfl ?_;refine ycB (V4 (i:Int) st.aq level text _ (by omega)) func112 E ?_;clear E;intro w21 E;refine xr 3 rfl ?_;refine yal z5 E ?_;clear E;intro w22 b6 E;refine yst E 0 ?_;clear E;intro w23 E;replace E:=E.nm;refine xr 1 rfl<|xne<|xsq<|xsr<|xr 2 rfl<|xne<|xcs 41 rfl (fun cc7=>?_) fun cc7=>?_;have hpk:Xv (i:Int) st.aq level text=false:=by simpa using cc7
 refine xct rfl<|xsr<|Xw 3 8 E rfl rfl<|xy rfl (vb z5 rfl) ?_;refine yst E 2 ?_;clear E;intro w24 E;replace E:=E.nm;refine yst E 1 ?_;clear E;intro w25 E;replace E:=E.nm;refine xr 1 rfl<|xne<|xre<|xtr ?_;intro a O;refine ZO O results80 (O.resBox rfl (E.o.box 2 rfl) (by kernel_rfl)) (O.resBox rfl (E.o.box 1 rfl) (by kernel_rfl)) (O.res rfl) ?_;exact .inr ⟨i,hi64,hws,.inl ⟨hpk,rfl,E.o.tail.tail.tail.tail⟩⟩;have hpk:Xv (i:Int) st.aq level text=true:=by simpa using cc7
 refine xcf rfl<|xsk<|xet<|xsr<|Xf 0 rfl<|Xl 3 E rfl rfl<|xr 2 rfl<|xy rfl (vx 9 i 1 rfl) ?_;intro a O;refine ZQ encS_len rfl rfl rfl (O.ev rfl) (O.ev rfl) (by kernel_rfl) E.o 4 rfl (by omega) (z:=text) rfl rfl ?_;clear E;intro w26 E;replace E:=Bx.mk E;refine Zk<|wp_seq ?_;have hrb:=hr i;refine Uc 12 (by kernel_rfl) (by kernel_rfl) E.o ?_;simp only [List.take_succ_cons,take_zero,List.drop_succ_cons,drop_zero];intro w27 E;replace E:=Bx.mk E;refine ZH rfl O rfl rfl (yfa 1 rfl (O.ev rfl)) ?_;clear O a;intro a O;refine ZH rfl O rfl rfl (yfa 0 rfl (O.ev rfl)) ?_;clear O a;intro a O;refine ZH rfl O rfl rfl (ylo (v:=.slice (some ⟨g1,0,none⟩) st.aa.ab.length c1) rfl (O.ev rfl) (((E.o.box 3 rfl).cell 1).trans rfl)) ?_;clear O a;intro a O;refine ZH rfl O rfl rfl (Yf rfl (O.ev rfl)) ?_;clear O a;intro a O;refine ZH rfl O rfl rfl (yfa 1 rfl (O.ev rfl)) ?_;clear O a;intro a O;refine ZH rfl O rfl rfl (yfa 0 rfl (O.ev rfl)) ?_;clear O a;intro a O;refine ZH rfl O rfl rfl (ylo (v:=.slice (some ⟨g1,0,none⟩) st.aa.ab.length c1) rfl (O.ev rfl) (((E.o.box 3 rfl).cell 1).trans rfl)) ?_;clear O a;intro a O;refine ZH rfl O rfl rfl (Yf rfl (O.ev rfl)) ?_;clear O a;intro a O;refine ZH rfl O rfl rfl (ZG (e:=3) (i:=i) (size:=1) rfl (O.ev rfl) (O.ev rfl) (by kernel_rfl) rfl (by omega)) ?_;clear O a;intro a O;refine ZH rfl O rfl rfl (ylo (v:=.int .i64 (st.aa.ab.getD i 0)) rfl (O.ev rfl) (E.o.elem1 encI_len 5 rfl (Zh (xs:=st.aa.ab) (j:=i) (d:=0) (by omega)) rfl)) ?_;clear O a;intro a O;refine ZH rfl O rfl rfl (ZW rfl (O.ev rfl) (O.ev rfl) (Qt (by omega))) ?_;clear O a;intro a O;refine ZH rfl O rfl rfl (ZG (e:=3) (i:=i) (size:=1) rfl (O.ev rfl) (O.ev rfl) (by kernel_rfl) rfl (by omega)) ?_;clear O a;intro a O;refine wpStill_nil ?_;refine ZQ encI_len rfl rfl rfl (O.ev rfl) (O.ev rfl) (by kernel_rfl) E.o 5 rfl (by omega) (z:=((st.aa.ab.getD i 0)+1)) rfl rfl ?_;clear E;intro w28 E;replace E:=Bx.mk E;revert a;refine xne<|xsr<|Xf 1 rfl<|Xf 1 rfl<|Xl 3 E rfl rfl<|xr 1 rfl<|Xf 3 rfl<|Xl 3 E rfl rfl<|xy rfl (vx 3 i 1 rfl) ?_;intro a O;refine ZQ encI_len rfl rfl rfl (O.ev rfl) (O.ev rfl) (by kernel_rfl) E.o 6 rfl (by omega) (z:=st.aq) rfl rfl ?_;clear E;intro w29 E;replace E:=Bx.mk E;revert a;refine xne<|xsq ?_;refine hld [2,1] E ?_;clear E;intro w30 E U;refine Hw 0 1 8 E rfl rfl<|Hw 1 0 5 E rfl rfl ?_;refine ZI 2 ?_;refine yos 2 [2,1] U ?_;clear E U;intro w31 E U;refine ZI 3 ?_;refine yos 1 [2,1] U ?_;clear E U;intro w32 E U;refine Hp 4 E rfl ?_;refine hdn ?_;replace E:=U;clear U;refine xet<|xre ?_;intro a O;refine ZO O results80 (O.resBox rfl (E.o.box 2 rfl) (by kernel_rfl)) (O.resBox rfl (E.o.box 1 rfl) (by kernel_rfl)) (O.res rfl) ?_;exact .inr ⟨i,hi64,hws,.inr ⟨hpk,rfl,E.o.tail.tail.tail.tail⟩⟩;have hls:ZcT st text level=-1:=by unfold ZcT;rw [cc1,cc2];rfl
 refine xcf rfl<|xsk<|xet<|xsq<|xsr<|xr 2 rfl<|xne ?_;intro a O;replace O:=O.know (k:=22) (c:=true) rfl (by decide);refine Xi O rfl ?_;have hws:Jm st text level=Va st.aa:=by unfold Jm;rw [if_pos (by rw [hls];first|omega|(exact of_decide_eq_true (by assumption)))]
 revert a;refine xrl<|Xf 1 rfl<|Xw 2 2 E rfl rfl ?_;refine yem 3 1 E ?_;clear E;intro w33 b7 E;refine ycB (Zb6 _ _ _ _ _ _ _ st.aa _ (St.rdOf E.o encI_len 4 rfl) (by omega)) func111 E ?_;clear E;intro w34 E;refine xr 1 rfl<|xne<|xsq<|xsr<|xr 2 rfl<|xne<|xcs 28 rfl (fun cc8=>?_) fun cc8=>?_;have hneg:=of_decide_eq_true cc8;refine xct rfl<|xsr<|Xw 2 8 E rfl rfl<|xy rfl (vb z5 rfl) ?_;refine yst E 1 ?_;clear E;intro w35 E;replace E:=E.nm;refine yst E 0 ?_;clear E;intro w36 E;replace E:=E.nm;refine xr 1 rfl<|xne<|xre<|xtr ?_;intro a O;refine ZO O results80 (O.resBox rfl (E.o.box 1 rfl) (by kernel_rfl)) (O.resBox rfl (E.o.box 0 rfl) (by kernel_rfl)) (O.res rfl) ?_;exact .inl ⟨by rw [hws];exact hneg,rfl,E.o.tail.tail.tail⟩;obtain ⟨i,hi,hi64⟩:∃ i:Nat,Va st.aa=i∧i<64:=(Zag _).resolve_left (of_decide_eq_false cc8);intro a O;replace O:Fr 70 a [(1,.string text),(2,.int .i64 level),(3,.pointer (some ⟨b1,0,none⟩)),(6,.pointer (some ⟨b2,0,none⟩)),(7,.pointer (some ⟨b3,0,none⟩)),(8,.bool false),(9,.int .i64 (i:Int)),(22,.bool true),(28,.bool false)]:=by
   rw [← hi];exact O.ls _
 rw [hi] at hws;revert a;refine xcf rfl<|xsk<|xet<|xsr<|xr 1 rfl<|Xf 3 rfl<|Xl 2 E rfl rfl<|xr 2 rfl ?_;refine ycB (V4 (i:Int) st.aq level text _ (by omega)) func112 E ?_;clear E;intro w37 E;refine xr 3 rfl ?_;refine yal z5 E ?_;clear E;intro w38 b8 E;refine yst E 0 ?_;clear E;intro w39 E;replace E:=E.nm;refine xr 1 rfl<|xne<|xsq<|xsr<|xr 2 rfl<|xne<|xcs 41 rfl (fun cc9=>?_) fun cc9=>?_;have hpk:Xv (i:Int) st.aq level text=false:=by simpa using cc9
 refine xct rfl<|xsr<|Xw 3 8 E rfl rfl<|xy rfl (vb z5 rfl) ?_;refine yst E 2 ?_;clear E;intro w40 E;replace E:=E.nm;refine yst E 1 ?_;clear E;intro w41 E;replace E:=E.nm;refine xr 1 rfl<|xne<|xre<|xtr ?_;intro a O;refine ZO O results80 (O.resBox rfl (E.o.box 2 rfl) (by kernel_rfl)) (O.resBox rfl (E.o.box 1 rfl) (by kernel_rfl)) (O.res rfl) ?_;exact .inr ⟨i,hi64,hws,.inl ⟨hpk,rfl,E.o.tail.tail.tail.tail⟩⟩;have hpk:Xv (i:Int) st.aq level text=true:=by simpa using cc9
 refine xcf rfl<|xsk<|xet<|xsr<|Xf 0 rfl<|Xl 3 E rfl rfl<|xr 2 rfl<|xy rfl (vx 9 i 1 rfl) ?_;intro a O;refine ZQ encS_len rfl rfl rfl (O.ev rfl) (O.ev rfl) (by kernel_rfl) E.o 4 rfl (by omega) (z:=text) rfl rfl ?_;clear E;intro w42 E;replace E:=Bx.mk E;refine Zk<|wp_seq ?_;have hrb:=hr i;refine Uc 12 (by kernel_rfl) (by kernel_rfl) E.o ?_;simp only [List.take_succ_cons,take_zero,List.drop_succ_cons,drop_zero];intro w43 E;replace E:=Bx.mk E;refine ZH rfl O rfl rfl (yfa 1 rfl (O.ev rfl)) ?_;clear O a;intro a O;refine ZH rfl O rfl rfl (yfa 0 rfl (O.ev rfl)) ?_;clear O a;intro a O;refine ZH rfl O rfl rfl (ylo (v:=.slice (some ⟨g1,0,none⟩) st.aa.ab.length c1) rfl (O.ev rfl) (((E.o.box 3 rfl).cell 1).trans rfl)) ?_;clear O a;intro a O;refine ZH rfl O rfl rfl (Yf rfl (O.ev rfl)) ?_;clear O a;intro a O;refine ZH rfl O rfl rfl (yfa 1 rfl (O.ev rfl)) ?_;clear O a;intro a O;refine ZH rfl O rfl rfl (yfa 0 rfl (O.ev rfl)) ?_;clear O a;intro a O;refine ZH rfl O rfl rfl (ylo (v:=.slice (some ⟨g1,0,none⟩) st.aa.ab.length c1) rfl (O.ev rfl) (((E.o.box 3 rfl).cell 1).trans rfl)) ?_;clear O a;intro a O;refine ZH rfl O rfl rfl (Yf rfl (O.ev rfl)) ?_;clear O a;intro a O;refine ZH rfl O rfl rfl (ZG (e:=3) (i:=i) (size:=1) rfl (O.ev rfl) (O.ev rfl) (by kernel_rfl) rfl (by omega)) ?_;clear O a;intro a O;refine ZH rfl O rfl rfl (ylo (v:=.int .i64 (st.aa.ab.getD i 0)) rfl (O.ev rfl) (E.o.elem1 encI_len 5 rfl (Zh (xs:=st.aa.ab) (j:=i) (d:=0) (by omega)) rfl)) ?_;clear O a;intro a O;refine ZH rfl O rfl rfl (ZW rfl (O.ev rfl) (O.ev rfl) (Qt (by omega))) ?_;clear O a;intro a O;refine ZH rfl O rfl rfl (ZG (e:=3) (i:=i) (size:=1) rfl (O.ev rfl) (O.ev rfl) (by kernel_rfl) rfl (by omega)) ?_;clear O a;intro a O;refine wpStill_nil ?_;refine ZQ encI_len rfl rfl rfl (O.ev rfl) (O.ev rfl) (by kernel_rfl) E.o 5 rfl (by omega) (z:=((st.aa.ab.getD i 0)+1)) rfl rfl ?_;clear E;intro w44 E;replace E:=Bx.mk E;revert a;refine xne<|xsr<|Xf 1 rfl<|Xf 1 rfl<|Xl 3 E rfl rfl<|xr 1 rfl<|Xf 3 rfl<|Xl 3 E rfl rfl<|xy rfl (vx 3 i 1 rfl) ?_;intro a O;refine ZQ encI_len rfl rfl rfl (O.ev rfl) (O.ev rfl) (by kernel_rfl) E.o 6 rfl (by omega) (z:=st.aq) rfl rfl ?_;clear E;intro w45 E;replace E:=Bx.mk E;revert a;refine xne<|xsq ?_;refine hld [2,1] E ?_;clear E;intro w46 E U;refine Hw 0 1 8 E rfl rfl<|Hw 1 0 5 E rfl rfl ?_;refine ZI 2 ?_;refine yos 2 [2,1] U ?_;clear E U;intro w47 E U;refine ZI 3 ?_;refine yos 1 [2,1] U ?_;clear E U;intro w48 E U;refine Hp 4 E rfl ?_;refine hdn ?_;replace E:=U;clear U;refine xet<|xre ?_;intro a O;refine ZO O results80 (O.resBox rfl (E.o.box 2 rfl) (by kernel_rfl)) (O.resBox rfl (E.o.box 1 rfl) (by kernel_rfl)) (O.res rfl) ?_;exact .inr ⟨i,hi64,hws,.inr ⟨hpk,rfl,E.o.tail.tail.tail.tail⟩⟩;have hls:ZcT st text level=-1:=by unfold ZcT;rw [cc1];rfl
 refine xr 3 rfl<|xne<|xcf rfl<|xsk<|xet<|xsq<|xsr<|xr 2 rfl<|xne ?_;intro a O;replace O:=O.know (k:=22) (c:=true) rfl (by decide);refine Xi O rfl ?_;have hws:Jm st text level=Va st.aa:=by unfold Jm;rw [if_pos (by rw [hls];first|omega|(exact of_decide_eq_true (by assumption)))]
 revert a;refine xrl<|Xf 1 rfl<|Xw 2 2 E rfl rfl ?_;refine yem 3 1 E ?_;clear E;intro w49 b9 E;refine ycB (Zb6 _ _ _ _ _ _ _ st.aa _ (St.rdOf E.o encI_len 4 rfl) (by omega)) func111 E ?_;clear E;intro w50 E;refine xr 1 rfl<|xne<|xsq<|xsr<|xr 2 rfl<|xne<|xcs 28 rfl (fun cc10=>?_) fun cc10=>?_;have hneg:=of_decide_eq_true cc10;refine xct rfl<|xsr<|Xw 2 8 E rfl rfl<|xy rfl (vb z5 rfl) ?_;refine yst E 1 ?_;clear E;intro w51 E;replace E:=E.nm;refine yst E 0 ?_;clear E;intro w52 E;replace E:=E.nm;refine xr 1 rfl<|xne<|xre<|xtr ?_;intro a O;refine ZO O results80 (O.resBox rfl (E.o.box 1 rfl) (by kernel_rfl)) (O.resBox rfl (E.o.box 0 rfl) (by kernel_rfl)) (O.res rfl) ?_;exact .inl ⟨by rw [hws];exact hneg,rfl,E.o.tail.tail.tail⟩;obtain ⟨i,hi,hi64⟩:∃ i:Nat,Va st.aa=i∧i<64:=(Zag _).resolve_left (of_decide_eq_false cc10);intro a O;replace O:Fr 70 a [(1,.string text),(2,.int .i64 level),(3,.pointer (some ⟨b1,0,none⟩)),(6,.pointer (some ⟨b2,0,none⟩)),(7,.pointer (some ⟨b3,0,none⟩)),(8,.bool false),(9,.int .i64 (i:Int)),(22,.bool true),(28,.bool false)]:=by
   rw [← hi];exact O.ls _
 rw [hi] at hws;revert a;refine xcf rfl<|xsk<|xet<|xsr<|xr 1 rfl<|Xf 3 rfl<|Xl 2 E rfl rfl<|xr 2 rfl ?_;refine ycB (V4 (i:Int) st.aq level text _ (by omega)) func112 E ?_;clear E;intro w53 E;refine xr 3 rfl ?_;refine yal z5 E ?_;clear E;intro w54 b10 E;refine yst E 0 ?_;clear E;intro w55 E;replace E:=E.nm;refine xr 1 rfl<|xne<|xsq<|xsr<|xr 2 rfl<|xne<|xcs 41 rfl (fun cc11=>?_) fun cc11=>?_;have hpk:Xv (i:Int) st.aq level text=false:=by simpa using cc11
 refine xct rfl<|xsr<|Xw 3 8 E rfl rfl<|xy rfl (vb z5 rfl) ?_;refine yst E 2 ?_;clear E;intro w56 E;replace E:=E.nm;refine yst E 1 ?_;clear E;intro w57 E;replace E:=E.nm;refine xr 1 rfl<|xne<|xre<|xtr ?_;intro a O;refine ZO O results80 (O.resBox rfl (E.o.box 2 rfl) (by kernel_rfl)) (O.resBox rfl (E.o.box 1 rfl) (by kernel_rfl)) (O.res rfl) ?_;exact .inr ⟨i,hi64,hws,.inl ⟨hpk,rfl,E.o.tail.tail.tail.tail⟩⟩;have hpk:Xv (i:Int) st.aq level text=true:=by simpa using cc11
 refine xcf rfl<|xsk<|xet<|xsr<|Xf 0 rfl<|Xl 3 E rfl rfl<|xr 2 rfl<|xy rfl (vx 9 i 1 rfl) ?_;intro a O;refine ZQ encS_len rfl rfl rfl (O.ev rfl) (O.ev rfl) (by kernel_rfl) E.o 4 rfl (by omega) (z:=text) rfl rfl ?_;clear E;intro w58 E;replace E:=Bx.mk E;refine Zk<|wp_seq ?_;have hrb:=hr i;refine Uc 12 (by kernel_rfl) (by kernel_rfl) E.o ?_;simp only [List.take_succ_cons,take_zero,List.drop_succ_cons,drop_zero];intro w59 E;replace E:=Bx.mk E;refine ZH rfl O rfl rfl (yfa 1 rfl (O.ev rfl)) ?_;clear O a;intro a O;refine ZH rfl O rfl rfl (yfa 0 rfl (O.ev rfl)) ?_;clear O a;intro a O;refine ZH rfl O rfl rfl (ylo (v:=.slice (some ⟨g1,0,none⟩) st.aa.ab.length c1) rfl (O.ev rfl) (((E.o.box 3 rfl).cell 1).trans rfl)) ?_;clear O a;intro a O;refine ZH rfl O rfl rfl (Yf rfl (O.ev rfl)) ?_;clear O a;intro a O;refine ZH rfl O rfl rfl (yfa 1 rfl (O.ev rfl)) ?_;clear O a;intro a O;refine ZH rfl O rfl rfl (yfa 0 rfl (O.ev rfl)) ?_;clear O a;intro a O;refine ZH rfl O rfl rfl (ylo (v:=.slice (some ⟨g1,0,none⟩) st.aa.ab.length c1) rfl (O.ev rfl) (((E.o.box 3 rfl).cell 1).trans rfl)) ?_;clear O a;intro a O;refine ZH rfl O rfl rfl (Yf rfl (O.ev rfl)) ?_;clear O a;intro a O;refine ZH rfl O rfl rfl (ZG (e:=3) (i:=i) (size:=1) rfl (O.ev rfl) (O.ev rfl) (by kernel_rfl) rfl (by omega)) ?_;clear O a;intro a O;refine ZH rfl O rfl rfl (ylo (v:=.int .i64 (st.aa.ab.getD i 0)) rfl (O.ev rfl) (E.o.elem1 encI_len 5 rfl (Zh (xs:=st.aa.ab) (j:=i) (d:=0) (by omega)) rfl)) ?_;clear O a;intro a O;refine ZH rfl O rfl rfl (ZW rfl (O.ev rfl) (O.ev rfl) (Qt (by omega))) ?_;clear O a;intro a O;refine ZH rfl O rfl rfl (ZG (e:=3) (i:=i) (size:=1) rfl (O.ev rfl) (O.ev rfl) (by kernel_rfl) rfl (by omega)) ?_;clear O a;intro a O;refine wpStill_nil ?_;refine ZQ encI_len rfl rfl rfl (O.ev rfl) (O.ev rfl) (by kernel_rfl) E.o 5 rfl (by omega) (z:=((st.aa.ab.getD i 0)+1)) rfl rfl ?_;clear E;intro w60 E;replace E:=Bx.mk E;revert a;refine xne<|xsr<|Xf 1 rfl<|Xf 1 rfl<|Xl 3 E rfl rfl<|xr 1 rfl<|Xf 3 rfl<|Xl 3 E rfl rfl<|xy rfl (vx 3 i 1 rfl) ?_;intro a O;refine ZQ encI_len rfl rfl rfl (O.ev rfl) (O.ev rfl) (by kernel_rfl) E.o 6 rfl (by omega) (z:=st.aq) rfl rfl ?_;clear E;intro w61 E;replace E:=Bx.mk E;revert a;refine xne<|xsq ?_;refine hld [2,1] E ?_;clear E;intro w62 E U;refine Hw 0 1 8 E rfl rfl<|Hw 1 0 5 E rfl rfl ?_;refine ZI 2 ?_;refine yos 2 [2,1] U ?_;clear E U;intro w63 E U;refine ZI 3 ?_;refine yos 1 [2,1] U ?_;clear E U;intro w64 E U;refine Hp 4 E rfl ?_;refine hdn ?_;replace E:=U;clear U;refine xet<|xre ?_;intro a O;refine ZO O results80 (O.resBox rfl (E.o.box 2 rfl) (by kernel_rfl)) (O.resBox rfl (E.o.box 1 rfl) (by kernel_rfl)) (O.res rfl) ?_;exact .inr ⟨i,hi64,hws,.inr ⟨hpk,rfl,E.o.tail.tail.tail.tail⟩⟩
theorem Zkr.all {s:Zp} (h:Zkr s) (i:Nat):0≤s.ab.getD i 0∧s.ab.getD i 0≤900:=by
 by_cases hi:i<64
 ·have:=h.each i hi;omega
 ·rw [show s.ab.getD i 0=0 by simp [List.getD,List.getElem?_eq_none (show s.ab.length≤i by rw [h.refs];omega)]];omega
structure Un where
  fName:ByteArray
  fId:Int
def Un.zero:Un:=⟨ByteArray.empty,0⟩
def ZoU (e:Un):Bool:=Zpg e.fName && inB e.fId 1 15
def Zpm (l:List Un) (i:Nat):Bool:=ZoU (l.getD i Un.zero) && (i == 0 || Op.bytesLess (l.getD (i - 1) Un.zero).fName.toList (l.getD i Un.zero).fName.toList)
def ZoV (l:List Un):Bool:=decide (∀ i,i<l.length→Zpm l i=true) && decide (l.length≤12)
def ZpA (e:Un):List UInt8:=e.fName.data.toList++61::(ZX e.fId).data.toList
def Zpn (l:List Un):List UInt8:=l.flatMap fun e=>ZpA e++[59]
def Zpo (l:List Un):ByteArray:=⟨(Zpn l).toArray⟩
structure ZpB (s:ByteArray) (l:List Un):Prop where
  ok:ZoV l=true
  is:Zpo l=s
end Go.Proofs.YtenejpbnncbilaaGreatDoor
namespace Go.Proofs.YtenejpbnncbilaaGreatDoor.LinkP
set_option maxHeartbeats 2000000
open Go.Proofs.Tryz
open _root_.ByteArray (size_extract)
open List (append_nil drop_zero flatMap_cons getD_eq_getElem?_getD getElem?_eq_getElem length length_append length_cons length_map length_nil length_replicate length_set length_take map_append mem_append mem_cons mem_cons_of_mem mem_cons_self mem_singleton nil_append not_mem_nil replicate take_zero)
open Option (map_some)
set_option linter.unusedVariables false
set_option linter.unusedSimpArgs false
set_option maxRecDepth 100000
section
variable (kd:Nat→List Nat) (isF valid:Nat→Bool)
variable {kd isF valid}
end
section
variable {α:Type} {id:α→Nat} {ch:α→List α} {kd:Nat→List Nat} {isF valid:Nat→Bool} {lk:Nat→Nat}
theorem YI {l:List Nat} {i:Nat} (h:i<l.length):l.getD i 0 ∈ l:=by
 rw [getD_eq_getElem?_getD,getElem?_eq_getElem h];exact List.getElem_mem _
end
end Go.Proofs.YtenejpbnncbilaaGreatDoor.LinkP
namespace Go.Proofs.YtenejpbnncbilaaGreatDoor
set_option maxHeartbeats 2000000
open Go.Proofs.Tryz
open _root_.ByteArray (size_extract)
open List (append_nil drop_zero flatMap_cons getD_eq_getElem?_getD getElem?_eq_getElem length length_append length_cons length_map length_nil length_replicate length_set length_take map_append mem_append mem_cons mem_cons_of_mem mem_cons_self mem_singleton nil_append not_mem_nil replicate take_zero)
open Option (map_some)
set_option linter.unusedVariables false
set_option linter.unusedSimpArgs false
set_option maxRecDepth 100000
open Go.RowKit
structure ZpC where
  fPath:ByteArray
  fId:Int
end Go.Proofs.YtenejpbnncbilaaGreatDoor
