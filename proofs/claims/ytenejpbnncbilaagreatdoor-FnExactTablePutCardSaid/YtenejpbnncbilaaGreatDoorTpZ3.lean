/- A part of the proof in YtenejpbnncbilaaGreatDoorTpZ7. -/
import Derived.Deep.DeepCutAuto
import Derived.Laws.IdiomRangeMap
import Derived.Scope
import Derived.Test.YtenejpbnncbilaaGreatDoorTpZ2
namespace Go.Proofs.YtenejpbnncbilaaGreatDoor
set_option maxHeartbeats 4000000
open Go.Proofs.Tryz
open List (append_nil drop_zero getD_eq_getElem?_getD getElem?_eq_getElem length length_append length_cons length_map length_singleton length_take map_append map_cons mem_append mem_cons mem_cons_of_mem mem_cons_self mem_singleton nil_append not_mem_nil replicate)
open Option (getD_some map_some)
set_option linter.unusedVariables false
set_option linter.unusedSimpArgs false
set_option maxRecDepth 100000
open Go.RowKit
theorem Zl9 (n:Nat):∀ x ∈ (ZM n).data.toList,x≠46:=by
 intro x hx e;subst e;rw [Yx] at hx;obtain ⟨d,hd⟩:=JZ n 46 hx;obtain ⟨h1,h10⟩:=JY hd;have hn:(UInt8.ofNat (48+d)).toNat=48+d:=by rw [UInt8.toNat_ofNat'];omega
 rw [← h1] at hn;have:(46:UInt8).toNat=46:=rfl
 omega
theorem ZaF {n:Int} (h:0≤n∧n≤999999999):∀ x ∈ (ZX n).data.toList,x≠46:=by rw [XF h.1 h.2];exact Zl9 _
theorem ZcF {a:ByteArray} (h:∀ x ∈ a.data.toList,x≠46) (b:ByteArray):Zm (a++(Zdf++b)) 46=a::Zm b 46:=by
 unfold Zm;rw [Z3,Z3,show Zdf.data.toList=[46] from rfl,List.singleton_append,VZ 46 _ _ h,map_cons]
theorem Zg6 {a:ByteArray} (h:∀ x ∈ a.data.toList,x≠46):Zm a 46=[a]:=by
 unfold Zm;rw [Vd 46 _ h,map_cons,List.map_nil]
theorem ZkM (a b c:ByteArray):a++b++c=a++(b++c):=Xc (by simp only [Z3,List.append_assoc])
theorem YP {p:PtrD} (h:p.ok=true) (hh:p.hole=false):Zm (Z5 p) 46=[ZX p.aA,ZX p.ah,ZX p.al,ZX p.ax,ZX p.ak]:=by
 have hb:=PtrD.ok_all h hh;rw [Vy h hh];simp only [ZkM];rw [ZcF (ZaF (by omega)),ZcF (ZaF (by omega)),ZcF (ZaF (by omega)),ZcF (ZaF (by omega)),Zg6 (ZaF (by omega))]
theorem Ys {n:Int} (h:0≤n∧n≤999999999):Jk (ZX n)=some n.toNat:=by rw [XF h.1 h.2];exact ZaA (by omega)
theorem VB {n:Int} {m:Nat} (h:0≤n∧n≤999999999) (hg:Jk (ZX n)=some m):(m:Int)=n:=by
 rw [Ys h] at hg;have:=Option.some.inj hg
 omega
theorem QP {p:PtrD} (h:p.hole=true):p=PtrD.zero:=by
 unfold PtrD.hole at h;simp only [Bool.and_eq_true,beq_iff_eq] at h;obtain ⟨⟨⟨⟨h1,h2⟩,h3⟩,h4⟩,h5⟩:=h
 cases p
 simp only at h1 h2 h3 h4 h5;subst h1;subst h2;subst h3;subst h4;subst h5
 rfl
theorem JE {p:PtrD} {s:ByteArray} (h:p.ok=true) (hs:Z5 p=s) (hd:(s.toList == (⟨#[45]⟩:ByteArray).toList)=false):p.hole=false:=by
 cases hh:p.hole with
 | false=>rfl
 | true =>
  rw [QO h hh] at hs;rw [← hs,show ((⟨#[45]⟩:ByteArray).toList == (⟨#[45]⟩:ByteArray).toList)=true from beq_self_eq_true _] at hd
  cases hd
theorem Zpi {α:Type} {l:List α} (h:l.length=5):∃ a b c d e,l=[a,b,c,d,e]:=by
 match l,h with
 | [a,b,c,d,e],_=>exact ⟨a,b,c,d,e,rfl⟩
theorem ZcG {p q:PtrD} (hp:p.ok=true) (hq:q.ok=true) (h:Z5 p=Z5 q):p=q:=by
 cases h1:p.hole with
 | true =>
  cases h2:q.hole with
  | true=>rw [QP h1,QP h2]
  | false =>
   have:=YP hq h2;rw [← h,QO hp h1] at this;exact absurd (congrArg length this) (show ¬ (1:Nat)=5 by decide)
 | false =>
  cases h2:q.hole with
  | true =>
   have:=YP hp h1;rw [h,QO hq h2] at this;exact absurd (congrArg length this) (show ¬ (1:Nat)=5 by decide)
  | false =>
   have e1:=YP hp h1;have e2:=YP hq h2;rw [h,e2] at e1;have hb:=PtrD.ok_all hp h1;have hc:=PtrD.ok_all hq h2;simp only [List.cons.injEq,and_true] at e1;obtain ⟨k1,k2,k3,k4,k5⟩:=e1;have num:∀ {m n:Int},0≤m∧m≤999999999→0≤n∧n≤999999999→ZX m=ZX n→n=m:=fun hm hn e=>by
    have:=Ys hm;rw [e,Ys hn] at this;have:=Option.some.inj this
    omega
   have j1:=num (by omega) (by omega) k1;have j2:=num (by omega) (by omega) k2;have j3:=num (by omega) (by omega) k3;have j4:=num (by omega) (by omega) k4;have j5:=num (by omega) (by omega) k5
   cases p;cases q
   simp only at j1 j2 j3 j4 j5;subst j1;subst j2;subst j3;subst j4;subst j5
   rfl
theorem Ze1 (s:ByteArray) (w0:World) (hT:Xq w0) (hM:X1 w0) (hE:X2 w0) (hs:s.size≤4294967280):Calls prog 160 #[.string s] w0 fun e w'=>(∃ p:PtrD,p.ok=true∧Z5 p=s∧e=.returned (.tuple #[pV p,.bool true])∧Below w0.heap.size w0 w')∨((∀ p:PtrD,p.ok=true→Z5 p=s→False)∧e=.returned (.tuple #[az5,.bool false])∧Below w0.heap.size w0 w'):=by
 have HT:=Bx.mk hT;have HM:=Bx.mk hM;have HE:=Bx.mk hE;clear hT hM hE;have E:=Bx.mk (St.start w0);refine ent func160 ntmps160 ?_;refine xsr ?_;refine yal z5 E ?_;clear E;intro w1 b1 E;refine xr 1 rfl<|xne<|xsq<|xsr<|xr 1 rfl<|xy rfl (fun a O=>U6 rfl (O.ev rfl) (O.ev rfl))<|xne<|xcs 12 rfl (fun cc1=>?_) fun cc1=>?_;refine xct rfl<|xsr<|xy rfl (vb z5 rfl) ?_;refine yst E 0 ?_;clear E;intro w2 E;replace E:=E.nm;refine xr 1 rfl<|xne<|xre<|xtr ?_;intro a O;refine Zw O results160 (O.resBox rfl (E.o.box 0 rfl) (by kernel_rfl)) (O.res rfl) ?_;exact .inl ⟨PtrD.zero,by decide,(QO (by decide) (by decide)).trans (Yi cc1).symm,rfl,E.o.bel⟩;refine xcf rfl<|xsk<|xet<|xsr ?_;refine yal z5 E ?_;clear E;intro w3 b2 E;refine xne<|xsr<|xr 1 rfl ?_;refine yc (Zgs s 46 _ (by omega) (HM.o.below E.o.bel)) func161 ?_;rintro _ w4 ⟨ao3,cp3,rfl,hs⟩;refine ⟨_,rfl,?_⟩;replace E:=E.ad hs;clear hs;refine xr 1 rfl<|xne<|xsr ?_;refine yc (Zgq b2 _) func134 ?_;rintro _ w5 ⟨ao4,cp4,rfl,hs⟩;refine ⟨_,rfl,?_⟩;replace E:=E.ad hs;clear hs;refine xr 1 rfl<|xne<|xsq<|xsr<|xr 1 rfl<|xy rfl (vn 9 1 rfl)<|xr 1 rfl<|xy rfl (vn 159 1 rfl)<|xr 1 rfl<|xne<|xcn 21 rfl (fun _ dcc2=>?_) fun _ dcc2=>?_;refine xct rfl<|xsr<|xy rfl (vb z5 rfl) ?_;refine yst E 3 ?_;clear E;intro w6 E;replace E:=E.nm;refine xr 1 rfl<|xne<|xre<|xtr ?_;intro a O;refine Zw O results160 (O.resBox rfl (E.o.box 3 rfl) (by kernel_rfl)) (O.res rfl) ?_;refine .inr ⟨fun q hq hqs=>?_,rfl,E.o.bel⟩;have hqh:=JE hq hqs (by simpa using cc1);have hqp:=YP hq hqh;rw [hqs] at hqp;have hqb:=PtrD.ok_all hq hqh;rw [hqp] at dcc2;exact dcc2 rfl;refine xcf rfl<|xsk<|xet<|xsq<|xsq ?_;intro a O;obtain ⟨x0,x1,x2,x3,x4,hws⟩:=Zpi (l:=Zm s 46) (by omega);rw [hws] at E O;replace O:Fr 51 a [(0,.string s),(2,.pointer (some ⟨b1,0,none⟩)),(3,.bool false),(11,.string s),(12,.bool false),(4,.pointer (some ⟨b2,0,none⟩)),(14,.string s),(15,.slice ao3 5 cp3),(5,.slice ao3 5 cp3),(16,.slice ao4 5 cp4),(6,.slice ao4 5 cp4),(17,.slice ao3 5 cp3),(19,.slice ao4 5 cp4),(20,.int .i64 (5:Int)),(21,.bool false)]:=O.ls _;obtain ⟨g5,rfl,_,_,_,_⟩:=E.o.rowOpen 1 rfl (Nat.succ_pos _);obtain ⟨g6,rfl,_,_,_,_⟩:=E.o.rowOpen 0 rfl (Nat.succ_pos _);revert a;refine xrl<|xr 1 rfl<|xy rfl (vn 9 1 rfl)<|xr 1 rfl<|xne<|xbl ?_;intro a O;refine XI 6 ?_;revert a;refine xsr<|xr 1 rfl<|xne<|xsq ?_;intro a O;replace O:=O.know (k:=26) (c:=true) rfl (by decide);revert a;refine xct rfl<|xsk<|xet<|xsq<|xbl<|xsr<|xr 1 rfl<|xy rfl (vx 9 0 1 rfl)<|xy rfl (ve encS_len E.o 1 0 rfl rfl rfl rfl)<|xr 2 rfl<|xne<|xsr<|xr 1 rfl ?_;refine yc (ZV x0 _ (HT.o.below E.o.bel) (HE.o.below E.o.bel)) func144 ?_;rintro _ w7 (⟨n7,hg7,rfl,hb⟩|⟨hg7,rfl,hb⟩);refine ⟨_,rfl,?_⟩;replace E:=Bx.mk (E.o.later hb);clear hb;refine xr 5 rfl<|xne<|xsq<|xsr<|xr 2 rfl<|xne<|xcf rfl<|xsk<|xet<|xrl<|xr 2 rfl<|xy rfl (vx 159 0 1 rfl)<|xy rfl (ve Xx E.o 0 0 rfl rfl rfl rfl)<|xr 2 rfl ?_;refine ysF 2 E ?_;clear E;intro w8 E;replace E:=E.nm;refine xni<|xeb<|xet<|xrl<|xy rfl (fun a O=>ZW (r:=1) rfl (O.ev rfl) (O.ev rfl) (by decide))<|xr 1 rfl<|xne ?_;intro a O;refine Ym 5 ?_;revert a;refine xsr<|xr 1 rfl<|xne<|xsq ?_;intro a O;replace O:=O.know (k:=26) (c:=true) rfl (by decide);revert a;refine xct rfl<|xsk<|xet<|xsq<|xbl<|xsr<|xr 1 rfl<|xy rfl (vx 9 1 1 rfl)<|xy rfl (ve encS_len E.o 1 1 rfl rfl rfl rfl)<|xr 2 rfl<|xne<|xsr<|xr 1 rfl ?_;refine yc (ZV x1 _ (HT.o.below E.o.bel) (HE.o.below E.o.bel)) func144 ?_;rintro _ w9 (⟨n8,hg8,rfl,hb⟩|⟨hg8,rfl,hb⟩);refine ⟨_,rfl,?_⟩;replace E:=Bx.mk (E.o.later hb);clear hb;refine xr 5 rfl<|xne<|xsq<|xsr<|xr 2 rfl<|xne<|xcf rfl<|xsk<|xet<|xrl<|xr 2 rfl<|xy rfl (vx 159 1 1 rfl)<|xy rfl (ve Xx E.o 0 1 rfl rfl rfl rfl)<|xr 2 rfl ?_;refine ysF 2 E ?_;clear E;intro w10 E;replace E:=E.nm;refine xni<|xeb<|xet<|xrl<|xy rfl (fun a O=>ZW (r:=2) rfl (O.ev rfl) (O.ev rfl) (by decide))<|xr 1 rfl<|xne ?_;intro a O;refine Ym 4 ?_;revert a;refine xsr<|xr 1 rfl<|xne<|xsq ?_;intro a O;replace O:=O.know (k:=26) (c:=true) rfl (by decide);revert a;refine xct rfl<|xsk<|xet<|xsq<|xbl<|xsr<|xr 1 rfl<|xy rfl (vx 9 2 1 rfl)<|xy rfl (ve encS_len E.o 1 2 rfl rfl rfl rfl)<|xr 2 rfl<|xne<|xsr<|xr 1 rfl ?_;refine yc (ZV x2 _ (HT.o.below E.o.bel) (HE.o.below E.o.bel)) func144 ?_;rintro _ w11 (⟨n9,hg9,rfl,hb⟩|⟨hg9,rfl,hb⟩);refine ⟨_,rfl,?_⟩;replace E:=Bx.mk (E.o.later hb);clear hb;refine xr 5 rfl<|xne<|xsq<|xsr<|xr 2 rfl<|xne<|xcf rfl<|xsk<|xet<|xrl<|xr 2 rfl<|xy rfl (vx 159 2 1 rfl)<|xy rfl (ve Xx E.o 0 2 rfl rfl rfl rfl)<|xr 2 rfl ?_;refine ysF 2 E ?_;clear E;intro w12 E;replace E:=E.nm;refine xni<|xeb<|xet<|xrl<|xy rfl (fun a O=>ZW (r:=3) rfl (O.ev rfl) (O.ev rfl) (by decide))<|xr 1 rfl<|xne ?_;intro a O;refine Ym 3 ?_;revert a;refine xsr<|xr 1 rfl<|xne<|xsq ?_;intro a O;replace O:=O.know (k:=26) (c:=true) rfl (by decide);revert a;refine xct rfl<|xsk<|xet<|xsq<|xbl<|xsr<|xr 1 rfl<|xy rfl (vx 9 3 1 rfl)<|xy rfl (ve encS_len E.o 1 3 rfl rfl rfl rfl)<|xr 2 rfl<|xne<|xsr<|xr 1 rfl ?_;refine yc (ZV x3 _ (HT.o.below E.o.bel) (HE.o.below E.o.bel)) func144 ?_;rintro _ w13 (⟨n10,hg10,rfl,hb⟩|⟨hg10,rfl,hb⟩);refine ⟨_,rfl,?_⟩;replace E:=Bx.mk (E.o.later hb);clear hb;refine xr 5 rfl<|xne<|xsq<|xsr<|xr 2 rfl<|xne<|xcf rfl<|xsk<|xet<|xrl<|xr 2 rfl<|xy rfl (vx 159 3 1 rfl)<|xy rfl (ve Xx E.o 0 3 rfl rfl rfl rfl)<|xr 2 rfl ?_;refine ysF 2 E ?_;clear E;intro w14 E;replace E:=E.nm;refine xni<|xeb<|xet<|xrl<|xy rfl (fun a O=>ZW (r:=4) rfl (O.ev rfl) (O.ev rfl) (by decide))<|xr 1 rfl<|xne ?_;intro a O;refine Ym 2 ?_;revert a;refine xsr<|xr 1 rfl<|xne<|xsq ?_;intro a O;replace O:=O.know (k:=26) (c:=true) rfl (by decide);revert a;refine xct rfl<|xsk<|xet<|xsq<|xbl<|xsr<|xr 1 rfl<|xy rfl (vx 9 4 1 rfl)<|xy rfl (ve encS_len E.o 1 4 rfl rfl rfl rfl)<|xr 2 rfl<|xne<|xsr<|xr 1 rfl ?_;refine yc (ZV x4 _ (HT.o.below E.o.bel) (HE.o.below E.o.bel)) func144 ?_;rintro _ w15 (⟨n11,hg11,rfl,hb⟩|⟨hg11,rfl,hb⟩);refine ⟨_,rfl,?_⟩;replace E:=Bx.mk (E.o.later hb);clear hb;refine xr 5 rfl<|xne<|xsq<|xsr<|xr 2 rfl<|xne<|xcf rfl<|xsk<|xet<|xrl<|xr 2 rfl<|xy rfl (vx 159 4 1 rfl)<|xy rfl (ve Xx E.o 0 4 rfl rfl rfl rfl)<|xr 2 rfl ?_;refine ysF 2 E ?_;clear E;intro w16 E;replace E:=E.nm;refine xni<|xeb<|xet<|xrl<|xy rfl (fun a O=>ZW (r:=5) rfl (O.ev rfl) (O.ev rfl) (by decide))<|xr 1 rfl<|xne ?_;intro a O;refine Ym 1 ?_;revert a;refine xsr<|xr 1 rfl<|xne<|xsq ?_;intro a O;replace O:=O.know (k:=26) (c:=false) rfl (by decide);revert a;refine xcf rfl<|xex<|xtx<|xtx<|xbh<|xet<|xsq<|xsr<|Xw 2 5 E rfl rfl ?_;refine ycB (Ve (⟨(n7:Int),(n8:Int),(n9:Int),(n10:Int),(n11:Int)⟩:PtrD) _ (HT.o.below E.o.bel)) func103 E ?_;clear E;intro w17 E;refine xr 1 rfl<|xy rfl (fun a O=>Jg rfl (O.ev rfl) (O.ev rfl))<|xne<|xcs 48 rfl (fun cc3=>?_) fun cc3=>?_;refine xct rfl<|xsr<|xy rfl (vb z5 rfl) ?_;refine yst E 3 ?_;clear E;intro w18 E;replace E:=E.nm;refine xr 1 rfl<|xne<|xre<|xtr ?_;intro a O;refine Zw O results160 (O.resBox rfl (E.o.box 3 rfl) (by kernel_rfl)) (O.res rfl) ?_;refine .inr ⟨fun q hq hqs=>?_,rfl,E.o.bel⟩;have hqh:=JE hq hqs (by simpa using cc1);have hqp:=YP hq hqh;rw [hqs] at hqp;have hqb:=PtrD.ok_all hq hqh;rw [hws] at hqp;simp only [List.cons.injEq,and_true] at hqp;obtain ⟨k0,k1,k2,k3,k4⟩:=hqp;rw [k0] at hg7;have j0:=VB (n:=q.aA) (by omega) hg7;rw [k1] at hg8;have j1:=VB (n:=q.ah) (by omega) hg8;rw [k2] at hg9;have j2:=VB (n:=q.al) (by omega) hg9;rw [k3] at hg10;have j3:=VB (n:=q.ax) (by omega) hg10;rw [k4] at hg11;have j4:=VB (n:=q.ak) (by omega) hg11;have hpq:(⟨(n7:Int),(n8:Int),(n9:Int),(n10:Int),(n11:Int)⟩:PtrD)=q:=by rw [j0,j1,j2,j3,j4]
 rw [hpq,hqs] at cc3;simp at cc3;refine xcf rfl<|xsk<|xet<|xsr<|Xw 2 5 E rfl rfl ?_;refine yst E 3 ?_;clear E;intro w19 E;replace E:=E.nm;refine xr 1 rfl<|xne<|xre ?_;intro a O;refine Zw O results160 (O.resBox rfl (E.o.box 3 rfl) (by kernel_rfl)) (O.res rfl) ?_;have hpt:Z5 (⟨(n7:Int),(n8:Int),(n9:Int),(n10:Int),(n11:Int)⟩:PtrD)=s:=Yi (by simpa using cc3);have hpo:(⟨(n7:Int),(n8:Int),(n9:Int),(n10:Int),(n11:Int)⟩:PtrD).ok=true:=by
     cases ho:(⟨(n7:Int),(n8:Int),(n9:Int),(n10:Int),(n11:Int)⟩:PtrD).ok with
     | true=>rfl
     | false =>
       rw [ZcD ho] at hpt;rw [← hpt] at hws;exact absurd (congrArg length hws) (show ¬ (1:Nat)=5 by decide)
 exact .inl ⟨_,hpo,hpt,rfl,E.o.bel⟩;refine ⟨_,rfl,?_⟩;replace E:=Bx.mk (E.o.later hb);clear hb;refine xr 5 rfl<|xne<|xsq<|xsr<|xr 2 rfl<|xne<|xct rfl<|xsr<|xy rfl (vb z5 rfl) ?_;refine yst E 3 ?_;clear E;intro w20 E;replace E:=E.nm;refine xr 1 rfl<|xne<|xre<|xtr<|xbr<|xtr<|xtr<|xbr<|xtr ?_;intro a O;refine Zw O results160 (O.resBox rfl (E.o.box 3 rfl) (by kernel_rfl)) (O.res rfl) ?_;refine .inr ⟨fun q hq hqs=>?_,rfl,E.o.bel⟩;have hqh:=JE hq hqs (by simpa using cc1);have hqp:=YP hq hqh;rw [hqs] at hqp;have hqb:=PtrD.ok_all hq hqh;rw [hws] at hqp;simp only [List.cons.injEq,and_true] at hqp;obtain ⟨k0,k1,k2,k3,k4⟩:=hqp;rw [k4,Ys (by omega)] at hg11;cases hg11;refine ⟨_,rfl,?_⟩;replace E:=Bx.mk (E.o.later hb);clear hb;refine xr 5 rfl<|xne<|xsq<|xsr<|xr 2 rfl<|xne<|xct rfl<|xsr<|xy rfl (vb z5 rfl) ?_;refine yst E 3 ?_;clear E;intro w21 E;replace E:=E.nm;refine xr 1 rfl<|xne<|xre<|xtr<|xbr<|xtr<|xtr<|xbr<|xtr ?_;intro a O;refine Zw O results160 (O.resBox rfl (E.o.box 3 rfl) (by kernel_rfl)) (O.res rfl) ?_;refine .inr ⟨fun q hq hqs=>?_,rfl,E.o.bel⟩;have hqh:=JE hq hqs (by simpa using cc1);have hqp:=YP hq hqh;rw [hqs] at hqp;have hqb:=PtrD.ok_all hq hqh;rw [hws] at hqp;simp only [List.cons.injEq,and_true] at hqp;obtain ⟨k0,k1,k2,k3,k4⟩:=hqp;rw [k3,Ys (by omega)] at hg10;cases hg10;refine ⟨_,rfl,?_⟩;replace E:=Bx.mk (E.o.later hb);clear hb;refine xr 5 rfl<|xne<|xsq<|xsr<|xr 2 rfl<|xne<|xct rfl<|xsr<|xy rfl (vb z5 rfl) ?_;refine yst E 3 ?_;clear E;intro w22 E;replace E:=E.nm;refine xr 1 rfl<|xne<|xre<|xtr<|xbr<|xtr<|xtr<|xbr<|xtr ?_;intro a O;refine Zw O results160 (O.resBox rfl (E.o.box 3 rfl) (by kernel_rfl)) (O.res rfl) ?_;refine .inr ⟨fun q hq hqs=>?_,rfl,E.o.bel⟩;have hqh:=JE hq hqs (by simpa using cc1);have hqp:=YP hq hqh;rw [hqs] at hqp;have hqb:=PtrD.ok_all hq hqh;rw [hws] at hqp;simp only [List.cons.injEq,and_true] at hqp;obtain ⟨k0,k1,k2,k3,k4⟩:=hqp;rw [k2,Ys (by omega)] at hg9;cases hg9;refine ⟨_,rfl,?_⟩;replace E:=Bx.mk (E.o.later hb);clear hb;refine xr 5 rfl<|xne<|xsq<|xsr<|xr 2 rfl<|xne<|xct rfl<|xsr<|xy rfl (vb z5 rfl) ?_;refine yst E 3 ?_;clear E;intro w23 E;replace E:=E.nm;refine xr 1 rfl<|xne<|xre<|xtr<|xbr<|xtr<|xtr<|xbr<|xtr ?_;intro a O;refine Zw O results160 (O.resBox rfl (E.o.box 3 rfl) (by kernel_rfl)) (O.res rfl) ?_;refine .inr ⟨fun q hq hqs=>?_,rfl,E.o.bel⟩;have hqh:=JE hq hqs (by simpa using cc1);have hqp:=YP hq hqh;rw [hqs] at hqp;have hqb:=PtrD.ok_all hq hqh;rw [hws] at hqp;simp only [List.cons.injEq,and_true] at hqp;obtain ⟨k0,k1,k2,k3,k4⟩:=hqp;rw [k1,Ys (by omega)] at hg8;cases hg8;refine ⟨_,rfl,?_⟩;replace E:=Bx.mk (E.o.later hb);clear hb;refine xr 5 rfl<|xne<|xsq<|xsr<|xr 2 rfl<|xne<|xct rfl<|xsr<|xy rfl (vb z5 rfl) ?_;refine yst E 3 ?_;clear E;intro w24 E;replace E:=E.nm;refine xr 1 rfl<|xne<|xre<|xtr<|xbr<|xtr<|xtr<|xbr<|xtr ?_;intro a O;refine Zw O results160 (O.resBox rfl (E.o.box 3 rfl) (by kernel_rfl)) (O.res rfl) ?_;refine .inr ⟨fun q hq hqs=>?_,rfl,E.o.bel⟩;have hqh:=JE hq hqs (by simpa using cc1);have hqp:=YP hq hqh;rw [hqs] at hqp;have hqb:=PtrD.ok_all hq hqh;rw [hws] at hqp;simp only [List.cons.injEq,and_true] at hqp;obtain ⟨k0,k1,k2,k3,k4⟩:=hqp;rw [k0,Ys (by omega)] at hg7;cases hg7
open Go.Lib
def Zma:ByteArray:=⟨#[44]⟩
def YW (l:List PtrD):ByteArray:=JR (l.map Z5) Zma
theorem ZcH (c:UInt8):∀ (x:List UInt8) (r:List (List UInt8)),(∀ y ∈ x::r,∀ b ∈ y,b≠c)→splitL c (Go.Lib.join (x::r) [c])=x::r
 | x,[],h=>by
  rw [show Go.Lib.join [x] [c]=x by simp [Go.Lib.join,Go.Lib.joinTail]];exact Vd c x (h x (mem_cons_self ..))
 | x,y::r,h=>by
  have e:Go.Lib.join (x::y::r) [c]=x++c::Go.Lib.join (y::r) [c]:=by simp [Go.Lib.join,Go.Lib.joinTail]
  rw [e,VZ c _ x (h x (mem_cons_self ..)),ZcH c y r fun z hz=>h z (mem_cons_of_mem _ hz)]
theorem ZdO {l:List ByteArray} {c:UInt8} (hne:l≠[]) (h:∀ y ∈ l,∀ b ∈ y.data.toList,b≠c):Zm (JR l ⟨#[c]⟩) c=l:=by
 match l,hne with
 | x::r,_ =>
  unfold Zm JR;show (splitL c (Go.Lib.join ((x::r).map (·.data.toList)) [c])).map _=_;rw [map_cons,ZcH c _ _ (fun y hy b hb=>by
   rcases mem_cons.1 hy with rfl|hy
   ·exact h x (mem_cons_self ..) b hb
   ·obtain ⟨z,hz,rfl⟩:=List.mem_map.1 hy
    exact h z (mem_cons_of_mem _ hz) b hb),← map_cons (f:=fun y:ByteArray=>y.data.toList)]
  exact ZeR (x::r)
theorem Zj0 (c:UInt8) (hc:digitVal c=none) (n:Nat):∀ x ∈ (ZM n).data.toList,x≠c:=by
 intro x hx e;subst e;obtain ⟨d,hd⟩:=JZ n x (by rw [← Yx];exact hx);rw [hc] at hd
 cases hd
theorem Zbk (c:UInt8) (hc:digitVal c=none) (n:Int):∀ x ∈ (ZX n).data.toList,x≠c:=by
 unfold ZX
 split
 ·exact Zj0 c hc _
 ·intro x hx;simp at hx
theorem ZhX (p:PtrD):∀ x ∈ (Z5 p).data.toList,x≠44:=by
 cases h:p.ok with
 | false=>rw [ZcD h];intro x hx;simp at hx
 | true =>
  cases hh:p.hole with
  | true=>rw [QO h hh];intro x hx;rw [show x=45 from by simpa using hx];decide
  | false =>
   rw [Vy h hh];intro x hx;have hn:=fun n=>Zbk 44 (by decide) n x
   simp only [Z3,mem_append,show Zdf.data.toList=[46] from rfl,mem_singleton] at hx;rcases hx with (((((((hx|hx)|hx)|hx)|hx)|hx)|hx)|hx)|hx
   all_goals first|exact hn _ hx|(rw [hx];decide)
theorem ZbT {l:List PtrD} (hne:l≠[]):Zm (YW l) 44=l.map Z5:=by
 refine ZdO (by simpa using hne) fun y hy=>?_;obtain ⟨p,_,rfl⟩:=List.mem_map.1 hy;exact ZhX p
structure IsFan (s:ByteArray) (l:List PtrD):Prop where
  n:l.length=4
  ok:∀ p ∈ l,p.ok=true
  some:l.all (fun p=>p.hole)=false
  is:YW l=s
theorem Zj1 {l m:List PtrD} (hl:∀ p ∈ l,p.ok=true) (hm:∀ p ∈ m,p.ok=true) (h:l.map Z5=m.map Z5):l=m:=by
 induction l generalizing m with
 | nil=>cases m with
  | nil=>rfl
  | cons _ _=>simp at h
 | cons p l ih=>cases m with
  | nil=>simp at h
  | cons q m =>
   simp only [map_cons,List.cons.injEq] at h;rw [ZcG (hl p (mem_cons_self ..)) (hm q (mem_cons_self ..)) h.1,ih (fun x hx=>hl x (mem_cons_of_mem _ hx)) (fun x hx=>hm x (mem_cons_of_mem _ hx)) h.2]
theorem IsFan.one {s:ByteArray} {l m:List PtrD} (h:IsFan s l) (k:IsFan s m):l=m:=by
 refine Zj1 h.ok k.ok ?_;rw [← ZbT (l:=l) (fun e=>by have:=h.n;rw [e] at this;cases this),← ZbT (l:=m) (fun e=>by have:=k.n;rw [e] at this;cases this),h.is,k.is]
theorem IsFan.pieces {s:ByteArray} {l:List PtrD} (h:IsFan s l):Zm s 44=l.map Z5:=by
 rw [← h.is];exact ZbT fun e=>by have:=h.n;rw [e] at this;cases this
open Classical in
noncomputable def Zmb (s:ByteArray):Option (List PtrD):=if h:∃ l,IsFan s l then some h.choose else none
theorem ZhY {s:ByteArray} {l:List PtrD} (h:IsFan s l):Zmb s=some l:=by
 have he:∃ l,IsFan s l:=⟨l,h⟩;unfold Zmb;rw [dif_pos he,he.choose_spec.one h]
theorem ZnP {s:ByteArray} (h:∀ l,¬ IsFan s l):Zmb s=none:=by
 unfold Zmb;rw [dif_neg fun ⟨l,hl⟩=>h l hl]
def QG (p:PtrD) (s:ByteArray):Bool:=p.ok && (!p.hole && ((p.al == (s.size:Int)) && (p.ax == U8 s)))
def Yb (st:Za) (p:PtrD):ByteArray:=st.af.getD p.aA.toNat ByteArray.empty
def ZA (st:Za) (p:PtrD):ByteArray:=bif p.hole then ByteArray.empty else bif QG p (Yb st p) then Yb st p else ByteArray.empty
def YL (st:Za) (p:PtrD):Bool:=bif p.hole then true else QG p (Yb st p)
theorem J1 {st:Za} {p:PtrD} (h:p.hole=true):ZA st p=ByteArray.empty:=by unfold ZA;rw [h];rfl
theorem Jl {st:Za} {p:PtrD} (h:p.hole=true):YL st p=true:=by unfold YL;rw [h];rfl
theorem UD {st:Za} {p:PtrD} (h:p.hole=false) (hf:QG p (Yb st p)=true):ZA st p=Yb st p:=by unfold ZA;rw [h,hf];rfl
theorem ZhZ {st:Za} {p:PtrD} (h:p.hole=false) (hf:QG p (Yb st p)=false):ZA st p=ByteArray.empty:=by unfold ZA;rw [h,hf];rfl
theorem XX {st:Za} {p:PtrD} (h:p.hole=false):YL st p=QG p (Yb st p):=by unfold YL;rw [h];rfl
def XO:List PtrD:=[PtrD.zero,PtrD.zero,PtrD.zero,PtrD.zero]
theorem J2:PtrD.zero.hole=true:=rfl
noncomputable def kids (st:Za) (p:PtrD) (level:Int):Option (List PtrD) :=
 bif p.hole then some XO else bif YL st p && (p.ak == level) then (Zmb (ZA st p)).bind fun l=>bif l.any (fun k=>decide (p.ah<k.ah)) then none else some l else none
noncomputable def kidsS (st:Za) (p:PtrD) (level:Int):Option (List PtrD) :=
 bif p.hole then some XO else bif p.ok && ((p.ak == level) && decide (p.ah≤st.aq)) then kids st p level else none
theorem UE {st:Za} {p:PtrD} {n:Int} (h:p.hole=true):kids st p n=some XO:=by unfold kids;rw [h];rfl
theorem Ze2 {st:Za} {p:PtrD} {n:Int} (h:p.hole=true):kidsS st p n=some XO:=by unfold kidsS;rw [h];rfl
theorem ZaG {st:Za} {p:PtrD} {n:Int} (h:p.hole=false) (hr:YL st p=false):kids st p n=none:=by unfold kids;rw [h,hr];rfl
theorem ZbU {st:Za} {p:PtrD} {n:Int} (h:p.hole=false) (hr:(p.ak == n)=false):kids st p n=none:=by unfold kids;rw [h,hr,Bool.and_false];rfl
theorem ZbV {st:Za} {p:PtrD} {n:Int} (h:p.hole=false) (hf:∀ l,¬ IsFan (ZA st p) l):kids st p n=none:=by
 unfold kids;rw [h,ZnP hf]
 cases (YL st p && (p.ak == n)) <;> rfl
theorem Zdg {st:Za} {p:PtrD} {n:Int} {l:List PtrD} (h:p.hole=false) (hf:IsFan (ZA st p) l) (hb:l.any (fun k=>decide (p.ah<k.ah))=true):kids st p n=none:=by
 unfold kids;rw [h,ZhY hf]
 cases (YL st p && (p.ak == n))
 ·rfl
 ·simp only [cond_true,cond_false,Option.bind_some,hb]
theorem Ze3 {st:Za} {p:PtrD} {n:Int} {l:List PtrD} (h:p.hole=false) (hr:YL st p=true) (hn:(p.ak == n)=true) (hf:IsFan (ZA st p) l) (hb:l.any (fun k=>decide (p.ah<k.ah))=false):kids st p n=some l:=by
 unfold kids;rw [h,ZhY hf,hr,hn];simp only [cond_true,cond_false,Option.bind_some,hb,Bool.and_self]
theorem Xy {st:Za} {p:PtrD} {n:Int} {l:List PtrD} (h:kids st p n=some l):l.length=4∧(∀ k ∈ l,k.ok=true)∧(p.hole=true∧l=XO∨p.hole=false∧p.ak=n∧YL st p=true∧IsFan (ZA st p) l∧∀ k ∈ l,k.ah≤p.ah):=by
 cases hh:p.hole with
 | true =>
  rw [UE hh] at h;obtain rfl:=Option.some.inj h;exact ⟨rfl,fun k hk=>by simp only [XO,mem_cons,not_mem_nil,or_false,or_self] at hk;rw [hk];rfl,.inl ⟨rfl,rfl⟩⟩
 | false =>
  cases hr:YL st p with
  | false=>rw [ZaG hh hr] at h;cases h
  | true =>
   cases hn:(p.ak == n) with
   | false=>rw [ZbU hh hn] at h;cases h
   | true =>
    by_cases hf:∃ m,IsFan (ZA st p) m
    ·obtain ⟨m,hm⟩:=hf
     cases hb:m.any (fun k=>decide (p.ah<k.ah)) with
     | true=>rw [Zdg hh hm hb] at h;cases h
     | false =>
      rw [Ze3 hh hr hn hm hb] at h;obtain rfl:=Option.some.inj h;refine ⟨hm.n,hm.ok,.inr ⟨rfl,eq_of_beq hn,rfl,hm,fun k hk=>?_⟩⟩;have:=(List.any_eq_false.1 hb) k hk;have:=of_decide_eq_false (by simpa using this:decide (p.ah<k.ah)=false)
      omega
    ·rw [ZbV hh fun l hl=>hf ⟨l,hl⟩] at h;cases h
theorem VC {st:Za} {p:PtrD} {n:Int} (hp:p.ok=true) (hb:p.ah≤st.aq):kidsS st p n=kids st p n:=by
 unfold kidsS;rw [hp,decide_eq_true hb,Bool.and_true,Bool.true_and]
 cases hh:p.hole with
 | true=>rw [UE hh];rfl
 | false =>
  cases hn:(p.ak == n) with
  | false=>rw [ZbU hh hn];rfl
  | true=>rfl
theorem ZaH {st:Za} {p:PtrD} {n:Int} (h:p.hole=false) (hn:(p.ok && ((p.ak == n) && decide (p.ah≤st.aq)))=false):kidsS st p n=none:=by unfold kidsS;rw [h,hn];rfl
theorem VD {st:Za} {p:PtrD} {n:Int} {l:List PtrD} (h:kidsS st p n=some l):kids st p n=some l∧(p.hole=false→p.ok=true∧p.ah≤st.aq):=by
 cases hh:p.hole with
 | true=>rw [Ze2 hh] at h;rw [UE hh];exact ⟨h,fun e=>by cases e⟩
 | false =>
  cases hc:(p.ok && ((p.ak == n) && decide (p.ah≤st.aq))) with
  | false=>rw [ZaH hh hc] at h;cases h
  | true =>
   unfold kidsS at h;rw [hh,hc] at h;simp only [Bool.and_eq_true,decide_eq_true_eq] at hc;exact ⟨h,fun _=>⟨hc.1,hc.2.2⟩⟩
noncomputable def YX (f:PtrD→Option (List PtrD)):List PtrD→Option (List PtrD)
 | []=>some []
 | p::r=>(f p).bind fun k=>(YX f r).map (k++·)
theorem ZaI {f:PtrD→Option (List PtrD)} {p:PtrD} {r:List PtrD} (h:f p=none):YX f (p::r)=none:=by show Option.bind _ _=_;rw [h];rfl
theorem Zbl {f:PtrD→Option (List PtrD)} {p:PtrD} {r k:List PtrD} (h:f p=some k):YX f (p::r)=(YX f r).map (k++·):=by show Option.bind _ _=_;rw [h];rfl
theorem ZnQ {o:Option (List PtrD)} (a b:List PtrD):(o.map (b++·)).map (a++·)=o.map ((a++b)++·):=by cases o <;> simp
theorem ZdP {f g:PtrD→Option (List PtrD)}:∀ {l:List PtrD},(∀ p ∈ l,f p=g p)→YX f l=YX g l
 | [],_=>rfl
 | p::r,h=>by
  show Option.bind _ _=Option.bind _ _;rw [h p (mem_cons_self ..),ZdP fun q hq=>h q (mem_cons_of_mem _ hq)]
theorem VE {f:PtrD→Option (List PtrD)}:∀ {l m:List PtrD},YX f l=some m→(∀ p ∈ l,∃ k,f p=some k)∧(∀ q ∈ m,∃ p ∈ l,∃ k,f p=some k∧q ∈ k)∧(∀ p ∈ l,∀ k,f p=some k→∀ q ∈ k,q ∈ m)
 | [],m,h=>by
  obtain rfl:[]=m:=Option.some.inj h;exact ⟨fun p hp=>(nomatch hp),fun p hp=>(nomatch hp),fun p hp=>(nomatch hp)⟩
 | p::r,m,h=>by
  cases hk:f p with
  | none=>rw [ZaI hk] at h;cases h
  | some k =>
   rw [Zbl hk] at h
   cases hn:YX f r with
   | none=>rw [hn] at h;cases h
   | some n =>
    rw [hn] at h;obtain rfl:k++n=m:=Option.some.inj h;obtain ⟨i1,i2,i3⟩:=VE hn;refine ⟨fun q hq=>?_,fun q hq=>?_,fun q hq k2 hk2 x hx=>?_⟩
    ·rcases mem_cons.1 hq with rfl|hq
     ·exact ⟨k,hk⟩
     ·exact i1 q hq
    ·rcases mem_append.1 hq with hq|hq
     ·exact ⟨p,mem_cons_self ..,k,hk,hq⟩
     ·obtain ⟨y,hy,z,hz,hq⟩:=i2 q hq
      exact ⟨y,mem_cons_of_mem _ hy,z,hz,hq⟩
    ·rcases mem_cons.1 hq with rfl|hq
     ·rw [hk] at hk2
      obtain rfl:=Option.some.inj hk2;exact List.mem_append_left _ hx
     ·exact List.mem_append_right _ (i3 q hq k2 hk2 x hx)
theorem Zgu {f:PtrD→Option (List PtrD)} (hf:∀ p k,f p=some k→k.length=4):∀ {l m:List PtrD},YX f l=some m→m.length=4*l.length
 | [],m,h=>by obtain rfl:[]=m:=Option.some.inj h;rfl
 | p::r,m,h=>by
  cases hk:f p with
  | none=>rw [ZaI hk] at h;cases h
  | some k =>
   rw [Zbl hk] at h
   cases hn:YX f r with
   | none=>rw [hn] at h;cases h
   | some n =>
    rw [hn] at h;obtain rfl:k++n=m:=Option.some.inj h;have:=Zgu hf hn;rw [length_append,hf p k hk,length_cons];omega
noncomputable def downL (f:PtrD→Int→Option (List PtrD)):Nat→List PtrD→Option (List PtrD)
 | 0,l=>some l
 | n+1,l=>(YX (fun p=>f p ((n+1:Nat):Int)) l).bind (downL f n)
theorem Jd {f:PtrD→Int→Option (List PtrD)} {n:Nat} {l:List PtrD} (h:YX (fun p=>f p ((n+1:Nat):Int)) l=none):downL f (n+1) l=none:=by show Option.bind _ _=_;rw [h];rfl
theorem QQ {f:PtrD→Int→Option (List PtrD)} {n:Nat} {l m:List PtrD} (h:YX (fun p=>f p ((n+1:Nat):Int)) l=some m):downL f (n+1) l=downL f n m:=by show Option.bind _ _=_;rw [h];rfl
theorem Zbm {f:PtrD→Int→Option (List PtrD)} (hf:∀ p n k,f p n=some k→k.length=4):∀ {n:Nat} {l m:List PtrD},downL f n l=some m→m.length=4 ^ n*l.length
 | 0,l,m,h=>by obtain rfl:l=m:=Option.some.inj h;omega
 | n+1,l,m,h=>by
  cases hn:YX (fun p=>f p ((n+1:Nat):Int)) l with
  | none=>rw [Jd hn] at h;cases h
  | some x =>
   rw [QQ hn] at h;rw [Zbm hf h,Zgu (fun p k=>hf p _ k) hn,Nat.pow_succ,Nat.mul_assoc]
def depthN (many:Int):Nat:=if many≤1 then 0 else if many≤4 then 1 else 2
theorem YU (many:Int):depthN many≤2:=by unfold depthN;split <;> (try split) <;> omega
theorem V8 {many:Int} (h:many≤16):many≤((4 ^ depthN many:Nat):Int):=by
 unfold depthN
 split
 ·simp;omega
 ·split
  ·simp;omega
  ·simp;omega
def JS (st:Za) (many:Int) (i:Nat) (p:PtrD):Bool:=bif p.hole then p.ak == 0 else YL st p && ((p.ak == 0) && decide ((i:Int)<many))
def YQ (st:Za) (many:Int):Nat→List PtrD→Bool
 | _,[]=>true
 | i,p::r=>JS st many i p && YQ st many (i+1) r
def topB (st:Za) (t:Zf):Bool:=inB t.am 0 16 && ((t.az == (depthN t.am:Int)) && (t.ac.ok && decide (t.ac.ah≤st.aq)))
noncomputable def leavesF (st:Za) (t:Zf):Option (List PtrD) :=
 bif topB st t then (downL (kids st) (depthN t.am) [t.ac]).bind fun l=>bif YQ st t.am 0 l then some (l.take t.am.toNat) else none else none
noncomputable def JF (st:Za) (t:Zf):Bool:=(leavesF st t).isSome
theorem QH {st:Za} {t:Zf} (h:topB st t=false):leavesF st t=none:=by unfold leavesF;rw [h];rfl
theorem V9 {st:Za} {t:Zf} (h:downL (kids st) (depthN t.am) [t.ac]=none):leavesF st t=none:=by
 unfold leavesF
 cases topB st t
 ·rfl
 ·rw [h];rfl
theorem Uh {st:Za} {t:Zf} {l:List PtrD} (h:downL (kids st) (depthN t.am) [t.ac]=some l) (hb:YQ st t.am 0 l=false):leavesF st t=none:=by
 unfold leavesF
 cases topB st t
 ·rfl
 ·rw [h]
  simp only [cond_true,cond_false,Option.bind_some,hb]
theorem Vf {st:Za} {t:Zf} {l:List PtrD} (h0:topB st t=true) (h:downL (kids st) (depthN t.am) [t.ac]=some l) (hb:YQ st t.am 0 l=true):leavesF st t=some (l.take t.am.toNat):=by
 unfold leavesF;rw [h0,h];simp only [cond_true,cond_false,Option.bind_some,hb]
theorem Y4 {st:Za} {p:PtrD} {n:Int} {k:List PtrD} (h:kids st p n=some k):k.length=4:=(Xy h).1
theorem XP {st:Za} {t:Zf} {r:List PtrD} (h:leavesF st t=some r):∃ l,topB st t=true∧downL (kids st) (depthN t.am) [t.ac]=some l∧YQ st t.am 0 l=true∧r=l.take t.am.toNat∧l.length=4 ^ depthN t.am∧r.length=t.am.toNat:=by
 cases h0:topB st t with
 | false=>rw [QH h0] at h;cases h
 | true =>
  cases h1:downL (kids st) (depthN t.am) [t.ac] with
  | none=>rw [V9 h1] at h;cases h
  | some l =>
   cases h2:YQ st t.am 0 l with
   | false=>rw [Uh h1 h2] at h;cases h
   | true =>
    rw [Vf h0 h1 h2] at h;obtain rfl:=Option.some.inj h;have hl:l.length=4 ^ depthN t.am:=by rw [Zbm (fun p n k=>Y4) h1];simp
    refine ⟨l,rfl,rfl,h2,rfl,hl,?_⟩;unfold topB at h0;rw [Bool.and_eq_true] at h0;have hi:=Zo h0.1;have:=V8 hi.2;rw [length_take,hl]
    omega
theorem J3 {st:Za}:∀ {n:Nat} {l:List PtrD},(∀ p ∈ l,p.ok=true∧p.ah≤st.aq)→0≤st.aq→downL (kidsS st) n l=downL (kids st) n l∧∀ m,downL (kids st) n l=some m→∀ p ∈ m,p.ok=true∧p.ah≤st.aq
 | 0,l,h,_=>⟨rfl,fun m hm p hp=>by obtain rfl:l=m:=Option.some.inj hm;exact h p hp⟩
 | n+1,l,h,h0=>by
  have e:YX (fun p=>kidsS st p ((n+1:Nat):Int)) l=YX (fun p=>kids st p ((n+1:Nat):Int)) l:=ZdP fun p hp=>VC (h p hp).1 (h p hp).2
  cases hn:YX (fun p=>kids st p ((n+1:Nat):Int)) l with
  | none=>rw [Jd (e.trans hn),Jd hn];exact ⟨rfl,fun m hm=>by cases hm⟩
  | some x =>
   rw [QQ (e.trans hn),QQ hn];refine J3 (fun q hq=>?_) h0;obtain ⟨p,hp,k,hk,hq⟩:=(VE hn).2.1 q hq;obtain ⟨_,ok,hc⟩:=Xy hk;refine ⟨ok q hq,?_⟩;rcases hc with ⟨_,rfl⟩|⟨_,_,_,_,hb⟩
   ·simp only [XO,mem_cons,not_mem_nil,or_false,or_self] at hq
    rw [hq];exact h0
   ·have:=hb q hq;have:=(h p hp).2;omega
def ZbE (st:Za) (many:Int) (i:Nat) (p:PtrD):Bool:=bif p.hole then true else YL st p && ((p.ak == 0) && (decide (p.ah≤st.aq) && decide ((i:Int)<many)))
def QR (st:Za) (many:Int):Nat→List PtrD→Bool
 | _,[]=>true
 | i,p::r=>ZbE st many i p && QR st many (i+1) r
theorem ZbW {p:PtrD} (h:p.hole=true):p.ak=0:=by rw [QP h];rfl
theorem Zjd {p:PtrD} (h:p.hole=true):p.ah=0:=by rw [QP h];rfl
theorem Zmc {st:Za} {many:Int} {i:Nat} {p:PtrD} (h:p.ah≤st.aq):ZbE st many i p=JS st many i p:=by
 unfold ZbE JS
 cases hh:p.hole with
 | true=>show true=(p.ak == 0);rw [ZbW hh];rfl
 | false=>rw [decide_eq_true h,Bool.true_and];rfl
theorem Ze4 {st:Za} {many:Int}:∀ {i:Nat} {l:List PtrD},(∀ p ∈ l,p.ah≤st.aq)→QR st many i l=YQ st many i l
 | _,[],_=>rfl
 | i,p::r,h=>by
  show (_ && _)=(_ && _);rw [Zmc (h p (mem_cons_self ..)),Ze4 fun q hq=>h q (mem_cons_of_mem _ hq)]
def ZbX (t:Zf):Bool:=inB t.am 0 16 && ((t.az == (depthN t.am:Int)) && t.ac.ok)
noncomputable def okS (st:Za) (t:Zf):Bool:=ZbX t && match downL (kidsS st) (depthN t.am) [t.ac] with|none=>false|some l=>QR st t.am 0 l
theorem Zek {st:Za} {t:Zf} (h:ZbX t=false):okS st t=false:=by unfold okS;rw [h];rfl
theorem Ze5 {st:Za} {t:Zf} (h:downL (kidsS st) (depthN t.am) [t.ac]=none):okS st t=false:=by unfold okS;rw [h,Bool.and_false]
theorem ZbY {st:Za} {t:Zf} {l:List PtrD} (h0:ZbX t=true) (h:downL (kidsS st) (depthN t.am) [t.ac]=some l):okS st t=QR st t.am 0 l:=by unfold okS;rw [h0,h];rfl
theorem Ze6 {st:Za} {t:Zf} (h0:0≤st.aq):okS st t=JF st t:=by
 unfold JF
 cases ht:ZbX t with
 | false =>
  rw [Zek ht,QH (by unfold topB;unfold ZbX at ht;rw [← Bool.and_assoc,← Bool.and_assoc];rw [← Bool.and_assoc] at ht;rw [ht];rfl)];rfl
 | true =>
  have hok:t.ac.ok=true:=by unfold ZbX at ht;simp only [Bool.and_eq_true] at ht;exact ht.2.2
  by_cases hb:t.ac.ah≤st.aq
  ·have htop:topB st t=true:=by unfold topB;unfold ZbX at ht;rw [decide_eq_true hb,Bool.and_true];exact ht
   obtain ⟨e,hy⟩:=J3 (st:=st) (n:=depthN t.am) (l:=[t.ac]) (fun p hp=>by rw [mem_singleton.1 hp];exact ⟨hok,hb⟩) h0
   cases hd:downL (kids st) (depthN t.am) [t.ac] with
   | none=>rw [Ze5 (e.trans hd),V9 hd];rfl
   | some l =>
    rw [ZbY ht (e.trans hd),Ze4 fun p hp=>(hy l hd p hp).2]
    cases hl:YQ st t.am 0 l with
    | true=>rw [Vf htop hd hl];rfl
    | false=>rw [Uh hd hl];rfl
  ·have htop:topB st t=false:=by unfold topB;rw [decide_eq_false hb];simp
   rw [QH htop];have hh:t.ac.hole=false:=by
    cases hh:t.ac.hole with
    | false=>rfl
    | true=>have:=Zjd hh;omega
   cases hd:depthN t.am with
   | zero =>
    rw [ZbY (l:=[t.ac]) ht (by rw [hd];rfl)];show (ZbE st t.am 0 t.ac && true)=false;unfold ZbE;rw [hh,decide_eq_false hb];simp
   | succ n =>
    rw [Ze5 (by rw [hd];exact Jd (ZaI (ZaH hh (by rw [decide_eq_false hb];simp))))];rfl
noncomputable def allL (st:Za):Nat→PtrD→List PtrD
 | 0,p=>bif p.hole then [] else [p]
 | n+1,p=>bif p.hole then [] else p::((kids st p ((n+1:Nat):Int)).getD []).flatMap (allL st n)
theorem Xr {st:Za} {p:PtrD} (h:p.hole=true):∀ n,allL st n p=[]
 | 0=>by unfold allL;rw [h];rfl
 | n+1=>by unfold allL;rw [h];rfl
theorem UF {st:Za} {p:PtrD} (h:p.hole=false):allL st 0 p=[p]:=by unfold allL;rw [h];rfl
theorem Qo {st:Za} {p:PtrD} {n:Nat} {l:List PtrD} (h:p.hole=false) (hk:kids st p ((n+1:Nat):Int)=some l):allL st (n+1) p=p::l.flatMap (allL st n):=by
 show (bif p.hole then [] else p::((kids st p ((n+1:Nat):Int)).getD []).flatMap (allL st n))=_;rw [h,hk];rfl
def Wf (st:Za):Nat→PtrD→Prop
 | 0,p=>p.ok=true∧p.ah≤st.aq∧p.ak=0∧YL st p=true
 | n+1,p=>p.ok=true∧p.ah≤st.aq∧∃ l,kids st p ((n+1:Nat):Int)=some l∧∀ k ∈ l,Wf st n k
theorem Wf.ok {st:Za}:∀ {n:Nat} {p:PtrD},Wf st n p→p.ok=true∧p.ah≤st.aq
 | 0,_,h=>⟨h.1,h.2.1⟩
 | _+1,_,h=>⟨h.1,h.2.1⟩
theorem Wf.level {st:Za}:∀ {n:Nat} {p:PtrD},Wf st n p→p.hole=false→p.ak=(n:Int)
 | 0,_,h,_=>h.2.2.1
 | n+1,p,⟨_,_,l,hk,_⟩,hh=>by
  rcases (Xy hk).2.2 with ⟨e,_⟩|⟨_,e,_⟩
  ·rw [hh] at e;cases e
  ·exact e
theorem Wf.zero {st:Za} (h0:0≤st.aq):∀ n,Wf st n PtrD.zero
 | 0=>⟨rfl,h0,rfl,rfl⟩
 | n+1=>⟨rfl,h0,XO,UE rfl,fun k hk=>by
  simp only [XO,mem_cons,not_mem_nil,or_false,or_self] at hk;rw [hk];exact Wf.zero h0 n⟩
theorem ZaJ {st:Za} {many:Int}:∀ {i:Nat} {l:List PtrD},YQ st many i l=true→∀ p ∈ l,p.ak=0∧YL st p=true
 | _,[],_,p,hp=>by cases hp
 | i,q::r,h,p,hp=>by
  have h:(JS st many i q && YQ st many (i+1) r)=true:=h;rw [Bool.and_eq_true] at h;rcases mem_cons.1 hp with rfl|hp
  ·have h1:=h.1
   unfold JS at h1
   cases hh:p.hole with
   | true=>exact ⟨ZbW hh,Jl hh⟩
   | false =>
    rw [hh] at h1;have h1:(YL st p && ((p.ak == 0) && decide ((i:Int)<many)))=true:=h1;simp only [Bool.and_eq_true,beq_iff_eq] at h1;exact ⟨h1.2.1,h1.1⟩
  ·exact ZaJ h.2 p hp
theorem Zj2 {st:Za} {many:Int}:∀ {n:Nat} {l m:List PtrD},(∀ p ∈ l,p.ok=true∧p.ah≤st.aq)→0≤st.aq→downL (kids st) n l=some m→(∀ p ∈ m,p.ak=0∧YL st p=true)→∀ p ∈ l,Wf st n p
 | 0,l,m,h,_,hd,hl,p,hp=>by
  obtain rfl:l=m:=Option.some.inj hd;exact ⟨(h p hp).1,(h p hp).2,(hl p hp).1,(hl p hp).2⟩
 | n+1,l,m,h,h0,hd,hl,p,hp=>by
  cases hn:YX (fun p=>kids st p ((n+1:Nat):Int)) l with
  | none=>rw [Jd hn] at hd;cases hd
  | some x =>
   rw [QQ hn] at hd;obtain ⟨i1,i2,i3⟩:=VE hn;have hx:∀ q ∈ x,q.ok=true∧q.ah≤st.aq:=fun q hq=>by
    obtain ⟨p,hp,k,hk,hq⟩:=i2 q hq;obtain ⟨_,ok,hc⟩:=Xy hk;refine ⟨ok q hq,?_⟩;rcases hc with ⟨_,rfl⟩|⟨_,_,_,_,hb⟩
    ·simp only [XO,mem_cons,not_mem_nil,or_false,or_self] at hq
     rw [hq];exact h0
    ·have:=hb q hq;have:=(h p hp).2;omega
   have ih:=Zj2 (many:=many) hx h0 hd hl;obtain ⟨k,hk⟩:=i1 p hp;exact ⟨(h p hp).1,(h p hp).2,k,hk,fun q hq=>ih q (i3 p hp k hk q hq)⟩
theorem Zj3 {st:Za} {t:Zf} {r:List PtrD} (h:leavesF st t=some r) (h0:0≤st.aq):t.az=(depthN t.am:Int)∧Wf st (depthN t.am) t.ac:=by
 obtain ⟨l,ht,hd,hl,_⟩:=XP h;unfold topB at ht;simp only [Bool.and_eq_true,beq_iff_eq,decide_eq_true_eq] at ht;exact ⟨ht.2.1,Zj2 (many:=t.am) (fun p hp=>by rw [mem_singleton.1 hp];exact ht.2.2) h0 hd (ZaJ hl) _ (mem_cons_self ..)⟩
def Zp.give (s:Zp) (a:Nat):Zp:={ ab:=s.ab.set a (s.ab.getD a 0 - 1),ag:=if s.ab.getD a 0 - 1=0 then s.ag.set a 0 else s.ag }
theorem Zp.give_refs (s:Zp) (a:Nat):(s.give a).ab.length=s.ab.length:=by simp [Zp.give]
theorem Zp.give_last (s:Zp) (a:Nat):(s.give a).ag.length=s.ag.length:=by unfold Zp.give;dsimp only;split <;> simp
def Xz (rows:List ByteArray) (s:Zp) (a:Nat):List ByteArray:=if s.ab.getD a 0 - 1=0 then rows.set a ByteArray.empty else rows
theorem Qh (rows:List ByteArray) (s:Zp) (a:Nat):(Xz rows s a).length=rows.length:=by unfold Xz;split <;> simp
theorem Zgv (s:ByteArray) (c:Bool) (h:(s.size == 0)=c):s.toList.isEmpty=c:=by
 rw [← h,ByteArray.toList_eq,Bool.eq_iff_iff,List.isEmpty_iff,beq_iff_eq];show _ ↔ s.data.size=0;rw [← Array.length_toList,List.length_eq_zero_iff]
theorem Ze7 (v:Value) (st:Za) (w:World) (hr:Za.Reads w v st) (hf:st.Fit)
  (_hi:-9223372036854775808≤st.aq) (hbad:(st.af.length == 64 && (st.aa.ok && (inB st.aq 1 900 && inB st.ar 0 (st.aq - 1))))=false) :
  Calls prog 44 #[v] w fun e w'=>e=.returned (.bool false)∧Below w.heap.size w w':=by
 obtain ⟨a0,c0,a1,c1,a2,c2,a4,c4,a6,c6,rfl,r0,r1,r2,r4,r6⟩:=hr;have hl0:=hf.f0;have hb0:Below w.heap.size w (w.alloc (.cells #[.slice a0 st.af.length c0,.slice a1 st.aa.ab.length c1,.slice a2 st.aa.ag.length c2,.int .i64 st.aq,.slice a4 st.ai.length c4,.int .i64 st.ar,.slice a6 st.aj.length c6,.bool st.au] 39)):=(Below.refl _ _).alloc (Nat.le_refl _) _;have hA0:=ZY w (.cells #[.slice a0 st.af.length c0,.slice a1 st.aa.ab.length c1,.slice a2 st.aa.ag.length c2,.int .i64 st.aq,.slice a4 st.ai.length c4,.int .i64 st.ar,.slice a6 st.aj.length c6,.bool st.au] 39) _ rfl
 by_cases h0:st.af.length=64
 rotate_left
 ·go_enter func44,ntmps44
  go_wp2
  go_ret
  exact ⟨rfl,hb0⟩
 have hl:((st.af.length:Int) != 64)=false:=by simp [h0]
 have E:=Lib.hid (Zal (.agg #[.slice a1 st.aa.ab.length c1,.slice a2 st.aa.ag.length c2]) st.aa _ ⟨_,_,_,_,rfl,r1.below hb0,r2.below hb0⟩ ⟨hf.f1,hf.f2⟩);have H0:=Lib.hid h0;have HB:=Lib.hid hbad;clear h0 hbad
 cases h1:st.aa.ok
 ·go_enter func44,ntmps44
  go_wp2_with fail
  refine E.out.mono ?_;rintro e w1 ⟨rfl,b1⟩;rw [h1]
  go_wp2
  go_ret
  exact ⟨rfl,hb0.trans (b1.mono hb0.size)⟩
 ·cases h2:inB st.aq 1 900
  ·go_enter func44,ntmps44
   go_wp2_with fail
   refine E.out.mono ?_;rintro e w1 ⟨rfl,b1⟩;have hA1:=Ze hA0 b1 (Nat.le_refl _);have p3:w1.cell? ⟨w.heap.size,3,none⟩=some (.int .i64 st.aq):=Zc hA1 3;rw [h1]
   go_wp2_with (go_at_call 18;refine (YY _ _ _ _).mono ?_;rintro e w' ⟨rfl,rfl⟩)
   go_ret
   exact ⟨rfl,hb0.trans (b1.mono hb0.size)⟩
  ·cases h3:inB st.ar 0 (st.aq - 1)
   ·have hbt:=Zo h2
    go_enter func44,ntmps44
    go_wp2_with fail
    refine E.out.mono ?_;rintro e w1 ⟨rfl,b1⟩;have hA1:=Ze hA0 b1 (Nat.le_refl _);have p3:w1.cell? ⟨w.heap.size,3,none⟩=some (.int .i64 st.aq):=Zc hA1 3;have p5:w1.cell? ⟨w.heap.size,5,none⟩=some (.int .i64 st.ar):=Zc hA1 5;rw [h1]
    go_wp2_with (go_at_call 18;refine (YY _ _ _ _).mono ?_;rintro e w' ⟨rfl,rfl⟩)
    go_ret
    exact ⟨rfl,hb0.trans (b1.mono hb0.size)⟩
   ·exact absurd HB.out (by rw [H0.out,h1,h2,h3];simp)
theorem Zd0 (v:Value) (st:Za) (w:World) (hr:Za.Reads w v st) (hf:st.Fit)
  (h64:st.af.length=64) (hsp:st.aa.ok=true) (htx:inB st.aq 1 900=true) (hkp:inB st.ar 0 (st.aq - 1)=true) :
  Calls prog 44 #[v] w fun e w'=>e=.returned (.bool st.ok)∧Below w.heap.size w w':=by
 obtain ⟨a0,c0,a1,c1,a2,c2,a4,c4,a6,c6,rfl,r0,r1,r2,r4,r6⟩:=hr;have hl0:=hf.f0;have hb0:Below w.heap.size w (w.alloc (.cells #[.slice a0 st.af.length c0,.slice a1 st.aa.ab.length c1,.slice a2 st.aa.ag.length c2,.int .i64 st.aq,.slice a4 st.ai.length c4,.int .i64 st.ar,.slice a6 st.aj.length c6,.bool st.au] 39)):=(Below.refl _ _).alloc (Nat.le_refl _) _;have hA0:=ZY w (.cells #[.slice a0 st.af.length c0,.slice a1 st.aa.ab.length c1,.slice a2 st.aa.ag.length c2,.int .i64 st.aq,.slice a4 st.ai.length c4,.int .i64 st.ar,.slice a6 st.aj.length c6,.bool st.au] 39) _ rfl;have hl:((st.af.length:Int) != 64)=false:=by simp [h64]
 have E:=Lib.hid (Zal (.agg #[.slice a1 st.aa.ab.length c1,.slice a2 st.aa.ag.length c2]) st.aa _ ⟨_,_,_,_,rfl,r1.below hb0,r2.below hb0⟩ ⟨hf.f1,hf.f2⟩);have hst:Hid (st.ok=(Qc st 64 && (st.ai.all (fun p=>YZ p (st.aq - 1)) && (st.aj.all (fun p=>YZ p st.ar) && Qs st.aa.ab (st.ai++st.aj))))):=by show _=_;simp [Za.ok,h64,hsp,htx,hkp]
 have hbt:=Zo htx;have hbk:=Zo hkp;have hg4:=hf.f4;have hg6:=hf.f6;have HSP:=Lib.hid (Zp.ok_spec hsp);have H64:=Lib.hid h64;have hf2:=hf;clear h64 hf
 go_enter func44,ntmps44
 go_wp2_with fail
 refine E.out.mono ?_;rintro e w1 ⟨rfl,b1⟩;have hA1:=Ze hA0 b1 (Nat.le_refl _);have hb1:=hb0.trans (b1.mono hb0.size);have p3:w1.cell? ⟨w.heap.size,3,none⟩=some (.int .i64 st.aq):=Zc hA1 3;have p5:w1.cell? ⟨w.heap.size,5,none⟩=some (.int .i64 st.ar):=Zc hA1 5;rw [hsp]
 go_wp2_with (go_at_call 18;refine (YY _ _ _ _).mono ?_;rintro e w' ⟨rfl,rfl⟩)
 have HSPB:=Lib.hid hsp;clear hsp htx hkp hb0 hA0 b1 p3 p5
 go_loopw [3] (fun i wr=>∃ k:Nat,k≤64∧i=.int .i64 k∧Qc st k=true∧Below w.heap.size w wr∧wr.heap[w.heap.size]? = some (.cells #[.slice a0 st.af.length c0,.slice a1 st.aa.ab.length c1,.slice a2 st.aa.ag.length c2,.int .i64 st.aq,.slice a4 st.ai.length c4,.int .i64 st.ar,.slice a6 st.aj.length c6,.bool st.au] 39 (0,0))) (fun i _=>64 - (intOf i).toNat)
 case atStart=>exact ⟨0,by omega,rfl,rfl,hb1,hA1⟩
 case round =>
  obtain ⟨k,hk,rfl,hok,hb,hA⟩:=hrel;have HOK:=Lib.hid hok;clear hok hb1 hA1
  by_cases hlt:k<64
  ·obtain ⟨b,off,s,hx0,rfl,hbl,hrg⟩:=r0.at_ k (by rw [H64.out];exact hlt)
   have d0:=(Zq hrg hb hbl) 0 _ rfl;obtain ⟨b1,off1,r,hx1,rfl,hbl1,hrg1⟩:=r1.at_ k (by rw [HSP.out.refs];exact hlt);have d1:=(Zq hrg1 hb hbl1) 0 _ rfl;obtain ⟨b2,off2,l,hx2,rfl,hbl2,hrg2⟩:=r2.at_ k (by rw [HSP.out.last];exact hlt);have d2:=(Zq hrg2 hb hbl2) 0 _ rfl;simp only [Nat.mul_one,Nat.add_zero] at d0 d1 d2;have e0:=QN (d:=ByteArray.empty) hx0;have e1:=QN (d:=(0:Int)) hx1;have e2:=QN (d:=(0:Int)) hx2;have hrow:Hid (XK st k=(decide (s.size≤128) && ((s.size == 0) == (r == 0) && decide (l≤st.aq)))):=by show _=_;unfold XK;rw [e0,e1,e2]
   have hlast:Hid (XK st k=false→st.ok=false):=fun h=>by rw [hst.out,Zez hlt h];rfl
   have hnext:Hid (XK st k=true→Qc st (k+1)=true):=fun h=>by rw [ZdD,HOK.out,h];rfl
   have hlen0:k<st.af.length:=by rw [H64.out];exact hlt
   have hlen1:k<st.aa.ab.length:=by rw [HSP.out.refs];exact hlt
   have hlen2:k<st.aa.ag.length:=by rw [HSP.out.last];exact hlt
   have p0:wr.cell? ⟨w.heap.size,0,none⟩=some (.slice (some ⟨b,off,none⟩) st.af.length c0):=Zc hA 0;have p1:wr.cell? ⟨w.heap.size,1,none⟩=some (.slice (some ⟨b1,off1,none⟩) st.aa.ab.length c1):=Zc hA 1;have p2:wr.cell? ⟨w.heap.size,2,none⟩=some (.slice (some ⟨b2,off2,none⟩) st.aa.ag.length c2):=Zc hA 2;have p3:wr.cell? ⟨w.heap.size,3,none⟩=some (.int .i64 st.aq):=Zc hA 3;have HA:=Lib.hid hA;clear hx0 hx1 hx2 hrg hrg1 hrg2 hA e0 e1 e2
   by_cases g1:s.size≤128
   rotate_left
   ·have HR:Hid (XK st k=false):=by show _=_;rw [hrow.out];simp [g1]
    have g1':decide ((128:Int)<(s.size:Int))=true:=by simp;omega
    go_wp2_with fail
    go_quiet (fail)
    go_wp2
    go_ret
    exact ⟨Zr (hlast.out HR.out).symm,hb.trans (ZU _ _ _)⟩
   ·have g1':decide ((128:Int)<(s.size:Int))=false:=by simp;omega
    have e1:∀ (cb:Bool),(s.size == 0)=cb→s.toList.isEmpty=cb:=fun cb h=>Zgv s cb h
    cases gs:(s.size == 0)
    all_goals
     have gs2:=e1 _ gs;clear e1
     cases gr:(r == 0)
    ·by_cases g3:l≤st.aq
     ·have g3':decide (st.aq<l)=false:=by simp;omega
      have HR:Hid (XK st k=true):=by show _=_;rw [hrow.out];simp [g1,g3,gs,gr]
      go_wp2_with fail
      go_quiet (fail)
      go_wp2
      go_roundw
      case rel=>exact ⟨k+1,by omega,by go_num,hnext.out HR.out,hb.trans (ZU _ _ _),HA.out⟩
      case measure=>simp [intOf];omega
     ·have g3':decide (st.aq<l)=true:=by simp;omega
      have HR:Hid (XK st k=false):=by show _=_;rw [hrow.out];simp [g3]
      go_wp2_with fail
      go_quiet (fail)
      go_wp2
      go_ret
      exact ⟨Zr (hlast.out HR.out).symm,hb.trans (ZU _ _ _)⟩
    ·have HR:Hid (XK st k=false):=by show _=_;rw [hrow.out];simp [gs,gr]
     go_wp2_with fail
     go_quiet (fail)
     go_wp2
     go_ret
     exact ⟨Zr (hlast.out HR.out).symm,hb.trans (ZU _ _ _)⟩
    ·have HR:Hid (XK st k=false):=by show _=_;rw [hrow.out];simp [gs,gr]
     go_wp2_with fail
     go_quiet (fail)
     go_wp2
     go_ret
     exact ⟨Zr (hlast.out HR.out).symm,hb.trans (ZU _ _ _)⟩
    ·by_cases g3:l≤st.aq
     ·have g3':decide (st.aq<l)=false:=by simp;omega
      have HR:Hid (XK st k=true):=by show _=_;rw [hrow.out];simp [g1,g3,gs,gr]
      go_wp2_with fail
      go_quiet (fail)
      go_wp2
      go_roundw
      case rel=>exact ⟨k+1,by omega,by go_num,hnext.out HR.out,hb.trans (ZU _ _ _),HA.out⟩
      case measure=>simp [intOf];omega
     ·have g3':decide (st.aq<l)=true:=by simp;omega
      have HR:Hid (XK st k=false):=by show _=_;rw [hrow.out];simp [g3]
      go_wp2_with fail
      go_quiet (fail)
      go_wp2
      go_ret
      exact ⟨Zr (hlast.out HR.out).symm,hb.trans (ZU _ _ _)⟩
  ·have hk':k=64:=by omega
   subst hk';obtain ⟨i0,hi,hz0,hz1,hz2⟩:=info_parts Tryz.infoIntS
   go_wp2_with (refine wpList_make_full _ rfl (.const (.int .i64 64)) (.const (.int .i64 64)) 23 rfl wr.heap.size 3 i0 _ 1 Tryz.underlying23 hi hz0 hz1 .i64 .i64 _ _ 64 rfl rfl rfl rfl ?b2 ?b3 ?b4 ?_)
   case b2=>rw [hz2];omega
   case b3=>unfold maxLen;omega
   case b4=>exact Nat.le_refl _
   intro wm hown hg;have hbm:Below w.heap.size w wm:=hb.grown hg hb.size (by simp);have hAm:=Zf8 hA hg (by simp);have hgm:w.heap.size<wr.heap.size:=Xt hA;have hown:wm.ownsRow wr.heap.size 3 1 (.slice (some ⟨wr.heap.size,0,none⟩) 64 64) 64 (Xu ((st.ai++st.aj).take 0)):=by rw [← Zgd];exact hown
   generalize wr.heap.size=g at hown hgm ⊢;clear hb hA hg hi hz0 hz1 hz2 hlt hk r0 r2 E
   go_wp2
   go_loopw [5] (fun i wr=>∃ j:Nat,j≤st.ai.length+st.aj.length∧i=.int .i64 j∧Zan st j∧wr.ownsRow g 3 1 (.slice (some ⟨g,0,none⟩) 64 64) 64 (Xu ((st.ai++st.aj).take j))∧Below w.heap.size w wr∧wr.heap[w.heap.size]? = some (.cells #[.slice a0 st.af.length c0,.slice a1 st.aa.ab.length c1,.slice a2 st.aa.ag.length c2,.int .i64 st.aq,.slice a4 st.ai.length c4,.int .i64 st.ar,.slice a6 st.aj.length c6,.bool st.au] 39 (0,0))) (fun i _=>st.ai.length+st.aj.length - (intOf i).toNat)
   case atStart=>exact ⟨0,Nat.zero_le _,rfl,Zan.zero st,hown,hbm,hAm⟩
   case round =>
    obtain ⟨j,hj,rfl,hgiv,ho,hb,hA⟩:=hrel;clear hown hbm hAm
    by_cases hlt:j<st.ai.length+st.aj.length
    ·by_cases hgo:j<st.ai.length
     ·obtain ⟨b,off,p,hp,rfl,hbl,hrg⟩:=r4.at_ (j) (by omega)
      obtain ⟨d0,d1,d2,d3,d4⟩:=PtrD.at_ (Zq hrg hb hbl);have hout:Zam st j=some p:=by unfold Zam;rw [List.getElem?_append_left hgo];exact hp
      have hmost:UK st j=st.aq - 1:=by unfold UK;rw [if_pos hgo]
      have hbad:Hid (YZ p (st.aq - 1)=false→st.ok=false):=fun h=>Zgc hout (by rw [hmost];exact h)
      have hmany:Hid (∀ a:Nat,p.aA=(a:Int)→a<64→st.aa.ab.getD a 0<((cnt ((st.ai++st.aj).take j) a+1:Nat):Int)→st.ok=false):=fun a h1 h2 h3=>ZeA hout a h1 h2 h3
      have hstep:Hid (∀ a:Nat,YZ p (st.aq - 1)=true→p.aA=(a:Int)→((cnt ((st.ai++st.aj).take j) a+1:Nat):Int)≤st.aa.ab.getD a 0→Zan st (j+1)):=fun a h1 h2 h3=>hgiv.succ hout (by rw [hmost];exact h1) a h2 h3
      have hsn:Hid ((st.ai++st.aj).take (j+1)=(st.ai++st.aj).take j++[p]):=by show _=_;obtain ⟨hj2,hpe⟩:=List.getElem?_eq_some_iff.1 hout;rw [List.take_succ_eq_append_getElem hj2];unfold Zam at hout;rw [hpe]
      have hcj:((st.ai++st.aj).take j).length≤2097152:=by rw [length_take,length_append];omega
      have hgiv2:=Lib.hid hgiv;have p1:wr.cell? ⟨w.heap.size,1,none⟩=some (.slice a1 st.aa.ab.length c1):=Zc hA 1;have p3:wr.cell? ⟨w.heap.size,3,none⟩=some (.int .i64 st.aq):=Zc hA 3;have p4:wr.cell? ⟨w.heap.size,4,none⟩=some (.slice (some ⟨b,off,none⟩) st.ai.length c4):=Zc hA 4;have p5:wr.cell? ⟨w.heap.size,5,none⟩=some (.int .i64 st.ar):=Zc hA 5;have p6:wr.cell? ⟨w.heap.size,6,none⟩=some (.slice a6 st.aj.length c6):=Zc hA 6;have HA:=Lib.hid hA;have hw0:=Xt hA;have hbw:b<wr.heap.size:=Nat.lt_of_lt_of_le hbl hb.size;clear hp hout hmost hrg hgiv hA;have hin:Hid (YZ p (st.aq - 1)=(p.ok && (!p.hole && decide (p.ah≤st.aq - 1)))):=rfl
      cases h1:p.ok
      ·have HR:Hid (YZ p (st.aq - 1)=false):=by show _=_;rw [hin.out,h1];rfl
       go_wp2_with fail
       refine (ZZ p _).mono ?_;rintro e w2 ⟨rfl,b2⟩;have hb2:=(hb.alloc hb.size _).trans (b2.mono (hb.alloc hb.size _).size);have q2:=Ze (ZY wr (.cells #[.int .i64 p.aA,.int .i64 p.ah,.int .i64 p.al,.int .i64 p.ax,.int .i64 p.ak] 40) _ rfl) b2 (Nat.le_refl _);rw [h1]
       go_wp2
       go_ret
       exact ⟨Zr (hbad.out HR.out).symm,hb2⟩
      ·cases h2:p.hole
       rotate_left
       ·have HR:Hid (YZ p (st.aq - 1)=false):=by show _=_;rw [hin.out,h1,h2];rfl
        go_wp2_with fail
        refine (ZZ p _).mono ?_;rintro e w2 ⟨rfl,b2⟩;have hb2:=(hb.alloc hb.size _).trans (b2.mono (hb.alloc hb.size _).size);have q2:=Ze (ZY wr (.cells #[.int .i64 p.aA,.int .i64 p.ah,.int .i64 p.al,.int .i64 p.ax,.int .i64 p.ak] 40) _ rfl) b2 (Nat.le_refl _);rw [h1];have f0:w2.cell? ⟨wr.heap.size,0,none⟩=some (.int .i64 p.aA):=Zc q2 0;have f1:w2.cell? ⟨wr.heap.size,1,none⟩=some (.int .i64 p.ah):=Zc q2 1;have f2:w2.cell? ⟨wr.heap.size,2,none⟩=some (.int .i64 p.al):=Zc q2 2;have f3:w2.cell? ⟨wr.heap.size,3,none⟩=some (.int .i64 p.ax):=Zc q2 3;have f4:w2.cell? ⟨wr.heap.size,4,none⟩=some (.int .i64 p.ak):=Zc q2 4
        go_wp2_with fail
        refine (ZL p _).mono ?_;rintro e w3 ⟨rfl,b3⟩;have hb3:=hb2.trans (b3.mono hb2.size);have q3:=Ze q2 b3 (Nat.le_refl _);clear f0 f1 f2 f3 f4;rw [h2]
        go_wp2
        go_ret
        exact ⟨Zr (hbad.out HR.out).symm,hb3⟩
       ·by_cases h3:p.ah≤st.aq - 1
        rotate_left
        ·have HR:Hid (YZ p (st.aq - 1)=false):=by show _=_;rw [hin.out,h1,h2];simp [h3]
         go_wp2_with fail
         refine (ZZ p _).mono ?_;rintro e w2 ⟨rfl,b2⟩;have hb2:=(hb.alloc hb.size _).trans (b2.mono (hb.alloc hb.size _).size);have q2:=Ze (ZY wr (.cells #[.int .i64 p.aA,.int .i64 p.ah,.int .i64 p.al,.int .i64 p.ax,.int .i64 p.ak] 40) _ rfl) b2 (Nat.le_refl _);rw [h1];have f0:w2.cell? ⟨wr.heap.size,0,none⟩=some (.int .i64 p.aA):=Zc q2 0;have f1:w2.cell? ⟨wr.heap.size,1,none⟩=some (.int .i64 p.ah):=Zc q2 1;have f2:w2.cell? ⟨wr.heap.size,2,none⟩=some (.int .i64 p.al):=Zc q2 2;have f3:w2.cell? ⟨wr.heap.size,3,none⟩=some (.int .i64 p.ax):=Zc q2 3;have f4:w2.cell? ⟨wr.heap.size,4,none⟩=some (.int .i64 p.ak):=Zc q2 4
         go_wp2_with fail
         refine (ZL p _).mono ?_;rintro e w3 ⟨rfl,b3⟩;have hb3:=hb2.trans (b3.mono hb2.size);have q3:=Ze q2 b3 (Nat.le_refl _);clear f0 f1 f2 f3 f4;rw [h2];have f1:w3.cell? ⟨wr.heap.size,1,none⟩=some (.int .i64 p.ah):=Zc q3 1
         go_wp2
         go_ret
         exact ⟨Zr (hbad.out HR.out).symm,hb3⟩
        ·have HR:Hid (YZ p (st.aq - 1)=true):=by show _=_;rw [hin.out,h1,h2];simp [h3]
         have hat:=Zck HR.out;obtain ⟨a,ha⟩:∃ a:Nat,p.aA=(a:Int):=⟨p.aA.toNat,by omega⟩;have ha1:a<64:=by omega
         have ha0:8≤a:=by omega
         have Ha:=Lib.hid ha;clear ha
         go_wp2_with fail
         refine (ZZ p _).mono ?_;rintro e w2 ⟨rfl,b2⟩;have hb2:=(hb.alloc hb.size _).trans (b2.mono (hb.alloc hb.size _).size);have q2:=Ze (ZY wr (.cells #[.int .i64 p.aA,.int .i64 p.ah,.int .i64 p.al,.int .i64 p.ax,.int .i64 p.ak] 40) _ rfl) b2 (Nat.le_refl _);rw [h1];have f0:w2.cell? ⟨wr.heap.size,0,none⟩=some (.int .i64 p.aA):=Zc q2 0;have f1:w2.cell? ⟨wr.heap.size,1,none⟩=some (.int .i64 p.ah):=Zc q2 1;have f2:w2.cell? ⟨wr.heap.size,2,none⟩=some (.int .i64 p.al):=Zc q2 2;have f3:w2.cell? ⟨wr.heap.size,3,none⟩=some (.int .i64 p.ax):=Zc q2 3;have f4:w2.cell? ⟨wr.heap.size,4,none⟩=some (.int .i64 p.ak):=Zc q2 4
         go_wp2_with fail
         refine (ZL p _).mono ?_;rintro e w3 ⟨rfl,b3⟩;have hb3:=hb2.trans (b3.mono hb2.size);have q3:=Ze q2 b3 (Nat.le_refl _);clear f0 f1 f2 f3 f4;rw [h2];have f0:w3.cell? ⟨wr.heap.size,0,none⟩=some (.int .i64 (a:Int)):=by rw [← Ha.out];exact Zc q3 0
         have f1:w3.cell? ⟨wr.heap.size,1,none⟩=some (.int .i64 p.ah):=Zc q3 1;have hw3:wr.heap.size<w3.heap.size:=Xt q3;have hA3:=Ze (Ze (Xp HA.out (.cells #[.int .i64 p.aA,.int .i64 p.ah,.int .i64 p.al,.int .i64 p.ax,.int .i64 p.ak] 40)) b2 (Nat.le_refl _)) b3 (Nat.le_refl _);have ho3:=X8 (X8 (ho.alloc (.cells #[.int .i64 p.aA,.int .i64 p.ah,.int .i64 p.al,.int .i64 p.ax,.int .i64 p.ak] 40)) b2 (Nat.le_refl _)) b3 (Nat.le_refl _);have hca:w3.cell? ⟨g,a,none⟩=some (.int .i64 (cnt ((st.ai++st.aj).take j) a:Nat)):=by rw [ho3.cellAt a (by omega)];exact Qb _ _ ha1
         have hfa:=ho3.frozenAt a;have hcl:=ZgT ((st.ai++st.aj).take j) a;obtain ⟨b1,off1,r,hx1,rfl,hbl1,hrg1⟩:=r1.at_ a (by rw [HSP.out.refs];exact ha1);have g1:=(Zq hrg1 hb3 hbl1) 0 _ rfl;simp only [Nat.mul_one,Nat.add_zero] at g1;have e1:=Lib.hid (QN (d:=(0:Int)) hx1);have hl1:a<st.aa.ab.length:=by rw [HSP.out.refs];exact ha1
         have hgw:g<wr.heap.size:=(ho.lt g (by simp [Value.ownBlock])).2;have p1:w3.cell? ⟨w.heap.size,1,none⟩=some (.slice (some ⟨b1,off1,none⟩) st.aa.ab.length c1):=Zc hA3 1;have HA3:=Lib.hid hA3;have HO3:=Lib.hid ho3;have hb3l:b1<g:=Nat.lt_trans hbl1 hgm;have Q3:=Lib.hid q3;clear hx1 hrg1 hA3 ho3 q2 q3 b2 b3 ho HA hb hb2;generalize hcd:cnt ((st.ai++st.aj).take j) a=cn at hca hcl;have HCD:=Lib.hid hcd;clear hcd
         go_wp2_with fail
         go_region
         all_goals
          obtain ⟨ho4,_⟩:=HO3.out.stored a (.int .i64 ((cn:Int)+1));have ho5:World.ownsRow (w3.setCell ⟨g,a,none⟩ (.int .i64 ((cn:Int)+1))).drew g 3 1 (.slice (some ⟨g,0,none⟩) 64 64) 64 (Xu ((st.ai++st.aj).take (j+1))):=by rw [hsn.out,← Vp _ p a Ha.out ha1,HCD.out];exact ho4
          have hb4:Below w.heap.size w (w3.setCell ⟨g,a,none⟩ (.int .i64 ((cn:Int)+1))).drew:=(hb3.setCell (p:=⟨g,a,none⟩) (Nat.le_of_lt hgm) _).drew;have hA4:((w3.setCell ⟨g,a,none⟩ (.int .i64 ((cn:Int)+1))).drew).heap[w.heap.size]? = some (.cells #[.slice a0 st.af.length c0,.slice (some ⟨b1,off1,none⟩) st.aa.ab.length c1,.slice a2 st.aa.ag.length c2,.int .i64 st.aq,.slice (some ⟨b,off,none⟩) st.ai.length c4,.int .i64 st.ar,.slice a6 st.aj.length c6,.bool st.au] 39 (0,0)):=ZK HA3.out (p:=⟨g,a,none⟩) (Nat.ne_of_lt hgm) _;have q4:((w3.setCell ⟨g,a,none⟩ (.int .i64 ((cn:Int)+1))).drew).heap[wr.heap.size]? = some (.cells #[.int .i64 p.aA,.int .i64 p.ah,.int .i64 p.al,.int .i64 p.ax,.int .i64 p.ak] 40 (0,0)):=ZK Q3.out (p:=⟨g,a,none⟩) (Nat.ne_of_gt hgw) _;have g4:World.cell? (w3.setCell ⟨g,a,none⟩ (.int .i64 ((cn:Int)+1))).drew ⟨b1,off1+a,none⟩=some (.int .i64 r):=(World.cell?_setCell_other _ _ _ _ (fun e=>by injection e with e _ _;omega)).trans g1;have hca4:World.cell? (w3.setCell ⟨g,a,none⟩ (.int .i64 ((cn:Int)+1))).drew ⟨g,a,none⟩=some (.int .i64 ((cn:Int)+1)):=World.cell?_setCell_same _ _ _ hca;clear f0 f1 g1 p1 hca hfa ho4;generalize (w3.setCell ⟨g,a,none⟩ (.int .i64 ((cn:Int)+1))).drew=w4 at ho5 hb4 hA4 q4 g4 hca4 ⊢;have f0:w4.cell? ⟨wr.heap.size,0,none⟩=some (.int .i64 (a:Int)):=by rw [← Ha.out];exact Zc q4 0
          have p1:w4.cell? ⟨w.heap.size,1,none⟩=some (.slice (some ⟨b1,off1,none⟩) st.aa.ab.length c1):=Zc hA4 1;have HA4:=Lib.hid hA4;have HO5:=Lib.hid ho5;clear hA4 ho5 q4
          by_cases hmn:(cn:Int)+1≤r
          ·have hcmp:decide ((r:Int)<(cn:Int)+1)=false:=by simp;omega
           go_wp2_with fail
           go_quiet (fail)
           go_wp2
           go_roundw
           case rel=>exact ⟨j+1,by omega,by go_num,hstep.out a HR.out Ha.out (by rw [e1.out,HCD.out];omega),HO5.out,hb4.trans (ZU _ _ _),HA4.out⟩
           case measure=>simp [intOf];omega
          ·have hcmp:decide ((r:Int)<(cn:Int)+1)=true:=by simp;omega
           go_wp2_with fail
           go_quiet (fail)
           go_wp2
           go_ret
           exact ⟨Zr (hmany.out a Ha.out ha1 (by rw [e1.out,HCD.out];omega)).symm,hb4.trans (ZU _ _ _)⟩
     ·obtain ⟨b,off,p,hp,rfl,hbl,hrg⟩:=r6.at_ (j - st.ai.length) (by omega)
      obtain ⟨d0,d1,d2,d3,d4⟩:=PtrD.at_ (Zq hrg hb hbl);have hout:Zam st j=some p:=by unfold Zam;rw [List.getElem?_append_right (by omega)];exact hp
      have hmost:UK st j=st.ar:=by unfold UK;rw [if_neg hgo]
      have hbad:Hid (YZ p (st.ar)=false→st.ok=false):=fun h=>Zgc hout (by rw [hmost];exact h)
      have hmany:Hid (∀ a:Nat,p.aA=(a:Int)→a<64→st.aa.ab.getD a 0<((cnt ((st.ai++st.aj).take j) a+1:Nat):Int)→st.ok=false):=fun a h1 h2 h3=>ZeA hout a h1 h2 h3
      have hstep:Hid (∀ a:Nat,YZ p (st.ar)=true→p.aA=(a:Int)→((cnt ((st.ai++st.aj).take j) a+1:Nat):Int)≤st.aa.ab.getD a 0→Zan st (j+1)):=fun a h1 h2 h3=>hgiv.succ hout (by rw [hmost];exact h1) a h2 h3
      have hsn:Hid ((st.ai++st.aj).take (j+1)=(st.ai++st.aj).take j++[p]):=by show _=_;obtain ⟨hj2,hpe⟩:=List.getElem?_eq_some_iff.1 hout;rw [List.take_succ_eq_append_getElem hj2];unfold Zam at hout;rw [hpe]
      have hcj:((st.ai++st.aj).take j).length≤2097152:=by rw [length_take,length_append];omega
      have hgiv2:=Lib.hid hgiv;have p1:wr.cell? ⟨w.heap.size,1,none⟩=some (.slice a1 st.aa.ab.length c1):=Zc hA 1;have p3:wr.cell? ⟨w.heap.size,3,none⟩=some (.int .i64 st.aq):=Zc hA 3;have p4:wr.cell? ⟨w.heap.size,4,none⟩=some (.slice a4 st.ai.length c4):=Zc hA 4;have p5:wr.cell? ⟨w.heap.size,5,none⟩=some (.int .i64 st.ar):=Zc hA 5;have p6:wr.cell? ⟨w.heap.size,6,none⟩=some (.slice (some ⟨b,off,none⟩) st.aj.length c6):=Zc hA 6;have HA:=Lib.hid hA;have hw0:=Xt hA;have hbw:b<wr.heap.size:=Nat.lt_of_lt_of_le hbl hb.size;clear hp hout hmost hrg hgiv hA;have hin:Hid (YZ p (st.ar)=(p.ok && (!p.hole && decide (p.ah≤st.ar)))):=rfl
      cases h1:p.ok
      ·have HR:Hid (YZ p (st.ar)=false):=by show _=_;rw [hin.out,h1];rfl
       go_wp2_with fail
       refine (ZZ p _).mono ?_;rintro e w2 ⟨rfl,b2⟩;have hb2:=(hb.alloc hb.size _).trans (b2.mono (hb.alloc hb.size _).size);have q2:=Ze (ZY wr (.cells #[.int .i64 p.aA,.int .i64 p.ah,.int .i64 p.al,.int .i64 p.ax,.int .i64 p.ak] 40) _ rfl) b2 (Nat.le_refl _);rw [h1]
       go_wp2
       go_ret
       exact ⟨Zr (hbad.out HR.out).symm,hb2⟩
      ·cases h2:p.hole
       rotate_left
       ·have HR:Hid (YZ p (st.ar)=false):=by show _=_;rw [hin.out,h1,h2];rfl
        go_wp2_with fail
        refine (ZZ p _).mono ?_;rintro e w2 ⟨rfl,b2⟩;have hb2:=(hb.alloc hb.size _).trans (b2.mono (hb.alloc hb.size _).size);have q2:=Ze (ZY wr (.cells #[.int .i64 p.aA,.int .i64 p.ah,.int .i64 p.al,.int .i64 p.ax,.int .i64 p.ak] 40) _ rfl) b2 (Nat.le_refl _);rw [h1];have f0:w2.cell? ⟨wr.heap.size,0,none⟩=some (.int .i64 p.aA):=Zc q2 0;have f1:w2.cell? ⟨wr.heap.size,1,none⟩=some (.int .i64 p.ah):=Zc q2 1;have f2:w2.cell? ⟨wr.heap.size,2,none⟩=some (.int .i64 p.al):=Zc q2 2;have f3:w2.cell? ⟨wr.heap.size,3,none⟩=some (.int .i64 p.ax):=Zc q2 3;have f4:w2.cell? ⟨wr.heap.size,4,none⟩=some (.int .i64 p.ak):=Zc q2 4
        go_wp2_with fail
        refine (ZL p _).mono ?_;rintro e w3 ⟨rfl,b3⟩;have hb3:=hb2.trans (b3.mono hb2.size);have q3:=Ze q2 b3 (Nat.le_refl _);clear f0 f1 f2 f3 f4;rw [h2]
        go_wp2
        go_ret
        exact ⟨Zr (hbad.out HR.out).symm,hb3⟩
       ·by_cases h3:p.ah≤st.ar
        rotate_left
        ·have HR:Hid (YZ p (st.ar)=false):=by show _=_;rw [hin.out,h1,h2];simp [h3]
         go_wp2_with fail
         refine (ZZ p _).mono ?_;rintro e w2 ⟨rfl,b2⟩;have hb2:=(hb.alloc hb.size _).trans (b2.mono (hb.alloc hb.size _).size);have q2:=Ze (ZY wr (.cells #[.int .i64 p.aA,.int .i64 p.ah,.int .i64 p.al,.int .i64 p.ax,.int .i64 p.ak] 40) _ rfl) b2 (Nat.le_refl _);rw [h1];have f0:w2.cell? ⟨wr.heap.size,0,none⟩=some (.int .i64 p.aA):=Zc q2 0;have f1:w2.cell? ⟨wr.heap.size,1,none⟩=some (.int .i64 p.ah):=Zc q2 1;have f2:w2.cell? ⟨wr.heap.size,2,none⟩=some (.int .i64 p.al):=Zc q2 2;have f3:w2.cell? ⟨wr.heap.size,3,none⟩=some (.int .i64 p.ax):=Zc q2 3;have f4:w2.cell? ⟨wr.heap.size,4,none⟩=some (.int .i64 p.ak):=Zc q2 4
         go_wp2_with fail
         refine (ZL p _).mono ?_;rintro e w3 ⟨rfl,b3⟩;have hb3:=hb2.trans (b3.mono hb2.size);have q3:=Ze q2 b3 (Nat.le_refl _);clear f0 f1 f2 f3 f4;rw [h2];have f1:w3.cell? ⟨wr.heap.size,1,none⟩=some (.int .i64 p.ah):=Zc q3 1
         go_wp2
         go_ret
         exact ⟨Zr (hbad.out HR.out).symm,hb3⟩
        ·have HR:Hid (YZ p (st.ar)=true):=by show _=_;rw [hin.out,h1,h2];simp [h3]
         have hat:=Zck HR.out;obtain ⟨a,ha⟩:∃ a:Nat,p.aA=(a:Int):=⟨p.aA.toNat,by omega⟩;have ha1:a<64:=by omega
         have ha0:8≤a:=by omega
         have Ha:=Lib.hid ha;clear ha
         go_wp2_with fail
         refine (ZZ p _).mono ?_;rintro e w2 ⟨rfl,b2⟩;have hb2:=(hb.alloc hb.size _).trans (b2.mono (hb.alloc hb.size _).size);have q2:=Ze (ZY wr (.cells #[.int .i64 p.aA,.int .i64 p.ah,.int .i64 p.al,.int .i64 p.ax,.int .i64 p.ak] 40) _ rfl) b2 (Nat.le_refl _);rw [h1];have f0:w2.cell? ⟨wr.heap.size,0,none⟩=some (.int .i64 p.aA):=Zc q2 0;have f1:w2.cell? ⟨wr.heap.size,1,none⟩=some (.int .i64 p.ah):=Zc q2 1;have f2:w2.cell? ⟨wr.heap.size,2,none⟩=some (.int .i64 p.al):=Zc q2 2;have f3:w2.cell? ⟨wr.heap.size,3,none⟩=some (.int .i64 p.ax):=Zc q2 3;have f4:w2.cell? ⟨wr.heap.size,4,none⟩=some (.int .i64 p.ak):=Zc q2 4
         go_wp2_with fail
         refine (ZL p _).mono ?_;rintro e w3 ⟨rfl,b3⟩;have hb3:=hb2.trans (b3.mono hb2.size);have q3:=Ze q2 b3 (Nat.le_refl _);clear f0 f1 f2 f3 f4;rw [h2];have f0:w3.cell? ⟨wr.heap.size,0,none⟩=some (.int .i64 (a:Int)):=by rw [← Ha.out];exact Zc q3 0
         have f1:w3.cell? ⟨wr.heap.size,1,none⟩=some (.int .i64 p.ah):=Zc q3 1;have hw3:wr.heap.size<w3.heap.size:=Xt q3;have hA3:=Ze (Ze (Xp HA.out (.cells #[.int .i64 p.aA,.int .i64 p.ah,.int .i64 p.al,.int .i64 p.ax,.int .i64 p.ak] 40)) b2 (Nat.le_refl _)) b3 (Nat.le_refl _);have ho3:=X8 (X8 (ho.alloc (.cells #[.int .i64 p.aA,.int .i64 p.ah,.int .i64 p.al,.int .i64 p.ax,.int .i64 p.ak] 40)) b2 (Nat.le_refl _)) b3 (Nat.le_refl _);have hca:w3.cell? ⟨g,a,none⟩=some (.int .i64 (cnt ((st.ai++st.aj).take j) a:Nat)):=by rw [ho3.cellAt a (by omega)];exact Qb _ _ ha1
         have hfa:=ho3.frozenAt a;have hcl:=ZgT ((st.ai++st.aj).take j) a;obtain ⟨b1,off1,r,hx1,rfl,hbl1,hrg1⟩:=r1.at_ a (by rw [HSP.out.refs];exact ha1);have g1:=(Zq hrg1 hb3 hbl1) 0 _ rfl;simp only [Nat.mul_one,Nat.add_zero] at g1;have e1:=Lib.hid (QN (d:=(0:Int)) hx1);have hl1:a<st.aa.ab.length:=by rw [HSP.out.refs];exact ha1
         have hgw:g<wr.heap.size:=(ho.lt g (by simp [Value.ownBlock])).2;have p1:w3.cell? ⟨w.heap.size,1,none⟩=some (.slice (some ⟨b1,off1,none⟩) st.aa.ab.length c1):=Zc hA3 1;have HA3:=Lib.hid hA3;have HO3:=Lib.hid ho3;have hb3l:b1<g:=Nat.lt_trans hbl1 hgm;have Q3:=Lib.hid q3;clear hx1 hrg1 hA3 ho3 q2 q3 b2 b3 ho HA hb hb2;generalize hcd:cnt ((st.ai++st.aj).take j) a=cn at hca hcl;have HCD:=Lib.hid hcd;clear hcd
         go_wp2_with fail
         go_region
         all_goals
          obtain ⟨ho4,_⟩:=HO3.out.stored a (.int .i64 ((cn:Int)+1));have ho5:World.ownsRow (w3.setCell ⟨g,a,none⟩ (.int .i64 ((cn:Int)+1))).drew g 3 1 (.slice (some ⟨g,0,none⟩) 64 64) 64 (Xu ((st.ai++st.aj).take (j+1))):=by rw [hsn.out,← Vp _ p a Ha.out ha1,HCD.out];exact ho4
          have hb4:Below w.heap.size w (w3.setCell ⟨g,a,none⟩ (.int .i64 ((cn:Int)+1))).drew:=(hb3.setCell (p:=⟨g,a,none⟩) (Nat.le_of_lt hgm) _).drew;have hA4:((w3.setCell ⟨g,a,none⟩ (.int .i64 ((cn:Int)+1))).drew).heap[w.heap.size]? = some (.cells #[.slice a0 st.af.length c0,.slice (some ⟨b1,off1,none⟩) st.aa.ab.length c1,.slice a2 st.aa.ag.length c2,.int .i64 st.aq,.slice a4 st.ai.length c4,.int .i64 st.ar,.slice (some ⟨b,off,none⟩) st.aj.length c6,.bool st.au] 39 (0,0)):=ZK HA3.out (p:=⟨g,a,none⟩) (Nat.ne_of_lt hgm) _;have q4:((w3.setCell ⟨g,a,none⟩ (.int .i64 ((cn:Int)+1))).drew).heap[wr.heap.size]? = some (.cells #[.int .i64 p.aA,.int .i64 p.ah,.int .i64 p.al,.int .i64 p.ax,.int .i64 p.ak] 40 (0,0)):=ZK Q3.out (p:=⟨g,a,none⟩) (Nat.ne_of_gt hgw) _;have g4:World.cell? (w3.setCell ⟨g,a,none⟩ (.int .i64 ((cn:Int)+1))).drew ⟨b1,off1+a,none⟩=some (.int .i64 r):=(World.cell?_setCell_other _ _ _ _ (fun e=>by injection e with e _ _;omega)).trans g1;have hca4:World.cell? (w3.setCell ⟨g,a,none⟩ (.int .i64 ((cn:Int)+1))).drew ⟨g,a,none⟩=some (.int .i64 ((cn:Int)+1)):=World.cell?_setCell_same _ _ _ hca;clear f0 f1 g1 p1 hca hfa ho4;generalize (w3.setCell ⟨g,a,none⟩ (.int .i64 ((cn:Int)+1))).drew=w4 at ho5 hb4 hA4 q4 g4 hca4 ⊢;have f0:w4.cell? ⟨wr.heap.size,0,none⟩=some (.int .i64 (a:Int)):=by rw [← Ha.out];exact Zc q4 0
          have p1:w4.cell? ⟨w.heap.size,1,none⟩=some (.slice (some ⟨b1,off1,none⟩) st.aa.ab.length c1):=Zc hA4 1;have HA4:=Lib.hid hA4;have HO5:=Lib.hid ho5;clear hA4 ho5 q4
          by_cases hmn:(cn:Int)+1≤r
          ·have hcmp:decide ((r:Int)<(cn:Int)+1)=false:=by simp;omega
           go_wp2_with fail
           go_quiet (fail)
           go_wp2
           go_roundw
           case rel=>exact ⟨j+1,by omega,by go_num,hstep.out a HR.out Ha.out (by rw [e1.out,HCD.out];omega),HO5.out,hb4.trans (ZU _ _ _),HA4.out⟩
           case measure=>simp [intOf];omega
          ·have hcmp:decide ((r:Int)<(cn:Int)+1)=true:=by simp;omega
           go_wp2_with fail
           go_quiet (fail)
           go_wp2
           go_ret
           exact ⟨Zr (hmany.out a Ha.out ha1 (by rw [e1.out,HCD.out];omega)).symm,hb4.trans (ZU _ _ _)⟩
    ·have hk':j=st.ai.length+st.aj.length:=by omega
     have HJ:=Lib.hid hk';clear hk';have hfin:Hid (st.ok=true):=by
      show _=_;rw [hst.out,HOK.out,Bool.true_and];refine Zan.all (by rw [length_append,← HJ.out];exact hgiv) (fun i hi=>(HSP.out.each i hi).1)
     have p4:wr.cell? ⟨w.heap.size,4,none⟩=some (.slice a4 st.ai.length c4):=Zc hA 4;have p6:wr.cell? ⟨w.heap.size,6,none⟩=some (.slice a6 st.aj.length c6):=Zc hA 6
     go_wp2
     go_ret
     exact ⟨Zr hfin.out.symm,hb⟩
def mkI (k:Int):Int:=k
theorem Zg7 (ao:Option Addr) (len cap B:Nat) (cs:List Value) (k:Int) (w:World) (hk0:0<k) (hk1:k≤1000000000000) (hlen:len≤1048576) (hpos:0<len) (hown:w.ownsRow B 3 1 (.slice ao len cap) len cs) :
  Calls prog 69 #[.slice ao len cap,.int .i64 k] w fun e w'=>e=.returned (.int .i64 (k+(len:Int)*1))∧w'.ownsRow B 3 1 (.slice ao len cap) len ((Z9 mkI 1 k len).flatMap Zu)∧w.grownBy w' (Value.slice ao len cap).ownBlock:=by
 ·obtain ⟨ao',cap',hv,hcl,_,hg⟩:=Yq hown
  obtain ⟨g,rfl,hgB,hgs⟩:=hg hpos;simp only [Value.slice.injEq,true_and] at hv;obtain ⟨rfl,rfl⟩:=hv;have hml:=ZB mkI 1 k len;have hF0:Q6 Zu 1 B 3 w g len cap (Z9 mkI 1 k len) 0:=Q6.start hown;clear hown
  go_enter func69,ntmps69
  go_wp2
  go_loopw [1,5] (fun k' i wr=>∃ j:Nat,j≤len∧i=.int .i64 j∧k'=.int .i64 (k+(j:Int)*1)∧Q6 Zu 1 B 3 wr g len cap (Z9 mkI 1 k len) j∧w.grownBy wr (some g)) (fun _ i _=>len - (intOf i).toNat)
  case atStart=>exact ⟨0,Nat.zero_le _,rfl,by simp,hF0,JW _ _⟩
  case round =>
   obtain ⟨j,hj,rfl,rfl,hf,hgr⟩:=hrel
   by_cases hlt:j<len
   ·have hx:=Lib.hid (UA mkI 1 k len j hlt)
    simp only [Int.mul_one] at hx;obtain ⟨rest,hrest,hown⟩:=hf;have hcs:=Lib.hid (show ∃ rest':List Value,rest'.length=(len - j)*1∧((Z9 mkI 1 k len).take j).flatMap Zu++rest=((Z9 mkI 1 k len).take j).flatMap Zu++rest' from ⟨rest,hrest,rfl⟩);have hlen2:j*1+1≤(((Z9 mkI 1 k len).take j).flatMap Zu++rest).length:=by
     rw [length_append,XT _ _ encI_len,length_take,hml,hrest];omega
    have hdef:∃ C,C=((Z9 mkI 1 k len).take j).flatMap Zu++rest:=⟨_,rfl⟩;obtain ⟨C,hC⟩:=hdef;rw [← hC] at hown hlen2;rw [← hC] at hcs;have HC:=Lib.hid hC;clear hC hrest hml hF0;have hL:j+1≤C.length:=by omega
    have HT:=JU hown (j) 1 (hL);obtain ⟨q0,hq0⟩:=Option.isSome_iff_exists.1 (HT 0 (by omega)).1;have hz0:=(HT 0 (by omega)).2;simp only [Nat.add_zero] at hq0 hz0;clear HT
    go_wp2
    have hp0:=hown.stored (j+0) (.int .i64 (k+(j:Int)));simp only [Nat.add_zero] at hp0;have hgE:=(X3 hgr hp0.2);have hoE:=hp0.1;have hsp:(C.set (j) (.int .i64 (k+(j:Int))))=YK C (j*1) (Zu (mkI (k+(j:Int)))):=by
     show _=YK C (j*1) [.int .i64 (k+(j:Int))];rw [Nat.mul_one,ZbK _ _ _ (by omega)]
    rw [hsp] at hoE;have hf3:=Q6.next encI_len (ZB mkI 1 k len) hx.out hcs.out hoE
    go_roundw
    case rel=>exact ⟨j+1,by omega,by go_num,by go_num,hf3,hgE⟩
    case measure=>simp [intOf];omega
   ·have hk':j=len:=by omega
    subst hk';have hfd:=Q6.done hf hml;rw [hml] at hfd
    go_wp2
    go_ret
    exact ⟨rfl,hfd,hgr⟩
theorem ZfZ (ao:Option Addr) (cap:Nat) (k:Int) (w:World) :
  Calls prog 69 #[.slice ao 0 cap,.int .i64 k] w fun e w'=>e=.returned (.int .i64 k)∧w=w':=by
 go_enter func69,ntmps69
 go_wp2
 go_loop [1,5] (fun k' i=>i=.int .i64 0∧k'=.int .i64 k) (fun _ _=>0)
 case atStart=>exact ⟨rfl,rfl⟩
 case round =>
  obtain ⟨rfl,rfl⟩:=hrel
  go_wp2
  go_ret
  exact ⟨rfl,rfl⟩
theorem Ze8 (ao:Option Addr) (cap:Nat) (B B1:Nat) (xs:List Int) (k:Int) (w:World) (hk0:0<k) (hk1:k≤1000000000000) (hlen:xs.length≤1048576) (h:RowO Zu 1 3 w B B1 (.slice ao xs.length cap) xs) :
  Calls prog 69 #[.slice ao xs.length cap,.int .i64 k] w fun e w'=>e=.returned (.int .i64 (k+(xs.length:Int)*1))∧RowO Zu 1 3 w' B B1 (.slice ao xs.length cap) (Z9 mkI 1 k xs.length)∧w.grownBy w' (Value.rowBlock (.slice ao xs.length cap)):=by
 have hlt:=h.lt;obtain ⟨ao',cap',hv,hc,hg⟩:=h;simp only [Value.slice.injEq,true_and] at hv;obtain ⟨rfl,rfl⟩:=hv
 by_cases hpos:0<xs.length
 ·rcases hc with ⟨_,hx⟩|hown
  ·rw [hx] at hpos;exact absurd hpos (Nat.lt_irrefl _)
  ·obtain ⟨ao',cap',hv,hcl,_,_⟩:=Yq hown
   simp only [Value.slice.injEq,true_and] at hv;obtain ⟨rfl,rfl⟩:=hv;refine (Zg7 ao xs.length cap B _ k w hk0 hk1 hlen hpos hown).mono ?_;rintro e w' ⟨rfl,h1,h2⟩;rw [Qa (by omega)];refine ⟨rfl,⟨ao,cap,by rw [ZB],.inr (by rw [ZB];exact h1),hg⟩,h2⟩
 ·have hx:xs=[]:=List.length_eq_zero_iff.1 (by omega)
  subst hx;refine (ZfZ ao cap k w).mono ?_;rintro e w' ⟨rfl,rfl⟩;refine ⟨by simp,⟨ao,cap,by rw [ZB],?_,hg⟩,JW _ _⟩;rcases hc with ⟨h0,_⟩|h0
  ·exact .inl ⟨h0,rfl⟩
  ·right
   rw [ZB]
   simpa [Z9] using h0
theorem ZcI (ao:Option Addr) (len cap:Nat) (k:Int) (w:World) (hk0:0<k) (hk1:k≤1000000000000) (hlen:len≤1048576) (hr:Rd Zu 1 w ao len (Z9 mkI 1 k len)) :
  Calls prog 70 #[.slice ao len cap,.int .i64 k] w fun e w'=>e=.returned (.int .i64 (k+(len:Int)*1))∧Below w.heap.size w w':=by
 go_enter func70,ntmps70
 go_wp2
 go_loopw [1,5] (fun k' i wr=>∃ j:Nat,j≤len∧i=.int .i64 j∧k'=.int .i64 (k+(j:Int)*1)∧Below w.heap.size w wr) (fun _ i _=>len - (intOf i).toNat)
 case atStart=>exact ⟨0,Nat.zero_le _,rfl,by simp,Below.refl _ _⟩
 case round =>
  obtain ⟨j,hj,rfl,rfl,hb⟩:=hrel
  by_cases hlt:j<len
  ·obtain ⟨b,off,x,hx0,rfl,hbl,hrg⟩:=hr.at_ j (by rw [hr.len];exact hlt)
   obtain rfl:=Option.some.inj (hx0.symm.trans (UA mkI 1 k len j hlt));clear hx0;have hrg2:=Zq hrg hb hbl;have hbl2:b<wr.heap.size:=Nat.lt_of_lt_of_le hbl hb.size;simp only [Nat.mul_one,Int.mul_one] at hrg2;have c0:wr.cell? ⟨b,off+j,none⟩=some (.int .i64 (k+(j:Int))):=hrg2 0 _ rfl;clear hrg hrg2
   go_wp2
   go_roundw
   case rel=>exact ⟨j+1,by omega,by go_num,by go_num,hb⟩
   case measure=>simp [intOf];omega
  ·have hk':j=len:=by omega
   subst hk'
   go_wp2
   go_ret
   exact ⟨rfl,hb⟩
theorem Zh0 (a0:Option Addr) (c0:Nat) (a1:Option Addr) (c1:Nat) (x:Zp) (B B1:Nat) (k:Int) (w:World) (hk0:0<k) (hk1:k≤100000000000) (hf:x.Fit) (r0:RowO Zu 1 3 w B B1 (.slice a0 x.ab.length c0) x.ab) (r1:RowO Zu 1 3 w B B1 (.slice a1 x.ag.length c1) x.ag) (p0_1:YD (.slice a0 x.ab.length c0) (.slice a1 x.ag.length c1)) (hB:B1≤w.heap.size) :
  Calls prog 38 #[.agg #[.slice a0 x.ab.length c0,.slice a1 x.ag.length c1],.int .i64 k] w fun e w'=>e=.returned (.int .i64 (k+(x.ab.length:Int)*1+(x.ag.length:Int)*1))∧RowO Zu 1 3 w' B B1 (.slice a0 x.ab.length c0) (Z9 mkI 1 (k) x.ab.length)∧RowO Zu 1 3 w' B B1 (.slice a1 x.ag.length c1) (Z9 mkI 1 (k+(x.ab.length:Int)*1) x.ag.length)∧Z1 [.slice a0 x.ab.length c0,.slice a1 x.ag.length c1] w w':=by
 have hO0:Z1 [.slice a0 x.ab.length c0,.slice a1 x.ag.length c1] w (w.alloc (.cells #[.slice a0 x.ab.length c0,.slice a1 x.ag.length c1] 36)):=Z1.alloc _ _ _;have hne0:Value.rowBlock (.slice a0 x.ab.length c0)≠some w.heap.size:=fun e=>by have:=(r0.lt _ e).2.1;omega
 have hne1:Value.rowBlock (.slice a1 x.ag.length c1)≠some w.heap.size:=fun e=>by have:=(r1.lt _ e).2.1;omega
 have hA0:=ZY w (.cells #[.slice a0 x.ab.length c0,.slice a1 x.ag.length c1] 36) _ rfl;have r0:=r0.below ((Below.refl w.heap.size w).alloc (Nat.le_refl _) (.cells #[.slice a0 x.ab.length c0,.slice a1 x.ag.length c1] 36)) (Nat.le_refl _);have r1:=r1.below ((Below.refl w.heap.size w).alloc (Nat.le_refl _) (.cells #[.slice a0 x.ab.length c0,.slice a1 x.ag.length c1] 36)) (Nat.le_refl _)
 go_enter func38,ntmps38
 go_wp2_with fail
 obtain ⟨k1,hk1⟩:∃ z:Int,z=k+(x.ab.length:Int)*1:=⟨_,rfl⟩;have hbk1:0<k1∧k1≤k+10000000:=by
  rw [hk1];have:=hf.f0
  omega
 have Hk1:=Lib.hid hk1;clear hk1;obtain ⟨hbk1a,hbk1b⟩:=hbk1;refine (Ze8 _ _ _ _ _ _ _ (by omega) (by omega) hf.f0 r0).mono ?_;rintro e w1 ⟨rfl,on0,hg1⟩;have hq1:=Z1.one hg1;have r1:=r1.grown hg1 (p0_1).symm;clear r0;have r0:=on0;clear on0 hg1;have hA1:=Za8 hA0 hq1 (Zlx hne0);have hO1:=hO0.trans (hq1.mono (by simp));clear hq1 hA0 hO0;rw [← Hk1.out];have pa1:w1.cell? ⟨w.heap.size,1,none⟩=some (.slice a1 x.ag.length c1):=Zc hA1 1
 go_wp2_with fail
 obtain ⟨k2,hk2⟩:∃ z:Int,z=k1+(x.ag.length:Int)*1:=⟨_,rfl⟩;have hbk2:0<k2∧k2≤k1+10000000:=by
  rw [hk2];have:=hf.f1
  omega
 have Hk2:=Lib.hid hk2;clear hk2;obtain ⟨hbk2a,hbk2b⟩:=hbk2;refine (Ze8 _ _ _ _ _ _ _ (by omega) (by omega) hf.f1 r1).mono ?_;rintro e w2 ⟨rfl,on1,hg2⟩;have hq2:=Z1.one hg2;have r0:=r0.grown hg2 p0_1;clear r1;have r1:=on1;clear on1 hg2;have hA2:=Za8 hA1 hq2 (Zlx hne1);have hO2:=hO1.trans (hq2.mono (by simp));clear hq2 hA1 hO1;rw [← Hk2.out];clear pa1
 go_wp2
 go_ret
 obtain rfl:=Hk1.out;obtain rfl:=Hk2.out;exact ⟨rfl,r0,r1,hO2⟩
theorem Zh1 (a0:Option Addr) (c0:Nat) (a1:Option Addr) (c1:Nat) (x:Zp) (k:Int) (w:World) (hk0:0<k) (hk1:k≤100000000000) (hf:x.Fit) (r0:Rd Zu 1 w a0 x.ab.length (Z9 mkI 1 (k) x.ab.length)) (r1:Rd Zu 1 w a1 x.ag.length (Z9 mkI 1 (k+(x.ab.length:Int)*1) x.ag.length)) :
  Calls prog 41 #[.agg #[.slice a0 x.ab.length c0,.slice a1 x.ag.length c1],.int .i64 k] w fun e w'=>e=.returned (.int .i64 (k+(x.ab.length:Int)*1+(x.ag.length:Int)*1))∧Below w.heap.size w w':=by
 have hb0:Below w.heap.size w (w.alloc (.cells #[.slice a0 x.ab.length c0,.slice a1 x.ag.length c1] 36)):=(Below.refl _ _).alloc (Nat.le_refl _) _;have hA0:=ZY w (.cells #[.slice a0 x.ab.length c0,.slice a1 x.ag.length c1] 36) _ rfl;obtain ⟨k1,hk1⟩:∃ z:Int,z=k+(x.ab.length:Int)*1:=⟨_,rfl⟩;have hbk1:0<k1∧k1≤k+10000000:=by
  rw [hk1];have:=hf.f0
  omega
 rw [← hk1] at r1;have Hk1:=Lib.hid hk1;clear hk1;obtain ⟨hbk1a,hbk1b⟩:=hbk1;obtain ⟨k2,hk2⟩:∃ z:Int,z=k1+(x.ag.length:Int)*1:=⟨_,rfl⟩;have hbk2:0<k2∧k2≤k1+10000000:=by
  rw [hk2];have:=hf.f1
  omega
 have Hk2:=Lib.hid hk2;clear hk2;obtain ⟨hbk2a,hbk2b⟩:=hbk2
 go_enter func41,ntmps41
 go_wp2_with fail
 refine (ZcI _ _ _ _ _ (by omega) (by omega) hf.f0 (r0.below hb0)).mono ?_;rintro e w1 ⟨rfl,b1⟩;rw [← Hk1.out];have hA1:=Ze hA0 b1 (Nat.le_refl _);have hb1:=hb0.trans (b1.mono hb0.size);clear b1 hA0;have pa1:w1.cell? ⟨w.heap.size,1,none⟩=some (.slice a1 x.ag.length c1):=Zc hA1 1
 go_wp2_with fail
 refine (ZcI _ _ _ _ _ (by omega) (by omega) hf.f1 (r1.below hb1)).mono ?_;rintro e w2 ⟨rfl,b2⟩;rw [← Hk2.out];have hA2:=Ze hA1 b2 (Nat.le_refl _);have hb2:=hb1.trans (b2.mono hb1.size);clear b2 hA1;clear pa1
 go_wp2
 go_ret
 obtain rfl:=Hk1.out;obtain rfl:=Hk2.out;exact ⟨rfl,hb2⟩
def Jr (k:Int):PtrD:={ aA:=(k),ah:=(k+1),al:=(k+1+1),ax:=(k+1+1+1),ak:=(k+1+1+1+1) }
theorem Zg8 (ao:Option Addr) (len cap B:Nat) (cs:List Value) (k:Int) (w:World) (hk0:0<k) (hk1:k≤1000000000000) (hlen:len≤1048576) (hpos:0<len) (hown:w.ownsRow B 40 5 (.slice ao len cap) len cs) :
  Calls prog 39 #[.slice ao len cap,.int .i64 k] w fun e w'=>e=.returned (.int .i64 (k+(len:Int)*5))∧w'.ownsRow B 40 5 (.slice ao len cap) len ((Z9 Jr 5 k len).flatMap PtrD.cells)∧w.grownBy w' (Value.slice ao len cap).ownBlock:=by
 ·obtain ⟨ao',cap',hv,hcl,_,hg⟩:=Yq hown
  obtain ⟨g,rfl,hgB,hgs⟩:=hg hpos;simp only [Value.slice.injEq,true_and] at hv;obtain ⟨rfl,rfl⟩:=hv;have hml:=ZB Jr 5 k len;have hF0:Q6 PtrD.cells 5 B 40 w g len cap (Z9 Jr 5 k len) 0:=Q6.start hown;clear hown
  go_enter func39,ntmps39
  go_wp2
  go_loopw [1,5] (fun k' i wr=>∃ j:Nat,j≤len∧i=.int .i64 j∧k'=.int .i64 (k+(j:Int)*5)∧Q6 PtrD.cells 5 B 40 wr g len cap (Z9 Jr 5 k len) j∧w.grownBy wr (some g)) (fun _ i _=>len - (intOf i).toNat)
  case atStart=>exact ⟨0,Nat.zero_le _,rfl,by simp,hF0,JW _ _⟩
  case round =>
   obtain ⟨j,hj,rfl,rfl,hf,hgr⟩:=hrel
   by_cases hlt:j<len
   ·have hx:=Lib.hid (UA Jr 5 k len j hlt)
    obtain ⟨rest,hrest,hown⟩:=hf;have hcs:=Lib.hid (show ∃ rest':List Value,rest'.length=(len - j)*5∧((Z9 Jr 5 k len).take j).flatMap PtrD.cells++rest=((Z9 Jr 5 k len).take j).flatMap PtrD.cells++rest' from ⟨rest,hrest,rfl⟩);have hlen2:j*5+5≤(((Z9 Jr 5 k len).take j).flatMap PtrD.cells++rest).length:=by
     rw [length_append,XT _ _ PtrD.cells_len,length_take,hml,hrest];omega
    have hdef:∃ C,C=((Z9 Jr 5 k len).take j).flatMap PtrD.cells++rest:=⟨_,rfl⟩;obtain ⟨C,hC⟩:=hdef;rw [← hC] at hown hlen2;rw [← hC] at hcs;have HC:=Lib.hid hC;clear hC hrest hml hF0;have hL:j*5+5≤C.length:=by omega
    have HT:=JU hown (j*5) 5 (hL);obtain ⟨q0,hq0⟩:=Option.isSome_iff_exists.1 (HT 0 (by omega)).1;have hz0:=(HT 0 (by omega)).2;obtain ⟨q1,hq1⟩:=Option.isSome_iff_exists.1 (HT 1 (by omega)).1;have hz1:=(HT 1 (by omega)).2;obtain ⟨q2,hq2⟩:=Option.isSome_iff_exists.1 (HT 2 (by omega)).1;have hz2:=(HT 2 (by omega)).2;obtain ⟨q3,hq3⟩:=Option.isSome_iff_exists.1 (HT 3 (by omega)).1;have hz3:=(HT 3 (by omega)).2;obtain ⟨q4,hq4⟩:=Option.isSome_iff_exists.1 (HT 4 (by omega)).1;have hz4:=(HT 4 (by omega)).2;simp only [Nat.add_zero] at hq0 hz0 hq1 hz1 hq2 hz2 hq3 hz3 hq4 hz4;clear HT
    go_wp2
    have hp0:=hown.stored (j*5+0) (.int .i64 (k+(j:Int)*5));simp only [Nat.add_zero] at hp0;have hp1:=hp0.1.stored (j*5+1) (.int .i64 ((k+(j:Int)*5)+1));have hp2:=hp1.1.stored (j*5+2) (.int .i64 ((k+(j:Int)*5)+1+1));have hp3:=hp2.1.stored (j*5+3) (.int .i64 ((k+(j:Int)*5)+1+1+1));have hp4:=hp3.1.stored (j*5+4) (.int .i64 ((k+(j:Int)*5)+1+1+1+1));have hgE:=(X3 (X3 (X3 (X3 (X3 hgr hp0.2) hp1.2) hp2.2) hp3.2) hp4.2);have hoE:=hp4.1;have hsp:(((((C.set (j*5) (.int .i64 (k+(j:Int)*5))).set (j*5+1) (.int .i64 ((k+(j:Int)*5)+1))).set (j*5+2) (.int .i64 ((k+(j:Int)*5)+1+1))).set (j*5+3) (.int .i64 ((k+(j:Int)*5)+1+1+1))).set (j*5+4) (.int .i64 ((k+(j:Int)*5)+1+1+1+1)))=YK C (j*5) (PtrD.cells (Jr (k+(j:Int)*5))):=by
     show _=YK C (j*5) [.int .i64 (k+(j:Int)*5),.int .i64 ((k+(j:Int)*5)+1),.int .i64 ((k+(j:Int)*5)+1+1),.int .i64 ((k+(j:Int)*5)+1+1+1),.int .i64 ((k+(j:Int)*5)+1+1+1+1)];rw [← Qy _ (j*5) _ _ (by simp;omega)];rw [← Qy _ (j*5+1) _ _ (by simp;omega)];rw [← Qy _ (j*5+1+1) _ _ (by simp;omega)];rw [← Qy _ (j*5+1+1+1) _ _ (by simp;omega)];rw [ZbK _ _ _ (by simp;omega)]
    rw [hsp] at hoE;have hf3:=Q6.next PtrD.cells_len (ZB Jr 5 k len) hx.out hcs.out hoE
    go_roundw
    case rel=>exact ⟨j+1,by omega,by go_num,by go_num,hf3,hgE⟩
    case measure=>simp [intOf];omega
   ·have hk':j=len:=by omega
    subst hk';have hfd:=Q6.done hf hml;rw [hml] at hfd
    go_wp2
    go_ret
    exact ⟨rfl,hfd,hgr⟩
theorem Zf0 (ao:Option Addr) (cap:Nat) (k:Int) (w:World) :
  Calls prog 39 #[.slice ao 0 cap,.int .i64 k] w fun e w'=>e=.returned (.int .i64 k)∧w=w':=by
 go_enter func39,ntmps39
 go_wp2
 go_loop [1,5] (fun k' i=>i=.int .i64 0∧k'=.int .i64 k) (fun _ _=>0)
 case atStart=>exact ⟨rfl,rfl⟩
 case round =>
  obtain ⟨rfl,rfl⟩:=hrel
  go_wp2
  go_ret
  exact ⟨rfl,rfl⟩
theorem Ze9 (ao:Option Addr) (cap:Nat) (B B1:Nat) (xs:List PtrD) (k:Int) (w:World) (hk0:0<k) (hk1:k≤1000000000000) (hlen:xs.length≤1048576) (h:RowO PtrD.cells 5 40 w B B1 (.slice ao xs.length cap) xs) :
  Calls prog 39 #[.slice ao xs.length cap,.int .i64 k] w fun e w'=>e=.returned (.int .i64 (k+(xs.length:Int)*5))∧RowO PtrD.cells 5 40 w' B B1 (.slice ao xs.length cap) (Z9 Jr 5 k xs.length)∧w.grownBy w' (Value.rowBlock (.slice ao xs.length cap)):=by
 have hlt:=h.lt;obtain ⟨ao',cap',hv,hc,hg⟩:=h;simp only [Value.slice.injEq,true_and] at hv;obtain ⟨rfl,rfl⟩:=hv
 by_cases hpos:0<xs.length
 ·rcases hc with ⟨_,hx⟩|hown
  ·rw [hx] at hpos;exact absurd hpos (Nat.lt_irrefl _)
  ·obtain ⟨ao',cap',hv,hcl,_,_⟩:=Yq hown
   simp only [Value.slice.injEq,true_and] at hv;obtain ⟨rfl,rfl⟩:=hv;refine (Zg8 ao xs.length cap B _ k w hk0 hk1 hlen hpos hown).mono ?_;rintro e w' ⟨rfl,h1,h2⟩;rw [Qa (by omega)];refine ⟨rfl,⟨ao,cap,by rw [ZB],.inr (by rw [ZB];exact h1),hg⟩,h2⟩
 ·have hx:xs=[]:=List.length_eq_zero_iff.1 (by omega)
  subst hx;refine (Zf0 ao cap k w).mono ?_;rintro e w' ⟨rfl,rfl⟩;refine ⟨by simp,⟨ao,cap,by rw [ZB],?_,hg⟩,JW _ _⟩;rcases hc with ⟨h0,_⟩|h0
  ·exact .inl ⟨h0,rfl⟩
  ·right
   rw [ZB]
   simpa [Z9] using h0
theorem ZcJ (ao:Option Addr) (len cap:Nat) (k:Int) (w:World) (hk0:0<k) (hk1:k≤1000000000000) (hlen:len≤1048576) (hr:Rd PtrD.cells 5 w ao len (Z9 Jr 5 k len)) :
  Calls prog 42 #[.slice ao len cap,.int .i64 k] w fun e w'=>e=.returned (.int .i64 (k+(len:Int)*5))∧Below w.heap.size w w':=by
 go_enter func42,ntmps42
 go_wp2
 go_loopw [1,5] (fun k' i wr=>∃ j:Nat,j≤len∧i=.int .i64 j∧k'=.int .i64 (k+(j:Int)*5)∧Below w.heap.size w wr) (fun _ i _=>len - (intOf i).toNat)
 case atStart=>exact ⟨0,Nat.zero_le _,rfl,by simp,Below.refl _ _⟩
 case round =>
  obtain ⟨j,hj,rfl,rfl,hb⟩:=hrel
  by_cases hlt:j<len
  ·obtain ⟨b,off,x,hx0,rfl,hbl,hrg⟩:=hr.at_ j (by rw [hr.len];exact hlt)
   obtain rfl:=Option.some.inj (hx0.symm.trans (UA Jr 5 k len j hlt));clear hx0;have hrg2:=Zq hrg hb hbl;have hbl2:b<wr.heap.size:=Nat.lt_of_lt_of_le hbl hb.size;have c0:wr.cell? ⟨b,off+j*5,none⟩=some (.int .i64 (k+(j:Int)*5)):=hrg2 0 _ rfl;have c1:wr.cell? ⟨b,off+j*5+1,none⟩=some (.int .i64 ((k+(j:Int)*5)+1)):=hrg2 1 _ rfl;have c2:wr.cell? ⟨b,off+j*5+2,none⟩=some (.int .i64 ((k+(j:Int)*5)+1+1)):=hrg2 2 _ rfl;have c3:wr.cell? ⟨b,off+j*5+3,none⟩=some (.int .i64 ((k+(j:Int)*5)+1+1+1)):=hrg2 3 _ rfl;have c4:wr.cell? ⟨b,off+j*5+4,none⟩=some (.int .i64 ((k+(j:Int)*5)+1+1+1+1)):=hrg2 4 _ rfl;clear hrg hrg2
   go_wp2
   go_roundw
   case rel=>exact ⟨j+1,by omega,by go_num,by go_num,hb⟩
   case measure=>simp [intOf];omega
  ·have hk':j=len:=by omega
   subst hk'
   go_wp2
   go_ret
   exact ⟨rfl,hb⟩
def Za.marked (x:Za) (k:Int):Za:={ af:=Z9 QF 1 (k) x.af.length,aa:={ ab:=Z9 mkI 1 (k+(x.af.length:Int)*1) x.aa.ab.length,ag:=Z9 mkI 1 (k+(x.af.length:Int)*1+(x.aa.ab.length:Int)*1) x.aa.ag.length },aq:=x.aq,ai:=Z9 Jr 5 (k+(x.af.length:Int)*1+(x.aa.ab.length:Int)*1+(x.aa.ag.length:Int)*1) x.ai.length,ar:=x.ar,aj:=Z9 Jr 5 (k+(x.af.length:Int)*1+(x.aa.ab.length:Int)*1+(x.aa.ag.length:Int)*1+(x.ai.length:Int)*5) x.aj.length,au:=x.au }
def Za.past (x:Za) (k:Int):Int:=k+(x.af.length:Int)*1+(x.aa.ab.length:Int)*1+(x.aa.ag.length:Int)*1+(x.ai.length:Int)*5+(x.aj.length:Int)*5
theorem Zh2 (a0:Option Addr) (c0:Nat) (a1:Option Addr) (c1:Nat) (a2:Option Addr) (c2:Nat) (a4:Option Addr) (c4:Nat) (a6:Option Addr) (c6:Nat) (x:Za) (B B1:Nat) (k:Int) (w:World) (hk0:0<k) (hk1:k≤1000000000) (hf:x.Fit) (r0:RowO Zt 1 9 w B B1 (.slice a0 x.af.length c0) x.af) (r1:RowO Zu 1 3 w B B1 (.slice a1 x.aa.ab.length c1) x.aa.ab) (r2:RowO Zu 1 3 w B B1 (.slice a2 x.aa.ag.length c2) x.aa.ag) (r4:RowO PtrD.cells 5 40 w B B1 (.slice a4 x.ai.length c4) x.ai) (r6:RowO PtrD.cells 5 40 w B B1 (.slice a6 x.aj.length c6) x.aj) (p0_1:YD (.slice a0 x.af.length c0) (.slice a1 x.aa.ab.length c1)) (p0_2:YD (.slice a0 x.af.length c0) (.slice a2 x.aa.ag.length c2)) (p0_4:YD (.slice a0 x.af.length c0) (.slice a4 x.ai.length c4)) (p0_6:YD (.slice a0 x.af.length c0) (.slice a6 x.aj.length c6)) (p1_2:YD (.slice a1 x.aa.ab.length c1) (.slice a2 x.aa.ag.length c2)) (p1_4:YD (.slice a1 x.aa.ab.length c1) (.slice a4 x.ai.length c4)) (p1_6:YD (.slice a1 x.aa.ab.length c1) (.slice a6 x.aj.length c6)) (p2_4:YD (.slice a2 x.aa.ag.length c2) (.slice a4 x.ai.length c4)) (p2_6:YD (.slice a2 x.aa.ag.length c2) (.slice a6 x.aj.length c6)) (p4_6:YD (.slice a4 x.ai.length c4) (.slice a6 x.aj.length c6)) (hB:B1≤w.heap.size) :
  Calls prog 12 #[.agg #[.slice a0 x.af.length c0,.slice a1 x.aa.ab.length c1,.slice a2 x.aa.ag.length c2,.int .i64 x.aq,.slice a4 x.ai.length c4,.int .i64 x.ar,.slice a6 x.aj.length c6,.bool x.au],.int .i64 k] w fun e w'=>e=.returned (.int .i64 (k+(x.af.length:Int)*1+(x.aa.ab.length:Int)*1+(x.aa.ag.length:Int)*1+(x.ai.length:Int)*5+(x.aj.length:Int)*5))∧RowO Zt 1 9 w' B B1 (.slice a0 x.af.length c0) (Z9 QF 1 (k) x.af.length)∧RowO Zu 1 3 w' B B1 (.slice a1 x.aa.ab.length c1) (Z9 mkI 1 (k+(x.af.length:Int)*1) x.aa.ab.length)∧RowO Zu 1 3 w' B B1 (.slice a2 x.aa.ag.length c2) (Z9 mkI 1 (k+(x.af.length:Int)*1+(x.aa.ab.length:Int)*1) x.aa.ag.length)∧RowO PtrD.cells 5 40 w' B B1 (.slice a4 x.ai.length c4) (Z9 Jr 5 (k+(x.af.length:Int)*1+(x.aa.ab.length:Int)*1+(x.aa.ag.length:Int)*1) x.ai.length)∧RowO PtrD.cells 5 40 w' B B1 (.slice a6 x.aj.length c6) (Z9 Jr 5 (k+(x.af.length:Int)*1+(x.aa.ab.length:Int)*1+(x.aa.ag.length:Int)*1+(x.ai.length:Int)*5) x.aj.length)∧Z1 [.slice a0 x.af.length c0,.slice a1 x.aa.ab.length c1,.slice a2 x.aa.ag.length c2,.slice a4 x.ai.length c4,.slice a6 x.aj.length c6] w w':=by
 have hO0:Z1 [.slice a0 x.af.length c0,.slice a1 x.aa.ab.length c1,.slice a2 x.aa.ag.length c2,.slice a4 x.ai.length c4,.slice a6 x.aj.length c6] w (w.alloc (.cells #[.slice a0 x.af.length c0,.slice a1 x.aa.ab.length c1,.slice a2 x.aa.ag.length c2,.int .i64 x.aq,.slice a4 x.ai.length c4,.int .i64 x.ar,.slice a6 x.aj.length c6,.bool x.au] 39)):=Z1.alloc _ _ _;have hne0:Value.rowBlock (.slice a0 x.af.length c0)≠some w.heap.size:=fun e=>by have:=(r0.lt _ e).2.1;omega
 have hne1:Value.rowBlock (.slice a1 x.aa.ab.length c1)≠some w.heap.size:=fun e=>by have:=(r1.lt _ e).2.1;omega
 have hne2:Value.rowBlock (.slice a2 x.aa.ag.length c2)≠some w.heap.size:=fun e=>by have:=(r2.lt _ e).2.1;omega
 have hne4:Value.rowBlock (.slice a4 x.ai.length c4)≠some w.heap.size:=fun e=>by have:=(r4.lt _ e).2.1;omega
 have hne6:Value.rowBlock (.slice a6 x.aj.length c6)≠some w.heap.size:=fun e=>by have:=(r6.lt _ e).2.1;omega
 have hA0:=ZY w (.cells #[.slice a0 x.af.length c0,.slice a1 x.aa.ab.length c1,.slice a2 x.aa.ag.length c2,.int .i64 x.aq,.slice a4 x.ai.length c4,.int .i64 x.ar,.slice a6 x.aj.length c6,.bool x.au] 39) _ rfl;have r0:=r0.below ((Below.refl w.heap.size w).alloc (Nat.le_refl _) (.cells #[.slice a0 x.af.length c0,.slice a1 x.aa.ab.length c1,.slice a2 x.aa.ag.length c2,.int .i64 x.aq,.slice a4 x.ai.length c4,.int .i64 x.ar,.slice a6 x.aj.length c6,.bool x.au] 39)) (Nat.le_refl _);have r1:=r1.below ((Below.refl w.heap.size w).alloc (Nat.le_refl _) (.cells #[.slice a0 x.af.length c0,.slice a1 x.aa.ab.length c1,.slice a2 x.aa.ag.length c2,.int .i64 x.aq,.slice a4 x.ai.length c4,.int .i64 x.ar,.slice a6 x.aj.length c6,.bool x.au] 39)) (Nat.le_refl _);have r2:=r2.below ((Below.refl w.heap.size w).alloc (Nat.le_refl _) (.cells #[.slice a0 x.af.length c0,.slice a1 x.aa.ab.length c1,.slice a2 x.aa.ag.length c2,.int .i64 x.aq,.slice a4 x.ai.length c4,.int .i64 x.ar,.slice a6 x.aj.length c6,.bool x.au] 39)) (Nat.le_refl _);have r4:=r4.below ((Below.refl w.heap.size w).alloc (Nat.le_refl _) (.cells #[.slice a0 x.af.length c0,.slice a1 x.aa.ab.length c1,.slice a2 x.aa.ag.length c2,.int .i64 x.aq,.slice a4 x.ai.length c4,.int .i64 x.ar,.slice a6 x.aj.length c6,.bool x.au] 39)) (Nat.le_refl _);have r6:=r6.below ((Below.refl w.heap.size w).alloc (Nat.le_refl _) (.cells #[.slice a0 x.af.length c0,.slice a1 x.aa.ab.length c1,.slice a2 x.aa.ag.length c2,.int .i64 x.aq,.slice a4 x.ai.length c4,.int .i64 x.ar,.slice a6 x.aj.length c6,.bool x.au] 39)) (Nat.le_refl _)
 go_enter func12,ntmps12
 go_wp2_with fail
 obtain ⟨k1,hk1⟩:∃ z:Int,z=k+(x.af.length:Int)*1:=⟨_,rfl⟩;have hbk1:0<k1∧k1≤k+10000000:=by
  rw [hk1];have:=hf.f0
  omega
 have Hk1:=Lib.hid hk1;clear hk1;obtain ⟨hbk1a,hbk1b⟩:=hbk1;refine (ZfX _ _ _ _ _ _ _ (by omega) (by omega) hf.f0 r0).mono ?_;rintro e w1 ⟨rfl,on0,hg1⟩;have hq1:=Z1.one hg1;have r1:=r1.grown hg1 (p0_1).symm;have r2:=r2.grown hg1 (p0_2).symm;have r4:=r4.grown hg1 (p0_4).symm;have r6:=r6.grown hg1 (p0_6).symm;clear r0;have r0:=on0;clear on0 hg1;have hA1:=Za8 hA0 hq1 (Zlx hne0);have hO1:=hO0.trans (hq1.mono (by simp));clear hq1 hA0 hO0;rw [← Hk1.out];have pa1:w1.cell? ⟨w.heap.size,1,none⟩=some (.slice a1 x.aa.ab.length c1):=Zc hA1 1;have pa2:w1.cell? ⟨w.heap.size,2,none⟩=some (.slice a2 x.aa.ag.length c2):=Zc hA1 2
 go_wp2_with fail
 obtain ⟨k2,hk2⟩:∃ z:Int,z=k1+(x.aa.ab.length:Int)*1+(x.aa.ag.length:Int)*1:=⟨_,rfl⟩;have hbk2:0<k2∧k2≤k1+20000000:=by
  rw [hk2];have:=hf.f1;have:=hf.f2
  omega
 have Hk2:=Lib.hid hk2;clear hk2;obtain ⟨hbk2a,hbk2b⟩:=hbk2;refine (Zh0 _ _ _ _ x.aa B B1 _ _ (by omega) (by omega) ⟨hf.f1,hf.f2⟩ r1 r2 p1_2 ?_).mono ?_
 ·have:=hO1.size;omega
 rintro e w2 ⟨rfl,rn1,rn2,hq2⟩;have r0:=r0.all hq2 (Znx p0_1 p0_2);have r4:=r4.all hq2 (Znx (p1_4).symm (p2_4).symm);have r6:=r6.all hq2 (Znx (p1_6).symm (p2_6).symm);clear r1;have r1:=rn1;clear rn1;clear r2;have r2:=rn2;clear rn2;have hA2:=Za8 hA1 hq2 (Znx hne1 hne2);have hO2:=hO1.trans (hq2.mono (by simp));clear hq2 hA1 hO1;rw [← Hk2.out];clear pa1 pa2;have pa4:w2.cell? ⟨w.heap.size,4,none⟩=some (.slice a4 x.ai.length c4):=Zc hA2 4
 go_wp2_with fail
 obtain ⟨k3,hk3⟩:∃ z:Int,z=k2+(x.ai.length:Int)*5:=⟨_,rfl⟩;have hbk3:0<k3∧k3≤k2+10000000:=by
  rw [hk3];have:=hf.f4
  omega
 have Hk3:=Lib.hid hk3;clear hk3;obtain ⟨hbk3a,hbk3b⟩:=hbk3;refine (Ze9 _ _ _ _ _ _ _ (by omega) (by omega) hf.f4 r4).mono ?_;rintro e w3 ⟨rfl,on4,hg3⟩;have hq3:=Z1.one hg3;have r0:=r0.grown hg3 p0_4;have r1:=r1.grown hg3 p1_4;have r2:=r2.grown hg3 p2_4;have r6:=r6.grown hg3 (p4_6).symm;clear r4;have r4:=on4;clear on4 hg3;have hA3:=Za8 hA2 hq3 (Zlx hne4);have hO3:=hO2.trans (hq3.mono (by simp));clear hq3 hA2 hO2;rw [← Hk3.out];clear pa4;have pa6:w3.cell? ⟨w.heap.size,6,none⟩=some (.slice a6 x.aj.length c6):=Zc hA3 6
 go_wp2_with fail
 obtain ⟨k4,hk4⟩:∃ z:Int,z=k3+(x.aj.length:Int)*5:=⟨_,rfl⟩;have hbk4:0<k4∧k4≤k3+10000000:=by
  rw [hk4];have:=hf.f6
  omega
 have Hk4:=Lib.hid hk4;clear hk4;obtain ⟨hbk4a,hbk4b⟩:=hbk4;refine (Ze9 _ _ _ _ _ _ _ (by omega) (by omega) hf.f6 r6).mono ?_;rintro e w4 ⟨rfl,on6,hg4⟩;have hq4:=Z1.one hg4;have r0:=r0.grown hg4 p0_6;have r1:=r1.grown hg4 p1_6;have r2:=r2.grown hg4 p2_6;have r4:=r4.grown hg4 p4_6;clear r6;have r6:=on6;clear on6 hg4;have hA4:=Za8 hA3 hq4 (Zlx hne6);have hO4:=hO3.trans (hq4.mono (by simp));clear hq4 hA3 hO3;rw [← Hk4.out];clear pa6
 go_wp2
 go_ret
 obtain rfl:=Hk1.out;obtain rfl:=Hk2.out;obtain rfl:=Hk3.out;obtain rfl:=Hk4.out;exact ⟨rfl,r0,r1,r2,r4,r6,hO4⟩
theorem ZbF (v:Value) (x:Za) (B B1:Nat) (k:Int) (w:World) (hk0:0<k) (hk1:k≤1000000000) (hf:x.Fit) (ho:Za.Own w B B1 v x) (hB:B1≤w.heap.size) :
  Calls prog 12 #[v,.int .i64 k] w fun e w'=>e=.returned (.int .i64 (x.past k))∧Za.Own w' B B1 v (x.marked k)∧YA B B1 w w':=by
 obtain ⟨a0,c0,a1,c1,a2,c2,a4,c4,a6,c6,rfl,r0,r1,r2,r4,r6,p0_1,p0_2,p0_4,p0_6,p1_2,p1_4,p1_6,p2_4,p2_6,p4_6⟩:=ho;refine (Zh2 a0 c0 a1 c1 a2 c2 a4 c4 a6 c6 x B B1 k w hk0 hk1 hf r0 r1 r2 r4 r6 p0_1 p0_2 p0_4 p0_6 p1_2 p1_4 p1_6 p2_4 p2_6 p4_6 hB).mono ?_;rintro e w' ⟨rfl,q0,q1,q2,q4,q6,hO⟩;have hO:=hO.outside (B:=B) (B1:=B1) (Zpx (fun g h=>⟨(r0.lt g h).1,(r0.lt g h).2.1⟩) (fun g h=>⟨(r1.lt g h).1,(r1.lt g h).2.1⟩) (fun g h=>⟨(r2.lt g h).1,(r2.lt g h).2.1⟩) (fun g h=>⟨(r4.lt g h).1,(r4.lt g h).2.1⟩) (fun g h=>⟨(r6.lt g h).1,(r6.lt g h).2.1⟩));refine ⟨rfl,⟨a0,c0,a1,c1,a2,c2,a4,c4,a6,c6,by simp only [Za.marked,ZB],?_,?_,?_,?_,?_,?_,?_,?_,?_,?_,?_,?_,?_,?_,?_⟩,hO⟩
 ·simp only [Za.marked,ZB];exact q0
 ·simp only [Za.marked,ZB];exact q1
 ·simp only [Za.marked,ZB];exact q2
 ·simp only [Za.marked,ZB];exact q4
 ·simp only [Za.marked,ZB];exact q6
 ·simp only [Za.marked,ZB];exact p0_1
 ·simp only [Za.marked,ZB];exact p0_2
 ·simp only [Za.marked,ZB];exact p0_4
 ·simp only [Za.marked,ZB];exact p0_6
 ·simp only [Za.marked,ZB];exact p1_2
 ·simp only [Za.marked,ZB];exact p1_4
 ·simp only [Za.marked,ZB];exact p1_6
 ·simp only [Za.marked,ZB];exact p2_4
 ·simp only [Za.marked,ZB];exact p2_6
 ·simp only [Za.marked,ZB];exact p4_6
theorem Zh3 (a0:Option Addr) (c0:Nat) (a1:Option Addr) (c1:Nat) (a2:Option Addr) (c2:Nat) (a4:Option Addr) (c4:Nat) (a6:Option Addr) (c6:Nat) (x:Za) (k:Int) (w:World) (hk0:0<k) (hk1:k≤1000000000) (hf:x.Fit) (r0:Rd Zt 1 w a0 x.af.length (Z9 QF 1 (k) x.af.length)) (r1:Rd Zu 1 w a1 x.aa.ab.length (Z9 mkI 1 (k+(x.af.length:Int)*1) x.aa.ab.length)) (r2:Rd Zu 1 w a2 x.aa.ag.length (Z9 mkI 1 (k+(x.af.length:Int)*1+(x.aa.ab.length:Int)*1) x.aa.ag.length)) (r4:Rd PtrD.cells 5 w a4 x.ai.length (Z9 Jr 5 (k+(x.af.length:Int)*1+(x.aa.ab.length:Int)*1+(x.aa.ag.length:Int)*1) x.ai.length)) (r6:Rd PtrD.cells 5 w a6 x.aj.length (Z9 Jr 5 (k+(x.af.length:Int)*1+(x.aa.ab.length:Int)*1+(x.aa.ag.length:Int)*1+(x.ai.length:Int)*5) x.aj.length)) :
  Calls prog 13 #[.agg #[.slice a0 x.af.length c0,.slice a1 x.aa.ab.length c1,.slice a2 x.aa.ag.length c2,.int .i64 x.aq,.slice a4 x.ai.length c4,.int .i64 x.ar,.slice a6 x.aj.length c6,.bool x.au],.int .i64 k] w fun e w'=>e=.returned (.int .i64 (k+(x.af.length:Int)*1+(x.aa.ab.length:Int)*1+(x.aa.ag.length:Int)*1+(x.ai.length:Int)*5+(x.aj.length:Int)*5))∧Below w.heap.size w w':=by
 have hb0:Below w.heap.size w (w.alloc (.cells #[.slice a0 x.af.length c0,.slice a1 x.aa.ab.length c1,.slice a2 x.aa.ag.length c2,.int .i64 x.aq,.slice a4 x.ai.length c4,.int .i64 x.ar,.slice a6 x.aj.length c6,.bool x.au] 39)):=(Below.refl _ _).alloc (Nat.le_refl _) _;have hA0:=ZY w (.cells #[.slice a0 x.af.length c0,.slice a1 x.aa.ab.length c1,.slice a2 x.aa.ag.length c2,.int .i64 x.aq,.slice a4 x.ai.length c4,.int .i64 x.ar,.slice a6 x.aj.length c6,.bool x.au] 39) _ rfl;obtain ⟨k1,hk1⟩:∃ z:Int,z=k+(x.af.length:Int)*1:=⟨_,rfl⟩;have hbk1:0<k1∧k1≤k+10000000:=by
  rw [hk1];have:=hf.f0
  omega
 rw [← hk1] at r1 r2 r4 r6;have Hk1:=Lib.hid hk1;clear hk1;obtain ⟨hbk1a,hbk1b⟩:=hbk1;obtain ⟨k2,hk2⟩:∃ z:Int,z=k1+(x.aa.ab.length:Int)*1+(x.aa.ag.length:Int)*1:=⟨_,rfl⟩;have hbk2:0<k2∧k2≤k1+20000000:=by
  rw [hk2];have:=hf.f1;have:=hf.f2
  omega
 rw [← hk2] at r4 r6;have Hk2:=Lib.hid hk2;clear hk2;obtain ⟨hbk2a,hbk2b⟩:=hbk2;obtain ⟨k3,hk3⟩:∃ z:Int,z=k2+(x.ai.length:Int)*5:=⟨_,rfl⟩;have hbk3:0<k3∧k3≤k2+10000000:=by
  rw [hk3];have:=hf.f4
  omega
 rw [← hk3] at r6;have Hk3:=Lib.hid hk3;clear hk3;obtain ⟨hbk3a,hbk3b⟩:=hbk3;obtain ⟨k4,hk4⟩:∃ z:Int,z=k3+(x.aj.length:Int)*5:=⟨_,rfl⟩;have hbk4:0<k4∧k4≤k3+10000000:=by
  rw [hk4];have:=hf.f6
  omega
 have Hk4:=Lib.hid hk4;clear hk4;obtain ⟨hbk4a,hbk4b⟩:=hbk4
 go_enter func13,ntmps13
 go_wp2_with fail
 refine (ZdZ _ _ _ _ _ (by omega) (by omega) hf.f0 (r0.below hb0)).mono ?_;rintro e w1 ⟨rfl,b1⟩;rw [← Hk1.out];have hA1:=Ze hA0 b1 (Nat.le_refl _);have hb1:=hb0.trans (b1.mono hb0.size);clear b1 hA0;have pa1:w1.cell? ⟨w.heap.size,1,none⟩=some (.slice a1 x.aa.ab.length c1):=Zc hA1 1;have pa2:w1.cell? ⟨w.heap.size,2,none⟩=some (.slice a2 x.aa.ag.length c2):=Zc hA1 2
 go_wp2_with fail
 refine (Zh1 _ _ _ _ x.aa _ _ (by omega) (by omega) ⟨hf.f1,hf.f2⟩ (r1.below hb1) (r2.below hb1)).mono ?_;rintro e w2 ⟨rfl,b2⟩;rw [← Hk2.out];have hA2:=Ze hA1 b2 (Nat.le_refl _);have hb2:=hb1.trans (b2.mono hb1.size);clear b2 hA1;clear pa1 pa2;have pa4:w2.cell? ⟨w.heap.size,4,none⟩=some (.slice a4 x.ai.length c4):=Zc hA2 4
 go_wp2_with fail
 refine (ZcJ _ _ _ _ _ (by omega) (by omega) hf.f4 (r4.below hb2)).mono ?_;rintro e w3 ⟨rfl,b3⟩;rw [← Hk3.out];have hA3:=Ze hA2 b3 (Nat.le_refl _);have hb3:=hb2.trans (b3.mono hb2.size);clear b3 hA2;clear pa4;have pa6:w3.cell? ⟨w.heap.size,6,none⟩=some (.slice a6 x.aj.length c6):=Zc hA3 6
 go_wp2_with fail
 refine (ZcJ _ _ _ _ _ (by omega) (by omega) hf.f6 (r6.below hb3)).mono ?_;rintro e w4 ⟨rfl,b4⟩;rw [← Hk4.out];have hA4:=Ze hA3 b4 (Nat.le_refl _);have hb4:=hb3.trans (b4.mono hb3.size);clear b4 hA3;clear pa6
 go_wp2
 go_ret
 obtain rfl:=Hk1.out;obtain rfl:=Hk2.out;obtain rfl:=Hk3.out;obtain rfl:=Hk4.out;exact ⟨rfl,hb4⟩
theorem ZbG (v:Value) (x:Za) (k:Int) (w:World) (hk0:0<k) (hk1:k≤1000000000) (hf:x.Fit) (hr:Za.Reads w v (x.marked k)) :
  Calls prog 13 #[v,.int .i64 k] w fun e w'=>e=.returned (.int .i64 (x.past k))∧Below w.heap.size w w':=by
 obtain ⟨a0,c0,a1,c1,a2,c2,a4,c4,a6,c6,rfl,r0,r1,r2,r4,r6⟩:=hr;simp only [Za.marked,ZB] at r0 r1 r2 r4 r6 ⊢;exact Zh3 a0 c0 a1 c1 a2 c2 a4 c4 a6 c6 x k w hk0 hk1 hf r0 r1 r2 r4 r6
theorem Zd1 (v:Value) (st:Za) (w:World) (hr:Za.Reads w v st) (hf:st.Fit) (hi:-9223372036854775808≤st.aq) :
  Calls prog 44 #[v] w fun e w'=>e=.returned (.bool st.ok)∧Below w.heap.size w w':=by
 cases h:(st.af.length == 64 && (st.aa.ok && (inB st.aq 1 900 && inB st.ar 0 (st.aq - 1))))
 ·have:st.ok=false:=by
   unfold Za.ok;simp only [Bool.and_eq_false_iff] at h ⊢;rcases h with h|h|h|h <;> simp [h]
  rw [this];exact Ze7 v st w hr hf hi h
 ·simp only [Bool.and_eq_true,beq_iff_eq] at h
  exact Zd0 v st w hr hf h.1 h.2.1 h.2.2.1 h.2.2.2
theorem Zh4 (a0:Option Addr) (n0 c0:Nat) (a1:Option Addr) (n1 c1:Nat) (a2:Option Addr) (n2 c2:Nat) (t:Int) (a4:Option Addr) (n4 c4:Nat) (k:Int) (a6:Option Addr) (n6 c6:Nat) (s:Bool):Cells 8 (.agg #[.slice a0 n0 c0,.slice a1 n1 c1,.slice a2 n2 c2,.int .i64 t,.slice a4 n4 c4,.int .i64 k,.slice a6 n6 c6,.bool s]) :=
 ⟨[.slice a0 n0 c0,.slice a1 n1 c1,.slice a2 n2 c2,.int .i64 t,.slice a4 n4 c4,.int .i64 k,.slice a6 n6 c6,.bool s],rfl,rfl,fun u hu=>List.all_eq_true.1 (show List.all _ (fun u=>u.oneCell')=true from rfl) u hu⟩
theorem Za.Own.cells {w:World} {B B1:Nat} {v:Value} {x:Za} (h:Za.Own w B B1 v x):Cells 8 v:=by
 obtain ⟨a0,c0,a1,c1,a2,c2,a4,c4,a6,c6,rfl,_⟩:=h;exact Zh4 _ _ _ _ _ _ _ _ _ _ _ _ _ _ _ _ _ _
def Za.free (st:Za) (p:PtrD):Za :=
 if p.hole then st else if p.ah≤st.ar then { st with aj:=st.aj++[p] } else if p.ah<st.aq then { st with ai:=st.ai++[p] } else { st with af:=Xz st.af st.aa p.aA.toNat,aa:=st.aa.give p.aA.toNat }
theorem Zbn {st:Za} {p:PtrD} (h:p.hole=true):st.free p=st:=by unfold Za.free;rw [if_pos h]
theorem VF {st:Za} {p:PtrD} (h:p.hole=false) (h1:p.ah≤st.ar):st.free p={ st with aj:=st.aj++[p] }:=by unfold Za.free;rw [h,if_neg (by simp),if_pos h1]
theorem VG {st:Za} {p:PtrD} (h:p.hole=false) (h1:¬ p.ah≤st.ar) (h2:p.ah<st.aq):st.free p={ st with ai:=st.ai++[p] }:=by unfold Za.free;rw [h,if_neg (by simp),if_neg h1,if_pos h2]
theorem Zbo {st:Za} {p:PtrD} (h:p.hole=false) (h1:¬ p.ah≤st.ar) (h2:¬ p.ah<st.aq):st.free p={ st with af:=Xz st.af st.aa p.aA.toNat,aa:=st.aa.give p.aA.toNat }:=by unfold Za.free;rw [h,if_neg (by simp),if_neg h1,if_neg h2]
theorem ZkN (p:PtrD):∀ u ∈ p.cells,u.oneCell'=true:=fun u hu=>by
 simp only [PtrD.cells,mem_cons,not_mem_nil,or_false] at hu;rcases hu with rfl|rfl|rfl|rfl|rfl <;> rfl
variable {ds:List Deferred}
def objA (b:Nat) (o:Obj):Asr:=⟨fun w f=>f=[b]∧w.heap[b]? = some o,fun w w' f _ hb ⟨e,h⟩=>⟨e,(hb b (by rw [e];simp)).trans h⟩⟩
section
variable {W w:World} {s:List Asr}
theorem St.obj (h:St W s w) (i:Nat) {b:Nat} {o:Obj} (hi:s[i]? = some (objA b o)):w.heap[b]? = some o:=by
 obtain ⟨f,⟨_,hb⟩,_⟩:=h.get i hi;exact hb
theorem St.allocO (h:St W s w) (o:Obj):St W (objA w.heap.size o::s) (w.alloc o) :=
 St.add (ns:=[objA w.heap.size o]) h ⟨(Below.refl _ _).alloc (Nat.le_refl _) _,[w.heap.size],⟨[w.heap.size],[],rfl,⟨rfl,heap_alloc_new w o⟩,rfl⟩,by simp,fun b hb=>by
  obtain rfl:b=w.heap.size:=by simpa using hb
  exact ⟨Nat.le_refl _,by rw [XJ];omega⟩⟩
end
section
variable {P:Program} {ops:Array Oper} {Q:Exit→Act→World→Prop} {rest:List Oper} {o:Oper} {a:Act} {w W:World} {N:Nat} {l:List (Nat × Value)} {s:List Asr}
theorem ZoN (hg:o.guard=none) (hF:Fr N a l ds) {d:Nat} (hd:o.dst=some d) (hN:Nat.blt d N=true) {v:Value} {w':World} (hr:(execOp a.eval o).run P w=.ok (.value v) w')
  (h:∀ a',Fr N a' ((d,v)::l) ds→wpList P ops Q rest a' w'):wpList P ops Q (o::rest) a w:=by
 refine wpList_plain hg fun K hK=>?_;unfold Oper.wp;rw [hr];exact hK _ _ (hd ▸ h _ (hF.put (Nat.le_of_ble_eq_true hN) _))
end
instance instPtrTr:Inhabited PtrD:=⟨PtrD.zero⟩
theorem Zn (xs:List PtrD):∀ u ∈ xs.flatMap PtrD.cells,u.oneCell'=true:=by
 intro u hu;obtain ⟨x,_,hx⟩:=List.mem_flatMap.1 hu;exact ZkN x u hx
theorem Yz:ZbA prog 37 40 5 40:=by
 obtain ⟨i0,hi,hz0,hz1,hz2⟩:=info_parts (P:=prog) (e:=40) (z:=.agg #[.int .i64 0,.int .i64 0,.int .i64 0,.int .i64 0,.int .i64 0]) (size:=5) (bytes:=40) (by kernel_rfl);exact ⟨Tryz.underlying37,⟨i0,_,hi,hz0,hz1,hz2,rfl⟩,by decide⟩
theorem Zd2 (p:PtrD) (s:ByteArray) (w0:World) (hs:s.size≤9223372036854775806):Calls prog 123 #[pV p,.string s] w0 fun e w'=>e=.returned (.bool (QG p s))∧Below w0.heap.size w0 w':=by
 have E:=Bx.mk (St.start w0);refine ent func123 ntmps123 ?_;refine xsr ?_;refine ybx E ?_;clear E;intro w1 b1 E;refine xr 1 rfl<|xne<|xsq ?_;intro a O;refine Yr (by kernel_rfl) (by kernel_rfl) E.o ?_;revert a;refine Qw 0 5 rfl rfl ?_;refine yq (fun _ E=>Xm p _) func59 ?_;refine xqr 1 rfl<|xcs 7 rfl (fun cc1=>?_) fun cc1=>?_;refine Qw 0 5 rfl rfl ?_;refine yqg (fun _ E=>Ye p _) func60 ?_;refine xqr 3 rfl<|xcs 12 rfl (fun cc2=>?_) fun cc2=>?_;refine Qf 2 rfl<|Ql 0 rfl rfl<|xqr 1 rfl<|xq rfl (fun E a O=>YN rfl (O.ev rfl) (by kernel_rfl))<|xqr 3 rfl<|xce 19 rfl (fun cc3 dcc3=>?_) fun cc3 dcc3=>?_;refine Qf 3 rfl<|Ql 0 rfl rfl<|xqr 1 rfl ?_;refine yqg (fun _ E=>ZeV s _ (by omega)) func149 ?_;refine xqr 3 rfl ?_;intro a O;refine wpQuiet_nil ?_;intro w2 E;replace E:=Bx.mk E;revert a;refine xet<|xre<|xb1 results123 rfl ?_;exact ⟨by simp only [QG,cc1,cc2,cc3,Bool.true_and,Bool.and_true,Bool.false_and,Bool.and_false,Bool.not_true,Bool.not_false,Bool.not_not],E.o.bel⟩;refine xqr 7 rfl ?_;intro a O;refine wpQuiet_nil ?_;intro w3 E;replace E:=Bx.mk E;revert a;refine xet<|xre<|xb1 results123 rfl ?_;exact ⟨by simp only [QG,cc1,cc2,cc3,Bool.true_and,Bool.and_true,Bool.false_and,Bool.and_false,Bool.not_true,Bool.not_false,Bool.not_not],E.o.bel⟩;refine xqr 14 rfl ?_;intro a O;refine wpQuiet_nil ?_;intro w4 E;replace E:=Bx.mk E;revert a;refine xet<|xre<|xb1 results123 rfl ?_;exact ⟨by simp only [QG,cc1,cc2,Bool.true_and,Bool.and_true,Bool.false_and,Bool.and_false,Bool.not_true,Bool.not_false,Bool.not_not],E.o.bel⟩;refine xqr 19 rfl ?_;intro a O;refine wpQuiet_nil ?_;intro w5 E;replace E:=Bx.mk E;revert a;refine xet<|xre<|xb1 results123 rfl ?_;exact ⟨by simp only [QG,cc1,Bool.true_and,Bool.and_true,Bool.false_and,Bool.and_false,Bool.not_true,Bool.not_false,Bool.not_not],E.o.bel⟩
theorem Zao (p:PtrD) (s:ByteArray) (w0:World) (hs:s.size≤9223372036854775806):Calls prog 78 #[pV p,.string s] w0 fun e w'=>e=.returned (.bool (QG p s))∧Below w0.heap.size w0 w':=by
 have E:=Bx.mk (St.start w0);refine ent func78 ntmps78 ?_;refine xsr ?_;refine ybx E ?_;clear E;intro w1 b1 E;refine xr 1 rfl<|xne<|xsq ?_;intro a O;refine Yr (by kernel_rfl) (by kernel_rfl) E.o ?_;revert a;refine Qw 0 5 rfl rfl ?_;refine yq (fun _ E=>ZZ p _) func48 ?_;refine xqr 1 rfl<|xcs 7 rfl (fun cc1=>?_) fun cc1=>?_;refine Qw 0 5 rfl rfl ?_;refine yqg (fun _ E=>ZL p _) func49 ?_;refine xqr 3 rfl<|xcs 12 rfl (fun cc2=>?_) fun cc2=>?_;refine Qf 2 rfl<|Ql 0 rfl rfl<|xqr 1 rfl<|xq rfl (fun E a O=>YN rfl (O.ev rfl) (by kernel_rfl))<|xqr 3 rfl<|xce 19 rfl (fun cc3 dcc3=>?_) fun cc3 dcc3=>?_;refine Qf 3 rfl<|Ql 0 rfl rfl<|xqr 1 rfl ?_;refine yqg (fun _ E=>ZeW s _ (by omega)) func109 ?_;refine xqr 3 rfl ?_;intro a O;refine wpQuiet_nil ?_;intro w2 E;replace E:=Bx.mk E;revert a;refine xet<|xre<|xb1 results78 rfl ?_;exact ⟨by simp only [QG,cc1,cc2,cc3,Bool.true_and,Bool.and_true,Bool.false_and,Bool.and_false,Bool.not_true,Bool.not_false,Bool.not_not],E.o.bel⟩;refine xqr 7 rfl ?_;intro a O;refine wpQuiet_nil ?_;intro w3 E;replace E:=Bx.mk E;revert a;refine xet<|xre<|xb1 results78 rfl ?_;exact ⟨by simp only [QG,cc1,cc2,cc3,Bool.true_and,Bool.and_true,Bool.false_and,Bool.and_false,Bool.not_true,Bool.not_false,Bool.not_not],E.o.bel⟩;refine xqr 14 rfl ?_;intro a O;refine wpQuiet_nil ?_;intro w4 E;replace E:=Bx.mk E;revert a;refine xet<|xre<|xb1 results78 rfl ?_;exact ⟨by simp only [QG,cc1,cc2,Bool.true_and,Bool.and_true,Bool.false_and,Bool.and_false,Bool.not_true,Bool.not_false,Bool.not_not],E.o.bel⟩;refine xqr 19 rfl ?_;intro a O;refine wpQuiet_nil ?_;intro w5 E;replace E:=Bx.mk E;revert a;refine xet<|xre<|xb1 results78 rfl ?_;exact ⟨by simp only [QG,cc1,Bool.true_and,Bool.and_true,Bool.false_and,Bool.and_false,Bool.not_true,Bool.not_false,Bool.not_not],E.o.bel⟩
theorem Zfa (a0:Option Addr) (c0:Nat) (xs:List PtrD) (f:FuncId) (caps:Array Value) (p:Nat→Bool) (w0:World) (hl:xs.length≤1048576) (HE:∀ (args:Array Value) (w:World),(callFunc f args).run prog w=.ok (.enter f args) w) (hR:Rd PtrD.cells 5 w0 a0 xs.length xs) (hf:∀ k,k<xs.length→∀ w,Below w0.heap.size w0 w→Calls prog f (#[]++#[pV (xs.getD k PtrD.zero)]++caps) w fun e w'=>e=.returned (.bool (p k))∧Below w.heap.size w w'):Calls prog 162 #[.slice a0 xs.length c0,.func (.func f) #[] caps] w0 fun e w'=>e=.returned (.int .i64 (ZeZ p xs.length 0))∧Below w0.heap.size w0 w':=by
 have HR:=Bx.mk hR;have HF0:=Bx.mk hf;clear hR hf;have E:=Bx.mk (St.start w0);refine ent func162 ntmps162 ?_;refine xsr<|xr 1 rfl<|xne<|xsq<|xsr<|xr 1 rfl<|xy rfl (vn 40 5 rfl)<|xr 1 rfl<|xne<|xbl ?_;intro a O;refine ZD (ι:=Nat) (fun k a w=>(k≤xs.length∧ZeZ p xs.length 0=ZeZ p xs.length k)∧Fr 19 a [(0,.slice a0 xs.length c0),(1,.func (.func f) #[] caps),(7,.int .i64 (xs.length:Int)),(8,.int .i64 (k:Int))]∧St w0 ([]) w) (fun k=>xs.length - k) 0 ⟨⟨Nat.zero_le _,rfl⟩,O.ls _,E.o⟩ ?_;clear O E;clear a;rintro k a w1 ⟨⟨hk,hf⟩,O,E⟩;replace E:=Bx.mk E;revert a;refine xsr<|xr 1 rfl<|xne<|xsq<|xcd 9 rfl (fun _ dcc1=>?_) fun _ dcc1=>?_
 refine xct rfl<|xsk<|xet<|xsq<|xbl<|xsr<|xr 2 rfl<|xne<|xsq ?_;obtain ⟨g0,o0,r0⟩:=HR.out.opn;have R0:=Bx.mk r0;clear r0;refine xrl<|xr 3 rfl<|xy rfl (vxr 40 k 5 rfl (R0.out.ao k (by omega)))<|xy rfl (fun a O=>ylr (cs:=pL (xs.getD k PtrD.zero)) rfl (O.ev rfl) (R0.out.elem E.o (Zh (xs:=xs) (j:=k) (d:=PtrD.zero) (by omega)))) ?_;intro a O;refine ZkG rfl O rfl (O.ev rfl) HE (args:=#[pV (xs.getD k PtrD.zero)]) rfl (v:=.bool (p k)) (HF0.out k (by omega) _ E.o.bel) rfl rfl E.o ?_;clear O E a;intro w2 a E O;replace E:=Bx.mk E;revert a;refine xne<|xcs 16 rfl (fun cc2=>?_) fun cc2=>?_
 refine xct rfl<|xsr<|xr 2 rfl<|xne<|xre<|xbr<|xtr<|xtr<|xbr<|xtr<|xb1 results162 rfl ?_;rw [ZgZ (k:=k) (by omega),if_pos cc2] at hf;exact ⟨by rw [hf],E.o.bel⟩;refine xcf rfl<|xsk<|xeb<|xet<|xrl<|xy rfl (vad rfl)<|xr 1 rfl<|xne ?_;rw [ZgZ (k:=k) (by omega),if_neg (by rw [cc2];simp)] at hf;intro a O;exact ⟨k+1,⟨⟨by omega,hf⟩,O.less _ ⟨rfl,rfl,rfl,rfl,trivial⟩,E.o⟩,(by omega)⟩;refine xcf rfl<|xex<|xtx<|xtx<|xbh<|xet<|xsr<|xr 1 rfl<|xne<|xre<|xb1 results162 rfl ?_;rw [ZhU (k:=k) (by omega)] at hf;exact ⟨by rw [hf],E.o.bel⟩
theorem Vg (a0:Option Addr) (c0:Nat) (xs:List PtrD) (f:FuncId) (caps:Array Value) (p:Nat→Bool) (w0:World) (hl:xs.length≤1048576) (HE:∀ (args:Array Value) (w:World),(callFunc f args).run prog w=.ok (.enter f args) w) (hR:Rd PtrD.cells 5 w0 a0 xs.length xs) (hf:∀ k,k<xs.length→∀ w,Below w0.heap.size w0 w→Calls prog f (#[]++#[pV (xs.getD k PtrD.zero)]++caps) w fun e w'=>e=.returned (.bool (p k))∧Below w.heap.size w w'):Calls prog 147 #[.slice a0 xs.length c0,.func (.func f) #[] caps] w0 fun e w'=>e=.returned (.bool (!ZcB (fun k=>!p k) xs.length))∧Below w0.heap.size w0 w':=by
 have HR:=Bx.mk hR;have HF0:=Bx.mk hf;clear hR hf;have E:=Bx.mk (St.start w0);refine ent func147 ntmps147 ?_;refine xsr<|xr 1 rfl<|xne<|xsr<|xr 2 rfl ?_;refine ycB (Zfa a0 c0 xs f caps p _ hl HE (HR.out.below E.o.bel) (fun k hk w hb=>HF0.out k hk w (E.o.bel.trans (hb.mono E.o.bel.size)))) func162 E ?_;clear E;intro w1 E;refine xr 2 rfl<|xne<|xre<|xb1 results147 rfl ?_;exact ⟨by rw [← ZlY],E.o.bel⟩
theorem Zh5 (p:PtrD) (w0:World):Calls prog 152 #[pV p] w0 fun e w'=>e=.returned (.bool (!p.hole))∧Below w0.heap.size w0 w':=by
 have E:=Bx.mk (St.start w0);refine ent func152 ntmps152 ?_;refine xsr ?_;refine ybx E ?_;clear E;intro w1 b1 E;refine xr 1 rfl<|xne<|xsr<|Xw 0 5 E rfl rfl ?_;refine ycB (Ye p _) func60 E ?_;clear E;intro w2 E;refine xr 2 rfl<|xne<|xre<|xb1 results152 rfl ?_;exact ⟨rfl,E.o.bel⟩
theorem Zfb {xs:List PtrD} {f:PtrD→Bool}:∀ n,n≤xs.length→ZcB (fun k=>f (xs.getD k PtrD.zero)) n=(xs.take n).all f
 | 0,_=>by simp [ZcB]
 | n+1,h=>by
  show (ZcB _ n && f (xs.getD n PtrD.zero))=_;rw [Zfb n (by omega),List.take_succ_eq_append_getElem (by omega),List.all_append,getD_eq_getElem?_getD,getElem?_eq_getElem (by omega)]
  simp
theorem Zje (xs:List PtrD):ZcB (fun k=>!!(xs.getD k PtrD.zero).hole) xs.length=xs.all (fun p=>p.hole):=by
 have:=Zfb (xs:=xs) (f:=fun p=>p.hole) xs.length (Nat.le_refl _);rw [List.take_length] at this;rw [← this]
 congr 1
 funext k
 rw [Bool.not_not]
def Vh (l:List PtrD):ByteArray × Bool:=if l.length=4∧l.all (fun p=>p.hole)=false∧l.all (fun p=>p.ok)=true then (YW l,true) else (ByteArray.empty,false)
theorem ZdQ {l:List PtrD} (h1:l.length=4) (h2:l.all (fun p=>p.hole)=false) (h3:l.all (fun p=>p.ok)=true):Vh l=(YW l,true):=if_pos ⟨h1,h2,h3⟩
theorem Zh6 {l:List PtrD} (h:l.length≠4):Vh l=(ByteArray.empty,false):=if_neg fun e=>h e.1
theorem ZbH {l:List PtrD} (h:l.all (fun p=>p.hole)=true):Vh l=(ByteArray.empty,false):=if_neg fun e=>by rw [h] at e;cases e.2.1
theorem Zh7 {l:List PtrD} {k:Nat} (hk:k<l.length) (h:(l.getD k PtrD.zero).ok=false):Vh l=(ByteArray.empty,false):=if_neg fun e=>by
 have:=List.all_eq_true.1 e.2.2 (l.getD k PtrD.zero) (by rw [getD_eq_getElem?_getD,getElem?_eq_getElem hk];exact List.getElem_mem hk);rw [h] at this;cases this
theorem ZbZ {s:ByteArray} {l:List PtrD}:IsFan s l ↔ Vh l=(s,true):=by
 unfold Vh
 constructor
 ·intro h
  rw [if_pos ⟨h.n,h.some,List.all_eq_true.2 h.ok⟩,h.is]
 ·intro h
  split at h
  ·next e=>exact ⟨e.1,List.all_eq_true.1 e.2.2,e.2.1,(Prod.mk.inj h).1⟩
  ·cases (Prod.mk.inj h).2
theorem Zf1 {l:List PtrD} {k:Nat} (h:k<l.length):(l.take k).map Z5++[Z5 (l.getD k PtrD.zero)]=(l.take (k+1)).map Z5:=by
 rw [List.take_succ_eq_append_getElem h,map_append,getD_eq_getElem?_getD,getElem?_eq_getElem h];rfl
theorem Zf2 {l:List PtrD} {k:Nat} {f:PtrD→Bool} (h:k<l.length) (ha:(l.take k).all f=true) (hf:f (l.getD k PtrD.zero)=true):(l.take (k+1)).all f=true:=by
 rw [List.take_succ_eq_append_getElem h,List.all_append,ha];rw [getD_eq_getElem?_getD,getElem?_eq_getElem h,getD_some] at hf;simp [hf]
theorem Zj4 (l:List PtrD):szs (l.map Z5):=fun k=>by
 by_cases hk:k<(l.map Z5).length
 ·rw [getD_eq_getElem?_getD,getElem?_eq_getElem hk,getD_some,List.getElem_map];exact Nat.le_trans (ZcE _) (by decide)
 ·rw [getD_eq_getElem?_getD,List.getElem?_eq_none (by omega)];decide
theorem ZaK (a0:Option Addr) (c0:Nat) (l:List PtrD) (w0:World) (hT:Xq w0) (hl:l.length≤1048576) (hR:Rd PtrD.cells 5 w0 a0 l.length l):Calls prog 130 #[.slice a0 l.length c0] w0 fun e w'=>e=.returned (.tuple #[.string (Vh l).1,.bool (Vh l).2])∧Below w0.heap.size w0 w':=by
 have HR:=Bx.mk hR;have HT:=Bx.mk hT;clear hR hT;have E:=Bx.mk (St.start w0);refine ent func130 ntmps130 ?_;refine xsr<|xr 2 rfl<|xne<|xsq<|xsr<|xr 1 rfl<|xy rfl (vn 40 5 rfl)<|xr 2 rfl<|xcn 10 rfl (fun _ dcc1=>?_) fun _ dcc1=>?_;refine xr 4 rfl<|xne<|xct rfl<|xsr<|xr 2 rfl<|xne<|xre<|xtr<|xb2 results130 rfl rfl ?_;exact ⟨by rw [Zh6 (by omega)] <;> rfl,E.o.bel⟩;refine xr 1 rfl ?_;refine Ji (by have:=Vg a0 c0 l 152 #[] (fun k=>!(l.getD k PtrD.zero).hole) _ hl (ZJ func152 (by kernel_rfl) rfl) (HR.out.below E.o.bel) (fun k hk w hb=>Zh5 _ w);rw [Zje] at this;exact this) func147 E ?_;clear E;intro w1 E;refine xr 2 rfl<|xne<|xcs 14 rfl (fun cc2=>?_) fun cc2=>?_;have hho:l.all (fun p=>p.hole)=true:=by revert cc2;cases l.all (fun p=>p.hole) <;> simp
 refine xct rfl<|xsr<|xr 2 rfl<|xne<|xre<|xtr<|xb2 results130 rfl rfl ?_;exact ⟨by rw [ZbH hho] <;> rfl,E.o.bel⟩;have hho:l.all (fun p=>p.hole)=false:=by revert cc2;cases l.all (fun p=>p.hole) <;> simp
 refine xcf rfl<|xsk<|xet<|xsr<|xr 1 rfl<|xne<|xsq<|xsr<|xr 1 rfl<|xy rfl (vn 40 5 rfl)<|xr 1 rfl<|xne<|xbl ?_;replace E:=Bx.mk (E.o.nilRow Zt 1 9 none);intro a O;refine ZD (ι:=Nat) (fun k a w=>∃ (ao:Option Addr) (cp:Nat) (xs:List ByteArray),(k≤l.length∧xs=(l.take k).map Z5∧(l.take k).all (fun p=>p.ok)=true)∧Fr 32 a [(0,.slice a0 l.length c0),(15,.slice a0 l.length c0),(16,.int .i64 (l.length:Int)),(4,.slice ao xs.length cp),(17,.int .i64 (k:Int))]∧St w0 ([Zd Zt 1 9 (.slice ao xs.length cp) xs]) w) (fun k=>l.length - k) 0 ⟨_,_,[],⟨Nat.zero_le _,rfl,rfl⟩,O.ls _,E.o⟩ ?_;clear O E;clear a;rintro k a w2 ⟨ao,cp,xs,⟨hk,hq,hall⟩,O,E⟩;replace E:=Bx.mk E;have hxl:xs.length=k:=by rw [hq,length_map,length_take];omega
 revert a;refine xsr<|xr 1 rfl<|xne<|xsq<|xcd 18 rfl (fun _ dcc3=>?_) fun _ dcc3=>?_
 refine xct rfl<|xsk<|xet<|xsq<|xbl<|xsq ?_;obtain ⟨g0,o0,r0⟩:=HR.out.opn;have R0:=Bx.mk r0;clear r0;refine xrl<|xy rfl (vxr 40 k 5 rfl (R0.out.ao k (by omega)))<|xy rfl (fun a O=>ylr (cs:=pL (l.getD k PtrD.zero)) rfl (O.ev rfl) (R0.out.elem E.o (Zh (xs:=l) (j:=k) (d:=PtrD.zero) (by omega)))) ?_;refine yal z5 E ?_;clear E;intro w3 b1 E;refine yst E 0 ?_;clear E;intro w4 E;replace E:=E.nm;refine xne<|xsq<|xsr<|Xw 0 5 E rfl rfl ?_;refine ycB (Xm (l.getD k PtrD.zero) _) func59 E ?_;clear E;intro w5 E;refine xr 1 rfl<|xne<|xcs 23 rfl (fun cc4=>?_) fun cc4=>?_;refine xct rfl<|xsr<|xr 2 rfl<|xne<|xre<|xtr<|xbr<|xtr<|xtr<|xbr<|xtr<|xb2 results130 rfl rfl ?_;exact ⟨by rw [Zh7 (k:=k) (by omega) (by have:=cc4;revert this;cases (l.getD k PtrD.zero).ok <;> simp)] <;> rfl,E.o.bel⟩;refine xcf rfl<|xsk<|xet<|xrl<|xr 1 rfl<|Xw 0 5 E rfl rfl ?_;refine ycB (Ve (l.getD k PtrD.zero) _ (HT.o.below E.o.bel)) func103 E ?_;clear E;intro w6 E;refine ybs Zt 9 1 [Z5 (l.getD k PtrD.zero)] E ?_;clear E;intro b2 w7 E;refine yap XR encS_len E 2 (St.rdN E.o encS_len 0 rfl) (Zy _) ?_;clear E;intro ao3 cp4 w8 E;refine xr 1 rfl<|xni<|xeb<|xet<|xrl<|xy rfl (vad rfl)<|xr 1 rfl<|xne ?_;have hz:xs.length+([Z5 (l.getD k PtrD.zero)]).length=(xs++([Z5 (l.getD k PtrD.zero)])).length:=(length_append ..).symm;intro a O;rw [hz] at E O;have hnext:xs++([Z5 (l.getD k PtrD.zero)])=(l.take (k+1)).map Z5:=by rw [hq];exact Zf1 (by omega)
 have hok1:(l.getD k PtrD.zero).ok=true:=by have:=cc4;revert this;cases (l.getD k PtrD.zero).ok <;> simp
 replace E:=E.pks [2];exact ⟨k+1,⟨_,_,xs++([Z5 (l.getD k PtrD.zero)]),⟨by omega,hnext,Zf2 (by omega) hall hok1⟩,O.less _ ⟨rfl,rfl,rfl,rfl,rfl,trivial⟩,(E.o.erS [2,1])⟩,(by omega)⟩;refine xcf rfl<|xex<|xtx<|xtx<|xbh<|xet<|xsr<|xr 1 rfl ?_;refine ycB (ZhQ _ _ _ xs (⟨#[44]⟩:ByteArray) _ (St.rdOf E.o encS_len 0 rfl) (St.capLe E.o 0 rfl) (by omega) (by rw [hq];exact Zj4 _) (by decide)) func135 E ?_;clear E;intro w9 E;refine xr 2 rfl<|xne<|xre<|xb2 results130 rfl rfl ?_;have hkl:k=l.length:=by omega
 exact ⟨by rw [ZdQ (by omega) hho (by rw [hkl,List.take_length] at hall;exact hall),hq,hkl,List.take_length];rfl,E.o.bel⟩
theorem Zfc (s:ByteArray) (c:UInt8) (k:Nat):((Zm s c).getD k ByteArray.empty).size≤s.size:=by
  have key:∀ (l:List UInt8) (x:List UInt8),x ∈ splitL c l→x.length≤l.length:=by
    intro l
    induction l with
    | nil => intro x hx;obtain rfl:x=[]:=by simpa [splitL] using hx
             exact Nat.le_refl _
    | cons b t ih =>
      intro x hx
      by_cases hb:b=c
      · subst hb
        rw [Vx] at hx;rcases mem_cons.1 hx with rfl|hx
        · exact Nat.zero_le _
        · exact Nat.le_succ_of_le (ih x hx)
      · obtain ⟨h,r,e⟩:=Zdd c t
        rw [QC t hb e] at hx;rcases mem_cons.1 hx with rfl|hx
        · exact Nat.succ_le_succ (ih h (by rw [e];exact mem_cons_self ..))
        · exact Nat.le_succ_of_le (ih x (by rw [e];exact mem_cons_of_mem _ hx))
  by_cases hk:k<(Zm s c).length
  · rw [getD_eq_getElem?_getD,getElem?_eq_getElem hk,getD_some]
    have hm:=List.getElem_mem hk;unfold Zm at hm;obtain ⟨x,hx,e⟩:=List.mem_map.1 hm;have e2:(Zm s c)[k]=⟨x.toArray⟩:=e.symm;rw [e2,Zg,Zg];exact key _ x hx
  · rw [getD_eq_getElem?_getD,List.getElem?_eq_none (by omega)];exact Nat.zero_le _
theorem ZaL (s:ByteArray) (c:UInt8):(Zm s c).length≤s.size+1:=by
 rw [ZeS,Zg];exact Nat.succ_le_succ (List.count_le_length ..)
structure Ur (s:ByteArray) (ys:List PtrD):Prop where
  ok:∀ p ∈ ys,p.ok=true
  is:ys.map Z5=(Zm s 44).take ys.length
theorem Ur.nil (s:ByteArray):Ur s []:=⟨fun p hp=>(nomatch hp),rfl⟩
theorem Ur.snoc {s:ByteArray} {ys:List PtrD} (h:Ur s ys) (hk:ys.length<(Zm s 44).length) {p:PtrD} (hp:p.ok=true) (ht:Z5 p=(Zm s 44).getD ys.length ByteArray.empty):Ur s (ys++[p]):=by
 refine ⟨fun q hq=>?_,?_⟩
 ·rcases mem_append.1 hq with hq|hq
  ·exact h.ok q hq
  ·rw [mem_singleton.1 hq];exact hp
 ·rw [length_append,length_singleton,List.take_succ_eq_append_getElem hk,map_append,h.is,map_cons,List.map_nil,ht,getD_eq_getElem?_getD,getElem?_eq_getElem hk,getD_some]
theorem Ur.one {s:ByteArray} {ys l:List PtrD} (h:Ur s ys) (hn:ys.length=(Zm s 44).length) (hl:IsFan s l):l=ys:=by
 refine Zj1 hl.ok h.ok ?_;rw [← hl.pieces,h.is,hn,List.take_length]
theorem Zj5 {s:ByteArray} {k:Nat} (hk:k<(Zm s 44).length) (h:∀ p:PtrD,p.ok=true→Z5 p=(Zm s 44).getD k ByteArray.empty→False):∀ l,¬ IsFan s l:=fun l hl=>by
 have e:=hl.pieces;have hk2:k<l.length:=by rw [e,length_map] at hk;exact hk
 refine h l[k] (hl.ok _ (List.getElem_mem hk2)) ?_;rw [e,getD_eq_getElem?_getD,getElem?_eq_getElem (by rw [length_map];exact hk2),getD_some,List.getElem_map]
theorem Zh8 {s:ByteArray} (h:(Zm s 44).length≠4):∀ l,¬ IsFan s l:=fun l hl=>by
 have e:=hl.pieces;rw [e,length_map] at h;exact h hl.n
theorem Ur.is_of {s:ByteArray} {ys:List PtrD} (h:Ur s ys) (hn:ys.length=(Zm s 44).length) (h4:ys.length=4) (hs:ys.all (fun p=>p.hole)=false):IsFan s ys:=by
 refine ⟨h4,h.ok,hs,?_⟩;show JR (ys.map Z5) Zma=s;rw [h.is,hn,List.take_length];exact V1 s 44
theorem Zfd (s:ByteArray) (w0:World) (hT:Xq w0) (hM:X1 w0) (hE:X2 w0) (hs:s.size≤1000000):Calls prog 146 #[.string s] w0 fun e w'=>(∃ l,IsFan s l∧∃ ao cp,e=.returned (.tuple #[.slice ao l.length cp,.bool true])∧St w0 [Zd PtrD.cells 5 40 (.slice ao l.length cp) l] w')∨((∀ l,¬ IsFan s l)∧e=.returned (.tuple #[.slice none 0 0,.bool false])∧Below w0.heap.size w0 w'):=by
 have HT:=Bx.mk hT;have HM:=Bx.mk hM;have HE:=Bx.mk hE;clear hT hM hE;have hpm:=ZaL s 44;have E:=Bx.mk (St.start w0);refine ent func146 ntmps146 ?_;refine xsr<|xr 2 rfl<|xne<|xsr<|xr 1 rfl<|xne<|xsq<|xsr<|xr 1 rfl ?_;refine yc (Zgs s 44 _ (by omega) (HM.o.below E.o.bel)) func161 ?_;rintro _ w1 ⟨ao1,cp1,rfl,hs⟩;refine ⟨_,rfl,?_⟩;replace E:=E.ad hs;clear hs;refine xy rfl (vn 9 1 rfl)<|xr 1 rfl<|xne<|xbl ?_;replace E:=Bx.mk (E.o.nilRow PtrD.cells 5 40 none);intro a O;refine ZD (ι:=Nat) (fun k a w=>∃ (ao:Option Addr) (cp:Nat) (ys:List PtrD),(k≤(Zm s 44).length∧ys.length=k∧Ur s ys)∧Fr 48 a [(0,.string s),(12,.slice ao1 ((Zm s 44).length) cp1),(13,.int .i64 ((Zm s 44).length:Int)),(4,.slice ao ys.length cp),(14,.int .i64 (k:Int))]∧St w0 ([Zd PtrD.cells 5 40 (.slice ao ys.length cp) ys,Zd Zt 1 9 (.slice ao1 ((Zm s 44).length) cp1) (Zm s 44)]) w) (fun k=>(Zm s 44).length - k) 0 ⟨_,_,[],⟨Nat.zero_le _,rfl,Ur.nil s⟩,O.ls _,E.o⟩ ?_;clear O E;clear a;rintro k a w2 ⟨ao,cp,ys,⟨hk,hyl,hft⟩,O,E⟩;replace E:=Bx.mk E;revert a;refine xsr<|xr 1 rfl<|xne<|xsq<|xcd 15 rfl (fun _ dcc1=>?_) fun _ dcc1=>?_
 refine xct rfl<|xsk<|xet<|xsq<|xbl<|xsq ?_;obtain ⟨g2,rfl,_,_,_,_⟩:=E.o.rowOpen 1 rfl (by omega);have hcap:=E.o.capLe 1 rfl;refine xrl<|xy rfl (vx 9 k 1 rfl)<|xy rfl (fun a O=>ylo (v:=.string ((Zm s 44).getD k ByteArray.empty)) rfl (O.ev rfl) (E.o.elem1 encS_len 1 rfl (Zh (xs:=Zm s 44) (j:=k) (d:=ByteArray.empty) (by omega)) rfl))<|xr 1 rfl<|xne<|xsr<|xr 1 rfl ?_;refine yc (Ze1 ((Zm s 44).getD k ByteArray.empty) _ (HT.o.below E.o.bel) (HM.o.below E.o.bel) (HE.o.below E.o.bel) (by have:=Zfc s 44 k;omega)) func160 ?_;rintro _ w3 (⟨p,hpo,hpt,rfl,hb⟩|⟨hpn,rfl,hb⟩);refine ⟨_,rfl,?_⟩;replace E:=Bx.mk (E.o.later hb);clear hb;refine xr 3 rfl ?_;refine yal z5 E ?_;clear E;intro w4 b3 E;refine yst E 0 ?_;clear E;intro w5 E;replace E:=E.nm;refine xr 1 rfl<|xne<|xsq<|xsr<|xr 4 rfl<|xy rfl (vn 40 5 rfl)<|xr 2 rfl<|xne<|xce 29 rfl (fun _ dcc2=>?_) fun _ dcc2=>?_;refine xct rfl<|xsr<|xr 2 rfl<|xne<|xre<|xtr<|xbr<|xtr<|xtr<|xbr<|xtr<|xb2 results146 rfl rfl ?_;exact .inr ⟨Zh8 (by omega),rfl,E.o.bel⟩;refine xcf rfl<|xsk<|xet<|xrl<|xr 1 rfl<|Xw 0 5 E rfl rfl ?_;refine ybs PtrD.cells 40 5 [p] E ?_;clear E;intro b4 w6 E;refine yap Yz PtrD.cells_len E 2 (St.rdN E.o PtrD.cells_len 0 rfl) (Zn _) ?_;clear E;intro ao5 cp6 w7 E;refine xr 1 rfl<|xni<|xeb<|xet<|xrl<|xy rfl (vad rfl)<|xr 1 rfl<|xne ?_;have hz:ys.length+([p]).length=(ys++([p])).length:=(length_append ..).symm;intro a O;rw [hz] at E O;have hlen:(ys++([p])).length=k+1:=by rw [length_append,hyl];rfl
 have hft2:Ur s (ys++([p])):=hft.snoc (by omega) hpo (by rw [hyl];exact hpt);replace E:=E.pks [3,3];exact ⟨k+1,⟨_,_,ys++([p]),⟨by omega,hlen,hft2⟩,O.less _ ⟨rfl,rfl,rfl,rfl,rfl,trivial⟩,(E.o.erS [3,2])⟩,(by omega)⟩;refine ⟨_,rfl,?_⟩;replace E:=Bx.mk (E.o.later hb);clear hb;refine xr 3 rfl ?_;refine yal z5 E ?_;clear E;intro w8 b7 E;refine yst E 0 ?_;clear E;intro w9 E;replace E:=E.nm;refine xr 1 rfl<|xne<|xsq<|xsr<|xr 7 rfl<|xne<|xct rfl<|xsr<|xr 2 rfl<|xne<|xre<|xtr<|xbr<|xtr<|xtr<|xbr<|xtr<|xb2 results146 rfl rfl ?_;exact .inr ⟨Zj5 (k:=k) (by omega) hpn,rfl,E.o.bel⟩;refine xcf rfl<|xex<|xtx<|xtx<|xbh<|xet<|xsq<|xsr<|xr 1 rfl ?_;refine ycB (ZaK _ _ ys _ (HT.o.below E.o.bel) (by omega) (St.rdOf E.o PtrD.cells_len 0 rfl)) func130 E ?_;clear E;intro w10 E;refine xr 5 rfl<|xne<|xsr<|xr 3 rfl<|xcs 42 rfl (fun cc3=>?_) fun cc3=>?_;refine xr 4 rfl<|xne<|xct rfl<|xsr<|xr 2 rfl<|xne<|xre<|xtr<|xb2 results146 rfl rfl ?_;refine .inr ⟨fun l hl=>?_,rfl,E.o.bel⟩;have e:=hft.one (by omega) hl;subst e;have h2:=ZbZ.1 hl;simp [h2] at cc3;refine xr 2 rfl<|xy rfl (fun a O=>Jg rfl (O.ev rfl) (O.ev rfl))<|xr 1 rfl<|xne<|xcs 46 rfl (fun cc4=>?_) fun cc4=>?_;refine xct rfl<|xsr<|xr 2 rfl<|xne<|xre<|xtr<|xb2 results146 rfl rfl ?_;refine .inr ⟨fun l hl=>?_,rfl,E.o.bel⟩;have e:=hft.one (by omega) hl;subst e;have h2:=ZbZ.1 hl;simp [h2] at cc4;refine xcf rfl<|xsk<|xet<|xsr<|xr 3 rfl<|xne<|xre<|xb2 results146 rfl rfl ?_;have hfan:IsFan s ys:=ZbZ.2 (Prod.ext (Yi (by simpa using cc4)) (by simpa using cc3));exact .inl ⟨ys,hfan,_,_,rfl,(E.o.erase 1)⟩
structure ZbI (s:ByteArray) (ns:List Nat):Prop where
  is:∀ k,k<ns.length→Jk ((Zm s 46).getD k ByteArray.empty)=some (ns.getD k 0)
theorem ZbI.nil (s:ByteArray):ZbI s []:=⟨fun k hk=>absurd hk (Nat.not_lt_zero _)⟩
theorem ZbI.snoc {s:ByteArray} {ns:List Nat} (h:ZbI s ns) {n:Nat} (hn:Jk ((Zm s 46).getD ns.length ByteArray.empty)=some n):ZbI s (ns++[n]):=⟨fun k hk=>by
 rw [length_append,length_singleton] at hk;rcases (by omega:k<ns.length∨k=ns.length) with h1|rfl
 ·rw [h.is k h1,getD_eq_getElem?_getD,getD_eq_getElem?_getD,List.getElem?_append_left h1]
 ·rw [hn];simp⟩
theorem Zmd (ns:List Nat) (n:Nat):ns.map (fun n:Nat=>(n:Int))++[(n:Int)]=(ns++[n]).map (fun n:Nat=>(n:Int)):=by rw [map_append];rfl
theorem Zpj {l:List Nat} (h:l.length=5):∃ a b c d e,l=[a,b,c,d,e]:=by
 match l,h with
 | [a,b,c,d,e],_=>exact ⟨a,b,c,d,e,rfl⟩
theorem Zh9 {s:ByteArray} (hd:(s.toList == (⟨#[45]⟩:ByteArray).toList)=false) {p:PtrD} (hp:p.ok=true) (ht:Z5 p=s):(Zm s 46).length=5∧∀ k,k<5→∃ n:Nat,Jk ((Zm s 46).getD k ByteArray.empty)=some n:=by
 have hh:=JE hp ht hd;have hb:=PtrD.ok_all hp hh;have e:=YP hp hh;rw [ht] at e;rw [e];refine ⟨rfl,fun k hk=>?_⟩;rcases (by omega:k=0∨k=1∨k=2∨k=3∨k=4) with rfl|rfl|rfl|rfl|rfl
 ·exact ⟨_,Ys (n:=p.aA) (by omega)⟩
 ·exact ⟨_,Ys (n:=p.ah) (by omega)⟩
 ·exact ⟨_,Ys (n:=p.al) (by omega)⟩
 ·exact ⟨_,Ys (n:=p.ax) (by omega)⟩
 ·exact ⟨_,Ys (n:=p.ak) (by omega)⟩
theorem ZnR {s:ByteArray} {a b c d e:Nat} (h:ZbI s [a,b,c,d,e]) (h5:(Zm s 46).length=5):Zm s 46=[ZM a,ZM b,ZM c,ZM d,ZM e]∧a≤999999999∧b≤999999999∧c≤999999999∧d≤999999999∧e≤999999999:=by
 have hz:[a,b,c,d,e].length=5:=rfl;have h0:=Qn (h.is 0 (by omega));have h1:=Qn (h.is 1 (by omega));have h2:=Qn (h.is 2 (by omega));have h3:=Qn (h.is 3 (by omega));have h4:=Qn (h.is 4 (by omega));obtain ⟨x0,x1,x2,x3,x4,e⟩:=Zpi h5;rw [e] at h0 h1 h2 h3 h4 ⊢;have k0:x0=ZM a:=h0.2;have k1:x1=ZM b:=h1.2;have k2:x2=ZM c:=h2.2;have k3:x3=ZM d:=h3.2;have k4:x4=ZM _:=h4.2;exact ⟨by rw [k0,k1,k2,k3,k4];rfl,h0.1,h1.1,h2.1,h3.1,h4.1⟩
theorem ZnS {s:ByteArray} {a b c d e:Nat} (h:ZbI s [a,b,c,d,e]) (h5:(Zm s 46).length=5) (hp:(⟨(a:Int),(b:Int),(c:Int),(d:Int),(e:Int)⟩:PtrD).ok=true) (hh:(⟨(a:Int),(b:Int),(c:Int),(d:Int),(e:Int)⟩:PtrD).hole=false):Z5 ⟨(a:Int),(b:Int),(c:Int),(d:Int),(e:Int)⟩=s:=by
 obtain ⟨e1,b0,b1,b2,b3,b4⟩:=ZnR h h5;have e2:=YP hp hh;have num:∀ {n:Nat},n≤999999999→ZX (n:Int)=ZM n:=fun hn=>by rw [XF (by omega) (by omega)];rfl
 rw [num b0,num b1,num b2,num b3,num b4,← e1] at e2;have j1:=V1 (Z5 ⟨(a:Int),(b:Int),(c:Int),(d:Int),(e:Int)⟩) 46;rw [e2,V1] at j1;exact j1.symm
theorem Zj6 {s:ByteArray} {a b c d e:Nat} (h:ZbI s [a,b,c,d,e]) (h5:(Zm s 46).length=5) (hd:(s.toList == (⟨#[45]⟩:ByteArray).toList)=false) {p:PtrD} (hp:p.ok=true) (ht:Z5 p=s):p=⟨(a:Int),(b:Int),(c:Int),(d:Int),(e:Int)⟩∧p.hole=false:=by
 have hh:=JE hp ht hd;have hb:=PtrD.ok_all hp hh;have e1:=YP hp hh;rw [ht] at e1;have g:∀ {k:Nat} {n m:Nat} {x:Int},Jk ((Zm s 46).getD k ByteArray.empty)=some n→(Zm s 46).getD k ByteArray.empty=ZX x→0≤x∧x≤999999999→x=(n:Int):=fun h1 h2 h3=>by rw [h2] at h1;exact (VB h3 h1).symm
 have hz:[a,b,c,d,e].length=5:=rfl;have i0:=g (m:=0) (h.is 0 (by omega)) (by rw [e1];rfl) (x:=p.aA) (by omega);have i1:=g (m:=0) (h.is 1 (by omega)) (by rw [e1];rfl) (x:=p.ah) (by omega);have i2:=g (m:=0) (h.is 2 (by omega)) (by rw [e1];rfl) (x:=p.al) (by omega);have i3:=g (m:=0) (h.is 3 (by omega)) (by rw [e1];rfl) (x:=p.ax) (by omega);have i4:=g (m:=0) (h.is 4 (by omega)) (by rw [e1];rfl) (x:=p.ak) (by omega);refine ⟨?_,hh⟩
 cases p
 simp only at i0 i1 i2 i3 i4;rw [i0,i1,i2,i3,i4];rfl
theorem ZaM (s:ByteArray) (w0:World) (hs:s.size≤1000000):Calls prog 106 #[.string s] w0 fun e w'=>(∃ p:PtrD,p.ok=true∧Z5 p=s∧e=.returned (.tuple #[pV p,.bool true])∧Below w0.heap.size w0 w')∨((∀ p:PtrD,p.ok=true→Z5 p=s→False)∧e=.returned (.tuple #[az5,.bool false])∧Below w0.heap.size w0 w'):=by
 have hpm:=ZaL s 46;have E:=Bx.mk (St.start w0);refine ent func106 ntmps106 ?_;refine xsr ?_;refine yal z5 E ?_;clear E;intro w1 b1 E;refine xr 1 rfl<|xne<|xsq<|xsr<|xr 1 rfl<|xy rfl (fun a O=>U6 rfl (O.ev rfl) (O.ev rfl))<|xne<|xcs 11 rfl (fun cc1=>?_) fun cc1=>?_;refine xct rfl<|xsr<|xy rfl (vb z5 rfl) ?_;refine yst E 0 ?_;clear E;intro w2 E;replace E:=E.nm;refine xr 1 rfl<|xne<|xre<|xtr ?_;intro a O;refine Zw O results106 (O.resBox rfl (E.o.box 0 rfl) (by kernel_rfl)) (O.res rfl) ?_;exact .inl ⟨PtrD.zero,rfl,(Yi cc1).symm,rfl,E.o.bel⟩;refine xcf rfl<|xsk<|xet<|xsr<|xr 1 rfl ?_;refine yc (Zgr s 46 _ (by omega)) func137 ?_;rintro _ w3 ⟨ao2,cp2,rfl,hs⟩;refine ⟨_,rfl,?_⟩;replace E:=E.ad hs;clear hs;refine xr 1 rfl<|xne<|xsq<|xsr<|xr 1 rfl<|xy rfl (vn 9 1 rfl)<|xr 1 rfl<|xne<|xcn 17 rfl (fun _ dcc2=>?_) fun _ dcc2=>?_;refine xct rfl<|xsr<|xy rfl (vb z5 rfl) ?_;refine yst E 1 ?_;clear E;intro w4 E;replace E:=E.nm;refine xr 1 rfl<|xne<|xre<|xtr ?_;intro a O;refine Zw O results106 (O.resBox rfl (E.o.box 1 rfl) (by kernel_rfl)) (O.res rfl) ?_;refine .inr ⟨fun p hp ht=>?_,rfl,E.o.bel⟩;have h5:=Zh9 cc1 hp ht;have:=h5.1;omega;refine xcf rfl<|xsk<|xet<|xsr ?_;refine yem 3 1 E ?_;clear E;intro w5 b3 E;refine xr 1 rfl<|xne<|xsq<|xsr<|xr 1 rfl<|xne<|xbl ?_;replace E:=Bx.mk (E.o.nilRow Zu 1 3 (some ⟨b3,0,none⟩));intro a O;refine ZD (ι:=Nat) (fun k a w=>∃ (ao:Option Addr) (cp:Nat) (xs:List Int) (ns:List Nat),(k≤5∧xs=ns.map (fun n:Nat=>(n:Int))∧ns.length=k∧ZbI s ns)∧Fr 64 a [(0,.string s),(2,.pointer (some ⟨b1,0,none⟩)),(3,.bool false),(4,.slice ao2 ((Zm s 46).length) cp2),(5,.slice ao xs.length cp),(6,.int .i64 (k:Int))]∧St w0 ([Zd Zu 1 3 (.slice ao xs.length cp) xs,Zd Zt 1 9 (.slice ao2 ((Zm s 46).length) cp2) (Zm s 46),boxA b1 5 40 (az5)]) w) (fun k=>5 - k) 0 ⟨_,_,[],[],⟨Nat.zero_le _,rfl,rfl,ZbI.nil s⟩,O.ls _,E.o⟩ ?_;clear O E;clear a;rintro k a w6 ⟨ao,cp,xs,ns,⟨hk,hxs,hnl,hnt⟩,O,E⟩;replace E:=Bx.mk E;have hxl:xs.length=k:=by rw [hxs,length_map];exact hnl
 revert a;refine xsq<|xsr<|xr 2 rfl<|xne<|xcd 21 rfl (fun _ dcc3=>?_) fun _ dcc3=>?_
 refine xct rfl<|xsk<|xet<|xsq<|xbl<|xsq ?_;obtain ⟨g4,rfl,_,_,_,_⟩:=E.o.rowOpen 1 rfl (by omega);have hcap:=E.o.capLe 1 rfl;refine xrl<|xr 2 rfl<|xy rfl (vx 9 k 1 rfl)<|xy rfl (fun a O=>ylo (v:=.string ((Zm s 46).getD k ByteArray.empty)) rfl (O.ev rfl) (E.o.elem1 encS_len 1 rfl (Zh (xs:=Zm s 46) (j:=k) (d:=ByteArray.empty) (by omega)) rfl)) ?_;refine yc (ZaD ((Zm s 46).getD k ByteArray.empty) _ (by have:=Zfc s 46 k;omega)) func105 ?_;rintro _ w7 (⟨n1,hg1,rfl,hb⟩|⟨hg1,rfl,hb⟩);refine ⟨_,rfl,?_⟩;replace E:=Bx.mk (E.o.later hb);clear hb;refine xr 5 rfl<|xne<|xsq<|xsr<|xr 2 rfl<|xne<|xcf rfl<|xsk<|xet<|xrl<|xr 2 rfl ?_;refine ybs Zu 3 1 [(n1:Int)] E ?_;clear E;intro b5 w8 E;refine yap Zl1 encI_len E 1 (St.rdN E.o encI_len 0 rfl) (U5 _) ?_;clear E;intro ao6 cp7 w9 E;refine xr 1 rfl<|xni<|xeb<|xet<|xrl<|xr 1 rfl<|xy rfl (vad rfl)<|xr 1 rfl<|xne ?_;have hz:xs.length+([(n1:Int)]:List Int).length=(xs++[(n1:Int)]).length:=(length_append ..).symm;intro a O;rw [hz] at E O;have hnx:xs++[(n1:Int)]=(ns++[n1]).map (fun n:Nat=>(n:Int)):=by rw [hxs];exact Zmd ns n1
 replace E:=E.pks [3,3,3];exact ⟨k+1,⟨_,_,xs++[(n1:Int)],ns++[n1],⟨by omega,hnx,by rw [length_append,hnl];rfl,hnt.snoc (by rw [hnl];exact hg1)⟩,O.less _ ⟨rfl,rfl,rfl,rfl,rfl,rfl,trivial⟩,(E.o.erase 3)⟩,(by omega)⟩;refine ⟨_,rfl,?_⟩;replace E:=Bx.mk (E.o.later hb);clear hb;refine xr 5 rfl<|xne<|xsq<|xsr<|xr 2 rfl<|xne<|xct rfl<|xsr<|xy rfl (vb z5 rfl) ?_;refine yst E 2 ?_;clear E;intro w10 E;replace E:=E.nm;refine xr 1 rfl<|xne<|xre<|xtr<|xbr<|xtr<|xtr<|xbr<|xtr ?_;intro a O;refine Zw O results106 (O.resBox rfl (E.o.box 2 rfl) (by kernel_rfl)) (O.res rfl) ?_;refine .inr ⟨fun p hp ht=>?_,rfl,E.o.bel⟩;have h5:=Zh9 cc1 hp ht;obtain ⟨n,hn⟩:=h5.2 k (by omega);rw [hg1] at hn;cases hn;refine xcf rfl<|xex<|xtx<|xtx<|xbh<|xet<|xsq ?_;have hk5:ns.length=5:=by omega
 obtain ⟨m0,m1,m2,m3,m4,rfl⟩:=Zpj hk5;obtain rfl:xs=[(m0:Int),(m1:Int),(m2:Int),(m3:Int),(m4:Int)]:=hxs;intro a O;replace O:Fr 64 a [(0,.string s),(2,.pointer (some ⟨b1,0,none⟩)),(3,.bool false),(4,.slice ao2 ((Zm s 46).length) cp2),(5,.slice ao 5 cp),(21,.bool false)]:=O.ls _;obtain ⟨g8,rfl,_,_,_,_⟩:=E.o.rowOpen 0 rfl (Nat.succ_pos _);have hcap:=E.o.capLe 0 rfl;revert a;refine hld [] E ?_;clear E;intro w11 E U;refine Hp 0 E rfl<|xhy 1 E.o rfl rfl (fun E=>vx 3 0 1 rfl)<|xhy 2 E.o rfl rfl (fun E=>ve encI_len E 0 0 rfl rfl rfl rfl)<|Hp 3 E rfl<|xhy 4 E.o rfl rfl (fun E=>vx 3 1 1 rfl)<|xhy 5 E.o rfl rfl (fun E=>ve encI_len E 0 1 rfl rfl rfl rfl)<|Hp 6 E rfl<|xhy 7 E.o rfl rfl (fun E=>vx 3 2 1 rfl)<|xhy 8 E.o rfl rfl (fun E=>ve encI_len E 0 2 rfl rfl rfl rfl)<|Hp 9 E rfl<|xhy 10 E.o rfl rfl (fun E=>vx 3 3 1 rfl)<|xhy 11 E.o rfl rfl (fun E=>ve encI_len E 0 3 rfl rfl rfl rfl)<|Hp 12 E rfl<|xhy 13 E.o rfl rfl (fun E=>vx 3 4 1 rfl)<|xhy 14 E.o rfl rfl (fun E=>ve encI_len E 0 4 rfl rfl rfl rfl)<|xhy 15 E.o rfl rfl (fun E=>vb [.int .i64 (m0:Int),.int .i64 (m1:Int),.int .i64 (m2:Int),.int .i64 (m3:Int),.int .i64 (m4:Int)] rfl) ?_;refine ZI 16 ?_;refine yoa z5 E U ?_;clear E U;intro w12 b9 E U;refine ZI 17 ?_;refine yos 0 [0] U ?_;clear E U;intro w13 E U;refine hdn ?_;replace E:=U;clear U;refine xet<|xsq<|xsr<|Xw 0 5 E rfl rfl ?_;refine ycB (ZZ (⟨(m0:Int),(m1:Int),(m2:Int),(m3:Int),(m4:Int)⟩:PtrD) _) func48 E ?_;clear E;intro w14 E;refine xr 2 rfl<|xcs 58 rfl (fun cc4=>?_) fun cc4=>?_;refine xr 3 rfl<|xne<|xct rfl<|xsr<|xy rfl (vb z5 rfl) ?_;refine yst E 3 ?_;clear E;intro w15 E;replace E:=E.nm;refine xr 1 rfl<|xne<|xre<|xtr ?_;intro a O;refine Zw O results106 (O.resBox rfl (E.o.box 3 rfl) (by kernel_rfl)) (O.res rfl) ?_;refine .inr ⟨fun p hp ht=>?_,rfl,E.o.bel⟩;obtain ⟨e1,e2⟩:=Zj6 hnt (by omega) cc1 hp ht;rw [e1] at hp e2;simp [hp,e2] at cc4;refine Xw 0 5 E rfl rfl ?_;refine Ji (ZL (⟨(m0:Int),(m1:Int),(m2:Int),(m3:Int),(m4:Int)⟩:PtrD) _) func49 E ?_;clear E;intro w16 E;refine xr 1 rfl<|xne<|xcs 61 rfl (fun cc5=>?_) fun cc5=>?_;refine xct rfl<|xsr<|xy rfl (vb z5 rfl) ?_;refine yst E 3 ?_;clear E;intro w17 E;replace E:=E.nm;refine xr 1 rfl<|xne<|xre<|xtr ?_;intro a O;refine Zw O results106 (O.resBox rfl (E.o.box 3 rfl) (by kernel_rfl)) (O.res rfl) ?_;refine .inr ⟨fun p hp ht=>?_,rfl,E.o.bel⟩;obtain ⟨e1,e2⟩:=Zj6 hnt (by omega) cc1 hp ht;rw [e1] at hp e2;simp [hp,e2] at cc5;refine xcf rfl<|xsk<|xet<|xsr<|Xw 0 5 E rfl rfl ?_;refine yst E 3 ?_;clear E;intro w18 E;replace E:=E.nm;refine xr 1 rfl<|xne<|xre ?_;intro a O;refine Zw O results106 (O.resBox rfl (E.o.box 3 rfl) (by kernel_rfl)) (O.res rfl) ?_;exact .inl ⟨(⟨(m0:Int),(m1:Int),(m2:Int),(m3:Int),(m4:Int)⟩:PtrD),by simpa using cc4,ZnS hnt (by omega) (by simpa using cc4) (by simpa using cc5),rfl,E.o.bel⟩
theorem Zfe (s:ByteArray) (w0:World) (hs:s.size≤1000000):Calls prog 108 #[.string s] w0 fun e w'=>(∃ l,IsFan s l∧∃ ao cp,e=.returned (.tuple #[.slice ao l.length cp,.bool true])∧St w0 [Zd PtrD.cells 5 40 (.slice ao l.length cp) l] w')∨((∀ l,¬ IsFan s l)∧∃ ao,e=.returned (.tuple #[.slice ao 0 0,.bool false])∧Below w0.heap.size w0 w'):=by
 have hpm:=ZaL s 44;have E:=Bx.mk (St.start w0);refine ent func108 ntmps108 ?_;refine xsr<|xr 2 rfl<|xne<|xsr<|xr 1 rfl ?_;refine yc (Zgr s 44 _ (by omega)) func137 ?_;rintro _ w1 ⟨ao1,cp1,rfl,hs⟩;refine ⟨_,rfl,?_⟩;replace E:=E.ad hs;clear hs;refine xr 1 rfl<|xne<|xsr ?_;refine yem 40 5 E ?_;clear E;intro w2 b2 E;refine xr 1 rfl<|xne<|xsr<|xr 1 rfl<|xne<|xsq<|xsr<|xr 1 rfl<|xne<|xbl ?_;replace E:=Bx.mk (E.o.nilRow PtrD.cells 5 40 (some ⟨b2,0,none⟩));intro a O;refine ZD (ι:=Nat) (fun k a w=>∃ (ao:Option Addr) (cp:Nat) (ys:List PtrD),(k≤(Zm s 44).length∧ys.length=k∧Ur s ys)∧Fr 49 a [(0,.string s),(4,.slice ao1 ((Zm s 44).length) cp1),(5,.slice ao ys.length cp),(7,.int .i64 (k:Int)),(6,.bool (!ys.all (fun p=>p.hole)))]∧St w0 ([Zd PtrD.cells 5 40 (.slice ao ys.length cp) ys,Zd Zt 1 9 (.slice ao1 ((Zm s 44).length) cp1) (Zm s 44)]) w) (fun k=>(Zm s 44).length - k) 0 ⟨_,_,[],⟨Nat.zero_le _,rfl,Ur.nil s⟩,O.ls _,E.o⟩ ?_;clear O E;clear a;rintro k a w3 ⟨ao,cp,ys,⟨hk,hyl,hft⟩,O,E⟩;replace E:=Bx.mk E;revert a;refine xsq<|xsr<|xr 2 rfl<|xy rfl (vn 9 1 rfl)<|xr 1 rfl<|xne<|xcd 16 rfl (fun cc1 dcc1=>?_) fun cc1 dcc1=>?_
 refine xct rfl<|xsk<|xet<|xsq<|xbl<|xsq ?_;obtain ⟨g3,rfl,_,_,_,_⟩:=E.o.rowOpen 1 rfl (by omega);have hcap:=E.o.capLe 1 rfl;refine xrl<|xr 2 rfl<|xy rfl (vx 9 k 1 rfl)<|xy rfl (fun a O=>ylo (v:=.string ((Zm s 44).getD k ByteArray.empty)) rfl (O.ev rfl) (E.o.elem1 encS_len 1 rfl (Zh (xs:=Zm s 44) (j:=k) (d:=ByteArray.empty) (by omega)) rfl)) ?_;refine yc (ZaM ((Zm s 44).getD k ByteArray.empty) _ (by have:=Zfc s 44 k;omega)) func106 ?_;rintro _ w4 (⟨p,hpo,hpt,rfl,hb⟩|⟨hpn,rfl,hb⟩);refine ⟨_,rfl,?_⟩;replace E:=Bx.mk (E.o.later hb);clear hb;refine xr 3 rfl ?_;refine yal z5 E ?_;clear E;intro w5 b4 E;refine yst E 0 ?_;clear E;intro w6 E;replace E:=E.nm;refine xr 1 rfl<|xne<|xsq<|xsr<|xr 2 rfl<|xne<|xcf rfl<|xsk<|xet<|xsr<|xr 2 rfl<|xcs 31 rfl (fun cc2=>?_) fun cc2=>?_;refine xr 5 rfl<|xne<|xrl<|xr 1 rfl<|Xw 0 5 E rfl rfl ?_;refine ybs PtrD.cells 40 5 [p] E ?_;clear E;intro b5 w7 E;refine yap Yz PtrD.cells_len E 2 (St.rdN E.o PtrD.cells_len 0 rfl) (Zn _) ?_;clear E;intro ao6 cp7 w8 E;refine xr 1 rfl<|xni<|xeb<|xet<|xrl<|xr 1 rfl<|xy rfl (vad rfl)<|xr 1 rfl<|xne ?_;have hz:ys.length+([p]).length=(ys++([p])).length:=(length_append ..).symm;intro a O;rw [hz] at E O;have hlen:(ys++([p])).length=k+1:=by rw [length_append,hyl];rfl
 have hft2:Ur s (ys++([p])):=hft.snoc (by omega) hpo (by rw [hyl];exact hpt);have hsm:(true:Bool)=(!(ys++[p]).all (fun p=>p.hole)):=by rw [List.all_append];skip;simp [cc1,cc2]
 replace E:=E.pks [3,3];exact ⟨k+1,⟨_,_,ys++([p]),⟨by omega,hlen,hft2⟩,O.less _ ⟨rfl,rfl,rfl,rfl,(congrArg (fun z=>some (Value.bool z)) hsm),trivial⟩,(E.o.erS [3,2])⟩,(by omega)⟩;refine Xw 0 5 E rfl rfl ?_;refine Ji (ZL p _) func49 E ?_;clear E;intro w9 E;refine xr 3 rfl<|xne<|xrl<|xr 1 rfl<|Xw 0 5 E rfl rfl ?_;refine ybs PtrD.cells 40 5 [p] E ?_;clear E;intro b8 w10 E;refine yap Yz PtrD.cells_len E 2 (St.rdN E.o PtrD.cells_len 0 rfl) (Zn _) ?_;clear E;intro ao9 cp10 w11 E;refine xr 1 rfl<|xni<|xeb<|xet<|xrl<|xr 1 rfl<|xy rfl (vad rfl)<|xr 1 rfl<|xne ?_;have hz:ys.length+([p]).length=(ys++([p])).length:=(length_append ..).symm;intro a O;rw [hz] at E O;have hlen:(ys++([p])).length=k+1:=by rw [length_append,hyl];rfl
 have hft2:Ur s (ys++([p])):=hft.snoc (by omega) hpo (by rw [hyl];exact hpt);have hsm:(!p.hole:Bool)=(!(ys++[p]).all (fun p=>p.hole)):=by rw [List.all_append];skip;simp [cc1,cc2]
 replace E:=E.pks [3,3];exact ⟨k+1,⟨_,_,ys++([p]),⟨by omega,hlen,hft2⟩,O.less _ ⟨rfl,rfl,rfl,rfl,(congrArg (fun z=>some (Value.bool z)) hsm),trivial⟩,(E.o.erS [3,2])⟩,(by omega)⟩;refine ⟨_,rfl,?_⟩;replace E:=Bx.mk (E.o.later hb);clear hb;refine xr 3 rfl ?_;refine yal z5 E ?_;clear E;intro w12 b11 E;refine yst E 0 ?_;clear E;intro w13 E;replace E:=E.nm;refine xr 1 rfl<|xne<|xsq<|xsr<|xr 2 rfl<|xne<|xct rfl<|xsr ?_;refine yem 40 5 E ?_;clear E;intro w14 b12 E;refine xr 2 rfl<|xne<|xre<|xtr<|xbr<|xtr<|xtr<|xbr<|xtr<|xb2 results108 rfl rfl ?_;exact .inr ⟨Zj5 (k:=k) (by omega) hpn,_,rfl,E.o.bel⟩;refine xcf rfl<|xex<|xtx<|xtx<|xbh<|xet<|xsq<|xsr<|xr 1 rfl<|xy rfl (vn 40 5 rfl)<|xr 2 rfl<|xcn 43 rfl (fun _ dcc3=>?_) fun _ dcc3=>?_;refine xr 3 rfl<|xne<|xct rfl<|xsr ?_;refine yem 40 5 E ?_;clear E;intro w15 b13 E;refine xr 2 rfl<|xne<|xre<|xtr<|xb2 results108 rfl rfl ?_;exact .inr ⟨Zh8 (by omega),_,rfl,E.o.bel⟩;refine xr 3 rfl<|xne<|xcs 46 rfl (fun cc4=>?_) fun cc4=>?_;refine xct rfl<|xsr ?_;refine yem 40 5 E ?_;clear E;intro w16 b14 E;refine xr 2 rfl<|xne<|xre<|xtr<|xb2 results108 rfl rfl ?_;exact .inr ⟨fun l hl=>(by have e:=hft.one (by omega) hl;subst e;have h2:=hl.some;simp [h2] at cc4),_,rfl,E.o.bel⟩;refine xcf rfl<|xsk<|xet<|xsr<|xr 3 rfl<|xne<|xre<|xb2 results108 rfl rfl ?_;have hfan:IsFan s ys:=hft.is_of (by omega) (by omega) (by simpa using cc4);exact .inl ⟨ys,hfan,_,_,rfl,(E.o.erase 1)⟩
structure Y5 (st:Za):Prop where
  n:st.af.length=64
  z:∀ i,(st.af.getD i ByteArray.empty).size≤1000000
theorem ZcK {st:Za} (h:Y5 st) (p:PtrD):(ZA st p).size≤1000000:=by
 unfold ZA
 cases p.hole
 ·cases QG p (Yb st p)
  ·exact Nat.zero_le _
  ·exact h.z _
 ·exact Nat.zero_le _
section
variable {P:Program} {o:Oper} {a:Act} {w:World} {e:TypeId}
theorem Zjf {t:TypeId} {x y z:Operand} (ho:o.op=.slice t x none (some y) (some z)) {ao:Option Addr} {n cap:Nat} (hx:a.eval x=.slice ao n cap) {kk kl:IntKind} {m l:Int} (hy:a.eval y=.int kk m) (hz:a.eval z=.int kl l) {size:Nat} (hu:Yu P t=some (e,size)) {k:Nat} (hm:m=(k:Int)) (hl:l=(k:Int)) (hk:k≤cap):Yl P w o a (.slice ao k k):=by
 unfold Yu at hu
 split at hu
 ·rename_i e' hu'
  split at hu
  ·rename_i inf hq
   subst hm;subst hl;have h2:((k:Int)≤(cap:Int)):=by omega
   unfold Yl execOp;simp only [ho,hx,hy,hz,map_some,Option.map_none,Instr.sliceAt,Instr.slice,Sem.run_bind,run_underlying hu' w,Result.andThen_ok];simp [Instr.slice,Instr.sliceBounds,Instr.sliceBound,asIntOf,go_sem,run_underlying hu' w,sizeOf,typeInfo,hq,h2]
   try (intro hlt;omega)
  ·cases hu
 ·cases hu
end
theorem Zaa (a0:Option Addr) (c0:Nat) (a1:Option Addr) (c1:Nat) (a2:Option Addr) (c2:Nat) (a4:Option Addr) (c4:Nat) (a6:Option Addr) (c6:Nat) (st:Za) (p:PtrD) (b:Nat) (w0:World) (hB:Box w0 b 8 39 (sV a0 c0 a1 c1 a2 c2 a4 c4 a6 c6 st)) (hR:Rd Zt 1 w0 a0 st.af.length st.af) (hrow:Y5 st) (hp:p.ok=true):Calls prog 93 #[.pointer (some ⟨b,0,none⟩),pV p] w0 fun e w'=>e=.returned (.tuple #[.string (ZA st p),.bool (YL st p)])∧Below w0.heap.size w0 w':=by
 have HB:=Bx.mk hB;have HR:=Bx.mk hR;clear hR;have E:=Bx.mk (St.start w0);refine Q9 func93 rfl ntmps93 [(0,.pointer (some ⟨b,0,none⟩)),(1,pV p)] ⟨rfl,rfl,trivial⟩ rfl ?_;intro a O;have hrn:=hrow.n;obtain ⟨g0,o0,r0⟩:=HR.out.opn;have R0:=Bx.mk r0;clear r0;revert a;refine xsr ?_;refine ybx E ?_;clear E;intro w1 b1 E;refine xr 2 rfl<|xne<|xsq<|xbl<|xsr<|Xw 0 5 E rfl rfl ?_;refine ycB (Ye p _) func60 E ?_;clear E;intro w2 E;refine xr 1 rfl<|xne<|xcs 6 rfl (fun cc1=>?_) fun cc1=>?_;refine xct rfl<|xsr<|xr 2 rfl<|xne<|xre<|xbr<|xtr<|xb2 results93 rfl rfl ?_;exact ⟨by rw [J1 cc1,Jl cc1] <;> rfl,E.o.bel⟩;have hpb:=PtrD.ok_all hp cc1;refine xcf rfl<|xsq ?_;intro a O;refine Yr (by kernel_rfl) (by kernel_rfl) E.o ?_;revert a;refine Qw 0 5 rfl rfl<|xqr 2 rfl<|Qf 0 rfl<|xq rfl (fun E a O=>ylo (v:=.slice a0 st.af.length c0) rfl (O.ev rfl) (((HB.out.below E.bel (Nat.le_refl _)).cell 0).trans rfl))<|Qf 0 rfl<|Ql 0 rfl rfl<|xq rfl (fun E a O=>Qm (e:=9) (i:=p.aA.toNat) (size:=1) rfl (O.ev rfl) (O.ev rfl) (by kernel_rfl) (by omega) (by omega) (R0.out.ao p.aA.toNat (by omega)))<|xq rfl (fun E a O=>ylo (v:=.string (st.af.getD p.aA.toNat ByteArray.empty)) rfl (O.ev rfl) (R0.out.elem1 E (Zh (xs:=st.af) (j:=p.aA.toNat) (d:=ByteArray.empty) (by omega)) rfl)) ?_;refine yq (v:=.bool (QG p (Yb st p))) (fun _ E=>Zd2 p (st.af.getD p.aA.toNat ByteArray.empty) _ (by have:=hrow.z p.aA.toNat;omega)) func123 ?_;refine xqr 2 rfl ?_;intro a O;refine wpQuiet_nil ?_;intro w3 E;replace E:=Bx.mk E;revert a;refine xet<|xcs 9 rfl (fun cc2=>?_) fun cc2=>?_
 refine xct rfl<|xsr<|xr 2 rfl<|xne<|xre<|xbr<|xtr<|xb2 results93 rfl rfl ?_;have hf:=cc2;simp only [Bool.not_eq_true',Bool.not_eq_false'] at hf;exact ⟨by rw [ZhZ cc1 hf,XX cc1,hf] <;> rfl,E.o.bel⟩;refine xcf rfl<|xsk<|xeb<|xet<|xsq ?_;intro a O;refine Yr (by kernel_rfl) (by kernel_rfl) E.o ?_;revert a;refine xqr 2 rfl<|Qf 0 rfl<|xq rfl (fun E a O=>ylo (v:=.slice a0 st.af.length c0) rfl (O.ev rfl) (((HB.out.below E.bel (Nat.le_refl _)).cell 0).trans rfl))<|Qf 0 rfl<|Ql 0 rfl rfl<|xq rfl (fun E a O=>Qm (e:=9) (i:=p.aA.toNat) (size:=1) rfl (O.ev rfl) (O.ev rfl) (by kernel_rfl) (by omega) (by omega) (R0.out.ao p.aA.toNat (by omega)))<|xq rfl (fun E a O=>ylo (v:=.string (st.af.getD p.aA.toNat ByteArray.empty)) rfl (O.ev rfl) (R0.out.elem1 E (Zh (xs:=st.af) (j:=p.aA.toNat) (d:=ByteArray.empty) (by omega)) rfl))<|xqr 2 rfl ?_;intro a O;refine wpQuiet_nil ?_;intro w4 E;replace E:=Bx.mk E;revert a;refine xet<|xre<|xb2 results93 rfl rfl ?_;have hf:=cc2;simp only [Bool.not_eq_true',Bool.not_eq_false'] at hf;exact ⟨by rw [UD cc1 hf,XX cc1,hf] <;> rfl,E.o.bel⟩
theorem Zab (a0:Option Addr) (c0:Nat) (a1:Option Addr) (c1:Nat) (a2:Option Addr) (c2:Nat) (a4:Option Addr) (c4:Nat) (a6:Option Addr) (c6:Nat) (st:Za) (p:PtrD) (w0:World) (hR:Rd Zt 1 w0 a0 st.af.length st.af) (hrow:Y5 st) (hp:p.ok=true):Calls prog 51 #[sV a0 c0 a1 c1 a2 c2 a4 c4 a6 c6 st,pV p] w0 fun e w'=>e=.returned (.tuple #[.string (ZA st p),.bool (YL st p)])∧Below w0.heap.size w0 w':=by
 have HR:=Bx.mk hR;clear hR;have E:=Bx.mk (St.start w0);refine Q9 func51 rfl ntmps51 [(0,sV a0 c0 a1 c1 a2 c2 a4 c4 a6 c6 st),(1,pV p)] ⟨rfl,rfl,trivial⟩ rfl ?_;intro a O;have hrn:=hrow.n;obtain ⟨g0,o0,r0⟩:=HR.out.opn;have R0:=Bx.mk r0;clear r0;revert a;refine xsr ?_;refine ybx E ?_;clear E;intro w1 b1 E;refine ybx E ?_;clear E;intro w2 b2 E;refine xr 2 rfl<|xne<|xsq<|xsr<|Xw 0 5 E rfl rfl ?_;refine ycB (ZL p _) func49 E ?_;clear E;intro w3 E;refine xne<|xcs 7 rfl (fun cc1=>?_) fun cc1=>?_;refine xct rfl<|xsr<|xr 2 rfl<|xne<|xre<|xtr<|xb2 results51 rfl rfl ?_;exact ⟨by rw [J1 cc1,Jl cc1] <;> rfl,E.o.bel⟩;have hpb:=PtrD.ok_all hp cc1;refine xcf rfl<|xsk<|xet<|xsq<|xsq ?_;intro a O;refine Yr (by kernel_rfl) (by kernel_rfl) E.o ?_;revert a;refine Qw 0 5 rfl rfl<|Qf 0 rfl<|Ql 1 rfl rfl<|Qf 0 rfl<|Ql 0 rfl rfl<|xq rfl (fun E a O=>Qm (e:=9) (i:=p.aA.toNat) (size:=1) rfl (O.ev rfl) (O.ev rfl) (by kernel_rfl) (by omega) (by omega) (R0.out.ao p.aA.toNat (by omega)))<|xq rfl (fun E a O=>ylo (v:=.string (st.af.getD p.aA.toNat ByteArray.empty)) rfl (O.ev rfl) (R0.out.elem1 E (Zh (xs:=st.af) (j:=p.aA.toNat) (d:=ByteArray.empty) (by omega)) rfl)) ?_;refine yq (v:=.bool (QG p (Yb st p))) (fun _ E=>Zao p (st.af.getD p.aA.toNat ByteArray.empty) _ (by have:=hrow.z p.aA.toNat;omega)) func78 ?_;refine xqr 1 rfl ?_;intro a O;refine wpQuiet_nil ?_;intro w4 E;replace E:=Bx.mk E;revert a;refine xet<|xcs 16 rfl (fun cc2=>?_) fun cc2=>?_
 refine xct rfl<|xsr<|xr 2 rfl<|xne<|xre<|xtr<|xb2 results51 rfl rfl ?_;have hf:=cc2;simp only [Bool.not_eq_true',Bool.not_eq_false'] at hf;exact ⟨by rw [ZhZ cc1 hf,XX cc1,hf] <;> rfl,E.o.bel⟩;refine xcf rfl<|xsk<|xet<|xsr<|Xf 0 rfl<|Xl 1 E rfl rfl<|Xf 0 rfl<|Xl 0 E rfl rfl<|xy rfl (fun a O=>Qm (e:=9) (i:=p.aA.toNat) (size:=1) rfl (O.ev rfl) (O.ev rfl) (by kernel_rfl) (by omega) (by omega) (R0.out.ao p.aA.toNat (by omega)))<|xy rfl (fun a O=>ylo (v:=.string (st.af.getD p.aA.toNat ByteArray.empty)) rfl (O.ev rfl) (R0.out.elem1 E.o (Zh (xs:=st.af) (j:=p.aA.toNat) (d:=ByteArray.empty) (by omega)) rfl))<|xr 2 rfl<|xne<|xre<|xb2 results51 rfl rfl ?_;have hf:=cc2;simp only [Bool.not_eq_true',Bool.not_eq_false'] at hf;exact ⟨by rw [UD cc1 hf,XX cc1,hf] <;> rfl,E.o.bel⟩
theorem Zjg (k p:PtrD) (b:Nat) (w0:World) (hB:Box w0 b 5 40 (pV p)):Calls prog 148 #[pV k,.pointer (some ⟨b,0,none⟩)] w0 fun e w'=>e=.returned (.bool (decide (p.ah<k.ah)))∧Below w0.heap.size w0 w':=by
 have HB:=Bx.mk hB;have E:=Bx.mk (St.start w0);refine ent func148 ntmps148 ?_;refine xsr ?_;refine ybx E ?_;clear E;intro w1 b1 E;refine xr 1 rfl<|xne<|xsr<|Xf 1 rfl<|Xl 0 E rfl rfl<|Xf 1 rfl<|xy rfl (fun a O=>ylo (v:=.int .i64 p.ah) rfl (O.ev rfl) (((HB.out.below E.o.bel (Nat.le_refl _)).cell 1).trans rfl))<|xr 2 rfl<|xne<|xre<|xb1 results148 rfl ?_;exact ⟨rfl,E.o.bel⟩
theorem Zme {xs:List PtrD} {f:PtrD→Bool}:(!ZcB (fun k=>!f (xs.getD k PtrD.zero)) xs.length)=xs.any f:=by
 have h:=Zfb (xs:=xs) (f:=fun p=>!f p) xs.length (Nat.le_refl _);rw [List.take_length] at h;rw [show ZcB (fun k=>!f (xs.getD k PtrD.zero)) xs.length=xs.all (fun p=>!f p) from h,List.not_all_eq_any_not]
 simp
theorem QS (a0:Option Addr) (c0:Nat) (a1:Option Addr) (c1:Nat) (a2:Option Addr) (c2:Nat) (a4:Option Addr) (c4:Nat) (a6:Option Addr) (c6:Nat) (st:Za) (p:PtrD) (level:Int) (b:Nat) (w0:World) (hT:Xq w0) (hM:X1 w0) (hE:X2 w0) (hB:Box w0 b 8 39 (sV a0 c0 a1 c1 a2 c2 a4 c4 a6 c6 st)) (hR:Rd Zt 1 w0 a0 st.af.length st.af) (hrow:Y5 st) (hp:p.ok=true):Calls prog 121 #[.pointer (some ⟨b,0,none⟩),pV p,.int .i64 level] w0 fun e w'=>(∃ l,kids st p level=some l∧∃ ao cp,e=.returned (.tuple #[.slice ao l.length cp,.bool true])∧St w0 [Zd PtrD.cells 5 40 (.slice ao l.length cp) l] w')∨(kids st p level=none∧∃ ao n cp,e=.returned (.tuple #[.slice ao n cp,.bool false])∧Below w0.heap.size w0 w'):=by
 have HT:=Bx.mk hT;have HM:=Bx.mk hM;have HE:=Bx.mk hE;have HB:=Bx.mk hB;have HR:=Bx.mk hR;clear hT hM hE hR;have E:=Bx.mk (St.start w0);refine ent func121 ntmps121 ?_;refine xsr ?_;refine ybx E ?_;clear E;intro w1 b1 E;refine xr 2 rfl<|xne<|xsq<|xsr<|Xw 0 5 E rfl rfl ?_;refine ycB (Ye p _) func60 E ?_;clear E;intro w2 E;refine xne<|xcs 13 rfl (fun cc1=>?_) fun cc1=>?_;refine xct rfl<|xsr ?_;intro a O;refine ZeX (enc:=PtrD.cells) (n:=4) rfl O rfl rfl rfl Yz (O.ev rfl) (O.ev rfl) (by omega) (by omega) (by omega) (by unfold maxLen;omega) PtrD.zero (u:=az5) (by kernel_rfl) rfl rfl E.o ?_;clear O E a;intro b2 a w3 O E;replace E:=Bx.mk E;revert a;refine xr 2 rfl<|xne<|xre<|xtr<|xb2 results121 rfl rfl ?_;exact .inl ⟨XO,UE cc1,_,_,rfl,(E.o.erase 1)⟩;have hpb:=PtrD.ok_all hp cc1;refine xcf rfl<|xsk<|xet<|xsr<|xr 1 rfl<|Xw 0 5 E rfl rfl ?_;refine ycB (Zaa a0 c0 a1 c1 a2 c2 a4 c4 a6 c6 st p b _ (HB.out.below E.o.bel (Nat.le_refl _)) (HR.out.below E.o.bel) hrow hp) func93 E ?_;clear E;intro w4 E;refine xr 5 rfl<|xne<|xsq<|xsr<|xr 3 rfl<|xcs 23 rfl (fun cc2=>?_) fun cc2=>?_;refine xr 5 rfl<|xne<|xct rfl<|xsr<|xr 2 rfl<|xne<|xre<|xtr<|xb2 results121 rfl rfl ?_;exact .inr ⟨ZaG cc1 (by simpa using cc2),_,_,_,rfl,E.o.bel⟩;refine Xf 4 rfl<|Xl 0 E rfl rfl<|xr 3 rfl<|xne<|xcn 28 rfl (fun cc3 dcc3=>?_) fun cc3 dcc3=>?_;refine xct rfl<|xsr<|xr 2 rfl<|xne<|xre<|xtr<|xb2 results121 rfl rfl ?_;exact .inr ⟨ZbU cc1 (by simpa using cc3),_,_,_,rfl,E.o.bel⟩;refine xcf rfl<|xsk<|xet<|xsr<|xr 1 rfl ?_;refine yc (Zfd (ZA st p) _ (HT.o.below E.o.bel) (HM.o.below E.o.bel) (HE.o.below E.o.bel) (ZcK hrow p)) func146 ?_;rintro _ w5 (⟨l,hfan,ao,cp,rfl,hs1⟩|⟨hno,rfl,hb⟩);refine ⟨_,rfl,?_⟩;replace E:=E.ad hs1;clear hs1;refine xr 5 rfl<|xne<|xsr<|xr 4 rfl<|xy rfl (fun a O=>Ue O rfl (cs:=#[.pointer (some ⟨b1,0,none⟩)]) rfl) ?_;refine Ji (by have:=Vg ao cp l 148 #[.pointer (some ⟨b1,0,none⟩)] (fun k=>decide (p.ah<(l.getD k PtrD.zero).ah)) _ (by have:=hfan.n;omega) (ZJ func148 (by kernel_rfl) rfl) (St.rdOf E.o PtrD.cells_len 0 rfl) (fun k hk w hb=>Zjg _ p b1 w ((E.o.box 1 rfl).below hb (Nat.le_refl _)));rw [Zme (f:=fun k=>decide (p.ah<k.ah))] at this;exact this) func147 E ?_;clear E;intro w6 E;refine xr 4 rfl<|xne<|xre<|xb2 results121 rfl rfl ?_
 cases hany:l.any (fun k=>decide (p.ah<k.ah)) with
 | false=>exact .inl ⟨l,Ze3 cc1 (by simpa using cc2) (by simpa using cc3) hfan hany,_,_,rfl,(E.o.erase 1)⟩
 | true=>exact .inr ⟨Zdg cc1 hfan hany,_,_,_,rfl,E.o.bel⟩
 refine ⟨_,rfl,?_⟩;replace E:=Bx.mk (E.o.later hb);clear hb;refine xr 5 rfl<|xne<|xsr<|xr 10 rfl<|xne<|xre<|xb2 results121 rfl rfl ?_;exact .inr ⟨ZbV cc1 hno,_,_,_,rfl,E.o.bel⟩
theorem Vi (n:Nat) (hn:n≤100) (w0:World):Calls prog 107 #[.int .i64 (n:Int)] w0 fun e w'=>∃ ao cp,e=.returned (.slice ao n cp)∧St w0 [Zd PtrD.cells 5 40 (.slice ao n cp) (replicate n PtrD.zero)] w':=by
 have E:=Bx.mk (St.start w0);refine ent func107 ntmps107 ?_;refine xsr<|xr 1 rfl<|xne<|xsr<|xr 1 rfl ?_;intro a O;refine ZeX (enc:=PtrD.cells) (n:=n) rfl O rfl rfl rfl Yz (O.ev rfl) (O.ev rfl) (by omega) (by omega) (by omega) (by unfold maxLen;omega) PtrD.zero (u:=az5) (by kernel_rfl) rfl rfl E.o ?_;clear O E a;intro b1 a w1 O E;replace E:=Bx.mk E;revert a;refine xr 1 rfl<|xne<|xre<|xb1 results107 rfl ?_;exact ⟨_,_,rfl,E.o⟩
theorem ZaN (a0:Option Addr) (c0:Nat) (a1:Option Addr) (c1:Nat) (a2:Option Addr) (c2:Nat) (a4:Option Addr) (c4:Nat) (a6:Option Addr) (c6:Nat) (st:Za) (p:PtrD) (level:Int) (w0:World) (hR:Rd Zt 1 w0 a0 st.af.length st.af) (hrow:Y5 st):Calls prog 77 #[sV a0 c0 a1 c1 a2 c2 a4 c4 a6 c6 st,pV p,.int .i64 level] w0 fun e w'=>(∃ l,kidsS st p level=some l∧∃ ao cp,e=.returned (.tuple #[.slice ao l.length cp,.bool true])∧St w0 [Zd PtrD.cells 5 40 (.slice ao l.length cp) l] w')∨(kidsS st p level=none∧∃ ao n cp,e=.returned (.tuple #[.slice ao n cp,.bool false])∧Below w0.heap.size w0 w'):=by
 have HR:=Bx.mk hR;clear hR;have E:=Bx.mk (St.start w0);refine ent func77 ntmps77 ?_;refine xsr ?_;refine ybx E ?_;clear E;intro w1 b1 E;refine ybx E ?_;clear E;intro w2 b2 E;refine xr 2 rfl<|xne<|xsq<|xsr<|Xw 0 5 E rfl rfl ?_;refine ycB (ZL p _) func49 E ?_;clear E;intro w3 E;refine xne<|xcs 14 rfl (fun cc1=>?_) fun cc1=>?_;refine xct rfl<|xsr ?_;refine yc (Vi 4 (by omega) _) func107 ?_;rintro _ w4 ⟨ao3,cp3,rfl,hs⟩;refine ⟨_,rfl,?_⟩;replace E:=E.ad hs;clear hs;refine xr 2 rfl<|xne<|xre<|xtr<|xb2 results77 rfl rfl ?_;exact .inl ⟨XO,Ze2 cc1,_,_,rfl,(E.o.erS [2,1])⟩;refine xcf rfl<|xsk<|xet<|xsq<|xsr<|Xw 0 5 E rfl rfl ?_;refine ycB (ZZ p _) func48 E ?_;clear E;intro w5 E;refine xr 2 rfl<|xcs 19 rfl (fun cc2=>?_) fun cc2=>?_;refine xr 12 rfl<|xne<|xct rfl<|xsr ?_;refine yem 40 5 E ?_;clear E;intro w6 b4 E;refine xr 2 rfl<|xne<|xre<|xtr<|xb2 results77 rfl rfl ?_;have hbad:(p.ok && ((p.ak == level) && decide (p.ah≤st.aq)))=false:=by
   have hl:p.ok=false:=(by simpa using cc2);rw [hl];rfl
 exact .inr ⟨ZaH cc1 hbad,_,_,_,rfl,E.o.bel⟩;have hp:p.ok=true:=by simpa using cc2
 refine Xf 4 rfl<|Xl 0 E rfl rfl<|xr 4 rfl<|xcn 25 rfl (fun cc3 dcc3=>?_) fun cc3 dcc3=>?_;refine xr 6 rfl<|xne<|xct rfl<|xsr ?_;refine yem 40 5 E ?_;clear E;intro w7 b5 E;refine xr 2 rfl<|xne<|xre<|xtr<|xb2 results77 rfl rfl ?_;have hbad:(p.ok && ((p.ak == level) && decide (p.ah≤st.aq)))=false:=by
   have hl:(p.ak == level)=false:=(by simpa using cc3);rw [hl];simp
 exact .inr ⟨ZaH cc1 hbad,_,_,_,rfl,E.o.bel⟩;refine Xf 1 rfl<|Xl 0 E rfl rfl<|Xf 3 rfl<|Xl 1 E rfl rfl<|xr 2 rfl<|xne<|xcd 31 rfl (fun _ dcc4=>?_) fun _ dcc4=>?_;refine xct rfl<|xsr ?_;refine yem 40 5 E ?_;clear E;intro w8 b6 E;refine xr 2 rfl<|xne<|xre<|xtr<|xb2 results77 rfl rfl ?_;have hbad:(p.ok && ((p.ak == level) && decide (p.ah≤st.aq)))=false:=by
   rw [decide_eq_false (show ¬ p.ah≤st.aq by omega)];simp
 exact .inr ⟨ZaH cc1 hbad,_,_,_,rfl,E.o.bel⟩;refine xcf rfl<|xsk<|xet<|xsr<|Xw 1 8 E rfl rfl<|Xw 0 5 E rfl rfl ?_;refine ycB (Zab a0 c0 a1 c1 a2 c2 a4 c4 a6 c6 st p _  (HR.out.below E.o.bel) hrow hp) func51 E ?_;clear E;intro w9 E;refine xr 5 rfl<|xne<|xsq<|xsr<|xr 2 rfl<|xne<|xcs 40 rfl (fun cc5=>?_) fun cc5=>?_;refine xct rfl<|xsr ?_;refine yem 40 5 E ?_;clear E;intro w10 b7 E;refine xr 2 rfl<|xne<|xre<|xtr<|xb2 results77 rfl rfl ?_;have hks:=VC (n:=level) hp (show p.ah≤st.aq by omega);exact .inr ⟨hks.trans (ZaG cc1 (by simpa using cc5)),_,_,_,rfl,E.o.bel⟩;refine xcf rfl<|xsk<|xet<|xsr<|xr 1 rfl ?_;refine yc (Zfe (ZA st p) _ (ZcK hrow p)) func108 ?_;rintro _ w11 (⟨l,hfan,ao,cp,rfl,hs1⟩|⟨hno,ae,rfl,hb⟩);refine ⟨_,rfl,?_⟩;replace E:=E.ad hs1;clear hs1;refine xr 5 rfl<|xne<|xsq<|xsr<|xr 1 rfl<|xne<|xbl ?_;intro a O;refine ZD (ι:=Nat) (fun k a w=>(k≤l.length∧∀ i,i<k→decide (p.ah<(l.getD i PtrD.zero).ah)=false)∧Fr 64 a [(0,sV a0 c0 a1 c1 a2 c2 a4 c4 a6 c6 st),(1,pV p),(2,.int .i64 level),(3,.pointer (some ⟨b1,0,none⟩)),(4,.pointer (some ⟨b2,0,none⟩)),(6,.slice none 0 0),(7,.bool false),(10,.slice ao l.length cp),(11,.bool true),(12,.int .i64 (k:Int))]∧St w0 ([Zd PtrD.cells 5 40 (.slice ao l.length cp) l,boxA b2 5 40 (pV p),boxA b1 8 39 (sV a0 c0 a1 c1 a2 c2 a4 c4 a6 c6 st)]) w) (fun k=>l.length - k) 0 ⟨⟨Nat.zero_le _,fun i hi=>absurd hi (Nat.not_lt_zero _)⟩,O.ls _,E.o⟩ ?_;clear O E;clear a;rintro k a w12 ⟨⟨hk,hno⟩,O,E⟩;replace E:=Bx.mk E;have hl4:=hfan.n;revert a;refine xsq<|xsr<|xr 2 rfl<|xy rfl (vn 40 5 rfl)<|xr 1 rfl<|xne<|xcd 50 rfl (fun _ dcc6=>?_) fun _ dcc6=>?_
 refine xct rfl<|xsk<|xet<|xsq<|xbl<|xsq ?_;obtain ⟨g8,rfl,_,_,_,_⟩:=E.o.rowOpen 0 rfl (by omega);intro a O;refine Yr (by kernel_rfl) (by kernel_rfl) E.o ?_;revert a;refine xqr 2 rfl<|xq rfl (fun E=>vx 40 k 5 rfl)<|Qf 1 rfl<|xq rfl (fun E a O=>ylo (v:=.int .i64 ((l.getD k PtrD.zero).ah)) rfl (O.ev rfl) (E.elem PtrD.cells_len 0 rfl (Zh (xs:=l) (j:=k) (d:=PtrD.zero) (by omega)) 1 _ rfl))<|Qf 1 rfl<|Ql 1 rfl rfl<|xqr 1 rfl ?_;intro a O;refine wpQuiet_nil ?_;intro w13 E;replace E:=Bx.mk E;revert a;refine xet<|xcd 60 rfl (fun cc7 dcc7=>?_) fun cc7 dcc7=>?_
 refine xct rfl<|xsr ?_;refine yem 40 5 E ?_;clear E;intro w14 b9 E;refine xr 2 rfl<|xne<|xre<|xbr<|xtr<|xtr<|xbr<|xtr<|xb2 results77 rfl rfl ?_;have hks:=VC (n:=level) hp (show p.ah≤st.aq by omega);have hany:l.any (fun k=>decide (p.ah<k.ah))=true:=List.any_eq_true.2 ⟨l.getD k PtrD.zero,(by rw [getD_eq_getElem?_getD,getElem?_eq_getElem (show k<l.length by omega)];exact List.getElem_mem _),cc7⟩;exact .inr ⟨hks.trans (Zdg cc1 hfan hany),_,_,_,rfl,E.o.bel⟩;refine xcf rfl<|xsk<|xeb<|xet<|xrl<|xr 1 rfl<|xy rfl (vad rfl)<|xr 1 rfl<|xne ?_;have hno1:∀ i,i<k+1→decide (p.ah<(l.getD i PtrD.zero).ah)=false:=fun i hi=>(by omega:i<k∨i=k).elim (hno i) fun e=>by subst e;exact cc7
 intro a O;exact ⟨k+1,⟨⟨by omega,hno1⟩,O.less _ ⟨rfl,rfl,rfl,rfl,rfl,rfl,rfl,rfl,rfl,rfl,trivial⟩,E.o⟩,(by omega)⟩;refine xcf rfl<|xex<|xtx<|xtx<|xbh<|xet<|xsr<|xr 4 rfl<|xne<|xre<|xb2 results77 rfl rfl ?_;have hks:=VC (n:=level) hp (show p.ah≤st.aq by omega);have hany:l.any (fun k=>decide (p.ah<k.ah))=false:=List.any_eq_false.2 fun x hx=>by
   obtain ⟨i,hi,e⟩:=List.mem_iff_getElem.1 hx;have h1:=hno i (by omega);rw [getD_eq_getElem?_getD,getElem?_eq_getElem hi,getD_some,e] at h1;rw [h1];simp
 exact .inl ⟨l,hks.trans (Ze3 cc1 (by simpa using cc5) (by simpa using cc3) hfan hany),_,_,rfl,(E.o.erS [2,1])⟩;refine ⟨_,rfl,?_⟩;replace E:=Bx.mk (E.o.later hb);clear hb;refine xr 5 rfl<|xne<|xsq<|xsr<|xr 1 rfl<|xne<|xbl ?_;intro a O;refine ZD (ι:=Nat) (fun k a w=>(k=0)∧Fr 64 a [(0,sV a0 c0 a1 c1 a2 c2 a4 c4 a6 c6 st),(1,pV p),(2,.int .i64 level),(3,.pointer (some ⟨b1,0,none⟩)),(4,.pointer (some ⟨b2,0,none⟩)),(6,.slice none 0 0),(7,.bool false),(10,.slice ae 0 0),(11,.bool false),(12,.int .i64 (k:Int))]∧St w0 ([boxA b2 5 40 (pV p),boxA b1 8 39 (sV a0 c0 a1 c1 a2 c2 a4 c4 a6 c6 st)]) w) (fun k=>0) 0 ⟨rfl,O.ls _,E.o⟩ ?_;clear O E;clear a;rintro k a w15 ⟨hk0,O,E⟩;replace E:=Bx.mk E;revert a;refine xsq<|xsr<|xr 2 rfl<|xy rfl (vn 40 5 rfl)<|xr 1 rfl<|xne<|xcd 50 rfl (fun _ dcc8=>?_) fun _ dcc8=>?_
 exact absurd dcc8 (by omega);refine xcf rfl<|xex<|xtx<|xtx<|xbh<|xet<|xsr<|xr 4 rfl<|xne<|xre<|xb2 results77 rfl rfl ?_;have hks:=VC (n:=level) hp (show p.ah≤st.aq by omega);exact .inr ⟨hks.trans (ZbV cc1 hno),_,_,_,rfl,E.o.bel⟩
def good (refs:List Int) (t:Int) (p:PtrD):Bool:=YZ p t && (refs.getD p.aA.toNat 0 != 0)
theorem Zgw (ao:Option Addr) (len cap:Nat) (ps0 ps:List PtrD) (t:Int) (refs:List Int) (a1:Option Addr) (c1:Nat) (cs:Array Value) (s g m:Nat) (W w:World)
  (hlen:len≤1048576) (h0:ps0.length≤1048576) (h64:refs.length=64) (hsg:s<g) (hgm:g<m) (hWg:W.heap.size≤g)
  (hb:Below W.heap.size W w) (hcs:cs[1]? = some (.slice a1 refs.length c1)) (r1:Rd Zu 1 W a1 refs.length refs) (r4:Rd PtrD.cells 5 W ao len ps)
  (hA:w.heap[s]? = some (.cells cs 39 (0,0))) (hM:w.heap[m]? = some (.cells #[.slice (some ⟨g,0,none⟩) 64 64] 23 (0,0)))
  (ho:w.ownsRow g 3 1 (.slice (some ⟨g,0,none⟩) 64 64) 64 (Xu ps0)) :
  Calls prog 119 #[.slice ao len cap,.int .i64 t,.pointer (some ⟨s,0,none⟩),.pointer (some ⟨m,0,none⟩)] w fun e w'=>e=.returned (.bool (ps.all (good refs t)))∧Below W.heap.size W w' ∧
   (ps.all (good refs t)=true→w'.heap[s]? = some (.cells cs 39 (0,0))∧w'.heap[m]? = some (.cells #[.slice (some ⟨g,0,none⟩) 64 64] 23 (0,0))∧w'.ownsRow g 3 1 (.slice (some ⟨g,0,none⟩) 64 64) 64 (Xu (ps0++ps))):=by
 have HA0:=Lib.hid hA;have HM0:=Lib.hid hM;have HO0:=Lib.hid ho;have hps:=r4.len;have H64:=Lib.hid h64;clear hA hM ho h64
 go_enter func119,ntmps119
 go_wp2
 go_loopw [11] (fun i wr=>∃ k:Nat,k≤len∧i=.int .i64 k∧(ps.take k).all (good refs t)=true∧Below W.heap.size W wr∧wr.heap[s]? = some (.cells cs 39 (0,0))∧wr.heap[m]? = some (.cells #[.slice (some ⟨g,0,none⟩) 64 64] 23 (0,0))∧wr.ownsRow g 3 1 (.slice (some ⟨g,0,none⟩) 64 64) 64 (Xu (ps0++ps.take k))) (fun i _=>len - (intOf i).toNat)
 case atStart=>exact ⟨0,Nat.zero_le _,rfl,rfl,hb,HA0.out,HM0.out,by simpa using HO0.out⟩
 case round =>
  obtain ⟨k,hk,rfl,hall,hb1,hA,hM,ho⟩:=hrel;clear hb HA0 HM0 HO0
  by_cases hlt:k<len
  ·obtain ⟨b,off,p,hp,rfl,hbl,hrg⟩:=r4.at_ k (by omega)
   obtain ⟨d0,d1,d2,d3,d4⟩:=PtrD.at_ (Zq hrg hb1 hbl);obtain ⟨hkp,hpe⟩:=List.getElem?_eq_some_iff.1 hp;have hsn:Hid (ps.take (k+1)=ps.take k++[p]):=by show _=_;rw [List.take_succ_eq_append_getElem hkp,hpe]
   have hfail:Hid (good refs t p=false→ps.all (good refs t)=false):=fun h=>by rw [List.all_eq_false];exact ⟨p,by rw [← hpe];exact List.getElem_mem _,by rw [h];decide⟩
   have hnext:Hid (good refs t p=true→(ps.take (k+1)).all (good refs t)=true):=fun h=>by rw [hsn.out,List.all_append,hall];simp [h]
   have hgood:Hid (good refs t p=((p.ok && (!p.hole && decide (p.ah≤t))) && (refs.getD p.aA.toNat 0 != 0))):=rfl;have hcj:(ps0++ps.take k).length≤2097152:=by rw [length_append,length_take];omega
   have HA:=Lib.hid hA;have HM:=Lib.hid hM;have HO:=Lib.hid ho;have hsw:=Xt hA;have hmw:=Xt hM;clear hp hrg hall hA hM ho hpe hkp
   go_wp2_with fail
   have hba:=hb1.alloc hb1.size (.cells #[.int .i64 p.aA,.int .i64 p.ah,.int .i64 p.al,.int .i64 p.ax,.int .i64 p.ak] 40);refine (Xm p _).mono ?_;rintro e w2 ⟨rfl,b2⟩;have hb2:=hba.trans (b2.mono hba.size);have q2:=Ze (ZY wr (.cells #[.int .i64 p.aA,.int .i64 p.ah,.int .i64 p.al,.int .i64 p.ax,.int .i64 p.ak] 40) _ rfl) b2 (Nat.le_refl _);have f0:w2.cell? ⟨wr.heap.size,0,none⟩=some (.int .i64 p.aA):=Zc q2 0;have f1:w2.cell? ⟨wr.heap.size,1,none⟩=some (.int .i64 p.ah):=Zc q2 1;have f2:w2.cell? ⟨wr.heap.size,2,none⟩=some (.int .i64 p.al):=Zc q2 2;have f3:w2.cell? ⟨wr.heap.size,3,none⟩=some (.int .i64 p.ax):=Zc q2 3;have f4:w2.cell? ⟨wr.heap.size,4,none⟩=some (.int .i64 p.ak):=Zc q2 4
   cases h1:p.ok
   ·have HR:Hid (good refs t p=false):=by show _=_;rw [hgood.out,h1];rfl
    go_wp2
    go_ret
    exact ⟨Zr (hfail.out HR.out).symm,hb2,fun h=>absurd ((hfail.out HR.out).symm.trans h) (by decide)⟩
   ·go_wp2_with fail
    refine (Ye p _).mono ?_;rintro e w3 ⟨rfl,b3⟩;have hb3:=hb2.trans (b3.mono hb2.size);have q3:=Ze q2 b3 (Nat.le_refl _);clear f0 f1 f2 f3 f4
    cases h2:p.hole
    rotate_left
    ·have HR:Hid (good refs t p=false):=by show _=_;rw [hgood.out,h1,h2];rfl
     go_wp2
     go_ret
     exact ⟨Zr (hfail.out HR.out).symm,hb3,fun h=>absurd ((hfail.out HR.out).symm.trans h) (by decide)⟩
    ·by_cases h3:p.ah≤t
     rotate_left
     ·have HR:Hid (good refs t p=false):=by show _=_;rw [hgood.out,h1,h2];simp [h3]
      have f1:w3.cell? ⟨wr.heap.size,1,none⟩=some (.int .i64 p.ah):=Zc q3 1;have h3':decide (t<p.ah)=true:=by simp;omega
      go_wp2
      go_ret
      exact ⟨Zr (hfail.out HR.out).symm,hb3,fun h=>absurd ((hfail.out HR.out).symm.trans h) (by decide)⟩
     ·have hat:=Zck (p:=p) (m:=t) (by simp [YZ,h1,h2,h3])
      obtain ⟨a,ha⟩:∃ a:Nat,p.aA=(a:Int):=⟨p.aA.toNat,by omega⟩;have ha1:a<64:=by omega
      have Ha:=Lib.hid ha;have Hat:=Lib.hid hat;clear ha hat;have f0:w3.cell? ⟨wr.heap.size,0,none⟩=some (.int .i64 (a:Int)):=by rw [← Ha.out];exact Zc q3 0
      have f1:w3.cell? ⟨wr.heap.size,1,none⟩=some (.int .i64 p.ah):=Zc q3 1;have hA3:=Ze (Ze (Xp HA.out (.cells #[.int .i64 p.aA,.int .i64 p.ah,.int .i64 p.al,.int .i64 p.ax,.int .i64 p.ak] 40)) b2 (Nat.le_refl _)) b3 (Nat.le_refl _);have hM3:=Ze (Ze (Xp HM.out (.cells #[.int .i64 p.aA,.int .i64 p.ah,.int .i64 p.al,.int .i64 p.ax,.int .i64 p.ak] 40)) b2 (Nat.le_refl _)) b3 (Nat.le_refl _);have ho3:=X8 (X8 (HO.out.alloc (.cells #[.int .i64 p.aA,.int .i64 p.ah,.int .i64 p.al,.int .i64 p.ax,.int .i64 p.ak] 40)) b2 (Nat.le_refl _)) b3 (Nat.le_refl _);have hca:w3.cell? ⟨g,a,none⟩=some (.int .i64 (cnt (ps0++ps.take k) a:Nat)):=by rw [ho3.cellAt a (by omega)];exact Qb _ _ ha1
      have hfa:=ho3.frozenAt a;have hcl:=ZgT (ps0++ps.take k) a;obtain ⟨b1,off1,r,hx1,rfl,hbl1,hrg1⟩:=r1.at_ a (by rw [H64.out];exact ha1);have g1:=(Zq hrg1 hb3 hbl1) 0 _ rfl;simp only [Nat.mul_one,Nat.add_zero] at g1;have e1:=Lib.hid (QN (d:=(0:Int)) hx1);have hl1:a<refs.length:=by rw [H64.out];exact ha1
      have p1:w3.cell? ⟨s,1,none⟩=some (.slice (some ⟨b1,off1,none⟩) refs.length c1):=by rw [Zc hA3 1];exact hcs
      have pm:w3.cell? ⟨m,0,none⟩=some (.slice (some ⟨g,0,none⟩) 64 64):=Zc hM3 0;have HA3:=Lib.hid hA3;have HM3:=Lib.hid hM3;have HO3:=Lib.hid ho3;clear hx1 hrg1 hA3 hM3 ho3 q2 q3 b2 b3 HA HM HO hb1 hb2 hba;have h3':decide (t<p.ah)=false:=by simp;omega
      cases gr:(r == 0)
      rotate_left
      ·have HR:Hid (good refs t p=false):=by
        show _=_;rw [hgood.out,Ha.out,Int.toNat_natCast,e1.out];simp only [bne,gr];simp
       go_wp2
       go_ret
       exact ⟨Zr (hfail.out HR.out).symm,hb3,fun h=>absurd ((hfail.out HR.out).symm.trans h) (by decide)⟩
      ·have HR:Hid (good refs t p=true):=by
        show _=_;rw [hgood.out,Ha.out,Int.toNat_natCast,e1.out,h1,h2];simp only [bne,gr];simp [h3]
       generalize hcd:cnt (ps0++ps.take k) a=cn at hca hcl;have HCD:=Lib.hid hcd;clear hcd
       go_wp2
       go_roundw
       case rel =>
        obtain ⟨ho4,_⟩:=HO3.out.stored a (.int .i64 ((cn:Int)+1));refine ⟨k+1,by omega,by go_num,hnext.out HR.out,hb3.setCell (p:=⟨g,a,none⟩) hWg _,?_,?_,?_⟩
        ·exact ZK HA3.out (p:=⟨g,a,none⟩) (Nat.ne_of_lt hsg) _
        ·exact ZK HM3.out (p:=⟨g,a,none⟩) (Nat.ne_of_gt hgm) _
        ·rw [hsn.out,← List.append_assoc,← Vp _ p a Ha.out ha1,HCD.out];exact ho4
       case measure=>simp [intOf];omega
  ·have hk':k=len:=by omega
   subst hk';have htk:Hid (ps.take k=ps):=List.take_of_length_le (by omega);have HR:=Lib.hid hall;have HA:=Lib.hid hA;have HM:=Lib.hid hM;have HO:=Lib.hid ho;clear hall hA hM ho
   go_wp2
   go_ret
   rw [htk.out] at HR HO;exact ⟨Zr HR.out.symm,hb1,fun _=>⟨HA.out,HM.out,HO.out⟩⟩
structure Q0 (W:World) where
  val:World
  below:Below W.heap.size W val
instance (W:World):Inhabited (Q0 W):=⟨⟨W,Below.refl _ _⟩⟩
theorem YV {P:Program} {id:Nat} {Q:Exit→Act→World→Prop} {a:Act} {w:World} {l:List Oper} (hm:P.follows .mixedOrders=true) (hB:Region.lexB .any l.toArray=true)
  (h:wpQuiet P l.toArray (fun w'=>∃ n:Q0 w,w'=n.val) (fun a'=>∀ w',(∃ n:Q0 w,w'=n.val)→Q .normal a' w') l a):(Code.region id l.toArray true).wp P Q a w :=
 wp_region_quiet (C:=fun w'=>∃ n:Q0 w,w'=n.val) hm hB ⟨⟨w.drew,(Below.refl _ _).drew⟩,rfl⟩ (by simpa using h)
theorem Zmf {P:Program} {f:FuncId} {args:Array Value} {W:World} {n:Q0 W} {v:Value}
  (h:Calls P f args n.val fun e w'=>e=.returned v∧Below n.val.heap.size n.val w'):Calls P f args n.val fun e w''=>e=.returned v∧∃ m:Q0 W,w''=m.val :=
 h.mono fun _ w'' ⟨he,hb⟩=>⟨he,⟨w'',n.below.trans (hb.mono n.below.size)⟩,rfl⟩
theorem Vq {P:Program} {f:FuncId} {args:Array Value} {W:World} {n:Q0 W} {v:Value}
  (h:Calls P f args n.val fun e w'=>e=.returned v∧n.val=w'):Calls P f args n.val fun e w''=>e=.returned v∧∃ m:Q0 W,w''=m.val :=
 h.mono fun _ _ ⟨he,hm⟩=>⟨he,n,hm.symm⟩
theorem UT {W:World} {a:Addr} {v:Value} (h:W.cell? a=some v) (n:Q0 W):n.val.cell? a=some v :=
 (n.below.cell (World.block_lt_of_cell? W a h)).trans h
def Zd3 (xs:List Int) (k:Nat):Int:=(xs.take k).foldl max (xs.getD 0 0)
theorem Zdh (xs:List Int) (k:Nat) {x:Int} (h:xs[k]? = some x):Zd3 xs (k+1)=max (Zd3 xs k) x:=by
 obtain ⟨hk,rfl⟩:=List.getElem?_eq_some_iff.1 h;unfold Zd3;rw [List.take_succ_eq_append_getElem hk,List.foldl_append]
 rfl
theorem Zia (xs:List Int) {x:Int} (h:xs[0]? = some x):Zd3 xs 1=x:=by
 rw [show (1:Nat)=0+1 from rfl,Zdh xs 0 h];simp [Zd3,List.getD,h]
theorem Zg9 (xs:List Int) (t:Int):∀ k,k≤xs.length→0<k→(Zd3 xs k≤t ↔ ∀ i,i<k→xs.getD i 0≤t)
 | 0,_,h=>absurd h (Nat.lt_irrefl _)
 | 1,h1,_=>by
  have h0:xs[0]? = some xs[0]:=getElem?_eq_getElem (by omega);rw [Zia xs h0]
  constructor
  ·intro h i hi
   obtain rfl:i=0:=by omega
   simpa [List.getD,h0] using h
  ·intro h
   have:=h 0 (by omega)
   simpa [List.getD,h0] using this
 | k+2,h1,_=>by
  have h0:xs[k+1]? = some xs[k+1]:=getElem?_eq_getElem (by omega);rw [Zdh xs (k+1) h0];have ih:=Zg9 xs t (k+1) (by omega) (by omega)
  constructor
  ·intro h i hi
   by_cases hik:i=k+1
   ·subst hik
    have:xs[k+1]≤t:=by omega
    simpa [List.getD,h0] using this
   ·exact ih.1 (by omega) i (by omega)
  ·intro h
   have h2:=ih.2 (fun i hi=>h i (by omega));have h3:=h (k+1) (by omega);have h4:xs[k+1]≤t:=by simpa [List.getD,h0] using h3
   omega
theorem Zmg (ao:Option Addr) (len cap:Nat) (xs:List Int) (w:World) (hlen:len≤1048576) (hpos:0<len) (hr:Rd Zu 1 w ao len xs) :
  Calls prog 118 #[.slice ao len cap] w fun e w'=>e=.returned (.int .i64 (Zd3 xs len))∧w=w':=by
 obtain ⟨b,off,x,hx0,rfl,hbl,hrg⟩:=hr.at_ 0 (by rw [hr.len];exact hpos);have c0:=hrg 0 _ rfl;simp only [Nat.zero_mul,Nat.add_zero] at c0;have H1:=Lib.hid (Zia xs hx0);clear hrg hx0
 go_enter func118,ntmps118
 go_wp2
 go_loop [3,4] (fun m i=>∃ k:Nat,1≤k∧k≤len∧i=.int .i64 k∧m=.int .i64 (Zd3 xs k)) (fun _ i=>len - (intOf i).toNat)
 case atStart=>exact ⟨1,by omega,by omega,rfl,by rw [H1.out]⟩
 case round =>
  obtain ⟨k,hk1,hk,rfl,rfl⟩:=hrel
  by_cases hlt:k<len
  ·obtain ⟨b2,off2,y,hy0,hao,hbl2,hrg2⟩:=hr.at_ k (by rw [hr.len];exact hlt)
   simp only [Option.some.injEq,Addr.mk.injEq,and_true] at hao;obtain ⟨rfl,rfl⟩:=hao;have c1:=hrg2 0 _ rfl;simp only [Nat.mul_one,Nat.add_zero] at c1;have H2:=Lib.hid (Zdh xs k hy0);clear hy0 hrg2
   go_wp2
   go_round
   case rel=>exact ⟨k+1,by omega,by omega,by go_num,by first|(rw [H2.out,Zo3])|(rw [H2.out])⟩
   case measure=>simp [intOf];omega
  ·have hk':k=len:=by omega
   subst hk'
   go_wp2
   go_ret
   exact ⟨rfl,rfl⟩
theorem Zmh {refs:List Int} {ps:List PtrD} (h:Qs refs ps=true) {p:PtrD} (hp:p ∈ ps) {m:Int} (hin:YZ p m=true):refs.getD p.aA.toNat 0≠0:=by
 obtain ⟨h1,h2,_⟩:=Zck hin;obtain ⟨a,ha⟩:∃ a:Nat,p.aA=(a:Int):=⟨p.aA.toNat,by omega⟩;simp only [Qs,List.all_eq_true] at h;have h3:=h a (List.mem_range.2 (by omega));simp only [decide_eq_true_eq] at h3;have h4:0<cnt ps a:=List.length_pos_of_mem (List.mem_filter.2 ⟨hp,by simp [ha]⟩);rw [ha,Int.toNat_natCast]
 omega
theorem Zib {refs:List Int} {ps qs:List PtrD} (h:Qs refs qs=true) (hs:∀ p ∈ ps,p ∈ qs) (m:Int):ps.all (fun p=>YZ p m)=ps.all (good refs m):=by
 rw [Bool.eq_iff_iff,List.all_eq_true,List.all_eq_true];refine ⟨fun k p hp=>?_,fun k p hp=>?_⟩
 ·have h1:=k p hp
  have h2:=Zmh h (hs p hp) h1;rw [good,h1,Bool.true_and,bne_iff_ne];exact h2
 ·have h1:=k p hp
  simp only [good,Bool.and_eq_true] at h1;exact h1.1
theorem ZnT (st:Za):(st.ai.all (fun p=>YZ p (st.aq - 1)) && (st.aj.all (fun p=>YZ p st.ar) && Qs st.aa.ab (st.ai++st.aj))) =
  (st.ai.all (good st.aa.ab (st.aq - 1)) && (st.aj.all (good st.aa.ab st.ar) && Qs st.aa.ab (st.ai++st.aj))):=by
 cases h:Qs st.aa.ab (st.ai++st.aj)
 ·simp
 ·rw [Zib h (fun p hp=>List.mem_append_left _ hp),Zib h (fun p hp=>List.mem_append_right _ hp)]
def Zff (refs:List Int) (ps:List PtrD) (k:Nat):Bool:=(List.range k).all fun i=>decide ((cnt ps i:Int)≤refs.getD i 0)
theorem Zic (refs:List Int) (ps:List PtrD) (k:Nat):Zff refs ps (k+1)=(Zff refs ps k && decide ((cnt ps k:Int)≤refs.getD k 0)):=by simp [Zff,List.range_succ]
theorem Zmi {refs:List Int} {ps:List PtrD} {k:Nat} (hk:k<64) (h:refs.getD k 0<(cnt ps k:Int)):Qs refs ps=false:=by
 unfold Qs;rw [List.all_eq_false];exact ⟨k,List.mem_range.2 hk,by simp only [decide_eq_true_eq];omega⟩
theorem Zmj {st:Za} (hl:st.aa.ag.length=64) (h:¬ Zd3 st.aa.ag st.aa.ag.length≤st.aq):Qc st 64=false:=by
 rw [Zg9 _ _ _ (Nat.le_refl _) (by omega)] at h
 cases hr:Qc st 64 with
 | false=>rfl
 | true =>
  refine absurd (fun i hi=>?_) h;have:=Vu hr (k:=i) (by omega);simp only [XK,Bool.and_eq_true,decide_eq_true_eq] at this;exact this.2.2
theorem ZkO {st:Za} (hl:st.aa.ag.length=64) (h:Zd3 st.aa.ag st.aa.ag.length≤st.aq):∀ i,i<64→st.aa.ag.getD i 0≤st.aq:=by
 rw [Zg9 _ _ _ (Nat.le_refl _) (by omega)] at h;exact fun i hi=>h i (by omega)
theorem Zap (v:Value) (st:Za) (w:World) (hr:Za.Reads w v st) (hf:st.Fit) :
  Calls prog 86 #[v] w fun e w'=>e=.returned (.bool st.ok)∧Below w.heap.size w w':=by
 obtain ⟨a0,c0,a1,c1,a2,c2,a4,c4,a6,c6,rfl,r0,r1,r2,r4,r6⟩:=hr;have hl0:=hf.f0;have hb0:Below w.heap.size w (w.alloc (.cells #[.slice a0 st.af.length c0,.slice a1 st.aa.ab.length c1,.slice a2 st.aa.ag.length c2,.int .i64 st.aq,.slice a4 st.ai.length c4,.int .i64 st.ar,.slice a6 st.aj.length c6,.bool st.au] 39)):=(Below.refl _ _).alloc (Nat.le_refl _) _;have hA0:=ZY w (.cells #[.slice a0 st.af.length c0,.slice a1 st.aa.ab.length c1,.slice a2 st.aa.ag.length c2,.int .i64 st.aq,.slice a4 st.ai.length c4,.int .i64 st.ar,.slice a6 st.aj.length c6,.bool st.au] 39) _ rfl;have HSg:Bx (∀ n:Q0 (w.alloc (.cells #[.slice a0 st.af.length c0,.slice a1 st.aa.ab.length c1,.slice a2 st.aa.ag.length c2,.int .i64 st.aq,.slice a4 st.ai.length c4,.int .i64 st.ar,.slice a6 st.aj.length c6,.bool st.au] 39)),Calls prog 117 #[.agg #[.slice a1 st.aa.ab.length c1,.slice a2 st.aa.ag.length c2]] n.val fun e w''=>e=.returned (.bool st.aa.ok)∧∃ m:Q0 (w.alloc (.cells #[.slice a0 st.af.length c0,.slice a1 st.aa.ab.length c1,.slice a2 st.aa.ag.length c2,.int .i64 st.aq,.slice a4 st.ai.length c4,.int .i64 st.ar,.slice a6 st.aj.length c6,.bool st.au] 39)),w''=m.val):=⟨fun n =>
  Zmf (ZdV _ st.aa _ ⟨_,_,_,_,rfl,(r1.below hb0).below n.below,(r2.below hb0).below n.below⟩ ⟨hf.f1,hf.f2⟩)⟩
 have HW1g:Bx (∀ n:Q0 (w.alloc (.cells #[.slice a0 st.af.length c0,.slice a1 st.aa.ab.length c1,.slice a2 st.aa.ag.length c2,.int .i64 st.aq,.slice a4 st.ai.length c4,.int .i64 st.ar,.slice a6 st.aj.length c6,.bool st.au] 39)),Calls prog 28 #[.int .i64 st.aq,.int .i64 1,.int .i64 900] n.val fun e w''=>e=.returned (.bool (inB st.aq 1 900))∧∃ m:Q0 (w.alloc (.cells #[.slice a0 st.af.length c0,.slice a1 st.aa.ab.length c1,.slice a2 st.aa.ag.length c2,.int .i64 st.aq,.slice a4 st.ai.length c4,.int .i64 st.ar,.slice a6 st.aj.length c6,.bool st.au] 39)),w''=m.val):=⟨fun n=>Vq (Yd _ _ _ _)⟩;have HW2g:Bx (∀ n:Q0 (w.alloc (.cells #[.slice a0 st.af.length c0,.slice a1 st.aa.ab.length c1,.slice a2 st.aa.ag.length c2,.int .i64 st.aq,.slice a4 st.ai.length c4,.int .i64 st.ar,.slice a6 st.aj.length c6,.bool st.au] 39)),Calls prog 28 #[.int .i64 st.ar,.int .i64 0,.int .i64 (st.aq - 1)] n.val fun e w''=>e=.returned (.bool (inB st.ar 0 (st.aq - 1)))∧∃ m:Q0 (w.alloc (.cells #[.slice a0 st.af.length c0,.slice a1 st.aa.ab.length c1,.slice a2 st.aa.ag.length c2,.int .i64 st.aq,.slice a4 st.ai.length c4,.int .i64 st.ar,.slice a6 st.aj.length c6,.bool st.au] 39)),w''=m.val):=⟨fun n=>Vq (Yd _ _ _ _)⟩;have HMg:Bx (0<st.aa.ag.length→∀ n:Q0 (w.alloc (.cells #[.slice a0 st.af.length c0,.slice a1 st.aa.ab.length c1,.slice a2 st.aa.ag.length c2,.int .i64 st.aq,.slice a4 st.ai.length c4,.int .i64 st.ar,.slice a6 st.aj.length c6,.bool st.au] 39)),Calls prog 118 #[.slice a2 st.aa.ag.length c2] n.val fun e w''=>e=.returned (.int .i64 (Zd3 st.aa.ag st.aa.ag.length))∧∃ m:Q0 (w.alloc (.cells #[.slice a0 st.af.length c0,.slice a1 st.aa.ab.length c1,.slice a2 st.aa.ag.length c2,.int .i64 st.aq,.slice a4 st.ai.length c4,.int .i64 st.ar,.slice a6 st.aj.length c6,.bool st.au] 39)),w''=m.val):=⟨fun hp n=>Vq (Zmg a2 _ c2 st.aa.ag n.val hf.f2 hp ((r2.below hb0).below n.below))⟩;have H0:=Bx.mk hb0;have O:=Bx.mk hf;have q0:∀ n:Q0 (w.alloc (.cells #[.slice a0 st.af.length c0,.slice a1 st.aa.ab.length c1,.slice a2 st.aa.ag.length c2,.int .i64 st.aq,.slice a4 st.ai.length c4,.int .i64 st.ar,.slice a6 st.aj.length c6,.bool st.au] 39)),n.val.cell? ⟨w.heap.size,0,none⟩=some (.slice a0 st.af.length c0):=UT (Zc hA0 0);have q1:∀ n:Q0 (w.alloc (.cells #[.slice a0 st.af.length c0,.slice a1 st.aa.ab.length c1,.slice a2 st.aa.ag.length c2,.int .i64 st.aq,.slice a4 st.ai.length c4,.int .i64 st.ar,.slice a6 st.aj.length c6,.bool st.au] 39)),n.val.cell? ⟨w.heap.size,1,none⟩=some (.slice a1 st.aa.ab.length c1):=UT (Zc hA0 1);have q2:∀ n:Q0 (w.alloc (.cells #[.slice a0 st.af.length c0,.slice a1 st.aa.ab.length c1,.slice a2 st.aa.ag.length c2,.int .i64 st.aq,.slice a4 st.ai.length c4,.int .i64 st.ar,.slice a6 st.aj.length c6,.bool st.au] 39)),n.val.cell? ⟨w.heap.size,2,none⟩=some (.slice a2 st.aa.ag.length c2):=UT (Zc hA0 2);have q3:∀ n:Q0 (w.alloc (.cells #[.slice a0 st.af.length c0,.slice a1 st.aa.ab.length c1,.slice a2 st.aa.ag.length c2,.int .i64 st.aq,.slice a4 st.ai.length c4,.int .i64 st.ar,.slice a6 st.aj.length c6,.bool st.au] 39)),n.val.cell? ⟨w.heap.size,3,none⟩=some (.int .i64 st.aq):=UT (Zc hA0 3);have q5:∀ n:Q0 (w.alloc (.cells #[.slice a0 st.af.length c0,.slice a1 st.aa.ab.length c1,.slice a2 st.aa.ag.length c2,.int .i64 st.aq,.slice a4 st.ai.length c4,.int .i64 st.ar,.slice a6 st.aj.length c6,.bool st.au] 39)),n.val.cell? ⟨w.heap.size,5,none⟩=some (.int .i64 st.ar):=UT (Zc hA0 5);have HA0:=Bx.mk hA0;clear hA0 hb0
 by_cases h64:st.af.length=64
 rotate_left
 ·have hl:((st.af.length:Int) != 64)=true:=by simp [bne];omega
  have HB:Bx (st.ok=false):=⟨by show _=_;unfold Za.ok;simp [h64]⟩;clear hf
  go_enter func86,ntmps86
  go_wp2_with fail
  generalize w.alloc (.cells #[.slice a0 st.af.length c0,.slice a1 st.aa.ab.length c1,.slice a2 st.aa.ag.length c2,.int .i64 st.aq,.slice a4 st.ai.length c4,.int .i64 st.ar,.slice a6 st.aj.length c6,.bool st.au] 39)=W0 at *;refine YV (by kernel_rfl) (by kernel_rfl) ?_
  repeat (go_big_quiet_step (first|(go_at_call 117;with_reducible exact E.o _)|(go_at_call 28;first|with_reducible exact HW1.out _|with_reducible exact HW2.out _)|(go_at_call 118;with_reducible exact HM.o _)))
  refine wpQuiet_nil ?_;intro _ hw';obtain ⟨nq,hw''⟩:=hw';subst hw''
  go_wp2
  go_ret
  exact ⟨Zr HB.out.symm,H0.out.trans (nq.below.mono H0.out.size)⟩
 ·have hl:((st.af.length:Int) != 64)=false:=by simp [h64]
  have H64:=Bx.mk h64;clear h64
  cases hsp:st.aa.ok
  ·have E:=HSg.out
   rw [hsp] at E;have E:=Bx.mk E;have HB:Bx (st.ok=false):=⟨by show _=_;unfold Za.ok;simp [hsp]⟩;clear hf hsp
   go_enter func86,ntmps86
   go_wp2_with fail
   generalize w.alloc (.cells #[.slice a0 st.af.length c0,.slice a1 st.aa.ab.length c1,.slice a2 st.aa.ag.length c2,.int .i64 st.aq,.slice a4 st.ai.length c4,.int .i64 st.ar,.slice a6 st.aj.length c6,.bool st.au] 39)=W0 at *;refine YV (by kernel_rfl) (by kernel_rfl) ?_
   repeat (go_big_quiet_step (first|(go_at_call 117;with_reducible exact E.o _)|(go_at_call 28;first|with_reducible exact HW1.out _|with_reducible exact HW2.out _)|(go_at_call 118;with_reducible exact HM.o _)))
   refine wpQuiet_nil ?_;intro _ hw';obtain ⟨nq,hw''⟩:=hw';subst hw''
   go_wp2
   go_ret
   exact ⟨Zr HB.out.symm,H0.out.trans (nq.below.mono H0.out.size)⟩
  ·have E:=HSg.out
   rw [hsp] at E;have E:=Bx.mk E
   cases htx:inB st.aq 1 900
   ·have HW1:=HW1g.out
    rw [htx] at HW1;have HW1:=Bx.mk HW1;have HB:Bx (st.ok=false):=⟨by show _=_;unfold Za.ok;simp [htx]⟩;clear hf hsp htx
    go_enter func86,ntmps86
    go_wp2_with fail
    generalize w.alloc (.cells #[.slice a0 st.af.length c0,.slice a1 st.aa.ab.length c1,.slice a2 st.aa.ag.length c2,.int .i64 st.aq,.slice a4 st.ai.length c4,.int .i64 st.ar,.slice a6 st.aj.length c6,.bool st.au] 39)=W0 at *;refine YV (by kernel_rfl) (by kernel_rfl) ?_
    repeat (go_big_quiet_step (first|(go_at_call 117;with_reducible exact E.o _)|(go_at_call 28;first|with_reducible exact HW1.out _|with_reducible exact HW2.out _)|(go_at_call 118;with_reducible exact HM.o _)))
    refine wpQuiet_nil ?_;intro _ hw';obtain ⟨nq,hw''⟩:=hw';subst hw''
    go_wp2
    go_ret
    exact ⟨Zr HB.out.symm,H0.out.trans (nq.below.mono H0.out.size)⟩
   ·have HW1:=HW1g.out
    rw [htx] at HW1;have HW1:=Bx.mk HW1;have hbt:=Zo htx
    cases hkp:inB st.ar 0 (st.aq - 1)
    ·have HW2:=HW2g.out
     rw [hkp] at HW2;have HW2:=Bx.mk HW2;have HB:Bx (st.ok=false):=⟨by show _=_;unfold Za.ok;simp [hkp]⟩;clear hf hsp htx hkp
     go_enter func86,ntmps86
     go_wp2_with fail
     generalize w.alloc (.cells #[.slice a0 st.af.length c0,.slice a1 st.aa.ab.length c1,.slice a2 st.aa.ag.length c2,.int .i64 st.aq,.slice a4 st.ai.length c4,.int .i64 st.ar,.slice a6 st.aj.length c6,.bool st.au] 39)=W0 at *;refine YV (by kernel_rfl) (by kernel_rfl) ?_
     repeat (go_big_quiet_step (first|(go_at_call 117;with_reducible exact E.o _)|(go_at_call 28;first|with_reducible exact HW1.out _|with_reducible exact HW2.out _)|(go_at_call 118;with_reducible exact HM.o _)))
     refine wpQuiet_nil ?_;intro _ hw';obtain ⟨nq,hw''⟩:=hw';subst hw''
     go_wp2
     go_ret
     exact ⟨Zr HB.out.symm,H0.out.trans (nq.below.mono H0.out.size)⟩
    ·have HW2:=HW2g.out
     rw [hkp] at HW2;have HW2:=Bx.mk HW2;have hbk:=Zo hkp;have HSP:=Bx.mk (Zp.ok_spec hsp);have HM:=HMg.out (by rw [HSP.out.last];decide);have HLB:=Bx.mk (fun h=>Zmj (st:=st) HSP.out.last h);have HLG:=Bx.mk (fun h=>ZkO (st:=st) HSP.out.last h);have HST:Bx (st.ok=(Qc st 64 && (st.ai.all (good st.aa.ab (st.aq - 1)) && (st.aj.all (good st.aa.ab st.ar) && Qs st.aa.ab (st.ai++st.aj))))):=⟨by show _=_;rw [← ZnT];simp [Za.ok,H64.out,hsp,htx,hkp]⟩;generalize Zd3 st.aa.ag st.aa.ag.length=mx at HM HLB HLG;have HM:=Bx.mk HM
     by_cases hmx:mx≤st.aq
     rotate_left
     ·have hmx':decide (st.aq<mx)=true:=by simp;omega
      have HB:Bx (st.ok=false):=⟨by show _=_;rw [HST.out,HLB.out hmx];rfl⟩;clear hf hsp htx hkp
      go_enter func86,ntmps86
      go_wp2_with fail
      generalize w.alloc (.cells #[.slice a0 st.af.length c0,.slice a1 st.aa.ab.length c1,.slice a2 st.aa.ag.length c2,.int .i64 st.aq,.slice a4 st.ai.length c4,.int .i64 st.ar,.slice a6 st.aj.length c6,.bool st.au] 39)=W0 at *;refine YV (by kernel_rfl) (by kernel_rfl) ?_
      repeat (go_big_quiet_step (first|(go_at_call 117;with_reducible exact E.o _)|(go_at_call 28;first|with_reducible exact HW1.out _|with_reducible exact HW2.out _)|(go_at_call 118;with_reducible exact HM.o _)))
      refine wpQuiet_nil ?_;intro _ hw';obtain ⟨nq,hw''⟩:=hw';subst hw''
      go_wp2
      go_ret
      exact ⟨Zr HB.out.symm,H0.out.trans (nq.below.mono H0.out.size)⟩
     ·have hmx':decide (st.aq<mx)=false:=by simp;omega
      have HLG:=Bx.mk (HLG.out hmx);have hg4:=hf.f4;have hg6:=hf.f6;clear hf hsp htx hkp
      go_enter func86,ntmps86
      go_wp2_with fail
      generalize w.alloc (.cells #[.slice a0 st.af.length c0,.slice a1 st.aa.ab.length c1,.slice a2 st.aa.ag.length c2,.int .i64 st.aq,.slice a4 st.ai.length c4,.int .i64 st.ar,.slice a6 st.aj.length c6,.bool st.au] 39)=W0 at *;refine YV (by kernel_rfl) (by kernel_rfl) ?_
      repeat (go_big_quiet_step (first|(go_at_call 117;with_reducible exact E.o _)|(go_at_call 28;first|with_reducible exact HW1.out _|with_reducible exact HW2.out _)|(go_at_call 118;with_reducible exact HM.o _)))
      refine wpQuiet_nil ?_;intro _ hw';obtain ⟨nq,hw''⟩:=hw';subst hw'';have hA1:=Ze HA0.out nq.below (Nat.le_refl _);have hb1:=H0.out.trans (nq.below.mono H0.out.size);clear q0 q1 q2 q3 q5;generalize nq.val=w1 at hA1 hb1 ⊢;have p0:w1.cell? ⟨w.heap.size,0,none⟩=some (.slice a0 st.af.length c0):=Zc hA1 0
      go_wp2
      clear p0
      go_loopw [46] (fun i wr=>∃ k:Nat,k≤64∧i=.int .i64 k∧Qc st k=true∧Below w.heap.size w wr∧wr.heap[w.heap.size]? = some (.cells #[.slice a0 st.af.length c0,.slice a1 st.aa.ab.length c1,.slice a2 st.aa.ag.length c2,.int .i64 st.aq,.slice a4 st.ai.length c4,.int .i64 st.ar,.slice a6 st.aj.length c6,.bool st.au] 39 (0,0))) (fun i _=>64 - (intOf i).toNat)
      case atStart=>exact ⟨0,by omega,rfl,rfl,hb1,hA1⟩
      case round =>
       obtain ⟨k,hk,rfl,hok,hb,hA⟩:=hrel;have HOK:=Bx.mk hok;clear hok hb1 hA1
       by_cases hlt:k<64
       ·obtain ⟨b,off,s,hx0,rfl,hbl,hrg⟩:=r0.at_ k (by rw [H64.out];exact hlt)
        have d0:=(Zq hrg hb hbl) 0 _ rfl;obtain ⟨b1,off1,r,hx1,rfl,hbl1,hrg1⟩:=r1.at_ k (by rw [HSP.out.refs];exact hlt);have d1:=(Zq hrg1 hb hbl1) 0 _ rfl;simp only [Nat.mul_one,Nat.add_zero] at d0 d1;have e0:=QN (d:=ByteArray.empty) hx0;have e1:=QN (d:=(0:Int)) hx1;have hrow:Bx (XK st k=(decide (s.size≤128) && ((s.size == 0) == (r == 0) && decide (st.aa.ag.getD k 0≤st.aq)))):=⟨by show _=_;unfold XK;rw [e0,e1]⟩;have hlast:Bx (XK st k=false→st.ok=false):=⟨fun h=>by rw [HST.out,Zez hlt h];rfl⟩;have hnext:Bx (XK st k=true→Qc st (k+1)=true):=⟨fun h=>by rw [ZdD,HOK.out,h];rfl⟩;have hlk:=Bx.mk (decide_eq_true (HLG.out k hlt));have hlen0:k<st.af.length:=by rw [H64.out];exact hlt
        have hlen1:k<st.aa.ab.length:=by rw [HSP.out.refs];exact hlt
        have p1:wr.cell? ⟨w.heap.size,1,none⟩=some (.slice (some ⟨b1,off1,none⟩) st.aa.ab.length c1):=Zc hA 1;have HA:=Bx.mk hA;clear hx0 hx1 hrg hrg1 hA e0 e1
        by_cases g1:s.size≤128
        rotate_left
        ·have HR:Bx (XK st k=false):=⟨by show _=_;rw [hrow.out];simp [g1]⟩
         have g1':decide ((128:Int)<(s.size:Int))=true:=by simp;omega
         go_wp2
         go_ret
         exact ⟨Zr (hlast.out HR.out).symm,hb⟩
        ·have g1':decide ((128:Int)<(s.size:Int))=false:=by simp;omega
         have e1:∀ (cb:Bool),(s.size == 0)=cb→s.toList.isEmpty=cb:=fun cb h=>Zgv s cb h
         cases gs:(s.size == 0)
         all_goals
          have gs2:=e1 _ gs;clear e1
          cases gr:(r == 0)
         ·have HR:Bx (XK st k=true):=⟨by show _=_;rw [hrow.out,hlk.out,gs,gr];simp [g1]⟩
          go_wp2
          go_roundw
          case rel=>exact ⟨k+1,by omega,by go_num,hnext.out HR.out,hb,HA.out⟩
          case measure=>simp [intOf];omega
         ·have HR:Bx (XK st k=false):=⟨by show _=_;rw [hrow.out];simp [gs,gr]⟩
          go_wp2
          go_ret
          exact ⟨Zr (hlast.out HR.out).symm,hb⟩
         ·have HR:Bx (XK st k=false):=⟨by show _=_;rw [hrow.out];simp [gs,gr]⟩
          go_wp2
          go_ret
          exact ⟨Zr (hlast.out HR.out).symm,hb⟩
         ·have HR:Bx (XK st k=true):=⟨by show _=_;rw [hrow.out,hlk.out,gs,gr];simp [g1]⟩
          go_wp2
          go_roundw
          case rel=>exact ⟨k+1,by omega,by go_num,hnext.out HR.out,hb,HA.out⟩
          case measure=>simp [intOf];omega
       ·have hk':k=64:=by omega
        subst hk';have hmf:∀ (fn:Fn) (first cap:Array Value) (w:World),(Instr.makeFunc fn first cap).run prog w=.ok (.func fn first cap) w:=fun _ _ _ _=>rfl
        have hlen:((st.af.length:Nat):Int)=64:=by rw [H64.out];rfl
        obtain ⟨i0,hi,hz0,hz1,hz2⟩:=info_parts Tryz.infoIntS
        go_wp2_with (refine wpList_make_full _ rfl (.const (.int .i64 64)) (.const (.int .i64 64)) 23 rfl wr.heap.size 3 i0 _ 1 Tryz.underlying23 hi hz0 hz1 .i64 .i64 _ _ 64 rfl rfl rfl rfl ?b2 ?b3 ?b4 ?_)
        case b2=>rw [hz2];omega
        case b3=>unfold maxLen;omega
        case b4=>exact Nat.le_refl _
        intro wm hown hg;have hbm:Below w.heap.size w wm:=hb.grown hg hb.size (by simp);have hAm:=Zf8 hA hg (by simp);have hgm:w.heap.size<wr.heap.size:=Xt hA;have hown:wm.ownsRow wr.heap.size 3 1 (.slice (some ⟨wr.heap.size,0,none⟩) 64 64) 64 (Xu ([]:List PtrD)):=by rw [show ([]:List PtrD)=(([]:List PtrD).take 0) from rfl,← Zgd];exact hown
        generalize wr.heap.size=g at hown hgm ⊢;have hgw:g<wm.heap.size:=(hown.lt g (by simp [Value.ownBlock])).2;have hsw:=Xt hAm;have p3:wm.cell? ⟨w.heap.size,3,none⟩=some (.int .i64 st.aq):=Zc hAm 3;have p4:wm.cell? ⟨w.heap.size,4,none⟩=some (.slice a4 st.ai.length c4):=Zc hAm 4;clear hb hA hg hi hz0 hz1 hz2 hlt hk r0 r2
        go_wp2_with fail
        have hM:=ZY wm (.cells #[.slice (some ⟨g,0,none⟩) 64 64] 23) _ rfl;have hAa:=Xp hAm (.cells #[.slice (some ⟨g,0,none⟩) 64 64] 23);have hoa:=hown.alloc (.cells #[.slice (some ⟨g,0,none⟩) 64 64] 23);have hba:=hbm.alloc hbm.size (.cells #[.slice (some ⟨g,0,none⟩) 64 64] 23);refine (Zgw a4 _ c4 [] st.ai (st.aq - 1) st.aa.ab a1 c1 #[.slice a0 st.af.length c0,.slice a1 st.aa.ab.length c1,.slice a2 st.aa.ag.length c2,.int .i64 st.aq,.slice a4 st.ai.length c4,.int .i64 st.ar,.slice a6 st.aj.length c6,.bool st.au] w.heap.size g wm.heap.size w _ hg4 (by simp) HSP.out.refs hgm hgw (Nat.le_of_lt hgm) hba rfl r1 r4 hAa hM hoa).mono ?_;rintro e w2 ⟨rfl,hb2,hif2⟩;have HIF2:=Bx.mk hif2;have HGW:=Bx.mk hgw;clear hif2 hM hAa hoa hba hown hbm hAm p3 p4 hsw;generalize wm.heap.size=m at *
        cases hg1:st.ai.all (good st.aa.ab (st.aq - 1))
        ·have HB:Bx (st.ok=false):=⟨by show _=_;rw [HST.out,hg1];simp⟩
         go_wp2
         go_ret
         exact ⟨Zr HB.out.symm,hb2⟩
        ·obtain ⟨hA2,hM2,ho2⟩:=HIF2.out hg1
         simp only [nil_append] at ho2;have p5:w2.cell? ⟨w.heap.size,5,none⟩=some (.int .i64 st.ar):=Zc hA2 5;have p6:w2.cell? ⟨w.heap.size,6,none⟩=some (.slice a6 st.aj.length c6):=Zc hA2 6;clear HIF2
         go_wp2_with fail
         refine (Zgw a6 _ c6 st.ai st.aj st.ar st.aa.ab a1 c1 #[.slice a0 st.af.length c0,.slice a1 st.aa.ab.length c1,.slice a2 st.aa.ag.length c2,.int .i64 st.aq,.slice a4 st.ai.length c4,.int .i64 st.ar,.slice a6 st.aj.length c6,.bool st.au] w.heap.size g m w _ hg6 hg4 HSP.out.refs hgm HGW.out (Nat.le_of_lt hgm) hb2 rfl r1 r6 hA2 hM2 ho2).mono ?_;rintro e w3 ⟨rfl,hb3,hif3⟩;have HIF3:=Bx.mk hif3;clear hif3 hb2 hA2 hM2 ho2 p5 p6
         cases hg2:st.aj.all (good st.aa.ab st.ar)
         ·have HB:Bx (st.ok=false):=⟨by show _=_;rw [HST.out,hg2];simp⟩
          go_wp2
          go_ret
          exact ⟨Zr HB.out.symm,hb3⟩
         ·obtain ⟨hA3,hM3,ho3⟩:=HIF3.out hg2
          have pm:w3.cell? ⟨m,0,none⟩=some (.slice (some ⟨g,0,none⟩) 64 64):=Zc hM3 0;have p1:w3.cell? ⟨w.heap.size,1,none⟩=some (.slice a1 st.aa.ab.length c1):=Zc hA3 1;have HST2:Bx (st.ok=Qs st.aa.ab (st.ai++st.aj)):=⟨by show _=_;rw [HST.out,HOK.out,hg1,hg2];simp⟩;have HO3:=Bx.mk ho3;have HG1:=Bx.mk hg1;have HG2:=Bx.mk hg2;clear HIF3 hA3 hM3 ho3 hg1 hg2
          go_wp2
          go_loop [88] (fun i=>∃ k:Nat,k≤64∧i=.int .i64 k∧Zff st.aa.ab (st.ai++st.aj) k=true) (fun i=>64 - (intOf i).toNat)
          case atStart=>exact ⟨0,by omega,rfl,rfl⟩
          case round =>
           obtain ⟨k,hk,rfl,how⟩:=hrel;have HOW:=Bx.mk how;clear how
           by_cases hlt:k<64
           ·have hca:w3.cell? ⟨g,k,none⟩=some (.int .i64 (cnt (st.ai++st.aj) k:Nat)):=by rw [HO3.out.cellAt k (by omega)];exact Qb _ _ hlt
            have hbad:Bx (st.aa.ab.getD k 0<(cnt (st.ai++st.aj) k:Int)→st.ok=false):=⟨fun h=>by rw [HST2.out,Zmi hlt h]⟩;have hnext:Bx ((cnt (st.ai++st.aj) k:Int)≤st.aa.ab.getD k 0→Zff st.aa.ab (st.ai++st.aj) (k+1)=true):=⟨fun h=>by rw [Zic,HOW.out];simpa using h⟩;obtain ⟨b1,off1,r,hx1,rfl,hbl1,hrg1⟩:=r1.at_ k (by rw [HSP.out.refs];exact hlt);have g1:=(Zq hrg1 hb3 hbl1) 0 _ rfl;simp only [Nat.mul_one,Nat.add_zero] at g1;rw [QN (d:=(0:Int)) hx1] at hbad hnext;have hl1:k<st.aa.ab.length:=by rw [HSP.out.refs];exact hlt
            have hcl:=ZgT (st.ai++st.aj) k;rw [length_append] at hcl;clear hx1 hrg1;generalize cnt (st.ai++st.aj) k=cn at hca hbad hnext hcl
            by_cases hle:(cn:Int)≤r
            ·have hcmp:decide (r<(cn:Int))=false:=by simp;omega
             go_wp2
             go_round
             case rel=>exact ⟨k+1,by omega,by go_num,hnext.out hle⟩
             case measure=>simp [intOf];omega
            ·have hcmp:decide (r<(cn:Int))=true:=by simp;omega
             go_wp2
             go_ret
             exact ⟨Zr (hbad.out (by omega)).symm,hb3⟩
           ·have hk':k=64:=by omega
            subst hk'
            go_wp2
            go_ret
            exact ⟨Zr (HST2.out.trans HOW.out).symm,hb3⟩
theorem Vj (n:Int) (w0:World):Calls prog 58 #[.int .i64 n] w0 fun e w'=>e=.returned (.int .i64 ((depthN n:Nat):Int))∧Below w0.heap.size w0 w':=by
 have E:=Bx.mk (St.start w0);refine ent func58 ntmps58 ?_;refine xsr<|xr 1 rfl<|xne<|xsq<|xbl<|xsr<|xr 3 rfl<|xne<|xcd 3 rfl (fun _ dcc1=>?_) fun _ dcc1=>?_;refine xct rfl<|xsr<|xr 1 rfl<|xne<|xre<|xbr<|xtr<|xb1 results58 rfl ?_;have hd:((depthN n:Nat):Int)=0:=by unfold depthN;rw [if_pos (by omega)];rfl
 exact ⟨by rw [hd],E.o.bel⟩;refine xcf rfl<|xsr<|xr 3 rfl<|xne<|xcd 6 rfl (fun _ dcc2=>?_) fun _ dcc2=>?_;refine xct rfl<|xsr<|xr 1 rfl<|xne<|xre<|xbr<|xtr<|xb1 results58 rfl ?_;have hd:((depthN n:Nat):Int)=1:=by unfold depthN;rw [if_neg (by omega),if_pos (by omega)];rfl
 exact ⟨by rw [hd],E.o.bel⟩;refine xcf rfl<|xsk<|xeb<|xet<|xsr<|xr 1 rfl<|xne<|xre<|xb1 results58 rfl ?_;have hd:((depthN n:Nat):Int)=2:=by unfold depthN;rw [if_neg (by omega),if_neg (by omega)];rfl
 exact ⟨by rw [hd],E.o.bel⟩
theorem ZaO (n:Int) (w0:World):Calls prog 47 #[.int .i64 n] w0 fun e w'=>e=.returned (.int .i64 ((depthN n:Nat):Int))∧Below w0.heap.size w0 w':=by
 have E:=Bx.mk (St.start w0);refine ent func47 ntmps47 ?_;refine xsr<|xr 1 rfl<|xne<|xsq<|xbl<|xsr<|xr 3 rfl<|xne<|xcd 3 rfl (fun _ dcc1=>?_) fun _ dcc1=>?_;refine xct rfl<|xsr<|xr 1 rfl<|xne<|xre<|xbr<|xtr<|xb1 results47 rfl ?_;have hd:((depthN n:Nat):Int)=0:=by unfold depthN;rw [if_pos (by omega)];rfl
 exact ⟨by rw [hd],E.o.bel⟩;refine xcf rfl<|xsr<|xr 3 rfl<|xne<|xcd 6 rfl (fun _ dcc2=>?_) fun _ dcc2=>?_;refine xct rfl<|xsr<|xr 1 rfl<|xne<|xre<|xbr<|xtr<|xb1 results47 rfl ?_;have hd:((depthN n:Nat):Int)=1:=by unfold depthN;rw [if_neg (by omega),if_pos (by omega)];rfl
 exact ⟨by rw [hd],E.o.bel⟩;refine xcf rfl<|xsk<|xeb<|xet<|xsr<|xr 1 rfl<|xne<|xre<|xb1 results47 rfl ?_;have hd:((depthN n:Nat):Int)=2:=by unfold depthN;rw [if_neg (by omega),if_neg (by omega)];rfl
 exact ⟨by rw [hd],E.o.bel⟩
theorem UG {xs:List PtrD} {i:Nat} (h:i<xs.length):xs.drop i=xs.getD i PtrD.zero::xs.drop (i+1):=by
 rw [List.drop_eq_getElem_cons h,getD_eq_getElem?_getD,getElem?_eq_getElem h,getD_some]
theorem Zgx {f:PtrD→Option (List PtrD)} {xs ys k:List PtrD} {i:Nat} (h:YX f xs=(YX f (xs.drop i)).map (ys++·)) (hi:i<xs.length) (hk:f (xs.getD i PtrD.zero)=some k):YX f xs=(YX f (xs.drop (i+1))).map ((ys++k)++·):=by
 rw [h,UG hi,Zbl hk,ZnQ]
theorem Zgy {f:PtrD→Option (List PtrD)} {xs ys:List PtrD} {i:Nat} (h:YX f xs=(YX f (xs.drop i)).map (ys++·)) (hi:i<xs.length) (hk:f (xs.getD i PtrD.zero)=none):YX f xs=none:=by
 rw [h,UG hi,ZaI hk];rfl
theorem Zid {f:PtrD→Option (List PtrD)} {xs ys:List PtrD} {i:Nat} (h:YX f xs=(YX f (xs.drop i)).map (ys++·)) (hi:¬ i<xs.length):YX f xs=some ys:=by
 rw [h,List.drop_eq_nil_of_le (by omega)];show some (ys++[])=_;rw [append_nil]
theorem Zfg {f:PtrD→Option (List PtrD)} {xs:List PtrD}:YX f xs=(YX f (xs.drop 0)).map (([]:List PtrD)++·):=by
 rw [drop_zero]
 cases YX f xs <;> rfl
theorem Ui {st:Za} {many:Int} {xs:List PtrD} {i:Nat} (h:YQ st many 0 xs=YQ st many i (xs.drop i)) (hi:i<xs.length):YQ st many 0 xs=(JS st many i (xs.getD i PtrD.zero) && YQ st many (i+1) (xs.drop (i+1))):=by
 rw [h,UG hi];rfl
theorem QT {st:Za} {many:Int} {xs:List PtrD} {i:Nat} (h:QR st many 0 xs=QR st many i (xs.drop i)) (hi:i<xs.length):QR st many 0 xs=(ZbE st many i (xs.getD i PtrD.zero) && QR st many (i+1) (xs.drop (i+1))):=by
 rw [h,UG hi];rfl
theorem Zjh {st:Za} {many:Int} {xs:List PtrD} {i:Nat} (h:YQ st many 0 xs=YQ st many i (xs.drop i)) (hi:¬ i<xs.length):YQ st many 0 xs=true:=by
 rw [h,List.drop_eq_nil_of_le (by omega)];rfl
theorem Zie {st:Za} {many:Int} {xs:List PtrD} {i:Nat} (h:QR st many 0 xs=QR st many i (xs.drop i)) (hi:¬ i<xs.length):QR st many 0 xs=true:=by
 rw [h,List.drop_eq_nil_of_le (by omega)];rfl
theorem YI {xs:List PtrD} {i:Nat} (h:i<xs.length):xs.getD i PtrD.zero ∈ xs:=by
 rw [getD_eq_getElem?_getD,getElem?_eq_getElem h];exact List.getElem_mem h
theorem Zmk {n:Nat} (h:n≤2):4 ^ n≤16:=by
 rcases (by omega:n=0∨n=1∨n=2) with rfl|rfl|rfl <;> decide
theorem Zgz {xs ys:List PtrD} {n i:Nat} (h:xs.length*4 ^ (n+1)≤16) (hy:ys.length=4*i) (hi:i=xs.length):ys.length*4 ^ n≤16:=by
 subst hi;rw [hy];rw [Nat.pow_succ] at h;have e:4*xs.length*4 ^ n=xs.length*(4 ^ n*4):=by rw [Nat.mul_comm 4 xs.length,Nat.mul_assoc,Nat.mul_comm 4 (4 ^ n)]
 omega
theorem Zj7 {xs:List PtrD} {n:Nat} (h:xs.length*4 ^ n≤16):xs.length≤16:=by
 have h1:1≤4 ^ n:=Nat.pos_of_ne_zero (by simp);have:xs.length*1≤xs.length*4 ^ n:=Nat.mul_le_mul_left _ h1
 omega
theorem J4 {st:Za} {p:PtrD} {n:Int} {k:List PtrD} (h:kidsS st p n=some k):k.length=4:=Y4 (VD h).1
theorem ZcL (a0:Option Addr) (c0:Nat) (a1:Option Addr) (c1:Nat) (a2:Option Addr) (c2:Nat) (a4:Option Addr) (c4:Nat) (a6:Option Addr) (c6:Nat) (st:Za) (t:Zf) (hdep:t.az=((depthN t.am:Nat):Int)) (w0:World) (hR:Rd Zt 1 w0 a0 st.af.length st.af) (hrow:Y5 st):Calls prog 50 #[sV a0 c0 a1 c1 a2 c2 a4 c4 a6 c6 st,tV t] w0 fun e w'=>(∃ l,downL (kidsS st) (depthN t.am) [t.ac]=some l∧∃ ao cp,e=.returned (.tuple #[.slice ao l.length cp,.bool true])∧St w0 [Zd PtrD.cells 5 40 (.slice ao l.length cp) l] w')∨(downL (kidsS st) (depthN t.am) [t.ac]=none∧∃ ao n cp,e=.returned (.tuple #[.slice ao n cp,.bool false])∧Below w0.heap.size w0 w'):=by
 have HR:=Bx.mk hR;clear hR;have E:=Bx.mk (St.start w0);refine ent func50 ntmps50 ?_;refine xsr ?_;refine ybx E ?_;clear E;intro w1 b1 E;refine ybx E ?_;clear E;intro w2 b2 E;refine xr 2 rfl<|xne<|xsr<|Xf 0 rfl<|Xw 0 5 E rfl rfl ?_;refine ybs PtrD.cells 40 5 [t.ac] E ?_;clear E;intro b3 w3 E;refine xr 1 rfl<|xne<|xsq<|xsr<|Xf 5 rfl<|Xl 1 E rfl rfl<|xr 1 rfl<|xne<|xbl ?_;replace E:=E.pks [0];intro a O;refine ZD (ι:=Nat) (fun n a w=>∃ (ao:Option Addr) (cp:Nat) (xs:List PtrD),(downL (kidsS st) (depthN t.am) [t.ac]=downL (kidsS st) n xs∧xs.length*4 ^ n≤16∧n≤2)∧Fr 46 a [(0,sV a0 c0 a1 c1 a2 c2 a4 c4 a6 c6 st),(1,tV t),(2,.pointer (some ⟨b1,0,none⟩)),(3,.pointer (some ⟨b2,0,none⟩)),(4,.slice none 0 0),(5,.bool false),(6,.slice ao xs.length cp),(7,.int .i64 (n:Int))]∧St w0 ([Zd PtrD.cells 5 40 (.slice ao xs.length cp) xs,boxA b2 7 42 (tV t),boxA b1 8 39 (sV a0 c0 a1 c1 a2 c2 a4 c4 a6 c6 st)]) w) (fun n=>n) (depthN t.am) ⟨_,_,[t.ac],⟨rfl,by simpa using Zmk (YU t.am),YU _⟩,O.less _ ⟨rfl,rfl,rfl,rfl,rfl,rfl,rfl,(by show some (Value.int .i64 _)=some (Value.int .i64 _);exact congrArg (fun z=>some (Value.int .i64 z)) hdep),trivial⟩,E.o⟩ ?_;clear O E;clear a;rintro n a w4 ⟨ao,cp,xs,⟨hd,hp4,hn2⟩,O,E⟩;replace E:=Bx.mk E;have hx16:=Zj7 hp4;revert a;refine xsq<|xsr<|xr 2 rfl<|xne<|xcd 18 rfl (fun _ dcc1=>?_) fun _ dcc1=>?_
 obtain ⟨n,rfl⟩:∃ m,n=m+1:=⟨n - 1,by omega⟩;refine xct rfl<|xsk<|xet<|xsq<|xbl<|xsr ?_;refine yem 40 5 E ?_;clear E;intro w5 b4 E;refine xr 1 rfl<|xne<|xsq<|xsr<|xr 1 rfl<|xne<|xbl ?_;replace E:=Bx.mk (E.o.nilRow PtrD.cells 5 40 (some ⟨b4,0,none⟩));intro a O;refine ZD (ι:=Nat) (fun i a w=>∃ (ay:Option Addr) (cy:Nat) (ys:List PtrD),(i≤xs.length∧YX (fun p=>kidsS st p ((n+1:Nat):Int)) xs=(YX (fun p=>kidsS st p ((n+1:Nat):Int)) (xs.drop i)).map (ys++·)∧ys.length=4*i)∧Fr 46 a [(0,sV a0 c0 a1 c1 a2 c2 a4 c4 a6 c6 st),(1,tV t),(2,.pointer (some ⟨b1,0,none⟩)),(3,.pointer (some ⟨b2,0,none⟩)),(4,.slice none 0 0),(5,.bool false),(6,.slice ao xs.length cp),(7,.int .i64 ((n+1:Nat):Int)),(8,.slice ay ys.length cy),(9,.int .i64 (i:Int))]∧St w0 ([Zd PtrD.cells 5 40 (.slice ay ys.length cy) ys,Zd PtrD.cells 5 40 (.slice ao xs.length cp) xs,boxA b2 7 42 (tV t),boxA b1 8 39 (sV a0 c0 a1 c1 a2 c2 a4 c4 a6 c6 st)]) w) (fun i=>xs.length - i) 0 ⟨_,_,[],⟨Nat.zero_le _,Zfg,rfl⟩,O.ls _,E.o⟩ ?_;clear O E;clear a;rintro i a w6 ⟨ay,cy,ys,⟨hi,hnx,hyl⟩,O,E⟩;replace E:=Bx.mk E;revert a;refine xsq<|xsr<|xr 2 rfl<|xy rfl (vn 40 5 rfl)<|xr 1 rfl<|xne<|xcd 25 rfl (fun _ dcc2=>?_) fun _ dcc2=>?_
 refine xct rfl<|xsk<|xet<|xsq<|xbl<|xsq ?_;obtain ⟨g5,rfl,_,_,_,_⟩:=E.o.rowOpen 1 rfl (by omega);refine hld [] E ?_;clear E;intro w7 E U;refine Hw 0 3 8 E rfl rfl<|Hp 1 E rfl<|Hp 2 E rfl<|xhy 3 E.o rfl rfl (fun E=>vx 40 i 5 rfl)<|xhy 4 E.o rfl rfl (fun E a O=>ylr (cs:=pL (xs.getD i PtrD.zero)) rfl (O.ev rfl) (E.elem PtrD.cells_len 1 rfl (Zh (xs:=xs) (j:=i) (d:=PtrD.zero) (by omega))))<|Hp 5 E rfl ?_;refine ZI 6 ?_;refine yo (ZaN a0 c0 a1 c1 a2 c2 a4 c4 a6 c6 st (xs.getD i PtrD.zero) ((n+1:Nat):Int) _ (HR.out.below U.o.bel) hrow) func77 ?_;rintro _ w9 (⟨l6,hk6,ao6,cp6,rfl,hs1⟩|⟨hk6,ao6,nn6,cp6,rfl,hb⟩);have hll6:=J4 hk6;refine ⟨_,rfl,?_⟩;replace E:=Bx.mk (E.o.later hs1.bel);replace U:=U.ad hs1;clear hs1;intro a O;replace U:=U.nm;refine ⟨E.o,?_⟩;revert a;refine Hp 7 E rfl<|Hp 8 E rfl<|Hp 9 E rfl<|Hp 10 E rfl<|Hp 11 E rfl ?_;refine hdn ?_;replace E:=U;clear U;refine xet<|xsq<|xsr<|xr 2 rfl<|xne<|xcf rfl<|xsk<|xet<|xrl<|xr 2 rfl ?_;refine yap Yz PtrD.cells_len E 1 (St.rdOf E.o PtrD.cells_len 0 rfl) (Zn _) ?_;clear E;intro ao7 cp8 w10 E;refine xr 1 rfl<|xni<|xeb<|xet<|xrl<|xr 1 rfl<|xy rfl (vad rfl)<|xr 1 rfl<|xne ?_;have hz:ys.length+l6.length=(ys++l6).length:=(length_append ..).symm;intro a O;rw [hz] at E O;have hl4:=J4 hk6;have hyl2:(ys++l6).length=4*(i+1):=by rw [length_append];omega
 replace E:=E.pks [4,4,4,4];exact ⟨i+1,⟨_,_,ys++l6,⟨by omega,Zgx hnx (by omega) hk6,hyl2⟩,O.less _ ⟨rfl,rfl,rfl,rfl,rfl,rfl,rfl,rfl,rfl,rfl,trivial⟩,(E.o.erase 4)⟩,(by omega)⟩;refine ⟨_,rfl,?_⟩;replace E:=Bx.mk (E.o.later hb);replace U:=Bx.mk (U.o.later hb);clear hb;refine onb E.o ?_;refine Hp 7 E rfl<|Hp 8 E rfl<|Hp 9 E rfl<|Hp 10 E rfl<|Hp 11 E rfl ?_;refine hdn ?_;replace E:=U;clear U;refine xet<|xsq<|xsr<|xr 2 rfl<|xne<|xct rfl<|xsr ?_;refine yem 40 5 E ?_;clear E;intro w11 b9 E;refine xr 2 rfl<|xne<|xre<|xtr<|xbr<|xtr<|xtr<|xbr<|xtr<|xbr<|xtr<|xtr<|xbr<|xtr<|xb2 results50 rfl rfl ?_;exact .inr ⟨hd.trans (Jd (Zgy hnx (by omega) hk6)),_,_,_,rfl,E.o.bel⟩;refine xcf rfl<|xex<|xtx<|xtx<|xbh<|xet<|xrl<|xr 2 rfl<|xni<|xeb<|xet<|xrl<|xr 1 rfl<|xy rfl (fun a O=>XE (r:=(n:Int)) rfl (O.ev rfl) (O.ev rfl) ((Qt (by omega)).trans (by omega)))<|xr 1 rfl<|xne ?_;replace E:=E.pks [3,3,2];intro a O;exact ⟨n,⟨_,_,ys,⟨(hd.trans (QQ (Zid hnx (by omega)))),Zgz hp4 hyl (by omega),by omega⟩,O.less _ ⟨rfl,rfl,rfl,rfl,rfl,rfl,rfl,rfl,trivial⟩,(E.o.erase 3)⟩,(Nat.lt_succ_self _)⟩;obtain rfl:n=0:=by omega
 refine xcf rfl<|xex<|xtx<|xtx<|xbh<|xet<|xsr<|xr 3 rfl<|xne<|xre<|xb2 results50 rfl rfl ?_;exact .inl ⟨xs,hd,_,_,rfl,(E.o.erS [2,1])⟩
theorem Zif {st:Za}:∀ {n:Nat} {l m:List PtrD},(∀ p ∈ l,p.ok=true)→downL (kidsS st) n l=some m→∀ p ∈ m,p.ok=true
 | 0,l,m,h,hd=>by obtain rfl:l=m:=Option.some.inj hd;exact h
 | n+1,l,m,h,hd=>by
  cases hn:YX (fun p=>kidsS st p ((n+1:Nat):Int)) l with
  | none=>rw [Jd hn] at hd;cases hd
  | some x =>
   rw [QQ hn] at hd;refine Zif (fun q hq=>?_) hd;obtain ⟨p,_,k,hk,hq⟩:=(VE hn).2.1 q hq;exact (Xy (VD hk).1).2.1 q hq
theorem Zji {st:Za} {many:Int} {i:Nat} {p:PtrD} (h:p.hole=true):ZbE st many i p=true:=by unfold ZbE;rw [h];rfl
theorem ZaP {st:Za} {many:Int} {i:Nat} {p:PtrD} (h:p.hole=false):ZbE st many i p=(YL st p && ((p.ak == 0) && (decide (p.ah≤st.aq) && decide ((i:Int)<many)))):=by unfold ZbE;rw [h];rfl
theorem Zfh (a0:Option Addr) (c0:Nat) (a1:Option Addr) (c1:Nat) (a2:Option Addr) (c2:Nat) (a4:Option Addr) (c4:Nat) (a6:Option Addr) (c6:Nat) (st:Za) (t:Zf) (w0:World) (hR:Rd Zt 1 w0 a0 st.af.length st.af) (hrow:Y5 st):Calls prog 20 #[sV a0 c0 a1 c1 a2 c2 a4 c4 a6 c6 st,tV t] w0 fun e w'=>e=.returned (.bool (okS st t))∧Below w0.heap.size w0 w':=by
 have HR:=Bx.mk hR;clear hR;have E:=Bx.mk (St.start w0);refine ent func20 ntmps20 ?_;refine xsr ?_;refine ybx E ?_;clear E;intro w1 b1 E;refine ybx E ?_;clear E;intro w2 b2 E;refine xr 1 rfl<|xne<|xsq<|xsq ?_;intro a O;refine Yr (by kernel_rfl) (by kernel_rfl) E.o ?_;revert a;refine Qf 6 rfl<|Ql 0 rfl rfl ?_;refine yq (fun _ E=>((YY t.am 0 16 _).mono fun _ _ h=>⟨h.1,h.2 ▸ Below.refl _ _⟩)) func18 ?_;refine xqr 2 rfl<|xcs 15 rfl (fun cc1=>?_) fun cc1=>?_;refine xqr 13 rfl ?_;intro a O;refine wpQuiet_nil ?_;intro w3 E;replace E:=Bx.mk E;revert a;refine xet<|xct rfl<|xsr<|xr 1 rfl<|xne<|xre<|xtr<|xb1 results20 rfl ?_;have htop:ZbX t=false:=by
   have h:inB t.am 0 16=false:=(by simpa using cc1);unfold ZbX;rw [h];rfl
 exact ⟨by rw [Zek htop],E.o.bel⟩;have inT:inB t.am 0 16=true:=by simpa using cc1
 refine Qf 5 rfl<|Ql 0 rfl rfl<|Qf 6 rfl<|Ql 0 rfl rfl ?_;refine yqg (fun _ E=>ZaO t.am _) func47 ?_;refine xqr 3 rfl<|xcn 23 rfl (fun _ dcc2=>?_) fun _ dcc2=>?_;refine xqr 5 rfl ?_;intro a O;refine wpQuiet_nil ?_;intro w4 E;replace E:=Bx.mk E;revert a;refine xet<|xct rfl<|xsr<|xr 1 rfl<|xne<|xre<|xtr<|xb1 results20 rfl ?_;have htop:ZbX t=false:=by
   have h:(t.az == ((depthN t.am:Nat):Int))=false:=(by simpa using dcc2);unfold ZbX;rw [h];simp
 exact ⟨by rw [Zek htop],E.o.bel⟩;have hdep:t.az=((depthN t.am:Nat):Int):=dcc2;refine Qf 0 rfl<|Qw 0 5 rfl rfl ?_;refine yqg (fun _ E=>ZZ t.ac _) func48 ?_;refine xqr 2 rfl ?_;intro a O;refine wpQuiet_nil ?_;intro w5 E;replace E:=Bx.mk E;revert a;refine xet<|xcs 28 rfl (fun cc3=>?_) fun cc3=>?_
 refine xct rfl<|xsr<|xr 1 rfl<|xne<|xre<|xtr<|xb1 results20 rfl ?_;have htop:ZbX t=false:=by
   have h:t.ac.ok=false:=(by simpa using cc3);unfold ZbX;rw [h];simp
 exact ⟨by rw [Zek htop],E.o.bel⟩;have hok:t.ac.ok=true:=by simpa using cc3
 have htop:ZbX t=true:=by unfold ZbX;rw [hok,inT,beq_iff_eq.2 hdep];rfl
 refine xcf rfl<|xsk<|xet<|xsr<|Xw 1 8 E rfl rfl<|Xw 0 7 E rfl rfl ?_;refine yc (ZcL a0 c0 a1 c1 a2 c2 a4 c4 a6 c6 st t hdep _ (HR.out.below E.o.bel) hrow) func50 ?_;rintro _ w6 (⟨l3,hk3,ao3,cp3,rfl,hs1⟩|⟨hk3,ao3,nn3,cp3,rfl,hb⟩);refine ⟨_,rfl,?_⟩;replace E:=E.ad hs1;clear hs1;refine xr 5 rfl<|xne<|xsq<|xsr<|xr 2 rfl<|xne<|xcf rfl<|xsk<|xet<|xsq<|xsq ?_;have hoks:=Zif (fun p hp=>by rw [mem_singleton.1 hp];exact hok) hk3;have hll:l3.length≤16:=by rw [Zbm (fun p n k=>J4) hk3];simpa using Zmk (YU t.am)
 refine xrl<|xr 1 rfl<|xne<|xbl ?_;intro a O;refine ZD (ι:=Nat) (fun i a w=>(i≤l3.length∧QR st t.am 0 l3=QR st t.am i (l3.drop i))∧Fr 75 a [(0,sV a0 c0 a1 c1 a2 c2 a4 c4 a6 c6 st),(1,tV t),(2,.pointer (some ⟨b1,0,none⟩)),(3,.pointer (some ⟨b2,0,none⟩)),(4,.bool false),(5,.slice ao3 l3.length cp3),(6,.bool true),(7,.int .i64 (i:Int))]∧St w0 ([Zd PtrD.cells 5 40 (.slice ao3 l3.length cp3) l3,boxA b2 7 42 (tV t),boxA b1 8 39 (sV a0 c0 a1 c1 a2 c2 a4 c4 a6 c6 st)]) w) (fun i=>l3.length - i) 0 ⟨⟨Nat.zero_le _,by rw [drop_zero]⟩,O.less _ ⟨rfl,rfl,rfl,rfl,rfl,rfl,rfl,rfl,trivial⟩,E.o⟩ ?_;clear O E;clear a;rintro i a w7 ⟨⟨hi,hlv⟩,O,E⟩;replace E:=Bx.mk E;revert a;refine xsq<|xsr<|xr 2 rfl<|xy rfl (vn 40 5 rfl)<|xr 1 rfl<|xne<|xcd 40 rfl (fun _ dcc4=>?_) fun _ dcc4=>?_
 refine xct rfl<|xsk<|xet<|xsq<|xbl<|xsq ?_;obtain ⟨g4,rfl,_,_,_,_⟩:=E.o.rowOpen 0 rfl (by omega);refine xrl<|xr 2 rfl<|xy rfl (vx 40 i 5 rfl)<|xy rfl (fun a O=>ylr (cs:=pL (l3.getD i PtrD.zero)) rfl (O.ev rfl) (E.o.elem PtrD.cells_len 0 rfl (Zh (xs:=l3) (j:=i) (d:=PtrD.zero) (by omega)))) ?_;refine yal z5 E ?_;clear E;intro w8 b5 E;refine yst E 0 ?_;clear E;intro w9 E;replace E:=E.nm;refine xne<|xsq<|xsr<|Xw 0 5 E rfl rfl ?_;refine ycB (ZL (l3.getD i PtrD.zero) _) func49 E ?_;clear E;intro w10 E;refine xne<|xcs 48 rfl (fun cc5=>?_) fun cc5=>?_;refine xct rfl<|xex<|xtx<|xbh<|xet<|xrl<|xr 1 rfl<|xy rfl (vad rfl)<|xr 1 rfl<|xne ?_;have hst:=QT hlv (show i<l3.length by omega);rw [Zji cc5,Bool.true_and] at hst;replace E:=E.pks [3,3,3];intro a O;exact ⟨i+1,⟨⟨by omega,hst⟩,O.less _ ⟨rfl,rfl,rfl,rfl,rfl,rfl,rfl,rfl,trivial⟩,(E.o.erase 3)⟩,(by omega)⟩;refine xcf rfl<|xsk<|xet<|xsr<|Xw 3 8 E rfl rfl<|Xw 0 5 E rfl rfl ?_;refine ycB (Zab a0 c0 a1 c1 a2 c2 a4 c4 a6 c6 st (l3.getD i PtrD.zero) _  (HR.out.below E.o.bel) hrow (hoks _ (YI (by omega)))) func51 E ?_;clear E;intro w11 E;refine xr 5 rfl<|xne<|xsr<|xr 3 rfl<|xcs 57 rfl (fun cc6=>?_) fun cc6=>?_;refine xr 17 rfl<|xne<|xct rfl<|xsr<|xr 1 rfl<|xne<|xre<|xbr<|xtr<|xtr<|xbr<|xtr<|xb1 results20 rfl ?_;have hst:=QT hlv (show i<l3.length by omega);rw [ZaP cc5] at hst;have hb1:YL st (l3.getD i PtrD.zero)=false:=(by simpa using cc6);rw [hb1] at hst;simp only [Bool.false_and] at hst;exact ⟨by rw [ZbY htop hk3,hst],E.o.bel⟩;refine Xf 4 rfl<|Xl 0 E rfl rfl<|xr 3 rfl<|xcn 62 rfl (fun cc7 dcc7=>?_) fun cc7 dcc7=>?_;refine xr 12 rfl<|xne<|xct rfl<|xsr<|xr 1 rfl<|xne<|xre<|xbr<|xtr<|xtr<|xbr<|xtr<|xb1 results20 rfl ?_;have hst:=QT hlv (show i<l3.length by omega);rw [ZaP cc5] at hst;have hb1:((l3.getD i PtrD.zero).ak == 0)=false:=(by simpa using dcc7);rw [hb1] at hst;simp only [Bool.false_and,Bool.and_false] at hst;exact ⟨by rw [ZbY htop hk3,hst],E.o.bel⟩;refine Xf 1 rfl<|Xl 0 E rfl rfl<|Xf 3 rfl<|Xl 3 E rfl rfl<|xr 3 rfl<|xcd 69 rfl (fun _ dcc8=>?_) fun _ dcc8=>?_;refine xr 5 rfl<|xne<|xct rfl<|xsr<|xr 1 rfl<|xne<|xre<|xbr<|xtr<|xtr<|xbr<|xtr<|xb1 results20 rfl ?_;have hst:=QT hlv (show i<l3.length by omega);rw [ZaP cc5] at hst;rw [decide_eq_false (show ¬ (l3.getD i PtrD.zero).ah≤st.aq by omega)] at hst;simp only [Bool.false_and,Bool.and_false] at hst;exact ⟨by rw [ZbY htop hk3,hst],E.o.bel⟩;refine xr 1 rfl<|Xf 6 rfl<|Xl 2 E rfl rfl<|xr 2 rfl<|xne<|xcd 74 rfl (fun _ dcc9=>?_) fun _ dcc9=>?_;refine xct rfl<|xsr<|xr 1 rfl<|xne<|xre<|xbr<|xtr<|xtr<|xbr<|xtr<|xb1 results20 rfl ?_;have hst:=QT hlv (show i<l3.length by omega);rw [ZaP cc5] at hst;rw [decide_eq_false (show ¬ (i:Int)<t.am by omega)] at hst;simp only [Bool.false_and,Bool.and_false] at hst;exact ⟨by rw [ZbY htop hk3,hst],E.o.bel⟩;refine xcf rfl<|xsk<|xeb<|xet<|xrl<|xr 1 rfl<|xy rfl (vad rfl)<|xr 1 rfl<|xne ?_;have hst:=QT hlv (show i<l3.length by omega);have hrb:YL st (l3.getD i PtrD.zero)=true:=(by simpa using cc6);have hlv0:((l3.getD i PtrD.zero).ak == 0)=true:=(by simpa using cc7);rw [ZaP cc5,hrb,hlv0,decide_eq_true (show (l3.getD i PtrD.zero).ah≤st.aq by omega),decide_eq_true (show (i:Int)<t.am by omega)] at hst;simp only [Bool.and_self,Bool.true_and] at hst;replace E:=E.pks [3,3,3];intro a O;exact ⟨i+1,⟨⟨by omega,hst⟩,O.less _ ⟨rfl,rfl,rfl,rfl,rfl,rfl,rfl,rfl,trivial⟩,(E.o.erase 3)⟩,(by omega)⟩;refine xcf rfl<|xex<|xtx<|xtx<|xbh<|xet<|xsr<|xr 1 rfl<|xne<|xre<|xb1 results20 rfl ?_;exact ⟨by rw [ZbY htop hk3,Zie hlv (by omega)],E.o.bel⟩;refine ⟨_,rfl,?_⟩;replace E:=Bx.mk (E.o.later hb);clear hb;refine xr 5 rfl<|xne<|xsq<|xsr<|xr 2 rfl<|xne<|xct rfl<|xsr<|xr 1 rfl<|xne<|xre<|xtr<|xb1 results20 rfl ?_;exact ⟨by rw [Ze5 hk3],E.o.bel⟩
end Go.Proofs.YtenejpbnncbilaaGreatDoor
