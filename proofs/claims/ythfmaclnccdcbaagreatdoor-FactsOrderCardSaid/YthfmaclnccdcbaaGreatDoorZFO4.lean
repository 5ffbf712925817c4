/- Part of a proof. -/
import Derived.Test.YthfmaclnccdcbaaGreatDoorZFO3
namespace Go.Proofs.YthfmaclnccdcbaaGreatDoor
open Go.RowKit PA
def Gm (a b:Int):Int:=if a<b then -1 else if b<a then 1 else 0
theorem AV (a b:Int) (w:World):Calls Tryz.prog 69 #[.int .i64 a,.int .i64 b] w fun e w'=>e=.returned (.int .i64 (Gm a b))∧w=w':=by
 obtain⟨r,hr⟩:=aC (Gm a b);rw[←hr];unfold Gm at hr;have HR:=ah hr;clear hr;by_cases c1:a<b
 ·go_enter Tryz.func69,Tryz.ntmps69
  go_wp2;go_ret;exact⟨by rw[HR.out,if_pos (by omega)];rfl,rfl⟩
 ·by_cases c2:b<a
  ·go_enter Tryz.func69,Tryz.ntmps69
   go_wp2;go_ret;exact⟨by rw[HR.out,if_neg (by omega),if_pos (by omega)];rfl,rfl⟩
  ·go_enter Tryz.func69,Tryz.ntmps69
   go_wp2;go_ret;exact⟨by rw[HR.out,if_neg (by omega),if_neg (by omega)];rfl,rfl⟩
theorem Py {W w:World} {A:aB} (a b:Int) (C:Nat) (h:Sat W w (sep (blk C (.cells #[.int .i64 a,.int .i64 b] 3 (0,0))) A)):
 Calls Tryz.prog 68 #[.slice (some ⟨C,0,none⟩) 2 2] w fun e w'=>e=.returned (.int .i64 (if a≠0 then a else b))∧Sat W w' A:=by
 obtain⟨r,hr⟩:=aC (if a≠0 then a else b);rw[←hr];have HR:=ah hr;clear hr;obtain⟨c0,c1,-,-⟩:=kX h;have h':=h.forget;clear h;go_enter Tryz.func68,Tryz.ntmps68;go_wp2;go_loopw [8] (fun kv wr=>∃k:Nat,kv=.int .i64 k∧k≤2∧(1≤k→a=0)∧(2≤k→b=0)∧wr=w) (fun kv _=>2-(intOf kv).toNat)
 case atStart=>exact⟨0,rfl,by omega,by omega,by omega,rfl⟩
 case round=>
  obtain⟨k,rfl,hk,q1,q2,rfl⟩:=hrel;have Q1:=ah q1;have Q2:=ah q2;clear q1 q2;obtain rfl|rfl|rfl:k=0∨k=1∨k=2:=by omega
  ·by_cases hz:a=0
   ·subst hz
    go_wp2;go_roundw;case rel=>exact⟨1,rfl,by omega,fun _=>(by first|rfl|trivial),by omega,by first|rfl|trivial⟩
    case measure=>simp[intOf]
   ·have hz2:(a !=0)=true:=by simp[hz]
    go_wp2;go_ret;exact⟨by rw[HR.out,if_pos hz];rfl,h'⟩
  ·by_cases hz:b=0
   ·subst hz
    go_wp2;go_roundw;case rel=>exact⟨2,rfl,by omega,fun _=>Q1.out (by omega),fun _=>(by first|rfl|trivial),by first|rfl|trivial⟩
    case measure=>simp[intOf]
   ·have hz2:(b !=0)=true:=by simp[hz]
    go_wp2;go_ret;exact⟨by rw[HR.out,if_neg (by rw[Q1.out (by omega)];simp)];rfl,h'⟩
  ·go_wp2
   go_ret;exact⟨by rw[HR.out,if_neg (by rw[Q1.out (by omega)];simp),Q2.out (by omega)];rfl,h'⟩
section
def kA:Nat:=19
theorem aV (w:World):(Go.sizeOf 36).run Tryz.prog w=.ok kA w:=by kernel_rfl
instance:Inhabited Ac:=⟨Ac.zero⟩
def iC (g N:Nat) (f:Nat→Ac) (tl:List Value):aB:=blk g (.cells (bY ((List.range N).map f)++tl).toArray 36 (0,0))
def Uu (f:Nat→Ac) (i:Nat) (x:Ac):Nat→Ac:=fun k=>if k=i then x else f k
section
variable {W w:World} {A:aB} {g N:Nat} {f:Nat→Ac} {tl:List Value}
theorem iE (h:Sat W w (sep (iC g N f tl) A)) (i:Nat) (hi:i<N):Sem.run Tryz.prog (loadCellsFrom ⟨g,i*19,none⟩ 0 kA #[]) w=.ok (f i).cells.toArray w:=by
 have hl:(f i).cells.length=kA:=rfl;have:=run_loadCells_list (P:=Tryz.prog) w ⟨g,i*19,none⟩ (f i).cells (fun j v hj=>by
  have hjl:j<19:=(qM hj).1;have e:(⟨g,i*19,none⟩:Addr).add j=⟨g,i*19+j,none⟩:=by unfold Addr.add;split<;>simp_all
  rw[e,Sat.cell h];rw[List.getElem?_toArray];show (bY ((List.range N).map f)++tl)[i*19+j]?=some v;rw[List.getElem?_append_left (by rw[kS];simp;omega),zG _ i (by simpa using hi) j hjl];simpa using hj)
 rw[hl] at this;exact this
theorem YN (xs:List Ac) (i:Nat) (hi:i<xs.length) (x:Ac):bY (xs.set i x)=(bY xs).take (i*19)++x.cells++(bY xs).drop (i*19+19):=by
 have e1:bY (xs.take i)=(bY xs).take (i*19):=by
  have h:=iZ (xs.take i) (xs.drop i);rw[List.take_append_drop] at h;have hl:(bY (xs.take i)).length=i*19:=by rw[kS,List.length_take];omega
  rw[h,←hl,List.take_left]
 have e2:bY (xs.drop (i+1))=(bY xs).drop (i*19+19):=by
  have h:=iZ (xs.take (i+1)) (xs.drop (i+1));rw[List.take_append_drop] at h;have hl:(bY (xs.take (i+1))).length=i*19+19:=by rw[kS,List.length_take];omega
  rw[h,←hl,List.drop_left]
 rw[List.set_eq_take_append_cons_drop,if_pos hi,iZ,e1,←e2];show _++(x.cells++bY (xs.drop (i+1)))=_;rw[kZ]
theorem Us (f:Nat→Ac) (N i:Nat) (x:Ac):(List.range N).map (Uu f i x)=((List.range N).map f).set i x:=by
 apply List.ext_getElem
 ·simp
 ·intro k h1 h2
  simp only[List.getElem_map,List.getElem_range,List.getElem_set,Uu];by_cases e:k=i
  ·subst e;simp
  ·simp[e,Ne.symm e]
theorem vF (h:Sat W w (sep (iC g N f tl) A)) (i:Nat) (hi:i<N) (x:Ac):
 ∃w',Sem.run Tryz.prog (storeCells ⟨g,i*19,none⟩ x.cells 0) w=.ok () w'∧Sat W w' (sep (iC g N (Uu f i x) tl) A):=by
 have hl:(bY ((List.range N).map f)).length=N*19:=by rw[kS];simp
 have hst:=run_storeCells_at Tryz.prog g (i*19) 36 x.cells 0 (bY ((List.range N).map f)++tl).toArray w h.aO (by show i*19+0+19≤_;simp[hl];omega) (x.one);refine⟨_,hst,?_⟩;have h2:=h.setRow (((bY ((List.range N).map f)++tl).toArray.toList.take (i*19+0))++x.cells++(bY ((List.range N).map f)++tl).toArray.toList.drop (i*19+0+x.cells.length)).toArray;unfold iC;rw[Us,YN _ i (by simpa using hi)];have e:(bY ((List.range N).map f)++tl).toArray.toList.take (i*19+0)++x.cells++(bY ((List.range N).map f)++tl).toArray.toList.drop (i*19+0+x.cells.length)=(bY ((List.range N).map f)).take (i*19)++x.cells++(bY ((List.range N).map f)).drop (i*19+19)++tl:=by
  show (bY ((List.range N).map f)++tl).take (i*19)++x.cells++(bY ((List.range N).map f)++tl).drop (i*19+19)=_;rw[List.take_append_of_le_length (by omega),List.drop_append_of_le_length (by omega),kZ,kZ,kZ]
 rw[e] at h2 ⊢;exact h2
theorem Kq (f:Nat→Ac) (i j:Nat):Uu (Uu f i (f j)) j (f i)=uf f j i:=by
 funext k;unfold Uu uf;rfl
end
end
section
attribute [local go_sem ↓] aV
def Az (W:World) (A0:aB) (D:Ac→Ac→Prop) (c:Ac→Ac→Int):Prop:=∀(x y:Ac) (w:World) (B:aB),D x y→Sat W w (sep A0 B) →
 Calls Tryz.prog 21 #[.agg x.cells.toArray,.agg y.cells.toArray] w fun e w'=>e=.returned (.int .i64 (c x y))∧Sat W w' (sep A0 B)
set_option maxRecDepth 100000 in
set_option maxHeartbeats 4000000 in
theorem WS {W w:World} {A A0:aB} {D:Ac→Ac→Prop} {c:Ac→Ac→Int} {g N:Nat} {f:Nat→Ac} {tl:List Value} (hT:Total c) (hC:Az W A0 D c) (hD:DF D N f) (hN:N≤65536) (cp:Nat) (a b:Nat) (hab:a≤b) (hb:b≤N)
 (h:Sat W w (sep (iC g N f tl) (sep A0 A))):
 Calls Tryz.prog 194 #[.slice (some ⟨g,0,none⟩) N cp,.int .i64 a,.int .i64 b,.func (.func 21) #[] #[]] w fun e w'=>∃f',e=.returned (.tuple #[])∧Sw a b f f'∧eU c a b f'∧Sat W w' (sep (iC g N f' tl) (sep A0 A)):=by
 have HC:=ah hC;have HT:=ah hT;have HD:=ah hD;have hNI:(N:Int)≤65536:=by omega
 have hbI:(b:Int)≤N:=by omega
 have haI:(a:Int)≤b:=by omega
 clear hC hT hD;go_enter Tryz.func194,Tryz.ntmps194;go_wp2;go_loopw [8] (fun iv wr=>∃(i:Nat) (f':Nat→Ac),iv=.int .i64 i∧a<i∧i≤b+1∧Sw a b f f'∧eU c a (min i b) f'∧Sat W wr (sep (iC g N f' tl) (sep A0 A))) (fun iv _=>b+1-(intOf iv).toNat)
 case atStart=>exact⟨a+1,f,by go_num,by omega,by omega,.refl,fun p q p1 p2 p3=>by omega,h⟩
 case round=>
  obtain⟨i,f1,rfl,hai,hib,hsw,hsr,hS⟩:=hrel;have HSW:=ah hsw;have UQ:=ah hsr;have HS:=ah hS;clear hsw hsr hS h;by_cases hlt:i<b
  ·have hltz:(i:Int)<(b:Int):=by omega
   go_wp2;go_loopw [9] (fun jv wr=>∃(j:Nat) (f':Nat→Ac),jv=.int .i64 j∧a≤j∧j≤i∧Sw a b f f'∧La c a i j f'∧Sat W wr (sep (iC g N f' tl) (sep A0 A))) (fun jv _=>(intOf jv).toNat)
   case atStart=>exact⟨i,f1,rfl,by omega,Nat.le_refl _,HSW.out,.start (by have:=UQ.out;rwa [Nat.min_eq_left (by omega)] at this),HS.out⟩
   case round=>
    obtain⟨j,f2,rfl,haj,hji,Zo,hin,hS2⟩:=hrel;have YF:=ah Zo;have XU:=ah hin;have HS2:=ah hS2;clear Zo hin HS HSW UQ;by_cases hja:a<j
    ·have hjaz:(a:Int)<(j:Int):=by omega
     obtain⟨jp,rfl⟩:∃jp,j=jp+1:=⟨j-1,by omega⟩
     have hwp:IntKind.i64.wrap (jp:Int)=(jp:Int):=IntWalk.i64_in _ (by omega);have jz:(jp:Int)+1<(N:Int):=by omega
     have jz1:(jp:Int)<(N:Int):=by omega
     have hjaz':(a:Int)<(jp:Int)+1:=by omega
     have p0:(0:Int)≤(jp:Int)+1:=by omega
     have e0:((jp:Int)+1).toNat=jp+1:=by omega
     have hd:=hS2.drew;obtain⟨wd,hwd⟩:=aC (wr.drew);rw[←hwd] at hd;have l1:=iE hd (jp+1) (by omega);have l2:=iE hd jp (by omega);have hcc:=HC.out (f2 (jp+1)) (f2 jp) wd _ (HD.out.sw YF.out hb (jp+1) jp (by omega) (by omega) (by omega)) hd.p1;obtain⟨cv,hcv⟩:=aC (c (f2 (jp+1)) (f2 jp));rw[←hcv] at hcc;have Dk:=ah hcv;have Cc:=ah hcc;have jY:=ah hwd;clear hd hcc hwd hS2 hcv;go_wp2_with fail;refine aG rfl (fun _=>True) [(0,.p),(1,.p),(2,.p),(3,.p),(4,.p),(5,.p),(6,.p),(7,.p),(8,.t),(9,.p),(10,.p),(11,.p),(12,.p),(13,.t),(14,.e false),(15,.p),(16,.p)] (by kernel_rfl) ?_;have hS0:True:=trivial;rw[←jY.out];refine bG ?_;clear l1 l2
     (refine jJ rfl rfl (fun K hK=>?_);go_simp)
     refine Cc.out.mono ?_;rintro e w3 ⟨rfl,h3⟩;refine dY ?_;clear hK K;clear Cc jY HS2;by_cases hlv:cv<0
     ·refine bG ?_
      refine dJ ?_;have hd:=h3.p1.drew;obtain⟨wd2,hwd2⟩:=aC (w3.drew);rw[←hwd2] at hd;have l1:=iE hd (jp+1) (by omega);have l2:=iE hd jp (by omega);obtain⟨w4,s1,h4⟩:=vF hd (jp+1) (by omega) (f2 jp);obtain⟨w5,s2,h5⟩:=vF h4 jp (by omega) (f2 (jp+1));rw[Kq,Oo] at h5;have jY:=ah hwd2;have H5:=ah h5;clear hwd2 hd h3 h4 h5;go_wp2_with fail;refine aG rfl (fun _=>True) [(0,.p),(1,.p),(2,.p),(3,.p),(4,.p),(5,.p),(6,.p),(7,.p),(8,.p),(9,.t),(10,.p),(11,.p),(12,.p),(13,.t),(14,.p),(15,.e false),(16,.p),(17,.e false)] (by kernel_rfl) ?_;rw[←jY.out];refine bG ?_
      (refine jJ rfl rfl (fun K hK=>?_);go_simp)
      (refine hK _ _ (fun h=>by cases h) ?_;clear hK K;(try simp only[Act.put]))
      refine bG ?_
      (refine jJ rfl rfl (fun K hK=>?_);go_simp)
      (refine hK _ _ (fun h=>by cases h) ?_;clear hK K;(try simp only[Act.put]))
      refine dJ ?_;clear l1 l2 s1 s2;go_wp2;go_roundw;case rel=>
       refine⟨jp,uf f2 (jp+1) jp,by go_num,by omega,by omega,.step _ _ _ YF.out (by omega) (by omega) (by omega) (by omega),?_,H5.out⟩;exact XU.out.step (by omega) (by omega) (by show c (f2 (jp+1)) (f2 jp)<0;rw[←Dk.out];exact hlv)
      case measure=>simp[intOf]
     ·refine bG ?_
      refine dJ ?_;have H3:=ah h3.p1;clear h3;go_wp2;go_roundw;case rel=>
       refine⟨i+1,f2,by go_num,by omega,by omega,YF.out,?_,H3.out⟩;rw[Nat.min_eq_left (by omega)];exact XU.out.stop HT.out (by omega) hji (.inr (by show 0≤c (f2 (jp+1)) (f2 jp);rw[←Dk.out];omega))
      case measure=>simp[intOf];omega
    ·have hjaz:¬(a:Int)<(j:Int):=by omega
     have ahB:decide ((j:Int) > (a:Int))=false:=decide_eq_false (by omega);go_wp2_with fail;refine aG rfl (fun _=>True) [(0,.p),(1,.p),(2,.p),(3,.p),(4,.p),(5,.p),(6,.p),(7,.p),(8,.t),(9,.p),(10,.p),(11,.p),(12,.p),(13,.t),(14,.e false),(15,.p),(16,.p)] (by kernel_rfl) ?_;have hS0:True:=trivial;refine bG ?_
     (refine C_eo rfl rfl (fun h=>by first|(cases h;done)|exact hS0) ?_;simp only[Act.put,lsA,lsB,lq])
     refine bG ?_;refine dJ ?_;go_wp2;go_roundw;case rel=>
      refine⟨i+1,f2,by go_num,by omega,by omega,YF.out,?_,HS2.out.drew⟩;rw[Nat.min_eq_left (by omega)];exact XU.out.stop HT.out haj hji (.inl (by omega))
     case measure=>simp[intOf];omega
  ·have hltz:¬(i:Int)<(b:Int):=by omega
   go_wp2;go_end0;refine⟨rfl,f1,HSW.out,?_,HS.out⟩;have:=UQ.out
   rwa [Nat.min_eq_right (by omega)] at this
end
section
attribute [local go_sem ↓] aV
theorem zI {W w:World} {A:aB} {g N:Nat} {f:Nat→Ac} {tl:List Value} (h:Sat W w (sep (iC g N f tl) A)) (p q:Nat) (hp:p<N) (hq:q<N):
 ∃w1 w2,Sem.run Tryz.prog (storeCells ⟨g,p*19,none⟩ (f q).cells 0) w=.ok () w1∧Sem.run Tryz.prog (storeCells ⟨g,q*19,none⟩ (f p).cells 0) w1=.ok () w2∧Sat W w2 (sep (iC g N (uf f p q) tl) A):=by
 obtain⟨w4,s1,h4⟩:=vF h p hp (f q);obtain⟨w5,s2,h5⟩:=vF h4 q hq (f p);rw[Kq,Oo] at h5;exact⟨w4,w5,s1,s2,h5⟩
set_option maxRecDepth 100000 in
set_option maxHeartbeats 4000000 in
theorem pF {W w:World} {A:aB} {g N:Nat} {f:Nat→Ac} {tl:List Value} (hN:N≤65536) (cp:Nat) (fv:Value) (a b n:Nat) (ha:a+n≤N) (hb:b+n≤N) (h:Sat W w (sep (iC g N f tl) A)):
 Calls Tryz.prog 223 #[.slice (some ⟨g,0,none⟩) N cp,.int .i64 a,.int .i64 b,.int .i64 n,fv] w fun e w'=>e=.returned (.tuple #[])∧Sat W w' (sep (iC g N (QG f a b n) tl) A):=by
 have H:=ah h;clear h;go_enter Tryz.func223,Tryz.ntmps223;go_wp2;go_loopw [10] (fun iv wr=>∃i:Nat,iv=.int .i64 i∧i≤n∧Sat W wr (sep (iC g N (QG f a b i) tl) A)) (fun iv _=>n-(intOf iv).toNat)
 case atStart=>exact⟨0,rfl,by omega,H.out⟩
 case round=>
  obtain⟨i,rfl,hi,hS⟩:=hrel;by_cases hlt:i<n
  ·have hltz:(i:Int)<(n:Int):=by omega
   obtain⟨x,hx⟩:=aC (a+i);obtain⟨y,hy⟩:=aC (b+i);have ew1:IntKind.i64.wrap ((a:Int)+(i:Int))=(x:Int):=by rw[hx,IntWalk.i64_in _ (by omega)];omega
   have ew2:IntKind.i64.wrap ((b:Int)+(i:Int))=(y:Int):=by rw[hy,IntWalk.i64_in _ (by omega)];omega
   have jx:(x:Int)<(N:Int):=by omega
   have jy:(y:Int)<(N:Int):=by omega
   have hd:=hS.drew;obtain⟨wd,hwd⟩:=aC (wr.drew);rw[←hwd] at hd;have l1:=iE hd x (by omega);have l2:=iE hd y (by omega);obtain⟨w4,w5,s1,s2,h5⟩:=zI hd x y (by omega) (by omega);have jY:=ah hwd;have H5:=ah h5;have HX:=ah (aH hx hy);clear hd hwd h5 hS hx hy;go_wp2_with fail;refine aG rfl (fun _=>True) [(0,.p),(1,.p),(2,.p),(3,.p),(4,.p),(5,.p),(6,.p),(7,.p),(8,.p),(9,.p),(10,.p),(11,.p),(12,.p),(13,.t),(14,.p),(15,.p),(16,.p),(17,.p),(18,.p),(19,.t),(20,.p),(21,.e false),(22,.p),(23,.e false)] (by kernel_rfl) ?_;have hS0:True:=trivial;rw[←jY.out];refine bG ?_
   (refine jJ rfl rfl (fun K hK=>?_);go_simp)
   (refine hK _ _ (fun h=>by cases h) ?_;clear hK K;(try simp only[Act.put]))
   refine bG ?_
   (refine jJ rfl rfl (fun K hK=>?_);go_simp)
   (refine hK _ _ (fun h=>by cases h) ?_;clear hK K;(try simp only[Act.put]))
   refine dJ ?_;clear l1 l2 s1 s2 ew1 ew2;go_wp2;go_roundw;case rel=>
    refine⟨i+1,by go_num,by omega,?_⟩;have:=H5.out;rw[HX.out.1,HX.out.2] at this;exact this
   case measure=>simp[intOf];omega
  ·obtain rfl:i=n:=by omega
   go_wp2;go_end0;exact⟨rfl,hS⟩
set_option maxRecDepth 100000 in
set_option maxHeartbeats 4000000 in
theorem NZ {W w:World} {A:aB} {g N:Nat} {f:Nat→Ac} {tl:List Value} (hN:N≤65536) (cp:Nat) (fv:Value) (a m b:Nat) (h1:a<m) (h2:m<b) (h3:b≤N) (h:Sat W w (sep (iC g N f tl) A)):
 Calls Tryz.prog 211 #[.slice (some ⟨g,0,none⟩) N cp,.int .i64 a,.int .i64 m,.int .i64 b,fv] w fun e w'=>e=.returned (.tuple #[])∧∃f',Cj f a m b f'∧Sw a b f f'∧Sat W w' (sep (iC g N f' tl) A):=by
 have H:=ah h;clear h;have ei:(m:Int)-(a:Int)=((m-a:Nat):Int):=by omega
 have ej:(b:Int)-(m:Int)=((b-m:Nat):Int):=by omega
 have wi:IntKind.i64.wrap (((m-a:Nat):Int))=((m-a:Nat):Int):=IntWalk.i64_in _ (by omega);have wj:IntKind.i64.wrap (((b-m:Nat):Int))=((b-m:Nat):Int):=IntWalk.i64_in _ (by omega);go_enter Tryz.func211,Tryz.ntmps211;go_wp2;go_loopw [10,11] (fun iv jv wr=>∃(i j:Nat) (f':Nat→Ac),iv=.int .i64 i∧jv=.int .i64 j∧0<i∧0<j∧Dt f a m b i j f'∧Sat W wr (sep (iC g N f' tl) A)) (fun iv jv _=>(intOf iv).toNat+(intOf jv).toNat)
 case atStart=>exact⟨m-a,b-m,f,by go_num,by go_num,by omega,by omega,.start f a m b (by omega) (by omega),H.out⟩
 case round=>
  obtain⟨i,j,f1,rfl,rfl,hi,hj,hR,hS⟩:=hrel;have hi2:=hR.hi;have hj2:=hR.hj;have HR:=ah hR;have HS:=ah hS;clear hR hS ei ej wi wj;rcases Nat.lt_trichotomy i j with c1|c1|c1
  ·have bz:((i:Int) !=(j:Int))=true:=by simp;omega
   have cz:¬(j:Int)<(i:Int):=by omega
   have hsr:=pF (f:=f1) (tl:=tl) (W:=W) (A:=A) (g:=g) hN cp fv (m-i) (m+j-i) i (by omega) (by omega) HS.out;have hst:=HR.out.small (by omega) (by omega) c1;obtain⟨x,hx⟩:=aC (m-i);obtain⟨y,hy⟩:=aC (m+j-i);obtain⟨z,hz⟩:=aC (j-i);rw[←hx,←hy] at hsr hst;rw[←hz] at hst;have ex:(m:Int)-(i:Int)=(x:Int):=by omega
   have ey:(m:Int)+(j:Int)-(i:Int)=(y:Int):=by omega
   have ez:(j:Int)-(i:Int)=(z:Int):=by omega
   have UQ:=ah hsr;have HST:=ah hst;have HZ:=ah hz;clear hsr hst hx hy hz HS HR;go_wp2_with fail;refine UQ.out.mono ?_;rintro e w3 ⟨rfl,h3⟩;clear UQ ex ey;go_wp2_with fail;go_roundw;case rel=>exact⟨i,z,_,rfl,rfl,hi,by have:=HZ.out;omega,HST.out,h3⟩
   case measure=>have:=HZ.out;simp[intOf];omega
  ·subst c1
   have hsr:=pF (f:=f1) (tl:=tl) (W:=W) (A:=A) (g:=g) hN cp fv (m-i) m i (by omega) (by omega) HS.out;have hst:=HR.out.done (by omega) (by omega);obtain⟨x,hx⟩:=aC (m-i);rw[←hx] at hsr hst;have ex:(m:Int)-(i:Int)=(x:Int):=by omega
   have UQ:=ah hsr;have HST:=ah hst;clear hsr hst hx HS HR;go_wp2_with fail;refine UQ.out.mono ?_;rintro e w3 ⟨rfl,h3⟩;clear UQ ex;go_wp2_with fail;go_end0;exact⟨rfl,_,HST.out.1,HST.out.2,h3⟩
  ·have bz:((i:Int) !=(j:Int))=true:=by simp;omega
   have cz:(j:Int)<(i:Int):=by omega
   have hsr:=pF (f:=f1) (tl:=tl) (W:=W) (A:=A) (g:=g) hN cp fv (m-i) m j (by omega) (by omega) HS.out;have hst:=HR.out.big (by omega) (by omega) c1;obtain⟨x,hx⟩:=aC (m-i);obtain⟨z,hz⟩:=aC (i-j);rw[←hx] at hsr hst;rw[←hz] at hst;have ex:(m:Int)-(i:Int)=(x:Int):=by omega
   have ez:(i:Int)-(j:Int)=(z:Int):=by omega
   have UQ:=ah hsr;have HST:=ah hst;have HZ:=ah hz;clear hsr hst hx hz HS HR;go_wp2_with fail;refine UQ.out.mono ?_;rintro e w3 ⟨rfl,h3⟩;clear UQ ex;go_wp2_with fail;go_roundw;case rel=>exact⟨z,j,_,rfl,rfl,by have:=HZ.out;omega,hj,HST.out,h3⟩
   case measure=>have:=HZ.out;simp[intOf];omega
end
section
attribute [local go_sem ↓] aV
set_option maxRecDepth 100000 in
set_option maxHeartbeats 4000000 in
theorem sym_a {W w:World} {A A0:aB} {D:Ac→Ac→Prop} {c:Ac→Ac→Int} {g N:Nat} {f:Nat→Ac} {tl:List Value} (hT:Total c) (hC:Az W A0 D c) (hD:DF D N f) (hN:N≤65536) (cp:Nat) (a m b:Nat) (h1:m=a+1) (h2:m<b) (h3:b≤N)
 (hs:eU c m b f) (h:Sat W w (sep (iC g N f tl) (sep A0 A))):
 Calls Tryz.prog 195 #[.slice (some ⟨g,0,none⟩) N cp,.int .i64 a,.int .i64 m,.int .i64 b,.func (.func 21) #[] #[]] w fun e w'=>e=.returned (.tuple #[])∧∃f',Sw a b f f'∧eU c a b f'∧Sat W w' (sep (iC g N f' tl) (sep A0 A)):=by
 have HM:=ah h1;have HC:=ah hC;have HT:=ah hT;have HD:=ah hD;have HS:=ah hs;have H:=ah h;have hq:((m:Int)-(a:Int)==1)=true:=by simp;omega
 have ham:a<m:=by omega
 clear hC hT hD hs h h1;go_enter Tryz.func195,Tryz.ntmps195;go_wp2;go_loopw [10,11] (fun iv jv wr=>∃(i j:Nat),iv=.int .i64 i∧jv=.int .i64 j∧Bs c m b i j f (f a)∧Sat W wr (sep (iC g N f tl) (sep A0 A))) (fun iv jv _=>(intOf jv).toNat-(intOf iv).toNat)
 case atStart=>exact⟨m,b,rfl,rfl,.start (by omega) f _,H.out⟩
 case round=>
  obtain⟨i,j,rfl,rfl,hB,hS⟩:=hrel;have b1:=hB.h1;have b2:=hB.h2;have b3:=hB.h3;have HB:=ah hB;clear hB;by_cases hlt:i<j
  ·have hltz:(i:Int)<(j:Int):=by omega
   obtain⟨x,hx⟩:=aC ((i+j) / 2);have ex:((i:Int)+(j:Int)) / 2=(x:Int):=by omega
   have x1:i≤x:=by omega
   have x2:x<j:=by omega
   have jx:(x:Int)<(N:Int):=by omega
   have ja:(a:Int)<(N:Int):=by omega
   have hd:=hS.drew;obtain⟨wd,hwd⟩:=aC (wr.drew);rw[←hwd] at hd;have l1:=iE hd x (by omega);have l2:=iE hd a (by omega);have hcc:=HC.out (f x) (f a) wd _ (HD.out x a (by omega) (by omega) (by omega)) hd.p1;obtain⟨cv,hcv⟩:=aC (c (f x) (f a));rw[←hcv] at hcc;have Dk:=ah hcv;have Cc:=ah hcc;have jY:=ah hwd;clear hd hwd hS hcc hcv hx;go_upto_region 5 with fail;clear ex;refine aG rfl (fun _=>True) [(0,.p),(1,.p),(2,.p),(3,.p),(4,.t),(5,.p),(6,.p),(7,.p),(8,.t),(9,.e false),(10,.p)] (by kernel_rfl) ?_;have hS0:True:=trivial;rw[←jY.out];refine bG ?_;clear l1 l2
   (refine jJ rfl rfl (fun K hK=>?_);go_simp)
   refine Cc.out.mono ?_;rintro e w3 ⟨rfl,h3⟩;refine dY ?_;clear hK K;clear Cc jY;have H3:=ah h3.p1;clear h3;by_cases hlv:cv<0
   ·refine bG ?_
    refine dJ ?_;go_wp2;go_roundw;case rel=>
     exact⟨x+1,j,by go_num,rfl,HB.out.right HT.out HS.out x1 x2 (by rw[←Dk.out];omega),H3.out⟩
    case measure=>simp[intOf];omega
   ·refine bG ?_
    refine dJ ?_;go_wp2;go_roundw;case rel=>
     exact⟨i,x,rfl,rfl,HB.out.left HT.out HS.out x1 x2 (by rw[←Dk.out];omega),H3.out⟩
    case measure=>simp[intOf];omega
  ·obtain rfl:i=j:=by omega
   have HS2:=ah hS;clear hS H;go_wp2;go_loopw [13] (fun kv wr=>∃(k:Nat) (f':Nat→Ac),kv=.int .i64 k∧a≤k∧k+1≤i∧Cj f a m (k+1) f'∧Sw a b f f'∧Sat W wr (sep (iC g N f' tl) (sep A0 A))) (fun kv _=>i-(intOf kv).toNat)
   case atStart=>exact⟨a,f,rfl,by omega,by omega,by rw[HM.out];exact .up0 f a,.refl,HS2.out⟩
   case round=>
    obtain⟨k,f1,rfl,hk1,hk2,hR,hW,hS⟩:=hrel;have HR:=ah hR;have HW:=ah hW;clear hR hW;by_cases hk3:k+1<i
    ·have abu:(k:Int)<(i:Int)-1:=by omega
     have ew:IntKind.i64.wrap ((k:Int)+1)=(k:Int)+1:=IntWalk.i64_in _ (by omega);have p0:(0:Int)≤(k:Int)+1:=by omega
     have e0:((k:Int)+1).toNat=k+1:=by omega
     have jk:(k:Int)+1<(N:Int):=by omega
     have jk2:(k:Int)<(N:Int):=by omega
     have hd:=hS.drew;obtain⟨wd,hwd⟩:=aC (wr.drew);rw[←hwd] at hd;have l1:=iE hd (k+1) (by omega);have l2:=iE hd k (by omega);obtain⟨w4,w5,s1,s2,h5⟩:=zI hd k (k+1) (by omega) (by omega);have jY:=ah hwd;have H5:=ah h5;clear hd hwd h5 hS;go_wp2_with fail;refine aG rfl (fun _=>True) [(0,.p),(1,.p),(2,.p),(3,.p),(4,.p),(5,.p),(6,.p),(7,.p),(8,.p),(9,.t),(10,.p),(11,.p),(12,.p),(13,.t),(14,.p),(15,.e false),(16,.p),(17,.e false)] (by kernel_rfl) ?_;have hS0:True:=trivial;rw[←jY.out];refine bG ?_
     (refine jJ rfl rfl (fun K hK=>?_);go_simp)
     (refine hK _ _ (fun h=>by cases h) ?_;clear hK K;(try simp only[Act.put]))
     refine bG ?_
     (refine jJ rfl rfl (fun K hK=>?_);go_simp)
     (refine hK _ _ (fun h=>by cases h) ?_;clear hK K;(try simp only[Act.put]))
     refine dJ ?_;clear l1 l2 s1 s2 ew p0 e0;go_wp2;go_roundw;case rel=>
      exact⟨k+1,_,by go_num,by omega,by omega,(by have:=HR.out;rw[HM.out] at this ⊢;exact this.up hk1),.step _ _ _ HW.out (by omega) (by omega) (by omega) (by omega),H5.out⟩
     case measure=>simp[intOf];omega
    ·have hik:i=k+1:=by omega
     have abu:¬(k:Int)<(i:Int)-1:=by omega
     have HIK:=ah hik;clear hik hk3;go_wp2
     (try simp only[Exit.inBlock,Exit.then])
     refine bodyPost_ret (results_none rfl _ _ _) rfl ?_;rw[←HIK.out] at HR;exact⟨rfl,f1,HW.out,(by have h4:=HR.out;have h5:=HB.out.lo;have h6:=HS.out;rw[HM.out] at h4 h5 h6;exact XG HT.out h6 (by omega) b3 h5 HB.out.up h4),hS⟩
end
section
attribute [local go_sem ↓] aV
set_option maxRecDepth 100000 in
set_option maxHeartbeats 4000000 in
theorem sym_b {W w:World} {A A0:aB} {D:Ac→Ac→Prop} {c:Ac→Ac→Int} {g N:Nat} {f:Nat→Ac} {tl:List Value} (hT:Total c) (hC:Az W A0 D c) (hD:DF D N f) (hN:N≤65536) (cp:Nat) (a m b:Nat) (h1:b=m+1) (h2:a<m) (h2':m≠a+1) (h3:b≤N)
 (hs:eU c a m f) (h:Sat W w (sep (iC g N f tl) (sep A0 A))):
 Calls Tryz.prog 195 #[.slice (some ⟨g,0,none⟩) N cp,.int .i64 a,.int .i64 m,.int .i64 b,.func (.func 21) #[] #[]] w fun e w'=>e=.returned (.tuple #[])∧∃f',Sw a b f f'∧eU c a b f'∧Sat W w' (sep (iC g N f' tl) (sep A0 A)):=by
 have HM:=ah h1;have HC:=ah hC;have HT:=ah hT;have HD:=ah hD;have HS:=ah hs;have H:=ah h;have hq0:((m:Int)-(a:Int)==1)=false:=by simp;omega
 have hq:((b:Int)-(m:Int)==1)=true:=by simp;omega
 have hmb:m<b:=by omega
 clear hC hT hD hs h h1 h2';go_enter Tryz.func195,Tryz.ntmps195;go_wp2;go_loopw [14,15] (fun iv jv wr=>∃(i j:Nat),iv=.int .i64 i∧jv=.int .i64 j∧Bs c a m i j f (f m)∧Sat W wr (sep (iC g N f tl) (sep A0 A))) (fun iv jv _=>(intOf jv).toNat-(intOf iv).toNat)
 case atStart=>exact⟨a,m,rfl,rfl,.start (by omega) f _,H.out⟩
 case round=>
  obtain⟨i,j,rfl,rfl,hB,hS⟩:=hrel;have b1:=hB.h1;have b2:=hB.h2;have b3:=hB.h3;have HB:=ah hB;clear hB;by_cases hlt:i<j
  ·have hltz:(i:Int)<(j:Int):=by omega
   obtain⟨x,hx⟩:=aC ((i+j) / 2);have ex:((i:Int)+(j:Int)) / 2=(x:Int):=by omega
   have x1:i≤x:=by omega
   have x2:x<j:=by omega
   have jx:(x:Int)<(N:Int):=by omega
   have ja:(m:Int)<(N:Int):=by omega
   have hd:=hS.drew;obtain⟨wd,hwd⟩:=aC (wr.drew);rw[←hwd] at hd;have l1:=iE hd x (by omega);have l2:=iE hd m (by omega);have hcc:=HC.out (f m) (f x) wd _ (HD.out m x (by omega) (by omega) (by omega)) hd.p1;obtain⟨cv,hcv⟩:=aC (c (f m) (f x));rw[←hcv] at hcc;have Dk:=ah hcv;have Cc:=ah hcc;have jY:=ah hwd;clear hd hwd hS hcc hcv hx;go_upto_region 17 with fail;clear ex;refine aG rfl (fun _=>True) [(0,.p),(1,.p),(2,.p),(3,.p),(4,.t),(5,.p),(6,.p),(7,.p),(8,.t),(9,.e false),(10,.p),(11,.p)] (by kernel_rfl) ?_;have hS0:True:=trivial;rw[←jY.out];refine bG ?_;clear l1 l2
   (refine jJ rfl rfl (fun K hK=>?_);go_simp)
   refine Cc.out.mono ?_;rintro e w3 ⟨rfl,h3⟩;refine dY ?_;clear hK K;clear Cc jY;have H3:=ah h3.p1;clear h3;have hfl:=HT.out.flip (f x) (f m);rw[←Dk.out] at hfl;have KT:=ah hfl;clear hfl;by_cases hlv:cv<0
   ·refine bG ?_
    refine dJ ?_;go_wp2;go_roundw;case rel=>exact⟨i,x,rfl,rfl,HB.out.left HT.out HS.out x1 x2 (by have:=KT.out;omega),H3.out⟩
    case measure=>simp[intOf];omega
   ·refine bG ?_
    refine dJ ?_;go_wp2;go_roundw;case rel=>exact⟨x+1,j,by go_num,rfl,HB.out.right HT.out HS.out x1 x2 (by have:=KT.out;omega),H3.out⟩
    case measure=>simp[intOf];omega
  ·obtain rfl:i=j:=by omega
   have HS2:=ah hS;clear hS H;go_wp2;go_loopw [17] (fun kv wr=>∃(k:Nat) (f':Nat→Ac),kv=.int .i64 k∧i≤k∧k≤m∧Cj f k m b f'∧Sw a b f f'∧Sat W wr (sep (iC g N f' tl) (sep A0 A))) (fun kv _=>(intOf kv).toNat)
   case atStart=>exact⟨m,f,rfl,by omega,by omega,by rw[HM.out];exact .down0 f m,.refl,HS2.out⟩
   case round=>
    obtain⟨k,f1,rfl,hk1,hk2,hR,hW,hS⟩:=hrel;have HR:=ah hR;have HW:=ah hW;clear hR hW;by_cases hk3:i<k
    ·have abu:(i:Int)<(k:Int):=by omega
     obtain⟨k',hk'⟩:=aC (k-1);have ew:IntKind.i64.wrap ((k:Int)-1)=(k':Int):=by rw[IntWalk.i64_in _ (by omega)];omega
     have ew2:(k:Int)-1=(k':Int):=by omega
     have jk:(k:Int)<(N:Int):=by omega
     have jk2:(k':Int)<(N:Int):=by omega
     have hd:=hS.drew;obtain⟨wd,hwd⟩:=aC (wr.drew);rw[←hwd] at hd;have l1:=iE hd k' (by omega);have l2:=iE hd k (by omega);obtain⟨w4,w5,s1,s2,h5⟩:=zI hd k k' (by omega) (by omega);have jY:=ah hwd;have H5:=ah h5;have HK:=ah hk';clear hd hwd h5 hS hk';go_wp2_with fail;clear ew2;refine aG rfl (fun _=>True) [(0,.p),(1,.p),(2,.p),(3,.p),(4,.p),(5,.p),(6,.p),(7,.p),(8,.p),(9,.t),(10,.p),(11,.p),(12,.p),(13,.t),(14,.p),(15,.e false),(16,.p),(17,.e false)] (by kernel_rfl) ?_;have hS0:True:=trivial;rw[←jY.out];refine bG ?_
     (refine jJ rfl rfl (fun K hK=>?_);go_simp)
     (refine hK _ _ (fun h=>by cases h) ?_;clear hK K;(try simp only[Act.put]))
     refine bG ?_
     (refine jJ rfl rfl (fun K hK=>?_);go_simp)
     (refine hK _ _ (fun h=>by cases h) ?_;clear hK K;(try simp only[Act.put]))
     refine dJ ?_;have ew2:(k:Int)-1=(k':Int):=by have:=HK.out;omega
     clear l1 l2 s1 s2 ew;go_wp2;go_roundw;case rel=>
      refine⟨k',_,rfl,by have:=HK.out;omega,by have:=HK.out;omega,?_,.step _ _ _ HW.out (by omega) (by omega) (by have:=HK.out;omega) (by have:=HK.out;omega),H5.out⟩;have h4:=HR.out;rw[HM.out] at h4 ⊢;rw[HK.out];exact h4.down (by omega) (by omega)
     case measure=>have:=HK.out;simp[intOf];omega
    ·have hik:i=k:=by omega
     have abu:¬(i:Int)<(k:Int):=by omega
     have HIK:=ah hik;clear hik hk3;go_wp2
     (try simp only[Exit.inBlock,Exit.then])
     refine bodyPost_ret (results_none rfl _ _ _) rfl ?_;rw[←HIK.out] at HR;refine⟨rfl,f1,HW.out,?_,hS⟩;have h4:=HR.out;rw[HM.out] at h4 ⊢;exact PD HT.out HS.out (by omega) (by omega) (fun q q1 q2=>by have h5:=HB.out.lo q q1 q2;have:=HT.out.flip (f q) (f m);omega) (fun q q1 q2=>by have h5:=HB.out.up q q1 q2;have:=HT.out.flip (f q) (f m);omega) h4
end
end Go.Proofs.YthfmaclnccdcbaaGreatDoor
