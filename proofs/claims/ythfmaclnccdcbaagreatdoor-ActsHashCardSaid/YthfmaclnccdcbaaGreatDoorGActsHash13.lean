/- Part of a proof. -/
import Derived.Test.YthfmaclnccdcbaaGreatDoorGActsHash8
import Derived.RangeFuncSeq
import Derived.RangeFuncRecord
import Derived.RangeFuncIn
namespace PA
open Go
theorem Xo {n:Int} (h:n.natAbs≤1099511627776):okR ⟨n,1⟩=true:=tK n 1 (by omega) (by omega) h (by simp)
theorem D9 {n:Int} (h1:-8≤n) (h2:n≤8):eU ⟨n,1⟩=true:=by
 unfold eU;rw[Xo (by omega),decide_eq_true (by show n≤1073741824;omega),decide_eq_true (by show -1073741824≤n;omega)];rfl
theorem Ua {x:Iv} (h:Bj x):gX x=true:=by
 obtain⟨h1,h2,h3,h4,h5⟩:=h;obtain⟨ln,ld,hn,hd,lo,ho,li,hi⟩:=x;simp only at h1 h2 h3 h4 h5;subst h3 h4;have e1:∀hn hd lo ho li hi,eU (Iv.lw ⟨ln,1,hn,hd,lo,ho,li,hi⟩)=true:=fun _ _ _ _ _ _=>D9 (n:=ln) (by omega) (by omega)
 rcases h5 with ⟨rfl,rfl,rfl,rfl⟩|⟨rfl,rfl,h6,h7⟩
 ·unfold gX;rw[e1];simp[zR,Iv.up]
 ·have e2:eU (Iv.up ⟨ln,1,hn,1,lo,ho,false,false⟩)=true:=D9 (n:=hn) (by omega) (by omega)
  have e3:Yx (Iv.lw ⟨ln,1,hn,1,lo,ho,false,false⟩) (Iv.up ⟨ln,1,hn,1,lo,ho,false,false⟩)=false:=by
   unfold Yx Iv.lw Iv.up;rw[show (ln==hn)=false by simpa using (by omega:¬ln=hn)];rfl
  have e4:Ov (Iv.lw ⟨ln,1,hn,1,lo,ho,false,false⟩) (Iv.up ⟨ln,1,hn,1,lo,ho,false,false⟩)=true:=by
   unfold Ov Iv.lw Iv.up;exact decide_eq_true (show ln*1<hn*1 by omega)
  unfold gX;rw[e1,e2,e3,e4];simp
theorem XA {x:Iv} (h:gX x=true):qH [x]=true:=by
 have e:AA [x] 1=true:=by rw[qy,zf];simp[rX,h]
 unfold qH Jj;rw[show ([x]:List Iv).length=1 from rfl,e];simp
theorem fG {f:Fm} (h:oK f):Fm.whole qH f=true∧f.size=1∧f.deep=1∧f.dL=[f]∧f.parts=[f]:=by
 obtain⟨n,h1,h2,rfl⟩:=h;refine⟨?_,by simp[Fm.size,Fm.sizes],by simp[Fm.deep,Fm.dG],by simp[Fm.dL],by simp[Fm.parts,Fm.op]⟩;simp[Fm.whole,Fm.formed,Fm.dJ];omega
theorem lu {f:Fm} (h:zy f):Fm.whole qH f=true∧f.size=1∧f.deep=1∧f.dL=[f]∧f.parts=[f]:=by
 obtain⟨n,x,h1,h2,hx,rfl⟩:=h;refine⟨?_,by simp[Fm.size,Fm.sizes],by simp[Fm.deep,Fm.dG],by simp[Fm.dL],by simp[Fm.parts,Fm.op]⟩;have:=XA (Ua hx);simp[Fm.whole,Fm.formed,Fm.dJ,this];omega
structure FmG (f:Fm):Prop where
 wh:Fm.whole qH f=true
 sz:f.size≤4
 dp:f.deep≤3
theorem Cj {f:Fm} (h:bY f):FmG f:=by
 cases h with
 | c h=>obtain⟨a,b,c,-⟩:=fG h;exact⟨a,by omega,by omega⟩
 | v h=>obtain⟨a,b,c,-⟩:=lu h;exact⟨a,by omega,by omega⟩
 | Fq h g=>obtain⟨a,b,c,-⟩:=fG h;obtain⟨a',b',c',-⟩:=lu g;exact⟨by simp[Fm.whole,Fm.formed,Fm.dJ,a,a'],by simp[Fm.size,Fm.sizes,b,b'],by simp[Fm.deep,Fm.dG,c,c']⟩
 | Ru h g=>obtain⟨a,b,c,-⟩:=fG h;obtain⟨a',b',c',-⟩:=lu g;exact⟨by simp[Fm.whole,Fm.formed,Fm.dJ,a,a'],by simp[Fm.size,Fm.sizes,b,b'],by simp[Fm.deep,Fm.dG,c,c']⟩
 | UM h g=>obtain⟨a,b,c,-⟩:=fG h;obtain⟨a',b',c',-⟩:=fG g;exact⟨by simp[Fm.whole,Fm.formed,Fm.dJ,a,a'],by simp[Fm.size,Fm.sizes,b,b'],by simp[Fm.deep,Fm.dG,c,c']⟩
 | Tj h g=>obtain⟨a,b,c,-⟩:=fG h;obtain⟨a',b',c',-⟩:=fG g;exact⟨by simp[Fm.whole,Fm.formed,Fm.dJ,a,a'],by simp[Fm.size,Fm.sizes,b,b'],by simp[Fm.deep,Fm.dG,c,c']⟩
 | part h=>obtain⟨a,b,c,-⟩:=fG h;exact⟨by simp[Fm.whole,Fm.formed,Fm.dJ,a],by simp[Fm.size,Fm.sizes,b],by simp[Fm.deep,Fm.dG,c]⟩
 | Tm h g=>obtain⟨a,b,c,-⟩:=fG h;obtain⟨a',b',c',-⟩:=lu g;exact⟨by simp[Fm.whole,Fm.formed,Fm.dJ,a,a'],by simp[Fm.size,Fm.sizes,b,b'],by simp[Fm.deep,Fm.dG,c,c']⟩
theorem TS {f:Fm} (h1:Fm.whole qH f=true) (h2:f.size≤96) (h3:f.deep≤8):jY f=0:=by
 unfold jY Fm.valid;rw[if_neg (by omega),if_pos h1]
theorem Hu {f:Fm} (h:bY f):jY f=0:=by
 have:=Cj h;exact TS this.wh (by have:=this.sz;omega) (by have:=this.dp;omega)
structure nG (n:Nat) (f:Fm):Prop where
 wh:Fm.dJ qH f.parts=true
 sz:Fm.sizes f.parts≤n
 dp:Fm.dG f.parts≤3
theorem nG.up {m n:Nat} {f:Fm} (h:nG m f) (hmn:m≤n):nG n f:=⟨h.wh,Nat.le_trans h.sz hmn,h.dp⟩
theorem Ej (sp:List Iv→Bool):∀a b:List Fm,Fm.dJ sp (a++b)=(Fm.dJ sp a&&Fm.dJ sp b)
 | [],b=>by simp[Fm.dJ]
 | f::a,b=>by rw[List.cons_append,Fm.dJ,Fm.dJ,Ej sp a b,Bool.and_assoc]
theorem Gq:∀a b:List Fm,Fm.sizes (a++b)=Fm.sizes a+Fm.sizes b
 | [],b=>by simp[Fm.sizes]
 | f::a,b=>by rw[List.cons_append,Fm.sizes,Fm.sizes,Gq a b];omega
theorem FD:∀a b:List Fm,Fm.dG (a++b)=max (Fm.dG a) (Fm.dG b)
 | [],b=>by simp[Fm.dG]
 | f::a,b=>by rw[List.cons_append,Fm.dG,Fm.dG,FD a b];omega
theorem qW (a b:Fm):(eP a b).parts=a.parts++b.parts:=by simp[eP,Fm.parts,Fm.op,Fm.kids]
theorem Lh {m n:Nat} {a b:Fm} (ha:nG m a) (hb:nG n b):nG (m+n) (eP a b):=by
 constructor
 ·rw[qW,Ej,ha.wh,hb.wh];rfl
 ·rw[qW,Gq];have:=ha.sz;have:=hb.sz;omega
 ·rw[qW,FD];have:=ha.dp;have:=hb.dp;omega
theorem Xu {m n:Nat} {a b:Fm} (ha:nG m a) (hb:nG n b) (h:m+n≤90):jY (eP a b)=0:=by
 have hp:=Lh ha hb;have e:=qW a b;refine TS ?_ ?_ ?_
 ·have:=hp.wh;rw[e] at this;simp[eP,Fm.whole,Fm.formed,this]
 ·have:=hp.sz;rw[e] at this;rw[eP,Fm.size];omega
 ·have:=hp.dp;rw[e] at this;rw[eP,Fm.deep];omega
theorem pO {f:Fm} (h:Fm.whole qH f=true∧f.size=1∧f.deep=1∧f.dL=[f]∧f.parts=[f]):nG 4 f:=by
 obtain⟨a,b,c,-,e⟩:=h;constructor<;>rw[e]<;>simp[Fm.dJ,Fm.sizes,Fm.dG,a,b,c]
theorem iq {f:Fm} (h:bY f):(∀t∈f.dL,nG 4 t)∧f.dL.length≤2:=by
 cases h with
 | c h=>
  have k:=fG h;have al:=pO k;rw[k.2.2.2.1];exact⟨by intro t ht;rw[List.mem_singleton.1 ht];exact al,by simp⟩
 | v h=>
  have k:=lu h;have al:=pO k;rw[k.2.2.2.1];exact⟨by intro t ht;rw[List.mem_singleton.1 ht];exact al,by simp⟩
 | Fq h g=>
  obtain⟨a,b,c,-⟩:=fG h;obtain⟨a',b',c',-⟩:=lu g;rw[Fm.dL,if_neg (by decide)];refine⟨fun t ht=>?_,by simp⟩;rw[List.mem_singleton.1 ht];constructor<;>simp[Fm.parts,Fm.op,Fm.kids,Fm.dJ,Fm.sizes,Fm.dG,a,b,c,a',b',c']
 | Ru h g=>
  have k:=fG h;have k':=lu g;have al:=pO k;have al':=pO k';rw[Fm.dL,if_pos rfl,Fm.aW,Fm.aW,Fm.aW,k.2.2.2.1,k'.2.2.2.1];refine⟨fun t ht=>?_,by simp⟩;simp at ht;rcases ht with rfl|rfl
  ·exact al
  ·exact al'
 | UM h g=>
  have k:=fG h;have k':=fG g;have al:=pO k;have al':=pO k';rw[Fm.dL,if_pos rfl,Fm.aW,Fm.aW,Fm.aW,k.2.2.2.1,k'.2.2.2.1];refine⟨fun t ht=>?_,by simp⟩;simp at ht;rcases ht with rfl|rfl
  ·exact al
  ·exact al'
 | Tj h g=>
  obtain⟨a,b,c,-⟩:=fG h;obtain⟨a',b',c',-⟩:=fG g;rw[Fm.dL,if_neg (by decide)];refine⟨fun t ht=>?_,by simp⟩;rw[List.mem_singleton.1 ht];constructor<;>simp[Fm.parts,Fm.op,Fm.kids,Fm.whole,Fm.formed,Fm.dJ,Fm.size,Fm.sizes,Fm.deep,Fm.dG,a,b,c,a',b',c']
 | part h=>
  obtain⟨a,b,c,-⟩:=fG h;rw[Fm.dL,if_neg (by decide)];refine⟨fun t ht=>?_,by simp⟩;rw[List.mem_singleton.1 ht];constructor<;>simp[Fm.parts,Fm.op,Fm.whole,Fm.formed,Fm.dJ,Fm.size,Fm.sizes,Fm.deep,Fm.dG,a,b,c]
 | Tm h g=>
  obtain⟨a,b,c,-⟩:=fG h;obtain⟨a',b',c',-⟩:=lu g;rw[Fm.dL,if_neg (by decide)];refine⟨fun t ht=>?_,by simp⟩;rw[List.mem_singleton.1 ht];constructor<;>simp[Fm.parts,Fm.op,Fm.kids,Fm.whole,Fm.formed,Fm.dJ,Fm.size,Fm.sizes,Fm.deep,Fm.dG,a,b,c,a',b',c']
theorem uw {m n:Nat} {t:List Fm} (hn:∀b∈t,nG n b) (hmn:m+n≤90):∀{x:List Fm},(∀a∈x,nG m a)→∃y,dY x t=some y∧y.length=x.length*t.length∧∀c∈y,nG (m+n) c
 | [],_=>⟨[],rfl,by simp,by simp⟩
 | a::x,h=>by
  obtain⟨y,h1,h2,h3⟩:=uw hn hmn (x:=x) (fun c hc=>h c (List.mem_cons_of_mem _ hc));have hall:(t.all fun b=>decide (jY (eP a b)=0))=true:=List.all_eq_true.2 fun b hb=>decide_eq_true (Xu (h a (List.mem_cons_self ..)) (hn b hb) hmn)
  refine⟨t.map (eP a)++y,?_,?_,?_⟩
  ·unfold dY;rw[if_pos hall,h1];rfl
  ·rw[dD,List.length_map,h2,List.length_cons,Nat.add_mul];omega
  ·intro c hc
   rcases List.mem_append.1 hc with hc|hc
   ·obtain⟨b,hb,rfl⟩:=List.mem_map.1 hc
    exact Lh (h a (List.mem_cons_self ..)) (hn b hb)
   ·exact h3 c hc
theorem BA {l:List Cl} {k:Nat} {c:Cl} (hc:l[k]?=some c) (hr:c.refs=[]) (hF:bY c.body):∃y,fK l k=some y∧y.length≤2∧∀f∈y,nG 4 f:=by
 refine⟨c.body.dL,?_,(iq hF).2,(iq hF).1⟩;unfold fK;rw[hc];simp only;unfold rU;rw[if_pos hr,if_pos (by have:=(iq hF).2;omega)]
theorem BD {l:List Cl} {k j m n:Nat} {c:Cl} {y:List Fm} (hc:l[k]?=some c) (hr:c.refs=[(j:Int)]) (hj:j<k) (hF:bY c.body) (hy:fK l j=some y) (hyl:y.length≤n) (hya:∀f∈y,nG m f) (hm:m+4≤90) (hn:n*2≤64):
 ∃z,fK l k=some z∧z.length≤n*2∧∀f∈z,nG (m+4) f:=by
 obtain⟨z,h1,h2,h3⟩:=uw (iq hF).1 hm hya;have hl:y.length*c.body.dL.length≤n*2:=Nat.mul_le_mul hyl (iq hF).2;refine⟨z,?_,by omega,h3⟩;unfold fK;rw[hc];simp only;unfold rU;rw[if_neg (by rw[hr];simp),hr];unfold dW;simp only[Int.toNat_natCast,if_pos hj,hy];rw[if_neg (by simp;omega),h1];simp[dW]
theorem Td {l:List Cl} {k:Nat} {c:Cl} {y0 y1:List Fm} (hc:l[k]?=some c) (hr:c.refs=[0,1]) (hk:2≤k) (hF:bY c.body) (hy0:fK l 0=some y0) (hl0:y0.length≤4) (ha0:∀f∈y0,nG 8 f) (hy1:fK l 1=some y1) (hl1:y1.length≤4) (ha1:∀f∈y1,nG 8 f):
 ∃z,fK l k=some z∧z.length≤16∧∀f∈z,nG 12 f:=by
 obtain⟨z0,h1,h2,h3⟩:=uw (m:=8) (n:=4) (iq hF).1 (by omega) ha0;obtain⟨z1,g1,g2,g3⟩:=uw (m:=8) (n:=4) (iq hF).1 (by omega) ha1;have e0:y0.length*c.body.dL.length≤4*2:=Nat.mul_le_mul hl0 (iq hF).2;have e1:y1.length*c.body.dL.length≤4*2:=Nat.mul_le_mul hl1 (iq hF).2;refine⟨z0++z1,?_,by rw[dD];omega,fun f hf=>?_⟩
 ·unfold fK;rw[hc];simp only;unfold rU;rw[if_neg (by rw[hr];simp),hr]
  unfold dW;simp only[show (0:Int).toNat=0 from rfl,if_pos (show 0<k by omega),hy0];rw[if_neg (by simp;omega),h1];simp only[List.nil_append];unfold dW;simp only[show (1:Int).toNat=1 from rfl,if_pos (show 1<k by omega),hy1];rw[if_neg (by omega),g1];simp[dW]
 ·rcases List.mem_append.1 hf with hf|hf
  ·exact h3 f hf
  ·exact g3 f hf
theorem NR {l:List Cl} (h:jZ l):∀k,k<l.length→∃y,fK l k=some y∧y.length≤16∧∀f∈y,nG 12 f:=by
 obtain⟨h1,h2,h3⟩:=h;have g0:∃y,fK l 0=some y∧y.length≤2∧∀f∈y,nG 4 f:=by
  obtain⟨hF,hr⟩:=h3 0 h1;refine BA (List.getElem?_eq_getElem h1) ?_ hF;rcases hr with hr|⟨j,hj,-⟩|⟨hj,-⟩
  ·exact hr
  ·omega
  ·omega
 obtain⟨y0,a1,a2,a3⟩:=g0;have g1:1<l.length→∃y,fK l 1=some y∧y.length≤4∧∀f∈y,nG 8 f:=by
  intro hk;obtain⟨hF,hr⟩:=h3 1 hk;rcases hr with hr|⟨j,hj,hr⟩|⟨hj,-⟩
  ·obtain⟨y,b1,b2,b3⟩:=BA (List.getElem?_eq_getElem hk) hr hF
   exact⟨y,b1,by omega,fun f hf=>(b3 f hf).up (by omega)⟩
  ·obtain rfl:j=0:=by omega
   exact BD (List.getElem?_eq_getElem hk) hr (by omega) hF a1 a2 a3 (by omega) (by omega)
  ·omega
 have g2:2<l.length→∃y,fK l 2=some y∧y.length≤16∧∀f∈y,nG 12 f:=by
  intro hk;obtain⟨y1,c1,c2,c3⟩:=g1 (by omega);obtain⟨hF,hr⟩:=h3 2 hk;rcases hr with hr|⟨j,hj,hr⟩|⟨-,hr⟩
  ·obtain⟨y,b1,b2,b3⟩:=BA (List.getElem?_eq_getElem hk) hr hF
   exact⟨y,b1,by omega,fun f hf=>(b3 f hf).up (by omega)⟩
  ·rcases (by omega:j=0∨j=1) with rfl|rfl
   ·obtain⟨z,b1,b2,b3⟩:=BD (List.getElem?_eq_getElem hk) hr (by omega) hF a1 a2 a3 (by omega) (by omega)
    exact⟨z,b1,by omega,fun f hf=>(b3 f hf).up (by omega)⟩
   ·obtain⟨z,b1,b2,b3⟩:=BD (List.getElem?_eq_getElem hk) hr (by omega) hF c1 c2 c3 (by omega) (by omega)
    exact⟨z,b1,by omega,fun f hf=>(b3 f hf).up (by omega)⟩
  ·exact Td (List.getElem?_eq_getElem hk) hr (by omega) hF a1 (by omega) (fun f hf=>(a3 f hf).up (by omega)) c1 c2 c3
 intro k hk;rcases (by omega:k=0∨k=1∨k=2) with rfl|rfl|rfl
 ·exact⟨y0,a1,by omega,fun f hf=>(a3 f hf).up (by omega)⟩
 ·obtain⟨y,b1,b2,b3⟩:=g1 hk
  exact⟨y,b1,by omega,fun f hf=>(b3 f hf).up (by omega)⟩
 ·exact g2 hk
theorem zQ {l:List Cl} (h:jZ l):∀n,n≤l.length→∃s,jI l n=some s∧s≤16*n
 | 0,_=>⟨0,rfl,by omega⟩
 | n+1,hn=>by
  obtain⟨s,h1,h2⟩:=zQ h n (by omega);obtain⟨y,g1,g2,-⟩:=NR h n (by omega);exact⟨s+y.length,by rw[jI,h1];simp only;rw[g1],by omega⟩
theorem Py:∀(l:List Cl) (i:Nat),(∀(k:Nat) (hk:k<l.length),l[k].refs.length≤8∧jT l[k].refs (i+k)=true∧jY l[k].body=0)→qN i l=0
 | [],_,_=>rfl
 | c::l,i,h=>by
  obtain⟨h1,h2,h3⟩:=h 0 (by simp);simp only[List.getElem_cons_zero,Nat.add_zero] at h1 h2 h3;unfold qN;rw[if_neg (by omega),if_neg (by rw[h2];decide),if_neg (by rw[h3];decide)];refine Py l (i+1) fun k hk=>?_
  have:=h (k+1) (by simp;omega);simp only[List.getElem_cons_succ] at this;rw[show i+1+k=i+(k+1) by omega];exact this
theorem oU {i:Nat} {r:List Int} (h:kZ i r):r.length≤2∧jT r i=true:=by
 rcases h with rfl|⟨j,hj,rfl⟩|⟨rfl,rfl⟩
 ·exact⟨by simp,rfl⟩
 ·refine⟨by simp,?_⟩
  unfold jT;rw[show ([(j:Int)]:List Int).length=1 from rfl,oq,wK];simp[o7];omega
 ·exact⟨by simp,by decide⟩
theorem Ce {l:List Cl} (h:jZ l):pR l=0:=by
 unfold pR;rw[if_neg (by have:=h.2.1;omega)];refine Py l 0 fun k hk=>?_
 obtain⟨hF,hr⟩:=h.2.2 k hk;rw[Nat.zero_add];exact⟨by have:=(oU hr).1;omega,(oU hr).2,Hu hF⟩
theorem WY {l:List Fm} (h:∀f∈l,jY f=0):kP l=0:=by
 induction l with
 | nil=>rfl
 | cons f l ih=>
  unfold kP;rw[if_neg (by rw[h f (List.mem_cons_self ..)];decide)];exact ih fun g hg=>h g (List.mem_cons_of_mem _ hg)
theorem U7 {l:List Fm} (h:∀f∈l,f.dL.length≤2):(Fm.aW l).length≤2*l.length:=by
 induction l with
 | nil=>simp[Fm.aW]
 | cons f l ih=>
  rw[Fm.aW,dD,List.length_cons];have:=h f (List.mem_cons_self ..);have:=ih fun g hg=>h g (List.mem_cons_of_mem _ hg)
  omega
theorem W9 {td:List Fm} {tc:List Cl} (h:zo td tc):Es td tc=0:=by
 obtain⟨h1,h2,h3,h4⟩:=h;obtain⟨s,g1,g2⟩:=zQ h4 tc.length (by omega);have ht:=U7 (l:=td) fun f hf=>(iq (h3 f hf)).2
 have hc:=h4.2.1;unfold Es;rw[if_neg (by omega),if_neg (by rw[WY fun f hf=>Hu (h3 f hf)];decide),if_neg (by rw[Ce h4];decide),g1];simp only;rw[if_neg (by omega)]
theorem WT {N:Nat} {l:List Ea} (hN:N≤800) (h:Gz N l):lM (5*(N:Int)) l l.length=true:=by
 obtain⟨h1,h2,h3⟩:=h;unfold lM;refine List.all_eq_true.2 fun k hk=>?_
 have hk:=List.mem_range.1 hk;obtain⟨⟨j,hj,hf⟩,hd1,hd2⟩:=h2 l[k] (List.getElem_mem hk);unfold Hl;rw[List.getElem?_eq_getElem hk];simp only;have hany:((l.take k).any fun g=>decide (g.file=l[k].file))=false:=by
  rw[List.any_eq_false];intro g hg;obtain⟨i,hi,rfl⟩:=List.mem_iff_getElem.1 hg;rw[List.length_take] at hi;rw[List.getElem_take];have:=List.pairwise_iff_getElem.1 h3 i k (by omega) hk (by omega);simpa using this
 rw[hany];unfold aN;simp;omega
theorem JY {N:Nat} {x:Pa} (hN:N≤100) (h:Jm N x) (hn:0≤x.n∧x.n≤1000000):bW x=true:=by
 obtain⟨y,d,n,hy,hd1,hd2,rfl⟩:=h;have hn':0≤n∧n≤1000000:=hn;rcases hy with ⟨o,p,q,td,tc,ea,rfl,ho,hp,hq,hT,hE⟩|hy
 ·have e1:=W9 hT
  have e2:=WT (by omega) hE;have e3:=hE.1;have Xc:¬q=5*(N:Int)∧-1≤q∧q≤4095:=by
   rcases hq with rfl|⟨j,hj,rfl⟩
   ·omega
   ·omega
  simp[bW,aY,aN,iD,ku,bI,aP,oQ,Pa.zero,Fm.zero,Fm.op,Fm.num,Fm.ins,Fm.kids,e1,e2];omega
 ·have aa3:True:=trivial
  cases hy with
  | plain hk hf=>
   obtain⟨j,hj,rfl⟩:=hf;rcases hk with rfl|rfl|rfl|rfl<;>(simp[bW,aY,aN,iD,ku,bI,aP,Pa.zero,Fm.zero,Fm.op,Fm.num,Fm.ins,Fm.kids];omega)
  | list hk hf hc=>
   obtain⟨j,hj,rfl⟩:=hf;have e1:=Ce hc;have e2:=hc.1;rcases hk with rfl|rfl<;>(simp[bW,aY,aN,iD,ku,bI,aP,gV,Pa.zero,Fm.zero,Fm.op,Fm.num,Fm.ins,Fm.kids,e1];omega)
  | pay hf hp hq hu hm1 hm2=>
   obtain⟨j,hj,rfl⟩:=hf;simp[bW,aY,aN,iD,ku,bI,aP,Pa.zero,Fm.zero,Fm.op,Fm.num,Fm.ins,Fm.kids];omega
  | small hp hu=>
   simp[bW,aY,aN,iD,ku,bI,aP,Pa.zero,Fm.zero,Fm.op,Fm.num,Fm.ins,Fm.kids];omega
  | order hk hf hu1 hu2 hu3=>
   obtain⟨j,hj,rfl⟩:=hf;rcases hk with rfl|rfl|rfl|rfl<;>(simp[bW,aY,aN,iD,ku,bI,aP,jf,Pa.zero,Fm.zero,Fm.op,Fm.num,Fm.ins,Fm.kids];omega)
  | extend hf hu1 hu2 hm1 hm2=>
   obtain⟨j,hj,rfl⟩:=hf;simp[bW,aY,aN,iD,ku,bI,aP,Pa.zero,Fm.zero,Fm.op,Fm.num,Fm.ins,Fm.kids];omega
  | Iq hk hf hp1 hp2=>
   obtain⟨j,hj,rfl⟩:=hf;rcases hk with rfl|rfl<;>(simp[bW,aY,aN,iD,ku,bI,aP,Pa.zero,Fm.zero,Fm.op,Fm.num,Fm.ins,Fm.kids];omega)
  | decide hf hq hu=>
   obtain⟨j,hj,rfl⟩:=hf;rcases hu with ⟨hu,rfl⟩|⟨rfl,hc⟩
   ·rcases hu with rfl|rfl<;>(simp[bW,aY,aN,iD,ku,bI,aP,Pa.zero,Fm.zero,Fm.op,Fm.num,Fm.ins,Fm.kids];omega)
   ·have e1:=Ce hc
    have e2:=hc.1;simp[bW,aY,aN,iD,ku,bI,aP,gV,Pa.zero,Fm.zero,Fm.op,Fm.num,Fm.ins,Fm.kids,e1];omega
  | @transfer f p q sn sd hf hp1 hp2 hq1 hq2 hs=>
   obtain⟨j,hj,rfl⟩:=hf;have e1:mD sn sd=true:=by
    rcases hs with ⟨rfl,rfl⟩|⟨rfl,rfl⟩|⟨rfl,rfl⟩|⟨rfl,rfl⟩
    ·unfold mD;rw[tK 1 1 (by omega) (by omega) (by decide) (by decide)];rfl
    ·unfold mD;rw[tK 1 2 (by omega) (by omega) (by decide) (by decide)];rfl
    ·unfold mD;rw[tK 1 3 (by omega) (by omega) (by decide) (by decide)];rfl
    ·unfold mD;rw[tK 2 3 (by omega) (by omega) (by decide) (by decide)];rfl
   simp[bW,aY,aN,iD,ku,bI,aP,nZ,Pa.zero,Fm.zero,Fm.op,Fm.num,Fm.ins,Fm.kids,e1];omega
  | Ig hf hp1 hp2 hq1 hq2 hu1 hu2=>
   obtain⟨j,hj,rfl⟩:=hf;simp[bW,aY,aN,iD,ku,bI,aP,nZ,jf,Pa.zero,Fm.zero,Fm.op,Fm.num,Fm.ins,Fm.kids];omega
  | art hg=>
   have e1:=Hu hg;simp[bW,aY,aN,iD,ku,bI,aP,Pa.zero,Fm.zero,Fm.op,Fm.num,Fm.ins,Fm.kids,e1];omega
  | closure ho hu1 hu2=>
   simp[bW,aY,aN,iD,ku,bI,aP,jf,Pa.zero,Fm.zero,Fm.op,Fm.num,Fm.ins,Fm.kids];omega
  | rule ho hu1 hu2 hm1 hm2=>
   simp[bW,aY,aN,iD,ku,bI,aP,Pa.zero,Fm.zero,Fm.op,Fm.num,Fm.ins,Fm.kids];omega
end PA
namespace PA
open Go Go.RowKit
theorem Sat.putObj {W w:World} {A:aA} {l:Nat} {o:Obj} (h:Sat W w (sep (blk l o) A)) (o':Obj):Sat W (w.putObj l o') (sep (blk l o') A):=
 h.change rfl rfl rfl (World.putObj_heap_same h.lt) fun _ hk _=>World.putObj_heap_other hk
section
variable {α:Type} {F:Fence} {P:Program}
end
end PA
namespace PA
open Go Go.RowKit
section
variable {α:Type} {F:Fence} {P:Program}
end
end PA
namespace PA
open Go Go.RowKit
section
variable {α:Type} {F:Fence} {P:Program}
def vU (F:Fence) (n:Nat) (P:Program) (W:World) (l:Nat) (encs:α→Array Value) (Fx:α→aA) (N:Nat) (R Z:List α→aA):Prop:=
 ∀(pre:List α) (x:α) (w:World) (B:aA),pre.length<N→Sat W w (sep (R pre) (sep (Fx x) B)) →
  YieldAt F n P l (encs x) w fun e w'=>(e=.returned (.bool true)∧Sat W w' (sep (R (pre++[x])) B))∨(e=.returned (.bool false)∧Sat W w' (sep (Z (pre++[x])) B))
def Bh (F:Fence) (n:Nat) (P:Program) (W:World) (gf:Nat) (lb:Array Value) (encs:α→Array Value) (Fx:α→aA) (N:Nat) (S Sp:List α→Prop) (Pre Post:aA):Prop:=
 ∀(l:Nat) (R Z:List α→aA) (w:World),vU F (n-1) P W l encs Fx N R Z→Sat W w (sep (R []) Pre) →
  CallsIn F n P gf (#[.func (.yield l) #[] #[]]++lb) w fun e w'=>(∃v,e=.returned v)∧((∃xs,S xs∧Sat W w' (sep (R xs) Post))∨∃xs,Sp xs∧Sat W w' (sep (Z xs) Post))
def S9 (W:World) (A:aA) (Z:Code→aA):Exit→Act→World→Prop
 | .normal,_,w=>Sat W w A
 | .ret,_,w=>Sat W w (Z .ret)
 | .exit id,_,w=>Sat W w (Z (.exit id))
 | _,_,_=>False
theorem I9 {n:Nat} {W:World} {g:Operand} {ps:Array Tmp} {assign body:Code} {Q:Exit→Act→World→Prop} {a:Act} {w:World}
 (hro:F.round=none) (h1:1≤n) {gf:Nat} {lb:Array Value} (hg:a.eval g=.func (.func gf) #[] lb) (hFg:F.fn gf) (eg:∀args w,(callFunc gf args).run P w=.ok (.enter gf args) w)
 {encs:α→Array Value} {Fx:α→aA} {N:Nat} {S Sp:List α→Prop} {Pre Post:aA} (hps:∀x,(encs x).size=ps.size)
 (hseq:Bh F (n-1) P W gf lb encs Fx N S Sp Pre Post)
 (C:List α→aA) (Zc:Code→List α→aA) (h0:Sat W w (sep (C []) Pre)) (Mid:List α→α→Act→aA→Prop)
 (hassign:∀(l:Nat) (pre:List α) (x:α) (w':World) (B:aA) (K:Act→World→Prop),pre.length<N→Sat W w' (sep (C pre) (sep (Fx x) B))→(∀a₁ w₁ E,Mid pre x a₁ E→Sat W w₁ (sep E B)→K a₁ w₁) →
  assign.wpIn (F.inRound l) (n-1-1) P (Exit.then K (fun _ _ _=>False)) { tmps:=(ps.zip (encs x)).foldl (fun t (p,v)=>t.setIfInBounds p v) a.tmps,defers:=[] } w')
 (hbody:∀(l:Nat) (pre:List α) (x:α) (a₁:Act) (E:aA) (w':World) (B:aA),pre.length<N→Mid pre x a₁ E→Sat W w' (sep E B) →
  body.wpIn (F.inRound l) (n-1-1) P (S9 W (sep (C (pre++[x])) B) (fun c=>sep (Zc c (pre++[x])) B)) a₁ w')
 (hdone:∀(D:Nat) (xs:List α) (w':World),S xs→Sat W w' (sep (blk D (.deferred (some []))) (sep (C xs) Post)) →
  Q .normal { a with defers:={ target:=.collected D,args:=#[] }::a.defers } w')
 (hstop:∀(D:Nat) (c:Code) (xs:List α) (w':World),Sp xs→Sat W w' (sep (blk D (.deferred (some []))) (sep (Zc c xs) Post)) →
  c.wpIn F n P Q { a with defers:={ target:=.collected D,args:=#[] }::a.defers } w'):
 (Code.rangeFunc g ps assign body).wpIn F n P Q a w:=by
 refine wpIn_rangeFunc fun fn hfn=>?_
 rw[hro];obtain⟨D,hD⟩:=ay (w.heap.size);obtain⟨mk,hmk⟩:∃mk:LoopState→Option Code→Loop,mk=fun st pe=>⟨st,pe,fn,a.tmps,ps,assign,body,D⟩:=⟨_,rfl⟩
 obtain⟨w1,hw1⟩:=ay ((w.alloc (.deferred (some []))).alloc (.loop (mk .ready none)));have hS1:Sat W w1 (sep (sep (C []) (sep (blk (D+1) (.loop (mk .ready none))) (blk D (.deferred (some []))))) Pre):=by
  have h:=(h0.alloc (.deferred (some []))).alloc (.loop (mk .ready none));rw[World.size_alloc,←hw1,←hD] at h;simpa only[aF,aC,aj] using h
 have henter:=run_enterLoop_outer (P:=P) (w:=w) fn a.tmps ps assign body;refine⟨D+1,[{ target:=.collected D,args:=#[] }],w1,{ target:=.fn (.func gf) lb,args:=#[.func (.yield (D+1)) #[] #[]] },w1,gf,#[.func (.yield (D+1)) #[] #[]]++lb,w1,?_,?_,?_,?_,fun _=>h1,?_⟩
 ·rw[hw1,hmk,hD];exact henter
 ·simp only[resolve,hg]
  simp[go_sem]
 ·intro f' hf';simp[Target.leads] at hf';subst hf';exact hFg
 ·simp[invoke,go_sem,eg]
 ·refine (hseq (D+1) (fun pre=>sep (C pre) (sep (blk (D+1) (.loop (mk .ready none))) (blk D (.deferred (some [])))))
   (fun pre=>ex fun c:Code=>sep (Zc c pre) (sep (blk (D+1) (.loop (mk .done (some c)))) (blk D (.deferred (some []))))) w1 ?_ hS1).mono ?_
  ·intro pre x w2 B hlen hS
   have hl:Sat W w2 (sep (blk (D+1) (.loop (mk .ready none))) (sep (C pre) (sep (Fx x) (sep B (blk D (.deferred (some []))))))):=bT hS;have hy:=run_yield (P:=P) (args:=encs x) hl.aO (by rw[hmk];exact hps x);rw[hmk] at hy;refine⟨fn,_,assign,body,hy,roundIn_of_wpIn hfn (hassign _ pre x w2 (sep (blk (D+1) (.loop (mk .ready none))) (sep B (blk D (.deferred (some []))))) _ hlen (bT hS) ?_)⟩;intro a₁ w₁ E hmid hE;have hl1:Sat W w₁ (sep (blk (D+1) (.loop (mk .ready none))) (sep E (sep B (blk D (.deferred (some [])))))):=bT hE;refine⟨_,run_beginRound hl1.aO (by rw[hmk]),?_⟩;have h3:=(hl1.putObj (.loop { mk .ready none with state:=.busy })).p1;have ebz:({ mk .ready none with state:=.busy }:Loop)=mk .busy none:=by rw[hmk]
   refine wpIn_mono (hbody _ pre x a₁ E _ (sep (blk (D+1) (.loop { mk .ready none with state:=.busy })) (sep B (blk D (.deferred (some []))))) hlen hmid (bT h3)) ?_;have stop:∀(c:Code) (w3:World),Sat W w3 (sep (Zc c (pre++[x])) (sep (blk (D+1) (.loop { mk .ready none with state:=.busy })) (sep B (blk D (.deferred (some [])))))) →
    ∃v w',(Instr.endRound (D+1) (some c)).run P w3=.ok v w'∧((Ending.returned v=.returned (.bool true)∧Sat W w' (sep (sep (C (pre++[x])) (sep (blk (D+1) (.loop (mk .ready none))) (blk D (.deferred (some []))))) B)) ∨
     (Ending.returned v=.returned (.bool false)∧Sat W w' (sep (ex fun c:Code=>sep (Zc c (pre++[x])) (sep (blk (D+1) (.loop (mk .done (some c)))) (blk D (.deferred (some []))))) B))):=by
    intro c w3 hp;have h4:Sat W w3 (sep (blk (D+1) (.loop { mk .ready none with state:=.busy })) (sep (Zc c (pre++[x])) (sep B (blk D (.deferred (some [])))))):=Sat.p1 hp;have hr:=run_endRound (P:=P) (some c) h4.aO;have h5:=h4.putObj (.loop (mk .done (some c)));refine⟨_,_,hr,.inr ⟨rfl,?_⟩⟩;rw[ebz];have e2:({ mk .busy none with state:=if (some c:Option Code).isNone then .ready else .done,pending:=some c }:Loop)=mk .done (some c):=by rw[hmk];rfl
    rw[e2,fP,Sat.ex];exact⟨c,bT h5⟩
   rintro e a3 w3 hp;cases e with
   | normal=>
    have h4:Sat W w3 (sep (blk (D+1) (.loop { mk .ready none with state:=.busy })) (sep (C (pre++[x])) (sep B (blk D (.deferred (some [])))))):=Sat.p1 hp;have hr:=run_endRound (P:=P) none h4.aO;have h5:=h4.putObj (.loop (mk .ready none));refine⟨_,_,hr,.inl ⟨rfl,?_⟩⟩;rw[ebz];have e2:({ mk .busy none with state:=if (none:Option Code).isNone then .ready else .done,pending:=none }:Loop)=mk .ready none:=by rw[hmk];rfl
    rw[e2];simpa only[aF,aC,aj] using h5
   | ret=>exact stop .ret w3 hp
   | exit id=>exact stop (.exit id) w3 hp
   | goto t=>exact hp.elim
   | panic ch=>exact hp.elim
   | outgrown=>exact hp.elim
  ·rintro e w2 ⟨⟨v,rfl⟩,⟨xs,hS,h2⟩|⟨xs,hS,h2⟩⟩
   ·have h3:Sat W w2 (sep (blk (D+1) (.loop (mk .ready none))) (sep (C xs) (sep Post (blk D (.deferred (some [])))))):=bT h2
    have e:(mk .ready none).pending=none:=by rw[hmk]
    have hr:=run_endLoop (P:=P) h3.aO (by rw[hmk];simp);have h4:=(h3.putObj (.loop { mk .ready none with state:=.exhausted })).drop;rw[e] at hr;refine⟨none,_,hr,hdone D xs _ hS ?_⟩;dsimp only at h4;rw[e] at h4;simpa only[aF,aC,aj] using h4
   ·rw[fP,Sat.ex] at h2
    obtain⟨c,h2⟩:=h2;have h3:Sat W w2 (sep (blk (D+1) (.loop (mk .done (some c)))) (sep (Zc c xs) (sep Post (blk D (.deferred (some [])))))):=bT h2;have e:(mk .done (some c)).pending=some c:=by rw[hmk]
    have hr:=run_endLoop (P:=P) h3.aO (by rw[hmk];simp);have h4:=(h3.putObj (.loop { mk .done (some c) with state:=.exhausted })).drop;rw[e] at hr;refine⟨some c,_,hr,hstop D c xs _ hS ?_⟩;dsimp only at h4;rw[e] at h4;simpa only[aF,aC,aj] using h4
theorem mF {n:Nat} {W:World} {g:Operand} {ps:Array Tmp} {assign body:Code} {Q:Exit→Act→World→Prop} {a:Act} {w:World}
 (hro:F.round=none) (h1:1≤n) {gf:Nat} {lb:Array Value} (hg:a.eval g=.func (.func gf) #[] lb) (hFg:F.fn gf) (eg:∀args w,(callFunc gf args).run P w=.ok (.enter gf args) w)
 {encs:α→Array Value} {Fx:α→aA} {N:Nat} {S Sp:List α→Prop} {Pre Post:aA} (hps:∀x,(encs x).size=ps.size)
 (hseq:Bh F (n-1) P W gf lb encs Fx N S Sp Pre Post)
 (C:List α→aA) (Zc:Code→List α→aA) (h0:Sat W w (sep (C []) Pre)) (upd:α→Nat→Array Value→Array Value) (Cm:List α→α→Nat→aA)
 (hassign:∀(l:Nat) (pre:List α) (x:α) (w':World) (B:aA) (K:Act→World→Prop),pre.length<N→Sat W w' (sep (C pre) (sep (Fx x) B))→(∀g w₁,Sat W w₁ (sep (Cm pre x g) B)→K { tmps:=upd x g a.tmps,defers:=[] } w₁) →
  assign.wpIn (F.inRound l) (n-1-1) P (Exit.then K (fun _ _ _=>False)) { tmps:=(ps.zip (encs x)).foldl (fun t (p,v)=>t.setIfInBounds p v) a.tmps,defers:=[] } w')
 (hbody:∀(l:Nat) (pre:List α) (x:α) (g:Nat) (w':World) (B:aA),pre.length<N→Sat W w' (sep (Cm pre x g) B) →
  body.wpIn (F.inRound l) (n-1-1) P (S9 W (sep (C (pre++[x])) B) (fun c=>sep (Zc c (pre++[x])) B)) { tmps:=upd x g a.tmps,defers:=[] } w')
 (hdone:∀(D:Nat) (xs:List α) (w':World),S xs→Sat W w' (sep (blk D (.deferred (some []))) (sep (C xs) Post)) →
  Q .normal { a with defers:={ target:=.collected D,args:=#[] }::a.defers } w')
 (hstop:∀(D:Nat) (c:Code) (xs:List α) (w':World),Sp xs→Sat W w' (sep (blk D (.deferred (some []))) (sep (Zc c xs) Post)) →
  c.wpIn F n P Q { a with defers:={ target:=.collected D,args:=#[] }::a.defers } w'):
 (Code.rangeFunc g ps assign body).wpIn F n P Q a w:=by
 refine I9 hro h1 hg hFg eg hps hseq C Zc h0 (fun pre x a₁ E=>∃g,a₁={ tmps:=upd x g a.tmps,defers:=[] }∧E=Cm pre x g) ?_ ?_ hdone hstop
 ·intro l pre x w' B K hl hS hK
  exact hassign l pre x w' B K hl hS fun g w₁ h=>hK _ w₁ _ ⟨g,rfl,rfl⟩ h
 ·rintro l pre x a₁ E w' B hl ⟨g,rfl,rfl⟩ hS
  exact hbody l pre x g w' B hl hS
end
end PA
namespace PA
open Go Go.RowKit
section
variable {P:Program} {ops:Array Oper} {Q:Exit→Act→World→Prop} {S:World→Prop} {W:World}
theorem PE {o:Oper} {a:Act} {Pre:aA} {v1:Value} {Post:aA} (hg:Region.wanted o (yielded ops a.tmps)=true)
 (hr:∀(w:World) (A:aA),Sat W w (sep Pre A)→∃w',(execOp a.eval o).run P w=.ok (.value v1) w'∧Sat W w' (sep Post A)):iQ P ops W o a Pre (fun v=>sep (fact (v=v1)) Post):=
 ⟨hg,fun w A h=>.inl (by
  obtain⟨w',h1,h2⟩:=hr w A h;exact⟨v1,w',h1,by rw[aj];exact Sat.fact.2 ⟨rfl,h2⟩⟩)⟩
def VJ (Pre Mid Post:aA) (v1 u1 v2:Value):List Value→aA
 | []=>Pre
 | [v]=>sep (fact (v=v1)) Mid
 | [v,u]=>sep (fact (v=v1∧u=u1)) Mid
 | v::u::x::r=>sep (fact (v=v1∧u=u1∧x=v2∧r=[])) Post
theorem TY {Pre Mid Post:aA} {v1 u1 v2:Value} {a0:Act} {i k j:Nat} {oi oj:Oper} {di:Option Tmp} (hdi:aS ops i=di) (hoi:ops[i]?=some oi) (hsi:∀cs b,oi.op≠.select cs b) (hoj:ops[j]?=some oj) (hsj:∀cs b,oj.op≠.select cs b)
 (hb:((Region.before ops).getD j 0).testBit i=true) (h1:iQ P ops W oi a0 Pre (fun v=>sep (fact (v=v1)) Mid)) (hpl:og ops k=true) (hF:xU P ops (a0.put di v1) [k] [u1])
 (h2:iQ P ops W oj ((a0.put di v1).put (aS ops k) u1) Mid (fun v=>sep (fact (v=v2)) Post))
 (hw2:∀v u,Region.wanted oj (yielded ops ((a0.put di v).put (aS ops k) u).tmps)=true):
 zS P ops W a0 (VJ Pre Mid Post v1 u1 v2) [] [(i,[k]),(j,[])]:=by
 subst hdi;refine⟨⟨oi,hoi,hsi,h1⟩,fun y hy=>?_,fun k' hk'=>?_,fun v w B h=>?_,fun v us hus=>?_⟩
 ·rw[List.mem_singleton.1 hy];exact hb
 ·rw[List.mem_singleton.1 hk'];exact hpl
 ·have h':Sat W w (sep (sep (fact (v=v1)) Mid) B):=h
  rw[aj] at h';obtain⟨rfl,h3⟩:=Sat.fact.1 h';refine⟨[u1],hF,?_⟩;show Sat W w (sep (sep (fact (v=v∧u1=u1)) Mid) B);rw[aj];exact Sat.fact.2 ⟨⟨rfl,rfl⟩,h3⟩
 ·match us,hus with
  | [u],_=>
   refine⟨⟨oj,hoj,hsj,hw2 v u,fun w A hS=>?_⟩,fun y hy=>(by cases hy),fun k' hk'=>(by cases hk'),fun v' w B h=>⟨[],trivial,h⟩,fun _ _ _=>trivial⟩;have hS':Sat W w (sep (sep (fact (v=v1∧u=u1)) Mid) A):=hS;rw[aj] at hS';obtain⟨⟨rfl,rfl⟩,hS2⟩:=Sat.fact.1 hS';have conv:∀(v':Value) (w':World),Sat W w' (sep (sep (fact (v'=v2)) Post) A)→Sat W w' (sep (VJ Pre Mid Post v u v2 ([v,u]++[v'])) A):=fun v' w' h=>by
    show Sat W w' (sep (sep (fact (v=v∧u=u∧v'=v2∧([]:List Value)=[])) Post) A);rw[aj] at h ⊢;obtain⟨h1,h2⟩:=Sat.fact.1 h;exact Sat.fact.2 ⟨⟨rfl,rfl,h1,rfl⟩,h2⟩
   rcases h2.2 w A hS2 with ⟨v',w',h3,h4⟩|⟨f,args,w1,h3,h4⟩
   ·exact .inl ⟨v',w',h3,conv v' w' h4⟩
   ·refine .inr ⟨f,args,w1,h3,h4.mono ?_⟩
    rintro e w' ⟨v',rfl,h5⟩;exact⟨v',rfl,conv v' w' h5⟩
theorem JF {Pre Mid Post:aA} {v1 u1 v2:Value} {A:aA} {w:World} {i k j:Nat} {dn:List (Nat×Value)} (hdn:dn.map (·.1)=[i,k,j])
 (h:Sat W w (sep (VJ Pre Mid Post v1 u1 v2 (dn.map (·.2))) A)):dn=[(i,v1),(k,u1),(j,v2)]∧Sat W w (sep Post A):=by
 match dn,hdn with
 | [(i',u),(k',x),(j',y)],hdn=>
  simp only[List.map_cons,List.map_nil,List.cons.injEq,and_true] at hdn;obtain⟨rfl,rfl,rfl⟩:=hdn;have h':Sat W w (sep (sep (fact (u=v1∧x=u1∧y=v2∧([]:List Value)=[])) Post) A):=h;rw[aj] at h';obtain⟨⟨rfl,rfl,rfl,-⟩,h3⟩:=Sat.fact.1 h';exact⟨rfl,h3⟩
end
end PA
namespace PA
open Go Go.RowKit
section
variable {P:Program} {ops:Array Oper} {Q:Exit→Act→World→Prop} {S:World→Prop} {W:World}
theorem I5 {s:zD}:∀{l:List zD},s∈l→∀A,∃X,I4 l A=sep s.now X
 | [],h,_=>by cases h
 | u::l,h,A=>by
  rcases List.mem_cons.1 h with rfl|h
  ·exact⟨_,by rw[qC,xZ]⟩
  ·exact I5 h (sep u.now A)
theorem Qv {ts:List Yj} {vP:List zD} (h:wY ts vP) {t:Yj} (ht:t∈ts):∃s∈vP,s.A=t.A:=by
 unfold wY at h;have:(nums t.ids,t.A)∈vP.map (fun s=>(s.dn.map (·.1)++nums s.td,s.A)):=by rw[h];exact List.mem_map.2 ⟨t,ht,rfl⟩
 obtain⟨s,hs,e⟩:=List.mem_map.1 this;exact⟨s,hs,(Prod.mk.inj e).2⟩
theorem OZ {a0:Act} {A:aA} {b:Bool} {K:Act→World→Prop} (ts:List Yj) (hS:b=true→∃t∈ts,∀us w X,Sat W w (sep (t.A us) X)→S w) (hfin:WV ops W a0 K ts [] A):
 ∀(n:Nat) (vP:List zD) (E:List (Nat×List Nat)) (w:World),E.length=n→E.Perm (vP.flatMap (·.td))→wY ts vP→(∀s∈vP,zS P ops W a0 s.A s.dn s.td)→(vP.Pairwise fun s t=>Tn ops s.all t.all)→Sat W w (I4 vP A) →
  oD P ops Q S b n E K (puts ops (vP.flatMap (·.dn)) a0) w:=by
 intro n
 induction n with
 | zero=>
  intro vP E w hn hp hL _ _ hw;have hE:=List.eq_nil_of_length_eq_zero hn;subst hE;have:=JW vP ts [] A hL (List.nil_perm.1 hp) hfin w hw;rw[List.nil_append] at this;exact this
 | succ n ih=>
  intro vP E w hn hp hL hg hap hw i hi hr;obtain⟨s,hs,his⟩:=List.mem_flatMap.1 (hp.mem_iff.1 hi);obtain⟨S1,S2,rfl⟩:=List.append_of_mem hs;obtain⟨dn,td,AT⟩:=s;cases td with
  | nil=>simp at his
  | cons k td=>
   have hgs:=hg _ hs;obtain⟨⟨o,ho,hsel,hd⟩,hch,hplain,htl,hnext⟩:=hgs;have hik:i=k:=by
    rcases List.mem_cons.1 his with e|hm
    ·exact e
    ·exfalso
     have h1:=hch i hm;have h2:k∈E:=hp.mem_iff.2 (List.mem_flatMap.2 ⟨_,hs,by simp⟩);have h3:=List.all_eq_true.1 hr k h2;rw[h1] at h3;cases h3
   subst hik;have hall:∀j∈dn.map (·.1)++i.1::i.2,j∈zD.all ⟨dn,i::td,AT⟩:=fun j hj=>by
    unfold zD.all nums;rw[List.flatMap_cons];rcases List.mem_append.1 hj with hj|hj
    ·exact List.mem_append_left _ hj
    ·exact List.mem_append_right _ (List.mem_append_left _ hj)
   have hpw:=List.pairwise_append.1 hap;have hpc:=List.pairwise_cons.1 hpw.2.1;have hl1:∀x∈S1.flatMap (·.dn),∀j∈dn.map (·.1)++i.1::i.2,apartB ops x.1 j=true:=fun x hx j hj=>by
    obtain⟨s1,hs1,hx1⟩:=List.mem_flatMap.1 hx;exact hpw.2.2 s1 hs1 ⟨dn,i::td,AT⟩ (by simp) x.1 (List.mem_append_left _ (List.mem_map.2 ⟨x,hx1,rfl⟩)) j (hall j hj)
   have hl2:∀x∈S2.flatMap (·.dn),∀j∈dn.map (·.1)++i.1::i.2,apartB ops j x.1=true:=fun x hx j hj=>by
    obtain⟨s1,hs1,hx1⟩:=List.mem_flatMap.1 hx;exact hpc.1 s1 hs1 j (hall j hj) x.1 (List.mem_append_left _ (List.mem_map.2 ⟨x,hx1,rfl⟩))
   have YE:∀dn':List (Nat×Value),(∀y∈dn',y.1∈dn.map (·.1)++i.1::i.2)→puts ops ((S1++⟨dn',td,AT⟩::S2).flatMap (·.dn)) a0=puts ops (S2.flatMap (·.dn)) (puts ops (S1.flatMap (·.dn)) (puts ops dn' a0)):=fun dn' adC=>by
    rw[List.flatMap_append,List.flatMap_cons,jh,jh];congr 1;exact DT dn' _ (fun x hx y hy=>hl1 x hx y.1 (adC y hy)) a0
   have YD:puts ops ((S1++⟨dn,i::td,AT⟩::S2).flatMap (·.dn)) a0=puts ops (S2.flatMap (·.dn)) (puts ops (S1.flatMap (·.dn)) (puts ops dn a0)):=by
    rw[←YE dn (fun y hy=>List.mem_append_left _ (List.mem_map.2 ⟨y,hy,rfl⟩)),List.flatMap_append,List.flatMap_append,List.flatMap_cons,List.flatMap_cons]
   have hboth:∀x∈S1.flatMap (·.dn)++S2.flatMap (·.dn),∀j∈dn.map (·.1)++i.1::i.2,apartB ops x.1 j=true∨apartB ops j x.1=true:=fun x hx j hj=>by
    rcases List.mem_append.1 hx with hx|hx
    ·exact .inl (hl1 x hx j hj)
    ·exact .inr (hl2 x hx j hj)
   have hd':iQ P ops W o (puts ops ((S1++⟨dn,i::td,AT⟩::S2).flatMap (·.dn)) a0) (AT (dn.map (·.2))) (fun v=>AT (dn.map (·.2)++[v])):=by
    rw[YD,←jh];exact iQ.puts ho hsel _ (fun x hx=>hboth x hx i.1 (by simp)) hd
   have hw2:Sat W w (sep (AT (dn.map (·.2))) (I4 S2 (I4 S1 A))):=by
    rw[Ec,qC,xZ] at hw;exact hw
   refine hd'.wpOp ho hw2 (fun v w' hv=>?_);refine⟨fun hb=>?_,?_⟩
   ·obtain⟨t,ht,hSt⟩:=hS hb
    obtain⟨s,hs,hsA⟩:=Qv hL ht;rcases List.mem_append.1 hs with h|h
    ·obtain⟨X,hX⟩:=I5 h A
     rw[hX,xZ] at hv;have hv3:Sat W w' (sep (s.A (s.dn.map (·.2))) (sep (AT (dn.map (·.2)++[v])) (I4 S2 X))):=hv.p1;rw[hsA] at hv3;exact hSt _ _ _ hv3
    ·rcases List.mem_cons.1 h with h|h
     ·have e:AT=t.A:=by rw[←hsA,h]
      rw[e] at hv;exact hSt _ _ _ hv
     ·obtain⟨X,hX⟩:=I5 h (I4 S1 A)
      rw[hX] at hv;have hv3:Sat W w' (sep (s.A (s.dn.map (·.2))) (sep (AT (dn.map (·.2)++[v])) X)):=hv.p1;rw[hsA] at hv3;exact hSt _ _ _ hv3
   ·obtain⟨us,hpu,hv2⟩:=htl v w' _ hv
    have yx:=Lp hpu;have hdo:aS ops i.1=o.dst:=by unfold aS;rw[ho];rfl
    have e1:(puts ops ((S1++⟨dn,i::td,AT⟩::S2).flatMap (·.dn)) a0).put o.dst v=puts ops (S1.flatMap (·.dn)++S2.flatMap (·.dn)) (puts ops (dn++[(i.1,v)]) a0):=by
     rw[YD,←hdo,←jh,jh dn];show _=puts ops _ ((puts ops dn a0).put (aS ops i.1) v);exact (wJ v _ (fun x hx=>hboth x hx i.1 (by simp)) _).symm
    rw[e1];refine Af i.2 us _ w' hplain (F8 _ hplain (fun x hx j hj=>hboth x hx j (by simp[hj])) hpu) ?_;have e2:puts ops (i.2.zip us) (puts ops (S1.flatMap (·.dn)++S2.flatMap (·.dn)) (puts ops (dn++[(i.1,v)]) a0))=puts ops ((S1++⟨dn++(i.1,v)::i.2.zip us,td,AT⟩::S2).flatMap (·.dn)) a0:=by
     rw[YE (dn++(i.1,v)::i.2.zip us) (fun y hy=>?_)]
     ·rw[←jh (S1.flatMap (·.dn))]
      have e3:dn++(i.1,v)::i.2.zip us=(dn++[(i.1,v)])++i.2.zip us:=by simp
      rw[e3,jh (dn++[(i.1,v)])];have key:∀(z:List (Nat×Value)),(∀y∈z,y.1∈i.2)→∀(L:List (Nat×Value)),(∀x∈L,∀j∈dn.map (·.1)++i.1::i.2,apartB ops x.1 j=true∨apartB ops j x.1=true)→∀a:Act,puts ops z (puts ops L a)=puts ops L (puts ops z a):=by
       intro z
       induction z with
       | nil=>intro _ L _ a;rfl
       | cons y z ihz=>
        intro hz L hL a;show puts ops z ((puts ops L a).put (aS ops y.1) y.2)=puts ops L (puts ops z (a.put (aS ops y.1) y.2));rw[←wJ y.2 L (fun x hx=>hL x hx y.1 (List.mem_append_right _ (List.mem_cons_of_mem _ (hz y (by simp))))),ihz (fun u hu=>hz u (by simp[hu])) L hL]
      exact key _ (fun y hy=>by obtain⟨y1,y2⟩:=y;exact (List.of_mem_zip hy).1) _ hboth _
     ·rcases List.mem_append.1 hy with hy|hy
      ·exact List.mem_append_left _ (List.mem_map.2 ⟨y,hy,rfl⟩)
      ·rcases List.mem_cons.1 hy with rfl|hy
       ·simp
       ·obtain⟨y1,y2⟩:=y
        exact List.mem_append_right _ (List.mem_cons_of_mem _ (List.of_mem_zip hy).1)
    rw[e2];have hzm:((i.1,v)::i.2.zip us).map (·.1)=i.1::i.2:=by rw[List.map_cons,List.map_fst_zip (by omega)]
    have hzs:((i.1,v)::i.2.zip us).map (·.2)=v::us:=by rw[List.map_cons,List.map_snd_zip (by omega)]
    refine ih _ (E.erase i) w' ?_ ?_ ?_ ?_ ?_ ?_
    ·rw[List.length_erase_of_mem hi,hn];rfl
    ·have h1:((S1++⟨dn,i::td,AT⟩::S2).flatMap (·.td)).Perm (i::(S1++⟨dn++(i.1,v)::i.2.zip us,td,AT⟩::S2).flatMap (·.td)):=by
      simp only[List.flatMap_append,List.flatMap_cons];exact List.perm_middle
     have h2:=(hp.trans h1).erase i;rw[List.erase_cons_head] at h2;exact h2
    ·unfold wY at *
     rw[←hL];simp only[lD,List.map_cons];rw[show i.1::(i.2.zip us).map (·.1)=i.1::i.2 by rw[←hzm];rfl];congr 2;simp[nums]
    ·intro s hs'
     rcases List.mem_append.1 hs' with h|h
     ·exact hg s (List.mem_append_left _ h)
     ·rcases List.mem_cons.1 h with rfl|h
      ·exact hnext v us yx
      ·exact hg s (by simp[h])
    ·have hsame:zD.all ⟨dn++(i.1,v)::i.2.zip us,td,AT⟩=zD.all ⟨dn,i::td,AT⟩:=by
      unfold zD.all nums;rw[lD,hzm,List.flatMap_cons,List.append_assoc]
     refine List.pairwise_append.2 ⟨hpw.1,List.pairwise_cons.2 ⟨fun y hy=>?_,hpc.2⟩,fun x hx y hy=>?_⟩
     ·rw[hsame];exact hpc.1 y hy
     ·rcases List.mem_cons.1 hy with rfl|hy
      ·rw[hsame];exact hpw.2.2 x hx _ (List.mem_cons_self)
      ·exact hpw.2.2 x hx y (by simp[hy])
    ·rw[Ec,qC,xZ]
     show Sat W w' (sep (AT ((dn++(i.1,v)::i.2.zip us).map (·.2))) (I4 S2 (I4 S1 A)));rw[lD,hzs];exact hv2
theorem rG {a:Act} {w:World} {A:aA} {b:Bool} {l:List kJ} {K:Act→World→Prop} (ts:List Yj) (hS:b=true→∃t∈ts,∀us w X,Sat W w (sep (t.A us) X)→S w)
 (hap:A8 ops (ts.map (fun t=>nums t.ids))=true) (hg:∀t∈ts,zS P ops W a t.A [] t.ids) (hw:Sat W w (ts.foldl (fun B t=>sep (t.A []) B) A)) (hfin:WV ops W a (nC P ops Q S l K) ts [] A):
 nC P ops Q S (.grp b (ts.flatMap (·.ids))::l) K a w:=by
 have adW:I4 (ts.map fun t=>(⟨[],t.ids,t.A⟩:zD)) A=ts.foldl (fun B t=>sep (t.A []) B) A:=by
  rw[I4,List.foldl_map];rfl
 have h:=OZ (P:=P) (Q:=Q) (S:=S) (b:=b) ts hS hfin _ (ts.map fun t=>(⟨[],t.ids,t.A⟩:zD)) (ts.flatMap (·.ids)) w rfl ?_ ?_ ?_ (DJ ts hap) (by rw[adW];exact hw)
 ·have e:(ts.map fun t=>(⟨[],t.ids,t.A⟩:zD)).flatMap (·.dn)=[]:=by
   induction ts with
   | nil=>rfl
   | cons t ts ih=>simp
  rw[e] at h;exact h
 ·rw[List.flatMap_map]
 ·unfold wY;simp
 ·intro s hs
  obtain⟨t,ht,rfl⟩:=List.mem_map.1 hs;exact hg t ht
end
end PA
