/- Part of a proof. -/
import Derived.Test.YtgicfogmdfdjmaaGreatDoorGTitleHolds20
import Derived.Test.YtgicfogmdfdjmaaGreatDoorGTitleHolds42
namespace PA
open Go Go.RowKit Go.Proofs.YtgicfogmdfdjmaaGreatDoor
def xu (I:Mem) (xs:List Ac):Prop:=∃ps,dX (oM I) xs ps∧∀p∈ps,VD p∧zx p
theorem xu.mono {I J:Mem} {xs:List Ac} (hl:Mem.le I J):xu I xs→xu J xs:=fun ⟨ps,h1,h2⟩=>⟨ps,h1.wk fun _ _ h=>h.mono hl,h2⟩
theorem xu.append {I:Mem} {xs ys:List Ac}:xu I xs→xu I ys→xu I (xs++ys):=fun ⟨ps,h1,h2⟩ ⟨qs,h3,h4⟩=>⟨ps++qs,h1.append h3,fun p hp=>by
 rcases List.mem_append.1 hp with h|h
 ·exact h2 p h
 ·exact h4 p h⟩
theorem xu.pairs {I:Mem} {xs:List Ac}:xu I xs→∃Ls:List (Ac×Pa),Ls.map (·.1)=xs∧∀p∈Ls,oM I p.1 p.2∧VD p.2∧zx p.2:=by
 rintro⟨ps,h1,h2⟩
 have hl:=dX.length h1
 refine⟨xs.zip ps,List.map_fst_zip (by omega),fun p hp=>?_⟩
 obtain⟨i,hi,rfl⟩:=List.mem_iff_getElem.1 hp
 rw[List.length_zip] at hi
 rw[List.getElem_zip]
 exact⟨h1.get i (by omega) (by omega),h2 _ (List.getElem_mem _)⟩
def uf (x:Ac):Pa:=⟨x.k,x.d,x.n,x.f,x.o,x.p,x.q,x.u,x.m,x.sn,x.sd,[],[],[],[],Fm.zero⟩
structure uJ (x:Ac):Prop where
 td:x.td=Sv.none
 tc:x.tc=Sv.none
 cl:x.cl=Sv.none
 ea:x.ea=Sv.none
 fo:x.fo=0
 fn:x.fn=0
 fi:x.fi=Sv.none
 fk:x.fk=Sv.none
 ns:∀r∈iE (uf x),-9223372036854775808≤r∧r≤9223372036854775807
theorem uJ.isA {x:Ac} (h:uJ x) (I:Mem):oM I x (uf x):=
 ⟨rfl,rfl,rfl,rfl,rfl,rfl,rfl,rfl,rfl,rfl,rfl,by rw[h.td];exact aH _ _ _,by rw[h.tc];exact aH _ _ _,by rw[h.cl];exact aH _ _ _,by rw[h.ea];exact aH _ _ _,by rw[h.fo,h.fn,h.fi,h.fk];exact dJ I⟩
theorem uJ.sz {x:Ac} (_h:uJ x):VD (uf x):=
 ⟨fun f hf=>(by cases hf),fun f hf=>(by cases hf),fun f hf=>(by cases hf),by unfold uf Fm.zero Go.Proofs.YtgicfogmdfdjmaaGreatDoor.pq;simp[Fm.size,Fm.sizes]⟩
theorem uJ.enc {x:Ac} (h:uJ x):zx (uf x):=by
 have h0:(gJ ([]:List Cl)).length≤1500:=PN
 have h1:(qG ([]:List Fm) []).length≤2000:=by
  unfold qG
  have:=lY (nJ h0) (by omega)
  have:=jZ (r:=0) (by omega) (by omega)
  simp[wV] at *
  omega
 refine⟨h.ns,fun f hf=>(by cases hf),fun f hf=>(by cases hf),fun f hf=>(by cases hf),fun f hf=>(by cases hf),⟨xg.1,by have:=xg.2;show (dw Fm.zero).length≤_;omega⟩,by show (qG [] []).length≤_;omega,by show (gJ []).length≤_;omega,by show (gJ []).length≤_;omega,?_⟩
 have hkd:(wW (uf x)).length≤3100:=by
  unfold wW
  split
  ·have:=lY (yF h1) (by omega)
   have e3:=jZ (r:=0) (by omega) (by omega)
   rw[dI,dI]
   have e4:(sF (uf x).ea).length=0:=rfl
   have e5:(oI (uf x).td (uf x).tc)=oI [] []:=rfl
   rw[e4,e5]
   have e6:(((uf x).ea.length:Nat):Int)=0:=rfl
   rw[e6]
   omega
  ·split
   ·have:=lY (sG xg.2) (by omega)
    show (encR (lF Fm.zero)).length≤_
    omega
   ·simp
 have hac:(Dl (uf x)).length=0:=rfl
 have hn1:=jP PA.encI (B:=10) (l:=iE (uf x)) fun r hr=>jZ (h.ns r hr).1 (h.ns r hr).2
 have hn2:(iE (uf x)).length=11:=rfl
 rw[hn2] at hn1
 unfold VN
 rw[dI,dI]
 omega
theorem F6 {I:Mem} {xs:List Ac} (h:∀x∈xs,uJ x):xu I xs:=by
 refine⟨xs.map uf,?_,fun p hp=>?_⟩
 ·induction xs with
  | nil=>trivial
  | cons x xs ih=>exact⟨(h x (by simp)).isA I,ih fun y hy=>h y (by simp[hy])⟩
 ·obtain⟨x,hx,rfl⟩:=List.mem_map.1 hp
  exact⟨(h x hx).sz,(h x hx).enc⟩
theorem Lh {I:Mem} {zl:List Ac} (h:qy I zl) (hl:zl.length≤14):xu I zl:=by
 obtain⟨ps,h1,h2⟩:=h
 have hlen:=dX.length h1
 refine⟨ps,h1,fun p hp=>?_⟩
 obtain⟨i,hi,rfl⟩:=List.mem_iff_getElem.1 hp
 obtain⟨hg,hn,-⟩:=h2 i hi
 have hN:qW (ps.take i)≤100:=by have:=zT (ps.take i);rw[List.length_take] at this;omega
 have hs:=Le hN hg (by omega)
 exact⟨hs.size,hs.enc⟩
theorem sh_bd (j:Nat) (hj:j<7):(1≤(zG.getD j ⟨0,0⟩).n∧(zG.getD j ⟨0,0⟩).n≤2)∧1≤(zG.getD j ⟨0,0⟩).d∧(zG.getD j ⟨0,0⟩).d≤1048576:=by
 rcases (show j=0∨j=1∨j=2∨j=3∨j=4∨j=5∨j=6 by omega) with rfl|rfl|rfl|rfl|rfl|rfl|rfl<;>decide
theorem Lj {k d n f p q a b:Int} (h:∀r∈[k,d,n,f,p,q,a,b],-9223372036854775808≤r∧r≤9223372036854775807):uJ (mX k d n f p q ⟨a,b⟩):=by
 refine⟨rfl,rfl,rfl,rfl,rfl,rfl,rfl,rfl,fun r hr=>?_⟩
 simp only[iE,uf,mX,List.mem_cons,List.not_mem_nil,or_false] at hr
 simp only[List.mem_cons,List.not_mem_nil,or_false,forall_eq_or_imp,forall_eq] at h
 omega
theorem Rx (k n d i:Nat) (hd:d<40) (hi:i<12):uJ (Nr k n d i):=by
 have hs:=sh_bd (n % 7) (by omega)
 obtain⟨r,hr⟩:=aC (zG.getD (n % 7) ⟨0,0⟩)
 rw[←hr] at hs
 unfold Nr wI gU rU xZ
 rw[←hr]
 split<;>(try split)<;>(try split)<;>refine⟨rfl,rfl,rfl,rfl,rfl,rfl,rfl,rfl,fun z hz=>?_⟩<;>simp only[iE,uf,mX,List.mem_cons,List.not_mem_nil,or_false] at hz<;>omega
theorem Ll (l:List Int):∀x∈iM l,uJ x:=by
 intro x hx
 unfold iM at hx
 rcases List.mem_append.1 hx with h|h
 ·simp only[List.mem_cons,List.not_mem_nil,or_false] at h
  rcases h with rfl|rfl
  ·exact Lj (by simp only[List.mem_cons,List.not_mem_nil,or_false,forall_eq_or_imp,forall_eq];omega)
  ·exact Lj (by simp only[List.mem_cons,List.not_mem_nil,or_false,forall_eq_or_imp,forall_eq];omega)
 ·obtain⟨i,hi,rfl⟩:=List.mem_map.1 h
  have h1:=Pg l
  obtain⟨d,hd1,hd2⟩:=oV l (3*i+2) 40 (by omega)
  exact Rx _ _ _ _ (by rw[hd1];omega) (by have:=List.mem_range.1 hi;omega)
structure TA2 (x:Ac):Prop where
 li:x.k=17→1≤x.p∧x.p≤10
theorem Ry {I:Mem} {N:Nat} {z:Ac} {x:Pa} (hA:oM I z x) (h:EK N x):TA2 z:=by
 obtain⟨y,d,n,hy,h1,h2,rfl⟩:=h
 have e1:z.k=y.k:=hA.k
 have e3:z.p=y.p:=hA.p
 refine⟨fun hk=>?_⟩
 rw[e1] at hk
 rcases hy with hy|hy
 ·obtain⟨o,p,q,td,tc,ea,rfl,ho,hp,hq,hT,hE⟩:=hy
  cases hk
 ·rw[e3]
  cases hy<;>simp only[Pa.zero] at hk ⊢<;>omega
theorem PO {I:Mem} {zl:List Ac} (h:qy I zl):∀x∈zl,TA2 x:=by
 obtain⟨ps,h1,h2⟩:=h
 have hlen:=dX.length h1
 intro x hx
 obtain⟨i,hi,rfl⟩:=List.mem_iff_getElem.1 hx
 obtain⟨hg,-,-⟩:=h2 i (by omega)
 exact Ry (h1.get i hi (by omega)) hg
theorem PS (l:List Int):∀x∈iM l,TA2 x:=by
 intro x hx
 refine⟨fun hk=>?_⟩
 rcases BQ hx with rfl|rfl|h
 ·cases hk
 ·cases hk
 ·have:=(h.li hk).1;omega
structure WV where
 dn:List (Nat×Ac)
 fl:List Int
 li:List Hl
def qH (s:WV) (i:Nat) (x:Ac) (b:Bool):WV:=
 if x.k=16 then (if b=true then { s with dn:=s.dn++[(i,x)] } else { s with fl:=s.fl++[(i:Int)] }) else if b=true then { s with li:=s.li++[⟨x.p,x.q,x.d,x.u⟩] } else s
theorem tV {σ τ:Type} (g:σ→τ) (file fK day:Int) (ev:σ→Nat→Ac→Bool→σ) (ev':τ→Nat→Ac→Bool→τ) (h:∀s i x b,aX file fK day x=true→g (ev s i x b)=ev' (g s) i x b):
 ∀(l:List Ac) (i:Nat) (S:l7) (s:σ),g (walkT file fK day ev i l S s).2=(walkT file fK day ev' i l S (g s)).2
 | [],_,_,_=>rfl
 | x::l,i,S,s=>by
  unfold walkT
  by_cases hc:aX file fK day x=true
  ·rw[if_pos hc,if_pos hc,tV g file fK day ev ev' h l,h _ _ _ _ hc]
  ·rw[if_neg hc,if_neg hc,tV g file fK day ev ev' h l]
def o9 (file day:Int) (f:Ac) (xs:List Ac):WV:=(walkT file f.d day qH 0 (sortK xs) (bW f.p) ⟨[],[],[]⟩).2
theorem Lm {file fK day:Int} {x:Ac} (h:aX file fK day x=true):(x.k=16∨x.k=17)∧fK≤x.d∧x.d≤day∧x.f=file:=by
 unfold aX at h
 simp only[Bool.and_eq_true,Bool.or_eq_true,decide_eq_true_eq] at h
 exact⟨h.2.2.2.2,h.2.2.1,h.2.2.2.1,h.2.1⟩
theorem tel_dn (file day:Int) (f:Ac) (xs:List Ac):(o9 file day f xs).dn=y9 file day f xs:=by
 refine tV (fun s:WV=>s.dn) file f.d day qH DW (fun s i x b _=>?_) (sortK xs) 0 (bW f.p) ⟨[],[],[]⟩
 unfold qH DW
 by_cases h1:x.k=16<;>cases b<;>simp[h1]
def holdB (day:Int) (h:Hl):Bool:=decide (h.c≤day)&&decide (day≤h.d)
theorem tel_li (file day:Int) (f:Ac) (xs:List Ac):(o9 file day f xs).li.filter (holdB day)=Ko file day f xs:=by
 refine tV (fun s:WV=>s.li.filter (holdB day)) file f.d day qH (LP day) (fun s i x b hc=>?_) (sortK xs) 0 (bW f.p) ⟨[],[],[]⟩
 have hk:=Lm hc
 unfold qH LP
 by_cases h1:x.k=16
 ·have:¬x.k=17:=by omega
  cases b<;>simp[h1]
 ·have h2:x.k=17:=by omega
  cases b
  ·simp[h1]
  ·rw[if_neg h1,if_pos rfl]
   by_cases h3:day≤x.u
   ·rw[if_pos ⟨h2,rfl,h3⟩,List.filter_append]
    congr 1
    rw[List.filter_cons_of_pos (by unfold holdB;simp[h3];omega)]
    rfl
   ·rw[if_neg (fun e=>h3 e.2.2),List.filter_append,List.filter_cons_of_neg (by unfold holdB;simp[h3])]
    simp
theorem YT {file day:Int} {f:Ac} {xs:List Ac} {t:Nat×Ac} (h:t∈y9 file day f xs):(sortK xs)[t.1]?=some t.2∧t.2.k=16:=by
 rcases yu file f.d day (sortK xs) 0 (bW f.p) [] t h with h|⟨j,h1,h2,h3,-⟩
 ·cases h
 ·rw[Nat.zero_add] at h2
  rw[h2];exact⟨h1,h3⟩
def oJ (file day:Int) (ys:List Ac):Option Ac:=ys.find? fun x=>gu x.k&&(decide (x.f=file)&&(decide (x.d≤day)&&decide (x.k=0)))
theorem YU {file day:Int} {ys:List Ac} (ha:Asc cmpK ys):oJ file day ys=(dF file ys).bind fun f=>if f.d≤day then some f else none:=by
 induction ys with
 | nil=>rfl
 | cons y ys ih=>
  have ha':=List.pairwise_cons.1 ha
  unfold oJ dF at *
  by_cases h1:eY file y=true
  ·rw[List.find?_cons_of_pos h1]
   have hk:y.k=0∧y.f=file:=by unfold eY at h1;simpa using h1
   by_cases h2:y.d≤day
   ·rw[List.find?_cons_of_pos (by simp[gu,hk,h2])]
    simp[h2]
   ·rw[List.find?_cons_of_neg (by simp[h2])]
    simp only[Option.bind_some,if_neg h2]
    rw[List.find?_eq_none]
    intro x hx
    have hle:=ha'.1 x hx
    have:¬x.d≤day:=by
     unfold cmpK at hle
     split at hle
     ·omega
     ·split at hle
      ·omega
      ·omega
    simp[this]
  ·have hk:¬(y.k=0∧y.f=file):=fun e=>h1 (by unfold eY;simp[e])
   rw[List.find?_cons_of_neg h1,List.find?_cons_of_neg (by intro e;simp at e;exact hk ⟨e.2.2.2,e.2.1⟩)]
   exact ih ha'.2
theorem IG {file day:Int} {ys:List Ac} (ha:Asc cmpK ys) (hr:¬(file<0∨4095<file∨day<0∨131072<day)):(aP file day ys=7∧oJ file day ys=none)∨(aP file day ys=0∧∃f,dF file ys=some f∧oJ file day ys=some f):=by
 rw[YU ha]
 unfold aP
 rw[if_neg hr]
 cases hf:dF file ys with
 | none=>exact .inl ⟨rfl,rfl⟩
 | some f=>
  by_cases h:day<f.d
  ·exact .inl ⟨by simp[h],by simp;omega⟩
  ·exact .inr ⟨by simp[h],f,rfl,by simp;omega⟩
end PA
