/- Part of a proof. -/
import Derived.Test.YtgicfogmdfdjmaaGreatDoorGTitleOwners23
import Derived.Test.YtgicfogmdfdjmaaGreatDoorGTitleOwners42
namespace PA
open Go Go.RowKit Go.Proofs.YtgicfogmdfdjmaaGreatDoor
def wF (I:Mem) (xs:List Ac):Prop:=∃ps,dU (nT I) xs ps∧∀p∈ps,Sr p∧yL p
theorem wF.mono {I J:Mem} {xs:List Ac} (hl:Mem.le I J):wF I xs→wF J xs:=fun ⟨ps,h1,h2⟩=>⟨ps,h1.wk fun _ _ h=>h.mono hl,h2⟩
theorem wF.append {I:Mem} {xs ys:List Ac}:wF I xs→wF I ys→wF I (xs++ys):=fun ⟨ps,h1,h2⟩ ⟨qs,h3,h4⟩=>⟨ps++qs,h1.append h3,fun p hp=>by
 rcases List.mem_append.1 hp with h|h
 ·exact h2 p h
 ·exact h4 p h⟩
theorem wF.pairs {I:Mem} {xs:List Ac}:wF I xs→∃Ls:List (Ac×Pa),Ls.map (·.1)=xs∧∀p∈Ls,nT I p.1 p.2∧Sr p.2∧yL p.2:=by
 rintro⟨ps,h1,h2⟩
 have hl:=dU.length h1
 refine⟨xs.zip ps,List.map_fst_zip (by omega),fun p hp=>?_⟩
 obtain⟨i,hi,rfl⟩:=List.mem_iff_getElem.1 hp
 rw[List.length_zip] at hi
 rw[List.getElem_zip]
 exact⟨h1.get i (by omega) (by omega),h2 _ (List.getElem_mem _)⟩
def sG (x:Ac):Pa:=⟨x.k,x.d,x.n,x.f,x.o,x.p,x.q,x.u,x.m,x.sn,x.sd,[],[],[],[],Fm.zero⟩
structure tC (x:Ac):Prop where
 td:x.td=Sv.none
 tc:x.tc=Sv.none
 cl:x.cl=Sv.none
 ea:x.ea=Sv.none
 fo:x.fo=0
 fn:x.fn=0
 fi:x.fi=Sv.none
 fk:x.fk=Sv.none
 ns:∀r∈iw (sG x),-9223372036854775808≤r∧r≤9223372036854775807
theorem tC.isA {x:Ac} (h:tC x) (I:Mem):nT I x (sG x):=
 ⟨rfl,rfl,rfl,rfl,rfl,rfl,rfl,rfl,rfl,rfl,rfl,by rw[h.td];exact aC _ _ _,by rw[h.tc];exact aC _ _ _,by rw[h.cl];exact aC _ _ _,by rw[h.ea];exact aC _ _ _,by rw[h.fo,h.fn,h.fi,h.fk];exact dB I⟩
theorem tC.sz {x:Ac} (_h:tC x):Sr (sG x):=
 ⟨fun f hf=>(by cases hf),fun f hf=>(by cases hf),fun f hf=>(by cases hf),by unfold sG Fm.zero Go.Proofs.YtgicfogmdfdjmaaGreatDoor.oz;simp[Fm.size,Fm.sizes]⟩
theorem tC.enc {x:Ac} (h:tC x):yL (sG x):=by
 have h0:(gB ([]:List Cl)).length≤1500:=NI
 have h1:(pz ([]:List Fm) []).length≤2000:=by
  unfold pz
  have:=lH (mg h0) (by omega)
  have:=jM (r:=0) (by omega) (by omega)
  simp[vZ] at *
  omega
 refine⟨h.ns,fun f hf=>(by cases hf),fun f hf=>(by cases hf),fun f hf=>(by cases hf),fun f hf=>(by cases hf),⟨wC.1,by have:=wC.2;show (bZ Fm.zero).length≤_;omega⟩,by show (pz [] []).length≤_;omega,by show (gB []).length≤_;omega,by show (gB []).length≤_;omega,?_⟩
 have hkd:(wo (sG x)).length≤3100:=by
  unfold wo
  split
  ·have:=lH (xO h1) (by omega)
   have e3:=jM (r:=0) (by omega) (by omega)
   rw[List.length_append,List.length_append]
   have e4:(qW (sG x).ea).length=0:=rfl
   have e5:(nN (sG x).td (sG x).tc)=nN [] []:=rfl
   rw[e4,e5]
   have e6:(((sG x).ea.length:Nat):Int)=0:=rfl
   rw[e6]
   omega
  ·split
   ·have:=lH (qX wC.2) (by omega)
    show (encR (kT Fm.zero)).length≤_
    omega
   ·simp
 have hac:(BH (sG x)).length=0:=rfl
 have hn1:=jC PA.encI (B:=10) (l:=iw (sG x)) fun r hr=>jM (h.ns r hr).1 (h.ns r hr).2
 have hn2:(iw (sG x)).length=11:=rfl
 rw[hn2] at hn1
 unfold SI
 rw[List.length_append,List.length_append]
 omega
theorem EG {I:Mem} {xs:List Ac} (h:∀x∈xs,tC x):wF I xs:=by
 refine⟨xs.map sG,?_,fun p hp=>?_⟩
 ·induction xs with
  | nil=>trivial
  | cons x xs ih=>exact⟨(h x (by simp)).isA I,ih fun y hy=>h y (by simp[hy])⟩
 ·obtain⟨x,hx,rfl⟩:=List.mem_map.1 hp
  exact⟨(h x hx).sz,(h x hx).enc⟩
theorem Jq {I:Mem} {zl:List Ac} (h:o7 I zl) (hl:zl.length≤14):wF I zl:=by
 obtain⟨ps,h1,h2⟩:=h
 have hlen:=dU.length h1
 refine⟨ps,h1,fun p hp=>?_⟩
 obtain⟨i,hi,rfl⟩:=List.mem_iff_getElem.1 hp
 obtain⟨hg,hn,-⟩:=h2 i hi
 have hN:qo (ps.take i)≤100:=by have:=y8 (ps.take i);rw[List.length_take] at this;omega
 have hs:=Jp hN hg (by omega)
 exact⟨hs.size,hs.enc⟩
theorem sh_bd (j:Nat) (hj:j<7):(1≤(yR.getD j ⟨0,0⟩).n∧(yR.getD j ⟨0,0⟩).n≤2)∧1≤(yR.getD j ⟨0,0⟩).d∧(yR.getD j ⟨0,0⟩).d≤1048576:=by
 rcases (show j=0∨j=1∨j=2∨j=3∨j=4∨j=5∨j=6 by omega) with rfl|rfl|rfl|rfl|rfl|rfl|rfl<;>decide
theorem Jr {k d n f p q a b:Int} (h:∀r∈[k,d,n,f,p,q,a,b],-9223372036854775808≤r∧r≤9223372036854775807):tC (lY k d n f p q ⟨a,b⟩):=by
 refine⟨rfl,rfl,rfl,rfl,rfl,rfl,rfl,rfl,fun r hr=>?_⟩
 simp only[iw,sG,lY,List.mem_cons,List.not_mem_nil,or_false] at hr
 simp only[List.mem_cons,List.not_mem_nil,or_false,forall_eq_or_imp,forall_eq] at h
 omega
theorem Pm (k n d i:Nat) (hd:d<40) (hi:i<12):tC (KE k n d i):=by
 have hs:=sh_bd (n % 7) (by omega)
 obtain⟨r,hr⟩:=aG (yR.getD (n % 7) ⟨0,0⟩)
 rw[←hr] at hs
 unfold KE vM gI qN xw
 rw[←hr]
 split<;>(try split)<;>(try split)<;>refine⟨rfl,rfl,rfl,rfl,rfl,rfl,rfl,rfl,fun z hz=>?_⟩<;>simp only[iw,sG,lY,List.mem_cons,List.not_mem_nil,or_false] at hz<;>omega
theorem Js (l:List Int):∀x∈iG l,tC x:=by
 intro x hx
 unfold iG at hx
 rcases List.mem_append.1 hx with h|h
 ·simp only[List.mem_cons,List.not_mem_nil,or_false] at h
  rcases h with rfl|rfl
  ·exact Jr (by simp only[List.mem_cons,List.not_mem_nil,or_false,forall_eq_or_imp,forall_eq];omega)
  ·exact Jr (by simp only[List.mem_cons,List.not_mem_nil,or_false,forall_eq_or_imp,forall_eq];omega)
 ·obtain⟨i,hi,rfl⟩:=List.mem_map.1 h
  have h1:=Nj l
  obtain⟨d,hd1,hd2⟩:=og l (3*i+2) 40 (by omega)
  exact Pm _ _ _ _ (by rw[hd1];omega) (by have:=List.mem_range.1 hi;omega)
structure TA2 (x:Ac):Prop where
 li:x.k=17→1≤x.p∧x.p≤10
theorem Pn {I:Mem} {N:Nat} {z:Ac} {x:Pa} (hA:nT I z x) (h:DJ N x):TA2 z:=by
 obtain⟨y,d,n,hy,h1,h2,rfl⟩:=h
 have e1:z.k=y.k:=hA.k
 have e3:z.p=y.p:=hA.p
 refine⟨fun hk=>?_⟩
 rw[e1] at hk
 rcases hy with hy|hy
 ·obtain⟨o,p,q,td,tc,ea,rfl,ho,hp,hq,hT,hE⟩:=hy
  cases hk
 ·rw[e3]
  cases hy<;>simp only[Pa.zero] at hk ⊢<;>omega
theorem NJ {I:Mem} {zl:List Ac} (h:o7 I zl):∀x∈zl,TA2 x:=by
 obtain⟨ps,h1,h2⟩:=h
 have hlen:=dU.length h1
 intro x hx
 obtain⟨i,hi,rfl⟩:=List.mem_iff_getElem.1 hx
 obtain⟨hg,-,-⟩:=h2 i (by omega)
 exact Pn (h1.get i hi (by omega)) hg
theorem NK (l:List Int):∀x∈iG l,TA2 x:=by
 intro x hx
 refine⟨fun hk=>?_⟩
 rcases AO hx with rfl|rfl|h
 ·cases hk
 ·cases hk
 ·have:=(h.li hk).1;omega
structure WZ where
 dn:List (Nat×Ac)
 fl:List Int
 li:List Hl
def uM (s:WZ) (i:Nat) (x:Ac) (b:Bool):WZ:=
 if x.k=16 then (if b=true then { s with dn:=s.dn++[(i,x)] } else { s with fl:=s.fl++[(i:Int)] }) else if b=true then { s with li:=s.li++[⟨x.p,x.q,x.d,x.u⟩] } else s
theorem xY {σ τ:Type} (g:σ→τ) (file jd day:Int) (ev:σ→Nat→Ac→Bool→σ) (ev':τ→Nat→Ac→Bool→τ) (h:∀s i x b,bg file jd day x=true→g (ev s i x b)=ev' (g s) i x b):
 ∀(l:List Ac) (i:Nat) (S:lC) (s:σ),g (walkT file jd day ev i l S s).2=(walkT file jd day ev' i l S (g s)).2
 | [],_,_,_=>rfl
 | x::l,i,S,s=>by
  unfold walkT
  by_cases hc:bg file jd day x=true
  ·rw[if_pos hc,if_pos hc,xY g file jd day ev ev' h l,h _ _ _ _ hc]
  ·rw[if_neg hc,if_neg hc,xY g file jd day ev ev' h l]
def mO (file day:Int) (f:Ac) (xs:List Ac):WZ:=(walkT file f.d day uM 0 (sortK xs) (dI f.p) ⟨[],[],[]⟩).2
theorem tel_fl (file day:Int) (f:Ac) (xs:List Ac):(mO file day f xs).fl=(walkT file f.d day Ou 0 (sortK xs) (dI f.p) []).2:=by
 refine xY (fun s:WZ=>s.fl) file f.d day uM Ou (fun s i x b _=>?_) (sortK xs) 0 (dI f.p) ⟨[],[],[]⟩
 unfold uM Ou
 by_cases h1:x.k=16<;>cases b<;>simp[h1]
def nO (file day:Int) (ys:List Ac):Option Ac:=ys.find? fun x=>fV x.k&&(decide (x.f=file)&&(decide (x.d≤day)&&decide (x.k=0)))
theorem VZ {file day:Int} {ys:List Ac} (ha:Asc cmpK ys):nO file day ys=(dP file ys).bind fun f=>if f.d≤day then some f else none:=by
 induction ys with
 | nil=>rfl
 | cons y ys ih=>
  have ha':=List.pairwise_cons.1 ha
  unfold nO dP at *
  by_cases h1:eG file y=true
  ·rw[List.find?_cons_of_pos h1]
   have hk:y.k=0∧y.f=file:=by unfold eG at h1;simpa using h1
   by_cases h2:y.d≤day
   ·rw[List.find?_cons_of_pos (by simp[fV,hk,h2])]
    simp[h2]
   ·rw[List.find?_cons_of_neg (by simp[h2])]
    simp only[Option.bind_some,if_neg h2]
    rw[List.find?_eq_none]
    intro x hx
    have hle:=ha'.1 x hx
    have:¬x.d≤day:=by
     unfold cmpK at hle
     split at hle
     ·omega
     ·split at hle
      ·omega
      ·omega
    simp[this]
  ·have hk:¬(y.k=0∧y.f=file):=fun e=>h1 (by unfold eG;simp[e])
   rw[List.find?_cons_of_neg h1,List.find?_cons_of_neg (by intro e;simp at e;exact hk ⟨e.2.2.2,e.2.1⟩)]
   exact ih ha'.2
theorem Gv {file day:Int} {ys:List Ac} (ha:Asc cmpK ys) (hr:¬(file<0∨4095<file∨day<0∨131072<day)):(aP file day ys=7∧nO file day ys=none)∨(aP file day ys=0∧∃f,dP file ys=some f∧nO file day ys=some f):=by
 rw[VZ ha]
 unfold aP
 rw[if_neg hr]
 cases hf:dP file ys with
 | none=>exact .inl ⟨rfl,rfl⟩
 | some f=>
  by_cases h:day<f.d
  ·exact .inl ⟨by simp[h],by simp;omega⟩
  ·exact .inr ⟨by simp[h],f,rfl,by simp;omega⟩
end PA
