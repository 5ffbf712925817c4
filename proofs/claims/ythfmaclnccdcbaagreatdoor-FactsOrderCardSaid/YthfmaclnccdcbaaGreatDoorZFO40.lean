/- Part of a proof. -/
import Derived.Test.YthfmaclnccdcbaaGreatDoorZFO39
namespace Go.Proofs.YthfmaclnccdcbaaGreatDoor
open Go.RowKit PA
attribute [local go_sem ↓] aY bI aV
end Go.Proofs.YthfmaclnccdcbaaGreatDoor
namespace PA
open Go Go.RowKit
def lC:List Pa→List Pa→Bool
 | [],[]=>true
 | x::xs,y::ys=>bC x&&(bC y&&(decide (iI x=iI y)&&lC xs ys))
 | _,_=>false
theorem Iu:∀{l m:List Pa},l.length≠m.length→lC l m=false
 | [],[],h=>absurd rfl h
 | [],_::_,_=>rfl
 | _::_,[],_=>rfl
 | x::xs,y::ys,h=>by
  rw[lC,Iu (l:=xs) (m:=ys) (fun e=>h (by rw[oP,oP,e]))];simp
theorem QB {l m:List Pa} {i:Nat} {x y:Pa} (hx:l[i]?=some x) (hy:m[i]?=some y):lC (l.drop i) (m.drop i)=(bC x&&(bC y&&(decide (iI x=iI y)&&lC (l.drop (i+1)) (m.drop (i+1))))):=by
 obtain⟨h1,e1⟩:=qM hx;obtain⟨h2,e2⟩:=qM hy;rw[List.drop_eq_getElem_cons h1,List.drop_eq_getElem_cons h2,e1,e2,lC]
theorem Fv:∀{l m:List Pa},l.length=m.length→(∀x∈l,bC x=true)→(∀x∈m,bC x=true)→l.map iI=m.map iI→lC l m=true
 | [],[],_,_,_,_=>rfl
 | [],_::_,h,_,_,_=>by simp at h
 | _::_,[],h,_,_,_=>by simp at h
 | x::xs,y::ys,h,h1,h2,h3=>by
  simp only[mM,List.cons.injEq] at h3;rw[lC,h1 x (List.mem_cons_self ..),h2 y (List.mem_cons_self ..),h3.1,Fv (by simpa using h) (fun z hz=>h1 z (tY _ hz)) (fun z hz=>h2 z (tY _ hz)) h3.2];simp
end PA
namespace Go.Proofs.YthfmaclnccdcbaaGreatDoor
open Go.RowKit PA
theorem QA {W w:World} {A:aB} {I:Mem} (v u:Value) (x y:List UInt8) (h:Sat W w (sep (kn I) A)) (h1:bZ.rel I [v] x) (h2:bZ.rel I [u] y):
 Calls Tryz.prog 71 #[v,u] w fun e w'=>e=.returned (.bool (decide (x=y)))∧Sat W w' (sep (kn I) A):=by
 have t1:Sat W w (sep (bZ.is [u] y) (sep (kn I) A)):=h.tell h2;have t2:Sat W w (sep (bZ.is [v] x) (sep (kn I) (sep (bZ.is [u] y) A))):=t1.p1.tell h1;have t3:Sat W w (sep (bZ.is [v] x) (sep (bZ.is [u] y) (sep (kn I) A))):=dI t2;refine (Fq v u x y t3).mono ?_;rintro e w' ⟨rfl,h4⟩;exact⟨rfl,h4.drop.drop⟩
attribute [local go_sem ↓] aY bI aV
set_option maxRecDepth 100000 in
set_option maxHeartbeats 8000000 in
theorem Qz {W w:World} {A:aB} {I:Mem} (a b:Option Addr) (n m c d:Nat) (Ls Ms:List (Ac×Pa)) (hn:n=Ls.length) (hm:m=Ms.length) (hn2:n≤65536) (hm2:m≤65536) (hc:dF a (bY (Ls.map (·.1))) I) (hc2:dF b (bY (Ms.map (·.1))) I) (hA:∀p∈Ls,lT I p.1 p.2∧YK p.2∧uj p.2) (hB:∀p∈Ms,lT I p.1 p.2∧YK p.2∧uj p.2) (h:Sat W w (sep (kn I) A)):
 Calls Tryz.prog 23 #[.slice a n c,.slice b m d] w fun e w'=>∃J,e=.returned (.bool (lC (Ls.map (·.2)) (Ms.map (·.2))))∧Mem.le I J∧Sat W w' (sep (kn J) A):=by
 have n63:(n:Int)≤65536:=by omega
 have m63:(m:Int)≤65536:=by omega
 have kY:Hid (∀p,p∈Ls∨p∈Ms→∀w' A' J,Mem.le I J→Sat W w' (sep (kn J) A')→Calls Tryz.prog 27 #[.agg p.1.cells.toArray] w' fun e w''=>∃(b:Option Addr) (m d:Nat) (J2:Mem),e=.returned (.tuple #[.slice b m d,.int .i64 (if bC p.2=true then 0 else 1)])∧Mem.le J J2∧bZ.rel J2 [.slice b m d] (iI p.2)∧Sat W w'' (sep (kn J2) A')):=ah fun p hp w' A' J hl h'=>by
  have hp':lT I p.1 p.2∧YK p.2∧uj p.2:=hp.elim (hA p) (hB p);exact Gp p.1 p.2 (hp'.1.mono hl) hp'.2.1 hp'.2.2 h'
 obtain⟨R,hR⟩:=aC (lC (Ls.map (·.2)) (Ms.map (·.2)));obtain⟨Po,dS⟩:∃P:Ending→World→Prop,P=fun e w'=>∃J,e=.returned (.bool R)∧Mem.le I J∧Sat W w' (sep (kn J) A):=⟨_,rfl⟩
 rw[←hR,←dS];have bK:=ah dS;have H:=ah h;by_cases hnm:n=m;case neg=>
  have HR:Hid (R=false):=ah (by rw[hR];exact Iu (by rw[List.length_map,List.length_map];omega));have hz:((n:Int)==(m:Int))=false:=by rw[beq_eq_false_iff_ne];omega
  clear hn hm hc hc2 hA hB h dS hR hnm hn2 hm2 kY;go_enter Tryz.func23,Tryz.ntmps23;go_wp2;rw[bK.out,HR.out];exact⟨I,rfl,bW I,H.out⟩
 case pos=>
 subst hnm;have HN:=ah (aH hn hm);have HC:=ah (aH hc hc2);have HR:Hid (R=lC ((Ls.map (·.2)).drop 0) ((Ms.map (·.2)).drop 0)):=ah hR;have HR0:Hid (lC ((Ls.map (·.2)).drop n) ((Ms.map (·.2)).drop n)=true):=ah (by
  rw[List.drop_eq_nil_of_le (by rw[List.length_map];omega),List.drop_eq_nil_of_le (by rw[List.length_map];omega)];rfl)
 clear hn hn2 hm2 hc hc2 hA hB h dS hR hm m63;go_enter Tryz.func23,Tryz.ntmps23;go_wp2_with fail;go_loopw [5] (fun kv wr=>∃(i:Nat) (J:Mem),kv=.int .i64 i∧i≤n∧Hid (Mem.le I J∧R=lC ((Ls.map (·.2)).drop i) ((Ms.map (·.2)).drop i))∧Sat W wr (sep (kn J) A)) (fun kv _=>n-(intOf kv).toNat)
 case atStart=>exact⟨0,I,rfl,by omega,ah ⟨bW I,HR.out⟩,H.out⟩
 case round=>
  obtain⟨i,J,rfl,hi,HJ,hS⟩:=hrel;clear H HR;by_cases hlt:i<n
  ·have hltz:(i:Int)<(n:Int):=by omega
   obtain⟨p,hp⟩:∃p,Ls[i]?=some p:=⟨_,iM (by have:=HN.out;omega)⟩
   obtain⟨q,hq⟩:∃q,Ms[i]?=some q:=⟨_,iM (by have:=HN.out;omega)⟩
   have hpm:p∈Ls:=mZ hp;have hqm:q∈Ms:=mZ hq;have key:∀{Ks:List (Ac×Pa)} {r:Ac×Pa} {a':Option Addr},Ks[i]?=some r→dF a' (bY (Ks.map (·.1))) I→∃b o,a'=some ⟨b,o,none⟩∧∀w',Ext I w'→Sem.run Tryz.prog (mg (.pointer (some ⟨b,o+i*19,none⟩))) w'=.ok (.agg r.1.cells.toArray) w':=fun {Ks r a'} hr hc'=>by
    obtain⟨hil,hre⟩:=qM hr;have hne:Ks.map (·.1)≠[]:=fun e=>by
     have h1:=congrArg List.length e;rw[List.length_map,List.length_nil] at h1;omega
    obtain⟨b1,o1,e1,hl1⟩:=VE hc' hne;refine⟨b1,o1,e1,fun w' he=>?_⟩;have h1:=hl1 w' he i (by rw[List.length_map];exact hil)
    rwa [List.getElem_map,hre] at h1
   obtain⟨b1,o1,hba,Zk⟩:=key hp HC.out.1;obtain⟨b2,o2,hbb,Zl⟩:=key hq HC.out.2;have HL2:=ah Zl;have k1:=Zk wr (sD HJ.out.1 hS.ext);have HE:=ah (aH (kY.out p (.inl hpm)) (kY.out q (.inr hqm)));have KF:=ah hlt;have HS:=ah hS;have HX:Hid (R=(bC p.2&&(bC q.2&&(decide (iI p.2=iI q.2)&&lC ((Ls.map (·.2)).drop (i+1)) ((Ms.map (·.2)).drop (i+1)))))):=ah (by
    rw[HJ.out.2];exact QB (by rw[List.getElem?_map,hp];rfl) (by rw[List.getElem?_map,hq];rfl))
   obtain⟨x,hx⟩:=aC (iI p.2);obtain⟨y,hy⟩:=aC (iI q.2);obtain⟨vx,WI⟩:=aC (bC p.2);obtain⟨vy,hvy⟩:=aC (bC q.2);obtain⟨ex,hex⟩:∃e:Int,e=if bC p.2=true then 0 else 1:=⟨_,rfl⟩
   obtain⟨ey,hey⟩:∃e:Int,e=if bC q.2=true then 0 else 1:=⟨_,rfl⟩
   rw[←hx,←hy,←hex,←hey] at HE;rw[←hx,←hy,←WI,←hvy] at HX;rw[←WI] at hex;rw[←hvy] at hey;have HEX:=ah (aH hex hey);subst hba;subst hbb;clear hp hq hpm hqm Zk Zl hlt hi hS key hx hy WI hvy hex hey;go_upto_region 6 with fail;go_wp2_with fail;refine (HE.out.1 _ _ J HJ.out.1 HS.out).mono ?_;rintro e w2 ⟨x1,m1,e1,J1,rfl,hle1,hr1,h2⟩;have HJ1:=ah (aH (eG HJ.out.1 hle1) hr1);have k2:=HL2.out w2 (sD HJ1.out.1 h2.ext);have H2:=ah h2;clear hle1 hr1 h2 k1 HS;go_upto_region 7 with fail;go_wp2_with fail;refine (HE.out.2 _ _ J1 HJ1.out.1 H2.out).mono ?_;rintro e w3 ⟨x2,m2,e2,J2,rfl,hle2,hr2,h3⟩;have HJ2:=ah (aH (eG HJ1.out.1 hle2) (aH (bZ.mono hle2 HJ1.out.2) hr2));have H3:=ah h3;clear hle2 hr2 h3 k2 H2 HE;cases vx with
   | false=>
    have HF:Hid (R=false):=ah HX.out;obtain rfl:ex=1:=HEX.out.1;go_wp2;rw[bK.out,HF.out];exact⟨J2,rfl,HJ2.out.1,H3.out⟩
   | true=>
   obtain rfl:ex=0:=HEX.out.1;cases vy with
   | false=>
    have HF:Hid (R=false):=ah HX.out;obtain rfl:ey=1:=HEX.out.2;go_wp2;rw[bK.out,HF.out];exact⟨J2,rfl,HJ2.out.1,H3.out⟩
   | true=>
   obtain rfl:ey=0:=HEX.out.2;have hsb:=QA (.slice x1 m1 e1) (.slice x2 m2 e2) x y H3.out HJ2.out.2.1 HJ2.out.2.2;have HXX:Hid (R=(decide (x=y)&&lC ((Ls.map (·.2)).drop (i+1)) ((Ms.map (·.2)).drop (i+1)))):=ah HX.out;obtain⟨sb,adT⟩:=aC (decide (x=y));rw[←adT] at hsb HXX;have HSB:=ah hsb;clear hsb adT HX;go_upto_region 8 with fail;go_wp2_with fail;refine HSB.out.mono ?_;rintro e w4 ⟨rfl,h4⟩;have H4:=ah h4;clear h4 H3 HSB;cases sb with
   | false=>
    have HF:Hid (R=false):=ah HXX.out;go_wp2;rw[bK.out,HF.out];exact⟨J2,rfl,HJ2.out.1,H4.out⟩
   | true=>
   go_wp2;go_roundw;case rel=>exact⟨i+1,J2,by go_num,by have:=KF.out;omega,ah ⟨HJ2.out.1,HXX.out⟩,H4.out⟩
   case measure=>simp[intOf];have:=KF.out;omega
  ·obtain rfl:i=n:=by omega
   have HS:=ah hS;have HF:Hid (R=true):=ah (HJ.out.2.trans HR0.out);clear hS hlt hi;go_wp2;rw[bK.out,HF.out];exact⟨J,rfl,HJ.out.1,HS.out⟩
end Go.Proofs.YthfmaclnccdcbaaGreatDoor
namespace PA
open Go Go.RowKit
theorem xq {α:Type} {r:α→α→Prop} (anti:∀a b,r a b→r b a→a=b):∀l m:List α,l.Pairwise r→m.Pairwise r→l.Perm m→l=m
 | [],m,_,_,h=>h.nil_eq
 | a::l,[],_,_,h=>by have:=h.length_eq;simp at this
 | a::l,b::m,h1,h2,h=>by
  have ha:a∈b::m:=h.mem_iff.1 (List.mem_cons_self ..);have hb:b∈a::l:=h.mem_iff.2 (List.mem_cons_self ..);have e:a=b:=by
   rcases List.mem_cons.1 ha with e|ha
   ·exact e
   ·rcases List.mem_cons.1 hb with e|hb
    ·exact e.symm
    ·exact anti a b (List.rel_of_pairwise_cons h1 hb) (List.rel_of_pairwise_cons h2 ha)
  subst e;rw[xq anti l m h1.of_cons h2.of_cons ((List.perm_cons a).1 h)]
theorem Ub (x y:List Int) (h1:kN x y≤0) (h2:kN y x≤0):x=y:=Jr x y (by have:=Af x y;omega)
theorem WV {x y:Pa} (h:Ae x=Ae y):iI x=iI y:=(TJ (by rw[nP,h];exact Hy _)).2.2
theorem Np:∀{l m:List Pa},l.map Ae=m.map Ae→l.map iI=m.map iI
 | [],[],_=>rfl
 | [],_::_,h=>by simp at h
 | _::_,[],h=>by simp at h
 | x::l,y::m,h=>by
  simp only[mM,List.cons.injEq] at h;rw[mM,mM,WV h.1,Np h.2]
theorem YO {g:Ac→Pa} {ys zs:List Ac} (h1:Asc (fun x y=>mV (g x) (g y)) ys) (h2:Asc (fun x y=>mV (g x) (g y)) zs) (hp:ys.Perm zs):(ys.map g).map iI=(zs.map g).map iI:=by
 refine Np (xq (r:=fun a b=>kN a b≤0) Ub _ _ ?_ ?_ ((hp.map g).map Ae))
 ·rw[List.map_map,List.pairwise_map]
  exact h1.imp fun {x y} h=>(by show kN (Ae (g x)) (Ae (g y))≤0;rw[←nP];exact h)
 ·rw[List.map_map,List.pairwise_map]
  exact h2.imp fun {x y} h=>(by show kN (Ae (g x)) (Ae (g y))≤0;rw[←nP];exact h)
theorem VK {g:Ac→Pa} {ys zs:List Ac} (h1:Asc (fun x y=>mV (g x) (g y)) ys) (h2:Asc (fun x y=>mV (g x) (g y)) zs) (hp:ys.Perm zs) (hv:∀z∈ys,bC (g z)=true):lC (ys.map g) (zs.map g)=true:=by
 refine Fv (by rw[List.length_map,List.length_map,hp.length_eq]) (fun x hx=>?_) (fun x hx=>?_) (YO h1 h2 hp)
 ·obtain⟨z,hz,rfl⟩:=List.mem_map.1 hx
  exact hv z hz
 ·obtain⟨z,hz,rfl⟩:=List.mem_map.1 hx
  exact hv z (hp.mem_iff.2 hz)
structure pR (J:Mem) (N:Nat) (g:Ac→Pa) (zl:List Ac):Prop where
 is:∀z∈zl,lT J z (g z)
 sp:∀z∈zl,wO N (g z)
 v:∀z∈zl,bC (g z)=true
theorem pR.mono {I J:Mem} {N:Nat} {g:Ac→Pa} {zl:List Ac} (h:pR I N g zl) (hl:Mem.le I J):pR J N g zl:=⟨fun z hz=>(h.is z hz).mono hl,h.sp,h.v⟩
theorem pR.sub {I:Mem} {N:Nat} {g:Ac→Pa} {zl ys:List Ac} (h:pR I N g zl) (hs:∀z∈ys,z∈zl):pR I N g ys:=⟨fun z hz=>h.is z (hs z hz),fun z hz=>h.sp z (hs z hz),fun z hz=>h.v z (hs z hz)⟩
theorem gen_of {J:Mem} {N:Nat} {Rs:List (Ac×Pa)} (hs:Q8 J N Rs) (hv:∀p∈Rs,bC p.2=true):∃g,pR J N g (Rs.map (·.1)):=by
 have h2:∀z,∃x,z∈Rs.map (·.1)→lT J z x∧wO N x∧bC x=true:=fun z=>by
  by_cases hz:z∈Rs.map (·.1)
  ·obtain⟨p,hp,rfl⟩:=List.mem_map.1 hz
   exact⟨p.2,fun _=>⟨(hs p hp).1,(hs p hp).2,hv p hp⟩⟩
  ·exact⟨Pa.zero,fun h=>absurd h hz⟩
 obtain⟨g,hg⟩:=Classical.axiomOfChoice h2;exact⟨g,fun z hz=>(hg z hz).1,fun z hz=>(hg z hz).2.1,fun z hz=>(hg z hz).2.2⟩
def xZ (g:Ac→Pa) (zl:List Ac):List (Ac×Pa):=zl.map fun z=>(z,g z)
theorem yZ (g:Ac→Pa) (zl:List Ac):(xZ g zl).map (·.1)=zl:=by unfold xZ;rw[List.map_map];exact List.map_id zl
theorem NQ (g:Ac→Pa) (zl:List Ac):(xZ g zl).map (·.2)=zl.map g:=by unfold xZ;rw[List.map_map];rfl
theorem pR.ZI {J:Mem} {N:Nat} {g:Ac→Pa} {zl:List Ac} (h:pR J N g zl):Q8 J N (xZ g zl)∧∀p∈xZ g zl,bC p.2=true:=by
 constructor
 ·intro p hp
  obtain⟨z,hz,rfl⟩:=List.mem_map.1 hp;exact⟨h.is z hz,h.sp z hz⟩
 ·intro p hp
  obtain⟨z,hz,rfl⟩:=List.mem_map.1 hp;exact h.v z hz
end PA
