/- Part of a proof. -/
import Derived.Test.YthfmaclnccdcbaaGreatDoorZFO38
import Derived.Test.YthfmaclnccdcbaaGreatDoorZFO44
namespace PA
open Go Go.RowKit
theorem XH {x:Pa} {t:Int} (h:bC x=true) (h0:0≤t) (h1:t≤1099511627776):bC {x with n:=t}=true:=by
 have e:bC {x with n:=t}=(aP x.k 0 21&&(aP x.d 0 131072&&(aP t 0 1099511627776&&(aP x.f 0 4095&&(iH (ku x)&&aQ x))))):=rfl;unfold bC at h;simp only[Bool.and_eq_true] at h;rw[e,h.1,h.2.1,h.2.2.2.1,h.2.2.2.2.1,h.2.2.2.2.2];simp[aP,h0,h1]
theorem wO.tick {N:Nat} {x:Pa} (h:wO N x) {t:Int} (ht:jP t):wO N {x with n:=t}:=by
 obtain⟨n1,n2,n3,n4,n5,n6,n7,n8,n9,n10,n11⟩:=(Qo x).1 h.ns;exact⟨(Qo _).2 ⟨n1,n2,ht,n4,n5,n6,n7,n8,n9,n10,n11⟩,h.td,h.tn,h.tc,h.cl,h.en,h.ea,h.fx⟩
theorem lT.tick {I:Mem} {z:Ac} {x:Pa} (h:lT I z x) (t:Int):lT I {z with n:=t} {x with n:=t}:=
 ⟨h.k,h.d,rfl,h.f,h.o,h.p,h.q,h.u,h.m,h.sn,h.sd,h.td,h.tc,h.cl,h.ea,h.fx⟩
structure OO (I:Mem) (T:Int) (Rs:List (Ac×Pa)):Prop where
 sp:Q8 I 2 Rs
 v:∀p∈Rs,bC p.2=true
 n0:∀p∈Rs,0≤p.1.n∧p.1.n≤T
 up:Rs.Pairwise fun p q=>p.1.n≤q.1.n
theorem OO.mono {I J:Mem} {T:Int} {Rs:List (Ac×Pa)} (h:OO I T Rs) (hl:Mem.le I J):OO J T Rs:=⟨h.sp.mono hl (Nat.le_refl _),h.v,h.n0,h.up⟩
theorem OO.nil (I:Mem) (T:Int):OO I T []:=⟨fun _ h=>(by cases h),fun _ h=>(by cases h),fun _ h=>(by cases h),.nil⟩
theorem OO.snoc {I:Mem} {T t:Int} {Rs:List (Ac×Pa)} (h:OO I T Rs) (hT:0≤T) (ht:T≤t) (h1:t≤1000000) {z:Ac} {x:Pa} (hA:lT I z x) (hs:wO 2 x) (hv:bC x=true):OO I t (Rs++[({z with n:=t},{x with n:=t})]):=by
 refine⟨h.sp.append fun p hp=>?_,fun p hp=>?_,fun p hp=>?_,?_⟩
 ·rw[vW hp];exact⟨hA.tick t,hs.tick ⟨by omega,by omega⟩⟩
 ·rcases List.mem_append.1 hp with hp|hp
  ·exact h.v p hp
  ·rw[vW hp];exact XH hv (by omega) (by omega)
 ·rcases List.mem_append.1 hp with hp|hp
  ·have:=h.n0 p hp;exact⟨this.1,by omega⟩
  ·rw[vW hp];exact⟨by simp only;omega,by simp only;omega⟩
 ·refine List.pairwise_append.2 ⟨h.up,List.pairwise_singleton _ _,fun p hp q hq=>?_⟩
  rw[vW hq];have:=(h.n0 p hp).2;simp only;omega
end PA
namespace Go.Proofs.YthfmaclnccdcbaaGreatDoor
open Go.RowKit PA
section
attribute [local go_sem ↓] aY bI aV ji
set_option maxRecDepth 100000 in
set_option maxHeartbeats 8000000 in
theorem NW {W w:World} {A:aB} {I:Mem} (a:Option Addr) (n c:Nat) (Ls:List (Ac×Pa)) (hn:n=Ls.length) (wG:n≤14) (hc:dF a (bY (Ls.map (·.1))) I) (hs:Q8 I 2 Ls) (hv:∀p∈Ls,bC p.2=true) (vb:Value) (m:List Int) (hm:OM I vb m) (h:Sat W w (sep (kn I) A)):
 Calls Tryz.prog 37 #[.slice a n c,vb] w fun e w'=>∃(a':Option Addr) (c':Nat) (Rs:List (Ac×Pa)),e=.returned (.slice a' n c')∧n=Rs.length∧OO I 28 Rs∧Sat W w' (sep (aT 36 19 a' n c' (bY (Rs.map (·.1)))) (sep (kn I) A)):=by
 have HN:=ah (aH hn (aH hc (aH hs (aH hv hm))));have hn63:(n:Int)≤14:=by omega
 have H:=ah (h.fV 36 19);obtain⟨Po,dS⟩:∃P:Ending→World→Prop,P=fun e w'=>∃(a':Option Addr) (c':Nat) (Rs:List (Ac×Pa)),e=.returned (.slice a' n c')∧n=Rs.length∧OO I 28 Rs∧Sat W w' (sep (aT 36 19 a' n c' (bY (Rs.map (·.1)))) (sep (kn I) A)):=⟨_,rfl⟩
 rw[←dS];have bK:=ah dS;clear hn wG hc hs hv hm h dS;go_enter Tryz.func37,Tryz.ntmps37;go_wp2_with fail;go_loopw [5,6,7] (fun ov tv kv wr=>∃(i:Nat) (a':Option Addr) (c':Nat) (t:Int) (Rs:List (Ac×Pa)),ov=.slice a' i c'∧tv=.int .i64 t∧kv=.int .i64 i∧i≤n∧0≤t∧t≤2*(i:Int)∧Hid (i=Rs.length∧OO I t Rs)∧Sat W wr (sep (aT 36 19 a' i c' (bY (Rs.map (·.1)))) (sep (kn I) A))) (fun _ _ kv _=>n-(intOf kv).toNat)
 case atStart=>exact⟨0,none,0,0,[],rfl,rfl,rfl,by omega,by omega,by omega,ah ⟨rfl,OO.nil I 0⟩,H.out⟩
 case round=>
  obtain⟨i,a',c',t,Rs,rfl,rfl,rfl,hi,ht0,ht1,HR,hS⟩:=hrel;clear H;by_cases hlt:i<n
  ·have hltz:(i:Int)<(n:Int):=by omega
   obtain⟨p,hp⟩:∃p,Ls[i]?=some p:=⟨_,iM (by have:=HN.out.1;omega)⟩
   obtain⟨z,x⟩:=p;obtain⟨hA,hsx⟩:=HN.out.2.2.1 _ (mZ hp);have WI:=HN.out.2.2.2.1 _ (mZ hp);dsimp only at hA hsx WI;obtain⟨b0,o0,hab,hld⟩:=Q9 (i:=i) (z:=z) HN.out.2.1 (by rw[List.getElem?_map,hp];rfl);have k1:=hld wr hS.p1.ext;obtain⟨w4,hst,h4⟩:=zn z hS iW rfl;have hpk:=Ii vb m i 3 (by omega) (by omega) (by omega) HN.out.2.2.2.2 (h4.p2:Sat W w4 (sep (kn I) _));have hpb:=bF m i 3 (by omega);obtain⟨r,hr⟩:=aC (dH m i 3);rw[←hr] at hpk hpb;have e4:=ay h4 2 _ rfl;have k4:=e4.1;have f4:=e4.2;have h5:Sat W (w4.setCell ⟨wr.heap.size,2,none⟩ (.int .i64 (t+r))) (sep (blk wr.heap.size (.cells ({z with n:=t+r}:Ac).cells.toArray 36 (0,0))) (sep (aT 36 19 a' i c' (bY (Rs.map (·.1)))) (sep (kn I) A))):=h4.setCell 2 (.int .i64 (t+r));obtain⟨w5,hw5⟩:=aC (w4.setCell ⟨wr.heap.size,2,none⟩ (.int .i64 (t+r)));rw[←hw5] at h5;obtain⟨z',hz'⟩:∃z':Ac,z'={z with n:=t+r}:=⟨_,rfl⟩
   rw[←hz'] at h5;have hl5:=gB (fun i v hv=>(ay h5 i v hv).1);have hbs:=Rl z' w5;have h6:=h5.drop.alloc (.cells z'.cells.toArray 36);obtain⟨M,hM⟩:=aC (w5.heap.size);obtain⟨w6,hw6⟩:=aC (w5.alloc (.cells z'.cells.toArray 36));rw[←hM,←hw6] at hbs h6;have hsrc:∀b',some (⟨M,0,none⟩:Addr)=some b'→∀j u,z'.cells[j]?=some u→w6.cell? (b'.add j)=some u:=by
    intro b' hb j u hu;cases hb;rw[show (⟨M,0,none⟩:Addr).add j=⟨M,j,none⟩ by unfold Addr.add;split<;>simp_all];exact (ay h6 j u hu).1
   have oD:=ah hsrc;have H6:=ah h6.p1;have HPK:=ah hpk;obtain⟨x',hx'⟩:∃x':Pa,x'={x with n:=t+r}:=⟨_,rfl⟩
   have rP:Hid (OO I (t+r) (Rs++[(z',x')])∧i<n∧bY ((Rs++[(z',x')]).map (·.1))=bY (Rs.map (·.1))++z'.cells∧i+1=(Rs++[(z',x')]).length):=ah ⟨by
    rw[hz',hx'];exact HR.out.2.snoc ht0 (by omega) (by omega) hA hsx WI,hlt,by rw[qy,iZ];simp[bY],by rw[dM,List.length_singleton,←HR.out.1]⟩
   have HW:=ah (aH hw5 hw6);obtain⟨tn,htn⟩:=aC (t+r);have htb:0≤tn∧tn≤2*((i+1:Nat):Int):=by omega
   have HTN:=ah htn;have ajs:t≤28:=by omega
   subst hab;rw[←htn] at rP HW;clear hp hA hsx WI hld hpk hr htn e4 h4 h5 h6 hsrc hw5 hw6 hM hz' hx' hlt hi hS ht1;go_upto_region 6 with fail;go_upto_region 7 with fail;go_wp2_with fail;refine HPK.out.mono ?_;rintro e w7 ⟨rfl,rfl⟩;clear HPK hst k1;go_upto_region 8 with fail;rw[←HTN.out];go_upto_region 9 with fail;rw[←HW.out.1];go_wp2_with (at_builtin;((try rw[←HW.out.2]);refine aK rfl _ _ 23 rfl 36 19 248 _ Tryz.underlying23 qw rfl rfl H6.out rfl z'.cells rfl (by simp) oD.out z'.one (by omega) (by unfold maxLen;omega) ?_))
   intro a8 c8 w8 h8;have H8:Hid (Sat W w8 (sep (aT 36 19 a8 (i+1) c8 (bY ((Rs++[(z',x')]).map (·.1)))) (sep (kn I) A))):=ah (by
    rw[rP.out.2.2.1];exact h8.p1.drop)
   clear h8 H6 oD hbs hl5 k4 f4;go_wp2_with fail;go_roundw;case rel=>exact⟨i+1,a8,c8,tn,_,rfl,rfl,by go_num,by have:=rP.out.2.1;omega,htb.1,htb.2,ah ⟨rP.out.2.2.2,rP.out.1⟩,H8.out⟩
   case measure=>simp[intOf];have:=rP.out.2.1;omega
  ·obtain rfl:i=n:=by omega
   have HF:Hid (OO I 28 Rs):=ah ⟨HR.out.2.sp,HR.out.2.v,fun p hp=>by have:=HR.out.2.n0 p hp;exact⟨this.1,by omega⟩,HR.out.2.up⟩;have HS:=ah hS;clear hS hlt hi;go_wp2;rw[bK.out];exact⟨a',c',Rs,rfl,HR.out.1,HF.out,HS.out⟩
end
theorem Fz {W w:World} {A:aB} {I:Mem} (va:Value) (l:List Int) (most:Nat) (hm:most≤14) (hv:OM I va l) (h:Sat W w (sep (kn I) A)):
 Calls Tryz.prog 14 #[va,.int .i64 most] w (YI W I A most):=by
 refine (JX va l most hm hv h).mono ?_;rintro e w' ⟨a,n,c,zl,ps,J,rfl,hn,abA,hn0,hle,hall,adL,h1⟩;have hsp:=Zw hall adL (by omega);obtain⟨Ls,hL,hp⟩:=NM (P:=fun z p=>lT J z p∧wO 2 p∧bC p=true) zl fun z hz=>by
  obtain⟨i,hi,rfl⟩:=List.mem_iff_getElem.1 hz;obtain⟨p,p1,p2,p3,-⟩:=hsp i _ (iM hi);exact⟨p,p1,p2,p3⟩
 subst hL;exact⟨a,n,c,Ls,J,rfl,by rw[hn,List.length_map],abA,hn0,hle,fun p hp'=>⟨(hp p hp').1,(hp p hp').2.1⟩,fun p hp'=>(hp p hp').2.2,h1⟩
end Go.Proofs.YthfmaclnccdcbaaGreatDoor
