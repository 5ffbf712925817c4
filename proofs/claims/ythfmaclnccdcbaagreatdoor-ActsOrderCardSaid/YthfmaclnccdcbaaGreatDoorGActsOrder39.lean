/- Part of a proof. -/
import Derived.Test.YthfmaclnccdcbaaGreatDoorGActsOrder18
namespace PA
open Go Go.RowKit
def qw:Fm→List UInt8
 | .mk o n i k=>PA.encI o++PA.encI n++PA.encI i.length++dO i++PA.encI k.length
def nN (l:List Fm):List UInt8:=(l.map qw).flatten
theorem tq (a b:List Fm):nN (a++b)=nN a++nN b:=by unfold nN;rw[oO,List.flatten_append]
theorem QJ (a:List Fm) (f:Fm):nN (a++[f])=nN a++qw f:=by rw[tq];simp[nN]
theorem Ny:∀f:Fm,nN f.nodes=bZ f:=by
 intro f;refine Fm.ind (P:=fun f=>nN f.nodes=bZ f) (fun o n i k ih=>?_) f;have key:∀l:List Fm,(∀f∈l,nN f.nodes=bZ f)→nN (Fm.bQ l)=eu l:=by
  intro l
  induction l with
  | nil=>intro _;rfl
  | cons g l ihl=>
   intro h;rw[Fm.bQ,tq,eu,h g (List.mem_cons_self ..),ihl fun x hx=>h x (List.mem_cons_of_mem _ hx)]
 rw[Fm.nodes,bZ,←key k ih];show nN ([Fm.mk o n i k]++Fm.bQ k)=_;rw[tq];simp[nN,qw]
theorem Q9:∀(f:Fm),f.n64→∀g∈f.nodes,g.n64:=by
 intro f;refine Fm.ind (P:=fun f=>f.n64→∀g∈f.nodes,g.n64) (fun o n i k ih=>?_) f;intro h g hg;rw[Fm.nodes] at hg;rcases List.mem_cons.1 hg with rfl|hg
 ·exact h
 ·obtain⟨y,hy,QO⟩:=Fm.wO hg
  rw[Fm.n64] at h;exact ih y hy (Fm.KN h.2.2.2 hy) g QO
end PA
namespace Go.Proofs.YthfmaclnccdcbaaGreatDoor
open Go.RowKit PA
theorem oP (b:Bool) (w:World):Calls Tryz.prog 132 #[.bool b] w fun e w'=>e=.returned (.int .i64 (iQ b))∧w=w':=by
 cases b with
 | false=>
  go_enter Tryz.func132,Tryz.ntmps132
  go_wp2
  go_ret
  exact⟨rfl,rfl⟩
 | true=>
  go_enter Tryz.func132,Tryz.ntmps132
  go_wp2
  go_ret
  exact⟨rfl,rfl⟩
set_option maxRecDepth 100000 in
set_option maxHeartbeats 4000000 in
theorem zT {W w:World} {A:aC} (p:Nat) (bs:List UInt8) (a:Option Addr) (n c:Nat) (l:List Int) (hn:n=l.length) (hn2:l.length≤1048576) (hi:∀r∈l,-9223372036854775808≤r∧r≤9223372036854775807)
 (hc:∀w' B,Sat W w' (sep B A)→∀(k:Nat) r,l[k]?=some r→∃b o,a=some ⟨b,o,none⟩∧w'.cell? ⟨b,o+k,none⟩=some (.int .i64 r)) (h:Sat W w (sep (dM p bs) A)) (hb:bs.length≤1000000000):
 Calls Tryz.prog 131 #[.pointer (some ⟨p,0,none⟩),.slice a n c] w fun e w'=>e=.returned (.tuple #[])∧Sat W w' (sep (dM p (bs++fO l)) A):=by
 have hw1:IntKind.u64.wrap (n:Int)=(n:Nat):=wraps_u64 _ (by omega) (by omega);have hu:=xg p bs n (by omega) h (by omega);have hall:=pW l;have hle:=uM hn2 hi;have h0:pV l 0=Lib.uvarint n:=by unfold pV;rw[hn];simp
 rw[←h0] at hu;obtain⟨V,hV⟩:∃V:Nat→List UInt8,V=fun k=>bs++pV l k:=⟨_,rfl⟩
 have hV0:bs++pV l 0=V 0:=by rw[hV]
 have Yz:bs++fO l=V n:=by rw[hV];simp only;rw[hn,hall]
 have Ai:∀k r,l[k]?=some r→V (k+1)=V k++PA.encI r:=fun k r hr=>by rw[hV];simp only;rw[uN hr,List.append_assoc]
 have Ah:∀k,k≤n→(V k).length≤1073741824:=fun k hk=>by rw[hV];simp only[dF];have:=hle k;omega
 rw[hV0] at hu;rw[Yz];have HU:=ah hu;have HX:=ah (And.intro hn (And.intro hi (And.intro hc (And.intro Ai Ah))));have hn63:(n:Int)≤1048576:=by omega
 clear hu hn hn2 hi hc hb hall hle h0 h hV hV0 Yz Ai Ah
 go_enter Tryz.func131,Tryz.ntmps131
 go_wp2_with fail
 refine HU.out.mono ?_;rintro e w2 ⟨rfl,h1⟩;have H1:=ah h1;clear HU h1
 go_wp2_with fail
 go_loopw [13] (fun kv wr=>∃k:Nat,k≤n∧kv=.int .i64 k∧Sat W wr (sep (dM p (V k)) A)) (fun kv _=>n-(intOf kv).toNat)
 case atStart=>exact⟨0,Nat.zero_le _,rfl,H1.out⟩
 case round=>
  clear H1;obtain⟨k,hk,rfl,hS⟩:=hrel
  by_cases hkm:k<n
  ·obtain⟨x,hx⟩:∃x,l[k]?=some x:=⟨_,List.getElem?_eq_getElem (by have:=HX.out.1;omega)⟩
   obtain⟨g,o,rfl,hcc⟩:=HX.out.2.2.1 wr _ hS k x hx;have qQ:=HX.out.2.1 x (List.mem_of_getElem? hx);have hwi:=iJ p (V k) x qQ.1 qQ.2 hS (HX.out.2.2.2.2 k hk);rw[←HX.out.2.2.2.1 k x hx] at hwi;have Jo:=ah hwi;have hkI:(k:Int)<n:=by omega
   have HK:=ah hkm;clear hx qQ hwi hS hkm hk
   go_wp2_with fail
   refine Jo.out.mono ?_;rintro e w3 ⟨rfl,h3⟩;have H3:=ah h3;clear h3 Jo hcc
   go_wp2_with fail
   go_roundw
   case rel=>exact⟨k+1,by have:=HK.out;omega,by go_num,H3.out⟩
   case measure=>simp[intOf];have:=HK.out;omega
  ·obtain rfl:k=n:=by omega
   have H3:=ah hS;clear hS hkm hk
   go_wp2
   exact bodyPost_end (results_none rfl _ _ _) rfl ⟨rfl,H3.out⟩
end Go.Proofs.YthfmaclnccdcbaaGreatDoor
namespace PA
open Go Go.RowKit
theorem Xn {l:List Iv} (h:qG l=true):l.length≤32:=by
 unfold qG Ji at h;split at h
 ·simp at h
 ·split at h
  ·simp at h
  ·omega
theorem WJ {f:Fm} (h:jV f=0):∀g∈f.nodes,g.ins.length≤32:=by
 unfold jV Fm.valid at h;split at h
 ·cases h
 ·split at h
  ·rename_i hw
   rw[Fm.uD,List.all_eq_true] at hw;intro g hg;have h1:=hw g hg;obtain⟨o,n,i,k⟩:=g;rw[Fm.formed] at h1
   by_cases o2:o=2
   ·subst o2
    simp at h1;have:=Xn h1.2;exact this
   ·split at h1
    ·cases h1
    ·rename_i h2
     have:i=[]:=Classical.byContradiction fun hn=>h2 (.inl ⟨o2,hn⟩)
     subst this;exact Nat.zero_le _
  ·cases h
theorem wF {l:List Iv} (h:∀x∈l,∀r∈PA.dH x,-9223372036854775808≤r∧r≤9223372036854775807):(dO l).length≤90*l.length:=by
 induction l with
 | nil=>simp[dO]
 | cons x l ih=>
  have h1:=ih fun y hy=>h y (List.mem_cons_of_mem _ hy)
  have h2:=uM (l:=PA.dH x) (by simp[PA.dH]) (h x (List.mem_cons_self ..)) 8;have h3:pV (PA.dH x) 8=fO (PA.dH x):=pW (PA.dH x);unfold dO at h1 ⊢;rw[List.map_cons,List.flatten_cons,dF,List.length_cons];rw[h3] at h2;omega
def SN (g:Fm):Prop:=g.n64∧g.ins.length≤32∧g.kids.length≤1000000
theorem Rh {g:Fm} (h:SN g):(qw g).length≤3000:=by
 obtain⟨o,n,i,k⟩:=g;obtain⟨h1,h2,h3⟩:=h;rw[Fm.n64] at h1;have e1:=dY h1.1.1 h1.1.2;have e2:=dY h1.2.1.1 h1.2.1.2;have hi:i.length≤32:=h2;have hk:k.length≤1000000:=h3;have e3:=dY (r:=(i.length:Int)) (by omega) (by omega);have e4:=dY (r:=(k.length:Int)) (by omega) (by omega);have e5:=wF h1.2.2.1;unfold qw;simp only[dF];omega
def EZ (I:Mem) (C P:Nat) (tP:TypeId) (wr:Nat→List UInt8→aC) (xs:List FV):aC:=sep (fact ((nN (xs.map (·.2))).length≤3000*xs.length)) (sep (kn I) (sep (blk C (.cells #[.pointer (some ⟨P,0,none⟩)] tP (0,0))) (wr P (nN (xs.map (·.2))))))
end PA
namespace Go.Proofs.YthfmaclnccdcbaaGreatDoor
open Go.RowKit PA
attribute [local go_sem] Oper.semAt_some
attribute [local go_sem ↓] sS
set_option maxRecDepth 100000 in
set_option maxHeartbeats 16000000 in
theorem pF {W w:World} {A:aC} {I:Mem} (f:Fm) (p q:Int) (x1:Option Addr) (n1 c1:Nat) (x2:Option Addr) (n2 c2:Nat) (hr:rF.rel I [.int .i64 p,.int .i64 q,.slice x1 n1 c1,.slice x2 n2 c2] f) (hK:Jk f) (h64:f.n64) (h:Sat W w (sep (kn I) A)):
 Calls Tryz.prog 75 #[.agg #[.int .i64 p,.int .i64 q,.slice x1 n1 c1,.slice x2 n2 c2]] w fun e w'=>∃(a:Option Addr) (n c:Nat) (J:Mem),e=.returned (.tuple #[.slice a n c,.int .i64 (jV f)])∧Mem.le I J∧bT.rel J [.slice a n c] (gu f)∧Sat W w' (sep (kn J) A):=by
 have h1:=h.alloc (.cells #[.int .i64 p,.int .i64 q,.slice x1 n1 c1,.slice x2 n2 c2] 34);obtain⟨B,hB⟩:=aB (w.heap.size);obtain⟨w1,hw1⟩:=aB (w.alloc (.cells #[.int .i64 p,.int .i64 q,.slice x1 n1 c1,.slice x2 n2 c2] 34));rw[←hB,←hw1] at h1;obtain⟨k0,k1,k2,k3⟩:=kR h1;have HB:=ah (And.intro hB hw1);have H1:=ah h1;obtain⟨rv,dK⟩:=aB (jV f);obtain⟨E,hE⟩:=aB (gu f);have sH:Hid (∀w' A',Sat W w' (sep (kn I) A')→Calls Tryz.prog 118 #[.agg #[.int .i64 p,.int .i64 q,.slice x1 n1 c1,.slice x2 n2 c2]] w' fun e w''=>e=.returned (.int .i64 rv)∧Sat W w'' (sep (kn I) A')):=ah fun w' A' h'=>by rw[dK];exact lF f p q x1 n1 c1 x2 n2 c2 hr hK.1 hK.2 h'
 have rM:Hid ((rv≠0→E=[])∧(rv=0→E=bZ f)):=ah ⟨fun h0=>by rw[hE];unfold gu;rw[if_neg (by rw[←dK];exact h0)],fun h0=>by rw[hE];unfold gu;rw[if_pos (by rw[←dK];exact h0)]⟩;have Y8:Hid (rv=0→f.size≤96∧∀g∈f.nodes,SN g):=ah fun h0=>by
  rw[dK] at h0;refine⟨lq h0,fun g hg=>⟨Q9 f h64 g hg,WJ h0 g hg,?_⟩⟩;have h2:∀(l:List Fm),l.length≤Fm.sizes l:=by
   intro l
   induction l with
   | nil=>simp
   | cons g l ih=>
    rw[Fm.sizes,List.length_cons];have:1≤g.size:=by cases g;rw[Fm.size];omega
    omega
  have h3:∀(f:Fm),∀g∈f.nodes,g.kids.length≤f.size:=by
   intro f;refine Fm.ind (P:=fun f=>∀g∈f.nodes,g.kids.length≤f.size) (fun o n i k ih=>?_) f;intro g hg;rw[Fm.nodes] at hg;rw[Fm.size];rcases List.mem_cons.1 hg with rfl|hg
   ·have:=h2 k;show k.length≤_;omega
   ·obtain⟨y,hy,QO⟩:=Fm.wO hg
    have h4:=ih y hy g QO;have h5:=Fm.kW hy;omega
  have:=h3 f g hg;have:=lq h0;omega
 have HR:=ah hr;have XD:=ah (fun w' (A':aC) (h':Sat W w' A')=>tV (.int .i64 p) (.int .i64 q) (.slice x1 n1 c1) (.slice x2 n2 c2) h');rw[←dK,←hE];obtain⟨Po,dU⟩:∃P:Ending→World→Prop,P=fun e w'=>∃(a:Option Addr) (n c:Nat) (J:Mem),e=.returned (.tuple #[.slice a n c,.int .i64 rv])∧Mem.le I J∧bT.rel J [.slice a n c] E∧Sat W w' (sep (kn J) A):=⟨_,rfl⟩
 rw[←dU];have bI:=ah dU;have eg:=enters_of (P:=Tryz.prog) Tryz.func172 (by kernel_rfl) rfl;clear hr hK h64 h h1 hB hw1 dK hE dU
 by_cases hb0:rv=0
 ·subst hb0
  obtain⟨abS,hPn⟩:=Y8.out rfl;have hEf:=rM.out.2 rfl;have HPP:=ah (And.intro abS (And.intro hPn hEf));clear Y8 rM abS hPn hEf;refine (callsIn_wide (n:=5)).1 ?_;refine callsIn_of_wp_marks Tryz.func75 rfl trivial ?_ rfl;simp only[Tryz.ntmps75,List.size_toArray,List.length_cons,List.length_nil,Nat.reduceAdd,Nat.reduceSub,Array.replicate_succ,Array.replicate_zero,List.push_toArray,List.append_toArray,List.nil_append,List.cons_append];refine wpIn_wide.2 ?_
  go_upto_region 1 with (fail)
  rw[←HB.out.1,←HB.out.2]
  go_wp2_with fail
  refine (sH.out _ _ H1.out.p1).mono ?_;rintro e w2 ⟨rfl,h2⟩;have h3:=(h2.p1.alloc (.cells #[.slice none 0 0] 104)).alloc (.cells #[.pointer (some ⟨w2.heap.size,0,none⟩)] 140);rw[World.size_alloc] at h3;obtain⟨P,hP⟩:=aB (w2.heap.size);obtain⟨w3,hw3⟩:=aB ((w2.alloc (.cells #[.slice none 0 0] 104)).alloc (.cells #[.pointer (some ⟨w2.heap.size,0,none⟩)] 140));rw[←hw3,←hP] at h3;have HP:=ah (And.intro hP hw3);have h4:Sat W w3 (sep (blk B (.cells #[.int .i64 p,.int .i64 q,.slice x1 n1 c1,.slice x2 n2 c2] 34 (0,0))) (sep (EZ I (P+1) P 140 dM []) (sep (kn I) A))):=by
   have h5:Sat W w3 (sep (kn I) (sep (blk P (.cells #[.slice none 0 0] 104 (0,0))) (sep (blk (P+1) (.cells #[.pointer (some ⟨P,0,none⟩)] 140 (0,0))) (sep (blk B (.cells #[.int .i64 p,.int .i64 q,.slice x1 n1 c1,.slice x2 n2 c2] 34 (0,0))) A)))):=dJ h3;have h6:=Sat.gq (Sat.dup h5) 5 1;have h7:Sat W w3 (sep (blk P (.cells #[.slice none 0 0] 104 (0,0))) (sep (aT 5 1 none 0 0 (([]:List UInt8).map bv)) (sep (kn I) (sep (kn I) (sep (blk (P+1) (.cells #[.pointer (some ⟨P,0,none⟩)] 140 (0,0))) (sep (blk B (.cells #[.int .i64 p,.int .i64 q,.slice x1 n1 c1,.slice x2 n2 c2] 34 (0,0))) A)))))):=by
    show Sat W w3 (sep _ (sep (aT 5 1 none 0 0 []) _));unfold kn at h6 ⊢;simpa only[aA,ay,aj] using h6
   have h8:Sat W w3 (sep (fact ((nN (([]:List FV).map (·.2))).length≤3000*([]:List FV).length)) (sep (dM P (nN (([]:List FV).map (·.2)))) (sep (kn I) (sep (kn I) (sep (blk (P+1) (.cells #[.pointer (some ⟨P,0,none⟩)] 140 (0,0))) (sep (blk B (.cells #[.int .i64 p,.int .i64 q,.slice x1 n1 c1,.slice x2 n2 c2] 34 (0,0))) A)))))):=Sat.fact.2 ⟨by simp[nN],uU h7⟩;unfold EZ;simpa only[aA,ay,aj] using h8
  obtain⟨j0,j1,j2,j3⟩:=kR h4;have H4:=ah h4;clear h2 h3 h4 hP hw3 sH k0 k1 k2 k3
  go_upto_region 5 with (fail)
  rw[←HP.out.2,←HP.out.1]
  go_wp2_with fail
  refine (XD.out _ _ H4.out).mono ?_;rintro e w4 ⟨fb,rfl,h5⟩;have h6:Sat W w4 (sep (EZ I (P+1) P 140 dM []) (sep (blk fb (.cells #[.int .i64 p,.int .i64 q,.slice x1 n1 c1,.slice x2 n2 c2] 34 (0,0))) (sep (kn I) (sep (blk B (.cells #[.int .i64 p,.int .i64 q,.slice x1 n1 c1,.slice x2 n2 c2] 34 (0,0))) A)))):=dJ h5;clear h5 XD j0 j1 j2 j3 H4 HP
  go_wp2_with fail
  refine (wpIn_wide (n:=5)).1 ?_;refine l9 (F:=Fence.wide) (W:=W) rfl (by omega) (gf:=172) (lb:=#[.pointer (some ⟨fb,0,none⟩)]) rfl trivial eg (encs:=qN) (fun _=>rfl) (vP (A:=sep (blk B (.cells #[.int .i64 p,.int .i64 q,.slice x1 n1 c1,.slice x2 n2 c2] 34 (0,0))) A) SN 96 (5-1) f p q x1 n1 c1 x2 n2 c2 HR.out HPP.out.2.1 HPP.out.1 fb)
   (EZ I (P+1) P 140 dM) (fun _ _=>fact False) h6
   (fun y g t=>(t.setIfInBounds 18 (.agg y.1.toArray)).setIfInBounds 6 (.pointer (some ⟨g,0,none⟩)))
   (fun pre y g=>sep (fact (rF.rel I y.1 y.2∧SN y.2)) (sep (blk g (.cells y.1.toArray 34 (0,0))) (EZ I (P+1) P 140 dM pre))) ?assign ?body ?done ?stop
  case assign=>
   as_aux_lemma=>
   intro lp pre y w' X K hlen hS hK;have h4:Sat W w' (sep (EW I SN y) (sep (EZ I (P+1) P 140 dM pre) X)):=dJ hS;unfold EW at h4;obtain⟨hf,h6⟩:=Sat.fact.1 h4;obtain⟨y1,y2⟩:=y;obtain⟨yo,yn,yi,yk⟩:=y2;obtain⟨u1,d1,u2,d2,e,hi,hk⟩:=dR.1 hf.1;dsimp only at e hf hK;subst e;have h7:=h6.alloc (.cells #[.int .i64 yo,.int .i64 yn,.slice u1 yi.length d1,.slice u2 yk.length d2] 34);have h5:=hK w'.heap.size _ (show Sat W (w'.alloc (.cells #[.int .i64 yo,.int .i64 yn,.slice u1 yi.length d1,.slice u2 yk.length d2] 34)) (sep (sep (fact _) (sep _ _)) X) by rw[aj,aj];exact Sat.fact.2 ⟨hf,h7⟩);simp only[lsA,lsB,kJ] at h5;have H5:=ah h5;clear hK hS h4 h5 h6 h7 hf hi hk;dsimp only[qN] at *
   gi_wp2_with fail
   simpa using H5.out
  case body=>
   as_aux_lemma=>
   intro lp pre y g w' X hlen hS;simp only[lsA,lsB,kJ];rw[aj,aj] at hS;obtain⟨hf,h4⟩:=Sat.fact.1 hS;unfold EZ at h4;obtain⟨y1,y2⟩:=y;obtain⟨yo,yn,yi,yk⟩:=y2;obtain⟨u1,d1,u2,d2,e,hi,hk⟩:=dR.1 hf.1;dsimp only at e hf h4;subst e;have h5:Sat W w' (sep (fact ((nN (pre.map (·.2))).length≤3000*pre.length)) (sep (dM P (nN (pre.map (·.2)))) (sep (kn I) (sep (blk g (.cells #[.int .i64 yo,.int .i64 yn,.slice u1 yi.length d1,.slice u2 yk.length d2] 34 (0,0))) (sep (blk (P+1) (.cells #[.pointer (some ⟨P,0,none⟩)] 140 (0,0))) X))))):=dJ h4;obtain⟨hlb,h6⟩:=Sat.fact.1 h5;obtain⟨E0,hE0⟩:=aB (nN (pre.map (·.2)));rw[←hE0] at h6 hlb;have Ak:=hf.2.1;rw[Fm.n64] at Ak;obtain⟨ni,hni⟩:=aB (yi.length);obtain⟨nk,hnk⟩:=aB (yk.length);have abO:ni≤32:=by rw[hni];exact hf.2.2.1
   have ad4:nk≤1000000:=by rw[hnk];exact hf.2.2.2
   have hnb:=Rh hf.2;have hNB:qw (Fm.mk yo yn yi yk)=PA.encI yo++PA.encI yn++PA.encI ni++dO yi++PA.encI nk:=by rw[hni,hnk];rfl
   rw[←hni,←hnk] at h6;rw[←hni] at hi;obtain⟨E1,hE1⟩:=aB (E0++PA.encI yo);obtain⟨E2,hE2⟩:=aB (E1++PA.encI yn);obtain⟨E3,hE3⟩:=aB (E2++PA.encI ni);have e1:=dY Ak.1.1 Ak.1.2;have e2:=dY Ak.2.1.1 Ak.2.1.2;have e3:=dY (r:=(ni:Int)) (by omega) (by omega);have hl0:E0.length≤300000:=by omega
   have hl1:E1.length≤300010:=by rw[hE1,dF];omega
   have hl2:E2.length≤300020:=by rw[hE2,dF];omega
   have hl3:E3.length≤300030:=by rw[hE3,dF];omega
   have HW0:Hid (∀w' A',Sat W w' (sep (dM P E0) A')→Calls Tryz.prog 72 #[.pointer (some ⟨P,0,none⟩),.int .i64 yo] w' fun e w''=>e=.returned (.tuple #[])∧Sat W w'' (sep (dM P E1) A')):=ah fun w' A' h'=>by rw[hE1];exact iJ P E0 yo Ak.1.1 Ak.1.2 h' (by omega)
   have HW1:Hid (∀w' A',Sat W w' (sep (dM P E1) A')→Calls Tryz.prog 72 #[.pointer (some ⟨P,0,none⟩),.int .i64 yn] w' fun e w''=>e=.returned (.tuple #[])∧Sat W w'' (sep (dM P E2) A')):=ah fun w' A' h'=>by rw[hE2];exact iJ P E1 yn Ak.2.1.1 Ak.2.1.2 h' (by omega)
   have HW2:Hid (∀w' A',Sat W w' (sep (dM P E2) A')→Calls Tryz.prog 72 #[.pointer (some ⟨P,0,none⟩),.int .i64 (ni:Nat)] w' fun e w''=>e=.returned (.tuple #[])∧Sat W w'' (sep (dM P E3) A')):=ah fun w' A' h'=>by rw[hE3];exact iJ P E2 ni (by omega) (by omega) h' (by omega)
   have Jm:Hid (∀w' A',Sat W w' (sep (dM P (E3++dO yi)) A')→Calls Tryz.prog 72 #[.pointer (some ⟨P,0,none⟩),.int .i64 (nk:Nat)] w' fun e w''=>e=.returned (.tuple #[])∧Sat W w'' (sep (dM P (E0++qw (Fm.mk yo yn yi yk))) A')):=ah fun w' A' h'=>by
    have e6:E0++qw (Fm.mk yo yn yi yk)=(E3++dO yi)++PA.encI nk:=by rw[hNB,hE3,hE2,hE1];simp only[List.append_assoc]
    rw[e6];have hiv:=wF Ak.2.2.1;exact iJ P _ nk (by omega) (by omega) h' (by rw[dF];omega)
   have Y2:=ah (And.intro hi (And.intro Ak.2.2.1 (And.intro hni hl3)));have Z5:Hid ((nN ((pre++[((([.int .i64 yo,.int .i64 yn,.slice u1 ni d1,.slice u2 nk d2]:List Value),Fm.mk yo yn yi yk):FV)]).map (·.2))=E0++qw (Fm.mk yo yn yi yk))∧(E0++qw (Fm.mk yo yn yi yk)).length≤3000*(pre++[(([.int .i64 yo,.int .i64 yn,.slice u1 ni d1,.slice u2 nk d2],Fm.mk yo yn yi yk):FV)]).length):=ah ⟨by
    rw[oO,hE0];exact QJ _ _,by
    rw[dF,dF];simp only[List.length_cons,List.length_nil];omega⟩
   have afK:(ni:Int)≤32:=by omega
   have afL:(nk:Int)≤1000000:=by omega
   have hyl:yi.length=ni:=hni.symm;have ab3:yk.length=nk:=hnk.symm;simp only[hyl,ab3];obtain⟨k0,k1,k2,k3⟩:=kR h6.p2;have c0:w'.cell? ⟨P+1,0,none⟩=some (.pointer (some ⟨P,0,none⟩)):=h6.p3.cell 0;have H6:=ah h6;clear hS h4 h5 h6 hf hi hk hlb hE0 Ak hni hnk abO ad4 hnb hNB hE1 hE2 hE3 e1 e2 e3 hl0 hl1 hl2 hl3 hyl ab3 hlen
   gi_wp2_with fail
   refine⟨trivial,(callsIn_wide.2 (HW0.out _ _ H6.out)).mono ?_⟩;rintro e w2 ⟨rfl,h7⟩;clear k0 k1 k2 k3 c0 H6 HW0;obtain⟨k0,k1,k2,k3⟩:=kR h7.p2;have c0:w2.cell? ⟨P+1,0,none⟩=some (.pointer (some ⟨P,0,none⟩)):=h7.p3.cell 0;have H7:=ah h7;clear h7
   gi_wp2_with fail
   refine⟨trivial,(callsIn_wide.2 (HW1.out _ _ H7.out)).mono ?_⟩;rintro e w3 ⟨rfl,h8⟩;clear k0 k1 k2 k3 c0 H7 HW1;obtain⟨k0,k1,k2,k3⟩:=kR h8.p2;have c0:w3.cell? ⟨P+1,0,none⟩=some (.pointer (some ⟨P,0,none⟩)):=h8.p3.cell 0;have H8:=ah h8;clear h8
   gi_wp2_with fail
   refine⟨trivial,(callsIn_wide.2 (HW2.out _ _ H8.out)).mono ?_⟩;rintro e w4 ⟨rfl,h9⟩;clear k0 k1 k2 k3 c0 H8 HW2;obtain⟨k0,k1,k2,k3⟩:=kR h9.p2;have H9:=ah h9;clear h9
   gi_wp2_with fail
   clear k0 k1 k2 k3
   gi_loopw [35] (fun iv wr=>∃k:Nat,iv=.int .i64 k∧k≤ni∧Sat W wr (sep (dM P (E3++dO (yi.take k))) (sep (kn I) (sep (blk g (.cells #[.int .i64 yo,.int .i64 yn,.slice u1 ni d1,.slice u2 nk d2] 34 (0,0))) (sep (blk (P+1) (.cells #[.pointer (some ⟨P,0,none⟩)] 140 (0,0))) X))))) (fun iv _=>ni-(intOf iv).toNat)
   case atStart=>exact⟨0,rfl,by omega,by simpa[dO] using H9.out⟩
   case round=>
    obtain⟨k,rfl,hk,hS⟩:=hrel;clear H9
    by_cases hlt:k<ni
    ·as_aux_lemma=>
     have hltz:(k:Int)<(ni:Int):=by omega
     obtain⟨x,hx⟩:∃x,yi[k]?=some x:=⟨_,List.getElem?_eq_getElem (by have:=Y2.out.2.2.1;omega)⟩
     obtain⟨b,o,rfl,hcell⟩:=uV Y2.out.1 hx;obtain⟨j0,j1,j2,j3,j4,j5,j6,j7⟩:=hcell wr hS.p1.ext;have qQ:=Y2.out.2.1 x (List.mem_of_getElem? hx);have htk:=zL hx;have hbl:(E3++dO (yi.take k)).length≤310000:=by
      rw[dF];have h1:=FN yi k;have h2:=wF Y2.out.2.1;have:=Y2.out.2.2.1;have:=Y2.out.2.2.2;omega
     have hA:=hS.alloc (.cells #[.int .i64 x.ln,.int .i64 x.ld,.int .i64 x.hn,.int .i64 x.hd,.bool x.lo,.bool x.ho,.bool x.li,.bool x.hi] 159);obtain⟨GI,hGI⟩:=aB (wr.heap.size);obtain⟨w5,hw5⟩:=aB (wr.alloc (.cells #[.int .i64 x.ln,.int .i64 x.ld,.int .i64 x.hn,.int .i64 x.hd,.bool x.lo,.bool x.ho,.bool x.li,.bool x.hi] 159));rw[←hGI,←hw5] at hA;have hd:=hA.drew;obtain⟨wd,hwd⟩:=aB (w5.drew);rw[←hwd] at hd;have hS0:wd.cell? ⟨P+1,0,none⟩=some (.pointer (some ⟨P,0,none⟩))∧wd.cell? ⟨GI,0,none⟩=some (.int .i64 x.ln)∧wd.cell? ⟨GI,1,none⟩=some (.int .i64 x.ld)∧wd.cell? ⟨GI,2,none⟩=some (.int .i64 x.hn)∧wd.cell? ⟨GI,3,none⟩=some (.int .i64 x.hd)∧wd.cell? ⟨GI,4,none⟩=some (.bool x.lo)∧wd.cell? ⟨GI,5,none⟩=some (.bool x.ho)∧wd.cell? ⟨GI,6,none⟩=some (.bool x.li)∧wd.cell? ⟨GI,7,none⟩=some (.bool x.hi):=⟨hd.p4.cell 0,KE hd⟩
     have oD:=ah hwd;have HGI:=ah (And.intro hGI hw5);have HD:=ah hd;have HK:=ah (And.intro hlt (And.intro htk (And.intro qQ hbl)));clear hS hcell hx qQ htk hbl hA hGI hw5 hd hwd hlt hk
     gi_upto_region 13 with (fail)
     rw[←HGI.out.1,←HGI.out.2];clear j0 j1 j2 j3 j4 j5 j6 j7;refine AA rfl (fun w'=>w'.cell? ⟨P+1,0,none⟩=some (.pointer (some ⟨P,0,none⟩))∧w'.cell? ⟨GI,0,none⟩=some (.int .i64 x.ln)∧w'.cell? ⟨GI,1,none⟩=some (.int .i64 x.ld)∧w'.cell? ⟨GI,2,none⟩=some (.int .i64 x.hn)∧w'.cell? ⟨GI,3,none⟩=some (.int .i64 x.hd)∧w'.cell? ⟨GI,4,none⟩=some (.bool x.lo)∧w'.cell? ⟨GI,5,none⟩=some (.bool x.ho)∧w'.cell? ⟨GI,6,none⟩=some (.bool x.li)∧w'.cell? ⟨GI,7,none⟩=some (.bool x.hi)) [(0,.s),(1,.p),(2,.p),(3,.s),(4,.p),(5,.p),(6,.s),(7,.p),(8,.p),(9,.s),(10,.p),(11,.p),(12,.s),(13,.p),(14,.t),(16,.p),(17,.s),(19,.p),(20,.s),(22,.p),(23,.s),(15,.e true),(18,.e true),(21,.e true),(24,.e true),(25,.e true),(26,.e false)] (by kernel_rfl) ?_ ?_
     ·exact fun ⟨_,_,h⟩=>h
     rw[←oD.out];refine bF ?_
     (refine jH rfl rfl (fun K hK=>?_);go_simp)
     refine (oP _ _).mono ?_;rintro e wn ⟨rfl,rfl⟩
     (refine hK _ _ (fun _=>hS0) ?_;clear hK K;(try simp only[Act.put,lsA,lsB,kJ]))
     (refine jH rfl rfl (fun K hK=>?_);go_simp)
     refine (oP _ _).mono ?_;rintro e wn ⟨rfl,rfl⟩
     (refine hK _ _ (fun _=>hS0) ?_;clear hK K;(try simp only[Act.put,lsA,lsB,kJ]))
     (refine jH rfl rfl (fun K hK=>?_);go_simp)
     refine (oP _ _).mono ?_;rintro e wn ⟨rfl,rfl⟩
     (refine hK _ _ (fun _=>hS0) ?_;clear hK K;(try simp only[Act.put,lsA,lsB,kJ]))
     (refine jH rfl rfl (fun K hK=>?_);go_simp)
     refine (oP _ _).mono ?_;rintro e wn ⟨rfl,rfl⟩
     (refine hK _ _ (fun _=>hS0) ?_;clear hK K;(try simp only[Act.put,lsA,lsB,kJ]))
     have hbs:=Tq wd x.ln x.ld x.hn x.hd (iQ x.lo) (iQ x.ho) (iQ x.li) (iQ x.hi);have hA:=HD.out.alloc (.cells #[.int .i64 x.ln,.int .i64 x.ld,.int .i64 x.hn,.int .i64 x.hd,.int .i64 (iQ x.lo),.int .i64 (iQ x.ho),.int .i64 (iQ x.li),.int .i64 (iQ x.hi)] 3);obtain⟨GL,hGL⟩:=aB (wd.heap.size);obtain⟨we,hwe⟩:=aB (wd.alloc (.cells #[.int .i64 x.ln,.int .i64 x.ld,.int .i64 x.hn,.int .i64 x.hd,.int .i64 (iQ x.lo),.int .i64 (iQ x.ho),.int .i64 (iQ x.li),.int .i64 (iQ x.hi)] 3));rw[←hGL,←hwe] at hbs hA;have hA2:Sat W we (sep (dM P (E3++dO (yi.take k))) (sep (blk GL (.cells #[.int .i64 x.ln,.int .i64 x.ld,.int .i64 x.hn,.int .i64 x.hd,.int .i64 (iQ x.lo),.int .i64 (iQ x.ho),.int .i64 (iQ x.li),.int .i64 (iQ x.hi)] 3 (0,0))) (sep (blk GI (.cells #[.int .i64 x.ln,.int .i64 x.ld,.int .i64 x.hn,.int .i64 x.hd,.bool x.lo,.bool x.ho,.bool x.li,.bool x.hi] 159 (0,0))) (sep (kn I) (sep (blk g (.cells #[.int .i64 yo,.int .i64 yn,.slice (some ⟨b,o,none⟩) ni d1,.slice u2 nk d2] 34 (0,0))) (sep (blk (P+1) (.cells #[.pointer (some ⟨P,0,none⟩)] 140 (0,0))) X)))))):=dJ hA;have hS1:we.cell? ⟨P+1,0,none⟩=some (.pointer (some ⟨P,0,none⟩))∧we.cell? ⟨GI,0,none⟩=some (.int .i64 x.ln)∧we.cell? ⟨GI,1,none⟩=some (.int .i64 x.ld)∧we.cell? ⟨GI,2,none⟩=some (.int .i64 x.hn)∧we.cell? ⟨GI,3,none⟩=some (.int .i64 x.hd)∧we.cell? ⟨GI,4,none⟩=some (.bool x.lo)∧we.cell? ⟨GI,5,none⟩=some (.bool x.ho)∧we.cell? ⟨GI,6,none⟩=some (.bool x.li)∧we.cell? ⟨GI,7,none⟩=some (.bool x.hi):=⟨hA2.p5.cell 0,KE hA2.p2⟩
     have hcall:=zT P (E3++dO (yi.take k)) (some ⟨GL,0,none⟩) 8 8 (PA.dH x) rfl (by simp[PA.dH]) HK.out.2.2.1 (fun w' B' hs j r hr=>⟨GL,0,rfl,by
      have hc:=hs.p1.cell j;rw[Nat.zero_add,hc]
      match j,hr with
      | 0,hr|1,hr|2,hr|3,hr|4,hr|5,hr|6,hr|7,hr=>simp[PA.dH] at hr;subst hr;rfl
      | j+8,hr=>simp[PA.dH] at hr⟩) hA2 (by have:=HK.out.2.2.2;omega)
     rw[List.append_assoc,←HK.out.2.1] at hcall;have HC:=ah hcall;clear hA hA2 hcall hGL hwe HD
     (refine jH rfl rfl (fun K hK=>?_);go_simp)
     (refine hK _ _ (fun _=>hS1) ?_;clear hK K;(try simp only[Act.put,lsA,lsB,kJ]))
     (refine jH rfl rfl (fun K hK=>?_);go_simp)
     refine HC.out.mono ?_;rintro e w6 ⟨rfl,h10⟩;have Fh:Hid (Sat W w6 (sep (dM P (E3++dO (yi.take (k+1)))) (sep (kn I) (sep (blk g (.cells #[.int .i64 yo,.int .i64 yn,.slice (some ⟨b,o,none⟩) ni d1,.slice u2 nk d2] 34 (0,0))) (sep (blk (P+1) (.cells #[.pointer (some ⟨P,0,none⟩)] 140 (0,0))) X))))):=ah (by
      have h11:Sat W w6 (sep (blk GL (.cells #[.int .i64 x.ln,.int .i64 x.ld,.int .i64 x.hn,.int .i64 x.hd,.int .i64 (iQ x.lo),.int .i64 (iQ x.ho),.int .i64 (iQ x.li),.int .i64 (iQ x.hi)] 3 (0,0))) (sep (blk GI (.cells #[.int .i64 x.ln,.int .i64 x.ld,.int .i64 x.hn,.int .i64 x.hd,.bool x.lo,.bool x.ho,.bool x.li,.bool x.hi] 159 (0,0))) (sep (dM P (E3++dO (yi.take (k+1)))) (sep (kn I) (sep (blk g (.cells #[.int .i64 yo,.int .i64 yn,.slice (some ⟨b,o,none⟩) ni d1,.slice u2 nk d2] 34 (0,0))) (sep (blk (P+1) (.cells #[.pointer (some ⟨P,0,none⟩)] 140 (0,0))) X)))))):=dJ h10;exact h11.forget.forget)
     clear h10 HC hS0 hS1;refine dQ ?_;clear hK K;refine bF ?_;refine dN ?_
     gi_wp2_with fail
     go_roundw
     case rel=>exact⟨k+1,by go_num,by have:=HK.out.1;omega,Fh.out⟩
     case measure=>simp[intOf];have:=HK.out.1;omega
    ·obtain rfl:k=ni:=by omega
     have hS2:Sat W wr (sep (dM P (E3++dO yi)) (sep (kn I) (sep (blk g (.cells #[.int .i64 yo,.int .i64 yn,.slice u1 k d1,.slice u2 nk d2] 34 (0,0))) (sep (blk (P+1) (.cells #[.pointer (some ⟨P,0,none⟩)] 140 (0,0))) X)))):=by
      rw[List.take_of_length_le (by have:=Y2.out.2.2.1;omega)] at hS;exact hS
     obtain⟨k0,k1,k2,k3⟩:=kR hS2.p2;have c0:wr.cell? ⟨P+1,0,none⟩=some (.pointer (some ⟨P,0,none⟩)):=hS2.p3.cell 0;have H2:=ah hS2;clear hS hS2 hlt hk
     gi_wp2_with fail
     refine⟨trivial,(callsIn_wide.2 (Jm.out _ _ H2.out)).mono ?_⟩;rintro e w5 ⟨rfl,h10⟩;have Fh:Hid (Sat W w5 (sep (EZ I (P+1) P 140 dM (pre++[([.int .i64 yo,.int .i64 yn,.slice u1 k d1,.slice u2 nk d2],Fm.mk yo yn yi yk)])) X)):=ah (by
      unfold EZ;rw[Z5.out.1];have h11:Sat W w5 (sep (fact ((E0++qw (Fm.mk yo yn yi yk)).length≤3000*(pre++[(([.int .i64 yo,.int .i64 yn,.slice u1 k d1,.slice u2 nk d2],Fm.mk yo yn yi yk):FV)]).length)) (sep (kn I) (sep (blk (P+1) (.cells #[.pointer (some ⟨P,0,none⟩)] 140 (0,0))) (sep (dM P (E0++qw (Fm.mk yo yn yi yk))) X)))):=Sat.fact.2 ⟨Z5.out.2,by
       have h12:Sat W w5 (sep (blk g (.cells #[.int .i64 yo,.int .i64 yn,.slice u1 k d1,.slice u2 nk d2] 34 (0,0))) (sep (kn I) (sep (blk (P+1) (.cells #[.pointer (some ⟨P,0,none⟩)] 140 (0,0))) (sep (dM P (E0++qw (Fm.mk yo yn yi yk))) X)))):=dJ h10;exact h12.forget⟩
      simpa only[aA,ay,aj] using h11)
     clear h10 H2 k0 k1 k2 k3 c0
     gi_wp2_with fail
     exact Fh.out
  case done=>
   as_aux_lemma=>
   intro D xs w' hxs hS;have hen:nN (xs.map (·.2))=E:=by rw[hxs,HPP.out.2.2,Ny]
   unfold EZ at hS;rw[hen] at hS;have h7:Sat W w' (sep (fact (E.length≤3000*xs.length)) (sep (dM P E) (sep (blk D (.deferred (some []))) (sep (kn I) (sep (blk (P+1) (.cells #[.pointer (some ⟨P,0,none⟩)] 140 (0,0))) (sep (kn I) (sep (blk B (.cells #[.int .i64 p,.int .i64 q,.slice x1 n1 c1,.slice x2 n2 c2] 34 (0,0))) A))))))):=dJ hS;obtain⟨hlb,h8⟩:=Sat.fact.1 h7;have hxl:xs.length≤96:=by
    have h1:xs.length=f.nodes.length:=by rw[←hxs,List.length_map]
    rw[h1,Fm.uY];exact HPP.out.1
   have oD:=ah (oq P E h8 (by omega));have c0:w'.cell? ⟨P+1,0,none⟩=some (.pointer (some ⟨P,0,none⟩)):=h8.p3.cell 0;clear hS h7 h8 hlb hxl hen hxs h6 HR
   go_wp2_with fail
   refine oD.out.mono ?_;rintro e w5 ⟨a,c,rfl,h9⟩;have h10:Sat W w5 (sep (blk D (.deferred (some []))) (sep (aT 5 1 a E.length c (E.map bv)) (sep (kn I) (sep (dM P E) (sep (kn I) (sep (blk (P+1) (.cells #[.pointer (some ⟨P,0,none⟩)] 140 (0,0))) (sep (blk B (.cells #[.int .i64 p,.int .i64 q,.slice x1 n1 c1,.slice x2 n2 c2] 34 (0,0))) A))))))):=dJ h9;have hD:=h10.aO;have h11:=(h10.putObj (.deferred none)).drop;obtain⟨J,hle,hrb,h12⟩:=iy h11 rfl;have HF:Hid (Mem.le I J∧bT.rel J [.slice a E.length c] E∧Sat W (w5.putObj D (.deferred none)) (sep (kn J) A)):=ah ⟨hle,hrb,by
    have h13:Sat W (w5.putObj D (.deferred none)) (sep (dM P E) (sep (kn I) (sep (blk (P+1) (.cells #[.pointer (some ⟨P,0,none⟩)] 140 (0,0))) (sep (blk B (.cells #[.int .i64 p,.int .i64 q,.slice x1 n1 c1,.slice x2 n2 c2] 34 (0,0))) (sep (kn J) A))))):=dJ h12;obtain⟨a',n',c',-,CZ⟩:=qp h13;exact CZ.drop.drop.drop.drop.drop⟩
   clear h9 h10 h11 hle hrb h12 oD c0
   go_wp2_with fail
   refine⟨by simp,.inl ⟨_,_,rfl,run_takeDeferred hD,?_⟩⟩;refine⟨.tuple #[.slice a E.length c,.int .i64 0],?_,?_⟩
   ·simp[results,Tryz.results75,go_sem]
   ·rw[bI.out]
    exact⟨a,E.length,c,J,rfl,HF.out.1,HF.out.2.1,HF.out.2.2⟩
  case stop=>
   intro D c xs w' _ hS;exact absurd (Sat.fact.1 (show Sat W w' (sep (fact False) _) from hS.p1)).1 (fun h=>h)
 ·have GX:=ah (rM.out.1 hb0)
  have hb1:(rv !=0)=true:=by simpa using hb0
  have hb2:(rv==0)=false:=by simpa using hb0
  clear rM hb0 Y8;refine (callsIn_wide (n:=5)).1 ?_;refine callsIn_of_wp_marks Tryz.func75 rfl trivial ?_ rfl;simp only[Tryz.ntmps75,List.size_toArray,List.length_cons,List.length_nil,Nat.reduceAdd,Nat.reduceSub,Array.replicate_succ,Array.replicate_zero,List.push_toArray,List.append_toArray,List.nil_append,List.cons_append];refine wpIn_wide.2 ?_
  go_upto_region 1 with (fail)
  rw[←HB.out.1,←HB.out.2]
  go_wp2_with fail
  refine (sH.out _ _ H1.out.p1).mono ?_;rintro e w2 ⟨rfl,h2⟩;have HF:=ah h2.p1.drop;clear h2 sH k0 k1 k2 k3
  go_wp2_with fail
  refine⟨.tuple #[.slice none 0 0,.int .i64 rv],?_,?_⟩
  ·simp[results,Tryz.results75,go_sem]
  ·rw[bI.out]
   exact⟨none,0,0,I,rfl,Mem.le_refl I,by rw[GX.out];exact iZ I,HF.out⟩
end Go.Proofs.YthfmaclnccdcbaaGreatDoor
