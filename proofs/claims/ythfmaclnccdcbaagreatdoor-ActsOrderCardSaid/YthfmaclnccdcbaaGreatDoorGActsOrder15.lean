/- Part of a proof. -/
import Derived.Test.YthfmaclnccdcbaaGreatDoorGActsOrder13
import Derived.Laws.EntriesVeiled
import Derived.Sort.CutIn
namespace Go.Proofs.YthfmaclnccdcbaaGreatDoor
open Go.RowKit PA
set_option maxRecDepth 100000 in
set_option maxHeartbeats 4000000 in
theorem Il {W w:World} {A:aC} {I:Mem} (f:Fm) (p q:Int) (x1:Option Addr) (n1 c1:Nat) (x2:Option Addr) (n2 c2:Nat) (hr:rF.rel I [.int .i64 p,.int .i64 q,.slice x1 n1 c1,.slice x2 n2 c2] f) (Yv:∀x∈f.ins,Jg x) (h:Sat W w (sep (kn I) A)):
 Calls Tryz.prog 163 #[.agg #[.int .i64 p,.int .i64 q,.slice x1 n1 c1,.slice x2 n2 c2]] w fun e w'=>e=.returned (.bool (f.formed qG))∧Sat W w' (sep (kn I) A):=by
 obtain⟨o,n,i,k⟩:=f;obtain⟨x1',c1',x2',c2',e,hi,hk⟩:=dR.1 hr;simp only[List.cons.injEq,Value.int.injEq,Value.slice.injEq,true_and,and_true] at e;obtain⟨rfl,rfl,⟨rfl,rfl,rfl⟩,⟨rfl,rfl,rfl⟩⟩:=e;have h1:=h.alloc (.cells #[.int .i64 p,.int .i64 q,.slice x1 i.length c1,.slice x2 k.length c2] 34);obtain⟨B,hB⟩:=aB (w.heap.size);obtain⟨w1,hw1⟩:=aB (w.alloc (.cells #[.int .i64 p,.int .i64 q,.slice x1 i.length c1,.slice x2 k.length c2] 34));rw[←hB,←hw1] at h1;obtain⟨k0,k1,k2,k3⟩:=kR h1;have HB:=ah (And.intro hB hw1);have H1:=ah h1;have GZ:Hid (∀w' A',Sat W w' (sep (kn I) A')→Calls Tryz.prog 198 #[.slice x1 i.length c1] w' fun e w''=>e=.returned (.int .i64 (Ji i))∧Sat W w'' (sep (kn I) A')):=ah fun w' A' h'=>KL x1 c1 i hi Yv h'
 obtain⟨rv,dK⟩:=aB ((Fm.mk p q i k).formed qG);rw[←dK];obtain⟨nk,hnk⟩:=aB (k.length);obtain⟨ni,hni⟩:=aB (i.length);obtain⟨sv,hsv⟩:=aB (Ji i);have ji:rv=if (p≠2∧ni≠0)∨(p≠2∧p≠1∧q≠0) then false
  else if p=0 then decide (nk=0)
  else if p=1 then decide (nk=0)&&decide (0≤q)&&decide (q<64)
  else if p=2 then decide (nk=0)&&decide (0≤q)&&decide (q<32)&&decide (sv=0)
  else if p=3∨p=6 then decide (nk=1)
  else decide (p=4)||decide (p=5):=by
  have e1:(i≠[])↔ni≠0:=by rw[hni];cases i<;>simp
  have e2:k.isEmpty=decide (nk=0):=by rw[hnk];cases k<;>simp
  rw[dK,Fm.formed,e2];unfold qG;rw[←hsv,←hnk];simp only[e1]
 have bM:=ah ji;rw[←hsv] at GZ;rw[←hnk] at k3 H1 ⊢;rw[←hni] at k2 H1 GZ ⊢;simp only[←hni,←hnk] at HB;have tX:=(aI hk).2.2;have Ub:=(aI hi).2.2;rw[←hnk] at tX;rw[←hni] at Ub;clear Yv hr h hi hk h1 hB hw1 dK ji hnk hni hsv
 by_cases o2:p=2
 ·subst o2
  by_cases z0:nk=0
  ·subst z0
   by_cases z1:q<0
   ·as_aux_lemma=>
    go_enter Tryz.func163,Tryz.ntmps163
    go_upto_region 1 with (fail)
    rw[←HB.out.1,←HB.out.2]
    go_wp2
    go_ret
    exact⟨by rw[bM.out];simp;omega,H1.out.drop⟩
   ·by_cases z2:q<32
    ·as_aux_lemma=>
     have z1':0≤q:=by omega
     clear z1
     go_enter Tryz.func163,Tryz.ntmps163
     go_upto_region 1 with (fail)
     rw[←HB.out.1,←HB.out.2]
     go_wp2_with fail
     refine (GZ.out _ _ H1.out.p1).mono ?_;rintro e w2 ⟨rfl,h2⟩;have H2:=ah h2.p1.drop;clear h2 GZ k0 k1 k2 k3
     go_wp2
     go_ret
     exact⟨by rw[bM.out];(simp[z1',z2]);(try rfl),H2.out⟩
    ·as_aux_lemma=>
     have z1':0≤q:=by omega
     have z2':32≤q:=by omega
     clear z1 z2
     go_enter Tryz.func163,Tryz.ntmps163
     go_upto_region 1 with (fail)
     rw[←HB.out.1,←HB.out.2]
     go_wp2
     go_ret
     exact⟨by rw[bM.out];simp;omega,H1.out.drop⟩
  ·as_aux_lemma=>
   have z0':((nk:Int)==0)=false:=by simp;omega
   go_enter Tryz.func163,Tryz.ntmps163
   go_upto_region 1 with (fail)
   rw[←HB.out.1,←HB.out.2]
   go_wp2
   go_ret
   exact⟨by rw[bM.out];simp[z0],H1.out.drop⟩
 ·by_cases n0:ni=0
  ·subst n0
   by_cases o1:p=1
   ·subst o1
    by_cases z0:nk=0
    ·subst z0
     by_cases z1:q<0
     ·as_aux_lemma=>
      go_enter Tryz.func163,Tryz.ntmps163
      go_upto_region 1 with (fail)
      rw[←HB.out.1,←HB.out.2]
      go_wp2
      go_ret
      exact⟨by rw[bM.out];simp;omega,H1.out.drop⟩
     ·by_cases z2:q<64
      ·as_aux_lemma=>
       have z1':0≤q:=by omega
       clear z1
       go_enter Tryz.func163,Tryz.ntmps163
       go_upto_region 1 with (fail)
       rw[←HB.out.1,←HB.out.2]
       go_wp2
       go_ret
       exact⟨by rw[bM.out];simp[z1',z2],H1.out.drop⟩
      ·as_aux_lemma=>
       have z1':0≤q:=by omega
       have z2':64≤q:=by omega
       clear z1 z2
       go_enter Tryz.func163,Tryz.ntmps163
       go_upto_region 1 with (fail)
       rw[←HB.out.1,←HB.out.2]
       go_wp2
       go_ret
       exact⟨by rw[bM.out];simp;omega,H1.out.drop⟩
    ·as_aux_lemma=>
     have z0':((nk:Int)==0)=false:=by simp;omega
     go_enter Tryz.func163,Tryz.ntmps163
     go_upto_region 1 with (fail)
     rw[←HB.out.1,←HB.out.2]
     go_wp2
     go_ret
     exact⟨by rw[bM.out];simp[z0],H1.out.drop⟩
   ·by_cases q0:q=0
    ·subst q0
     by_cases p0:p=0
     ·as_aux_lemma=>
      subst p0
      go_enter Tryz.func163,Tryz.ntmps163
      go_upto_region 1 with (fail)
      rw[←HB.out.1,←HB.out.2]
      go_wp2
      go_ret
      exact⟨by rw[bM.out];(try simp);(first|done|exact Qw _|exact Qx _),H1.out.drop⟩
     ·by_cases p3:p=3
      ·as_aux_lemma=>
       subst p3
       go_enter Tryz.func163,Tryz.ntmps163
       go_upto_region 1 with (fail)
       rw[←HB.out.1,←HB.out.2]
       go_wp2
       go_ret
       exact⟨by rw[bM.out];(try simp);(first|done|exact Qw _|exact Qx _),H1.out.drop⟩
      ·by_cases p6:p=6
       ·as_aux_lemma=>
        subst p6
        go_enter Tryz.func163,Tryz.ntmps163
        go_upto_region 1 with (fail)
        rw[←HB.out.1,←HB.out.2]
        go_wp2
        go_ret
        exact⟨by rw[bM.out];(try simp);(first|done|exact Qw _|exact Qx _),H1.out.drop⟩
       ·by_cases p4:p=4
        ·as_aux_lemma=>
         subst p4
         go_enter Tryz.func163,Tryz.ntmps163
         go_upto_region 1 with (fail)
         rw[←HB.out.1,←HB.out.2]
         go_wp2
         go_ret
         exact⟨by rw[bM.out];simp,H1.out.drop⟩
        ·by_cases p5:p=5
         ·as_aux_lemma=>
          subst p5
          go_enter Tryz.func163,Tryz.ntmps163
          go_upto_region 1 with (fail)
          rw[←HB.out.1,←HB.out.2]
          go_wp2
          go_ret
          exact⟨by rw[bM.out];simp,H1.out.drop⟩
         ·as_aux_lemma=>
          go_enter Tryz.func163,Tryz.ntmps163
          go_upto_region 1 with (fail)
          rw[←HB.out.1,←HB.out.2]
          go_wp2
          go_ret
          exact⟨by rw[bM.out];simp[o2,o1,p0,p3,p6,p4,p5],H1.out.drop⟩
    ·as_aux_lemma=>
     have q0':(p !=2&&p !=1&&q !=0)=true:=by simp[o2,o1,q0]
     have q1':(p !=2)=true:=by simpa using o2
     have q2':(p !=1)=true:=by simpa using o1
     have q3':(q !=0)=true:=by simpa using q0
     go_enter Tryz.func163,Tryz.ntmps163
     go_upto_region 1 with (fail)
     rw[←HB.out.1,←HB.out.2]
     go_wp2
     go_ret
     exact⟨by rw[bM.out];simp[o2,o1,q0],H1.out.drop⟩
  ·as_aux_lemma=>
   have n0':(0:Int)<(ni:Int):=by omega
   go_enter Tryz.func163,Tryz.ntmps163
   go_upto_region 1 with (fail)
   rw[←HB.out.1,←HB.out.2]
   go_wp2
   go_ret
   exact⟨by rw[bM.out];simp[o2,n0],H1.out.drop⟩
end Go.Proofs.YthfmaclnccdcbaaGreatDoor
namespace PA
open Go Go.RowKit
theorem qZ {n m:Nat} {P:Program} {l:Nat} {f:FuncId} {tmps:Array Value} {assign body:Code} {w:World} {R:Ending→World→Prop} (h:RoundIn Fence.wide n P l f tmps assign body w R):RoundIn Fence.wide m P l f tmps assign body w R:=
 ⟨h.1,fun c cs _=>h.2 c cs (room_wide _)⟩
theorem yA {n m:Nat} {P:Program} {l:Nat} {args:Array Value} {w:World} {R:Ending→World→Prop} (h:YieldAt Fence.wide n P l args w R):YieldAt Fence.wide m P l args w R:=by
 obtain⟨fn,tmps,assign,body,hy,hR⟩:=h;exact⟨fn,tmps,assign,body,hy,qZ hR⟩
abbrev FV:=List Value×Fm
def qN (x:FV):Array Value:=#[.agg x.1.toArray]
def EW (I:Mem) (Pn:Fm→Prop) (x:FV):aC:=fact (rF.rel I x.1 x.2∧Pn x.2)
theorem Fm.Dv {k:List Fm} {g x:Fm} (hg:g∈k) (hx:x∈g.nodes):x∈Fm.bQ k:=by
 induction k with
 | nil=>cases hg
 | cons f k ih=>
  rw[Fm.bQ];rcases List.mem_cons.1 hg with rfl|hg
  ·exact List.mem_append_left _ hx
  ·exact List.mem_append_right _ (ih hg)
theorem Fm.uY:∀f:Fm,f.nodes.length=f.size:=by
 intro f;refine Fm.ind (P:=fun f=>f.nodes.length=f.size) (fun o n i k ih=>?_) f;have key:∀l:List Fm,(∀g∈l,g.nodes.length=g.size)→(Fm.bQ l).length=Fm.sizes l:=by
  intro l
  induction l with
  | nil=>intro _;rfl
  | cons g l ihl=>
   intro h;rw[Fm.bQ,Fm.sizes,dF,h g (by simp),ihl fun x hx=>h x (by simp[hx])]
 rw[Fm.nodes,Fm.size,List.length_cons,key k ih]
theorem Fm.KP (l:List Fm) (f:Fm):Fm.bQ (l++[f])=Fm.bQ l++f.nodes:=by
 induction l with
 | nil=>simp[Fm.bQ]
 | cons g l ih=>rw[List.cons_append,Fm.bQ,Fm.bQ,ih,List.append_assoc]
theorem Fm.KQ (l:List Fm) (i:Nat) {f:Fm} (h:l[i]?=some f):Fm.bQ (l.take (i+1))=Fm.bQ (l.take i)++f.nodes:=by
 rw[List.take_add_one,h];exact Fm.KP _ _
theorem Fm.Ip (l:List Fm) (i:Nat):Fm.bQ l=Fm.bQ (l.take i)++Fm.bQ (l.drop i):=by
 have key:∀a b:List Fm,Fm.bQ (a++b)=Fm.bQ a++Fm.bQ b:=by
  intro a b
  induction a with
  | nil=>rfl
  | cons g a ih=>rw[List.cons_append,Fm.bQ,Fm.bQ,ih,List.append_assoc]
 rw[←key,List.take_append_drop]
def Fg (W:World) (R Z:List FV→aC) (pre:List FV) (ys:List Fm) (B:aC) (b:Bool) (e:Ending) (w':World):Prop:=
 (e=.returned (.bool b)∧∃xs:List FV,xs.map (·.2)=ys∧Sat W w' (sep (R (pre++xs)) B))∨(e=.returned (.bool (!b))∧∃(xs:List FV) (rest:List Fm),xs.map (·.2)++rest=ys∧xs≠[]∧Sat W w' (sep (Z (pre++xs)) B))
end PA
namespace Go.Proofs.YthfmaclnccdcbaaGreatDoor
open Go.RowKit PA
attribute [local go_sem] Oper.semAt_some
def kD (lp yb wb:Nat):aC:=sep (blk yb (.cells #[.func (.yield lp) #[] #[]] 185 (0,0))) (blk wb (.cells #[.func (.func 173) #[] #[.pointer (some ⟨yb,0,none⟩),.pointer (some ⟨wb,0,none⟩)]] 185 (0,0)))
theorem AQ {W w:World} {A:aC} {lp yb wb:Nat} (h:Sat W w (sep (kD lp yb wb) A)):w.cell? ⟨yb,0,none⟩=some (.func (.yield lp) #[] #[])∧w.cell? ⟨wb,0,none⟩=some (.func (.func 173) #[] #[.pointer (some ⟨yb,0,none⟩),.pointer (some ⟨wb,0,none⟩)]):=by
 unfold kD at h;rw[aj] at h;exact⟨h.cell 0,h.p1.cell 0⟩
def Down (W:World) (I:Mem) (Pn:Fm→Prop) (R Z:List FV→aC) (lp yb wb N:Nat) (f:Fm):Prop:=
 ∀(p q:Int) (x1:Option Addr) (n1 c1:Nat) (x2:Option Addr) (n2 c2:Nat) (pre:List FV) (w:World) (A:aC),rF.rel I [.int .i64 p,.int .i64 q,.slice x1 n1 c1,.slice x2 n2 c2] f→(∀g∈f.nodes,Pn g)→pre.length+f.size≤N →
  Sat W w (sep (R pre) (sep (kD lp yb wb) (sep (kn I) A))) →
  Calls Tryz.prog 173 #[.agg #[.int .i64 p,.int .i64 q,.slice x1 n1 c1,.slice x2 n2 c2],.pointer (some ⟨yb,0,none⟩),.pointer (some ⟨wb,0,none⟩)] w (Fg W R Z pre f.nodes (sep (kD lp yb wb) (sep (kn I) A)) true)
theorem Wv {W:World} {I:Mem} {Pn:Fm→Prop} {R Z:List FV→aC} {lp yb wb N:Nat} {f:Fm} (hD:Down W I Pn R Z lp yb wb N f) (p q:Int) (x1:Option Addr) (n1 c1:Nat) (x2:Option Addr) (n2 c2:Nat) (pre:List FV) (w:World) (A:aC) (hr:rF.rel I [.int .i64 p,.int .i64 q,.slice x1 n1 c1,.slice x2 n2 c2] f) (hP:∀g∈f.nodes,Pn g) (hN:pre.length+f.size≤N)
 (h:Sat W w (sep (R pre) (sep (kD lp yb wb) (sep (kn I) A)))):
 Calls Tryz.prog 175 #[.agg #[.int .i64 p,.int .i64 q,.slice x1 n1 c1,.slice x2 n2 c2],.pointer (some ⟨wb,0,none⟩)] w (Fg W R Z pre f.nodes (sep (kD lp yb wb) (sep (kn I) A)) false):=by
 have h1:=h.alloc (.cells #[.int .i64 p,.int .i64 q,.slice x1 n1 c1,.slice x2 n2 c2] 34);obtain⟨B,hB⟩:=aB (w.heap.size);obtain⟨w1,hw1⟩:=aB (w.alloc (.cells #[.int .i64 p,.int .i64 q,.slice x1 n1 c1,.slice x2 n2 c2] 34));rw[←hB,←hw1] at h1;obtain⟨k0,k1,k2,k3⟩:=kR h1;obtain⟨-,e1⟩:=AQ h1.p2;have hd:=hD p q x1 n1 c1 x2 n2 c2 pre w1 (sep (blk B (.cells #[.int .i64 p,.int .i64 q,.slice x1 n1 c1,.slice x2 n2 c2] 34 (0,0))) A) hr hP hN (by simpa only[aA,ay,aj] using h1);have HD:=ah hd;have HB:=ah (And.intro hB hw1);clear h h1 hB hw1 hd hD hr hP hN
 go_enter Tryz.func175,Tryz.ntmps175
 go_upto_region 1 with (fail)
 rw[←HB.out.1,←HB.out.2]
 go_wp2_with fail
 refine HD.out.mono ?_;rintro e w2 (⟨rfl,xs,hx,h2⟩|⟨rfl,xs,rest,hx,hne,h2⟩)
 ·have H2:Hid (Sat W w2 (sep (R (pre++xs)) (sep (kD lp yb wb) (sep (kn I) A)))):=ah (by
   have h3:Sat W w2 (sep (blk B (.cells #[.int .i64 p,.int .i64 q,.slice x1 n1 c1,.slice x2 n2 c2] 34 (0,0))) (sep (R (pre++xs)) (sep (kD lp yb wb) (sep (kn I) A)))):=dJ h2;exact h3.forget)
  have HX:=ah hx;clear h2 hx HD k0 k1 k2 k3 e1
  go_wp2
  go_ret
  exact .inl ⟨rfl,xs,HX.out,H2.out⟩
 ·have H2:Hid (Sat W w2 (sep (Z (pre++xs)) (sep (kD lp yb wb) (sep (kn I) A)))):=ah (by
   have h3:Sat W w2 (sep (blk B (.cells #[.int .i64 p,.int .i64 q,.slice x1 n1 c1,.slice x2 n2 c2] 34 (0,0))) (sep (Z (pre++xs)) (sep (kD lp yb wb) (sep (kn I) A)))):=dJ h2;exact h3.forget)
  have HX:=ah (And.intro hx hne);clear h2 hx hne HD k0 k1 k2 k3 e1
  go_wp2
  go_ret
  exact .inr ⟨rfl,xs,rest,HX.out.1,HX.out.2,H2.out⟩
def XM (W:World) (R Z:List FV→aC) (pre:List FV) (ys:List Fm) (B:aC) (e:Ending) (w':World):Prop:=
 (e=.returned (.int .i64 (-1))∧∃xs:List FV,xs.map (·.2)=ys∧Sat W w' (sep (R (pre++xs)) B))∨∃j:Nat,e=.returned (.int .i64 j)∧∃(xs:List FV) (rest:List Fm),xs.map (·.2)++rest=ys∧xs≠[]∧Sat W w' (sep (Z (pre++xs)) B)
set_option maxRecDepth 100000 in
set_option maxHeartbeats 4000000 in
theorem WI {W:World} {I:Mem} {Pn:Fm→Prop} {R Z:List FV→aC} {lp yb wb N:Nat} {k:List Fm} (hD:∀g∈k,Down W I Pn R Z lp yb wb N g) (x2:Option Addr) (c2:Nat) (hk:(rF.slice 4).rel I [.slice x2 k.length c2] k) (hP:∀g∈Fm.bQ k,Pn g) (pre:List FV) (w:World) (A:aC) (hN:pre.length+Fm.sizes k≤N)
 (h:Sat W w (sep (R pre) (sep (kD lp yb wb) (sep (kn I) A)))):
 Calls Tryz.prog 202 #[.slice x2 k.length c2,.func (.func 175) #[] #[.pointer (some ⟨wb,0,none⟩)]] w (XM W R Z pre (Fm.bQ k) (sep (kD lp yb wb) (sep (kn I) A))):=by
 obtain⟨n,hn⟩:=aB (k.length);obtain⟨Po,dU⟩:=aB (XM W R Z pre (Fm.bQ k) (sep (kD lp yb wb) (sep (kn I) A)));rw[←dU];have hl63:=(aI hk).2.2;rw[←hn] at hk hl63 ⊢;have bI:=ah dU;have HN:=ah (And.intro hn hN);have Y8:=ah hP;have HK:=ah hk;have HD:=ah hD;have H:=ah h;clear hn dU hk h hD hN hP
 go_enter Tryz.func202,Tryz.ntmps202
 go_wp2
 go_loopw [8] (fun iv wr=>∃(i:Nat) (xs:List FV),iv=.int .i64 i∧i≤n∧Hid (xs.map (·.2)=Fm.bQ (k.take i))∧Sat W wr (sep (R (pre++xs)) (sep (kD lp yb wb) (sep (kn I) A)))) (fun iv _=>n-(intOf iv).toNat)
 case atStart=>exact⟨0,[],rfl,by omega,ah (by simp[Fm.bQ]),by rw[List.append_nil];exact H.out⟩
 case round=>
  obtain⟨i,xs,rfl,hi,xu,hS⟩:=hrel;clear H
  by_cases hlt:i<n
  ·as_aux_lemma=>
   have hltz:(i:Int)<(n:Int):=by omega
   obtain⟨g,hg⟩:∃g,k[i]?=some g:=⟨_,List.getElem?_eq_getElem (by have:=HN.out.1;omega)⟩
   obtain⟨b,o,p',q',y1,m1,d1,y2,m2,d2,rfl,hgr,hcell⟩:=gV HK.out hg;have hmem:g∈k:=List.mem_of_getElem? hg;obtain⟨j0,j1,j2,j3⟩:=hcell wr hS.p2.ext;have htk:=Fm.KQ k i hg;have hsz:(pre++xs).length+g.size≤N:=by
    have h1:xs.length=(Fm.bQ (k.take i)).length:=by rw[←xu.out,List.length_map]
    have h2:(Fm.bQ (k.take (i+1))).length=Fm.sizes (k.take (i+1)):=by
     have key:∀l:List Fm,(Fm.bQ l).length=Fm.sizes l:=by
      intro l
      induction l with
      | nil=>rfl
      | cons g l ih=>rw[Fm.bQ,Fm.sizes,dF,Fm.uY,ih]
     exact key _
    have h3:=Fm.qx k (i+1);rw[htk,dF,Fm.uY] at h2;have:=HN.out.2;rw[dF];omega
   have hc:=Wv (HD.out g hmem) p' q' y1 m1 d1 y2 m2 d2 (pre++xs) wr A hgr (fun z hz=>Y8.out z (Fm.Dv hmem hz)) hsz hS;have HC:=ah hc;have HT:=ah (And.intro htk (And.intro hlt hg));clear hgr hcell hmem htk hsz hc hg hlt hi hS
   go_wp2_with fail
   refine HC.out.mono ?_;rintro e w2 (⟨rfl,ys,hy,h2⟩|⟨rfl,ys,rest,hy,hne,h2⟩)
   ·have H2:=ah h2
    have HY:Hid ((xs++ys).map (·.2)=Fm.bQ (k.take (i+1))):=ah (by rw[oO,xu.out,hy,HT.out.1]);clear h2 hy HC j0 j1 j2 j3
    go_wp2
    go_roundw
    case rel=>exact⟨i+1,xs++ys,by go_num,by have:=HT.out.2.1;omega,HY,by rw[←List.append_assoc];exact H2.out⟩
    case measure=>simp[intOf];have:=HT.out.2.1;omega
   ·have H2:=ah h2
    have HY:Hid ((xs++ys).map (·.2)++(rest++Fm.bQ (k.drop (i+1)))=Fm.bQ k∧xs++ys≠[]):=ah ⟨by
     rw[oO,xu.out,Fm.Ip k (i+1),HT.out.1,←hy];simp only[List.append_assoc],fun e=>hne (List.append_eq_nil_iff.1 e).2⟩
    clear h2 hy hne HC j0 j1 j2 j3
    go_wp2
    rw[bI.out];exact .inr ⟨i,rfl,xs++ys,_,HY.out.1,HY.out.2,by rw[←List.append_assoc];exact H2.out⟩
  ·obtain rfl:i=n:=by omega
   have hx:xs.map (·.2)=Fm.bQ k:=by rw[xu.out,List.take_of_length_le (by rw[←HN.out.1];exact Nat.le_refl _)]
   have HX:=ah (And.intro hx hS);clear hx hS hlt hi
   go_wp2
   rw[bI.out];exact .inl ⟨rfl,xs,HX.out.1,HX.out.2⟩
theorem fcontF {W:World} {I:Mem} {Pn:Fm→Prop} {R Z:List FV→aC} {lp yb wb N:Nat} {k:List Fm} (hD:∀g∈k,Down W I Pn R Z lp yb wb N g) (x2:Option Addr) (c2:Nat) (hk:(rF.slice 4).rel I [.slice x2 k.length c2] k) (hP:∀g∈Fm.bQ k,Pn g) (pre:List FV) (w:World) (A:aC) (hN:pre.length+Fm.sizes k≤N)
 (h:Sat W w (sep (R pre) (sep (kD lp yb wb) (sep (kn I) A)))):
 Calls Tryz.prog 174 #[.slice x2 k.length c2,.func (.func 175) #[] #[.pointer (some ⟨wb,0,none⟩)]] w (Fg W R Z pre (Fm.bQ k) (sep (kD lp yb wb) (sep (kn I) A)) false):=by
 have HI:=ah (WI hD x2 c2 hk hP pre w A hN h);obtain⟨n,hn⟩:=aB (k.length);rw[←hn] at HI ⊢;clear hn hk h hD hN hP
 go_enter Tryz.func174,Tryz.ntmps174
 go_wp2_with fail
 refine HI.out.mono ?_;rintro e w2 (⟨rfl,xs,hx,h2⟩|⟨j,rfl,xs,rest,hx,hne,h2⟩)
 ·have H2:=ah (And.intro hx h2)
  clear hx h2 HI
  go_wp2
  go_ret
  exact .inl ⟨rfl,xs,H2.out.1,H2.out.2⟩
 ·have H2:=ah (And.intro hx (And.intro hne h2))
  have hj:(0:Int)≤(j:Int):=by omega
  clear hx hne h2 HI
  go_wp2
  go_ret
  exact .inr ⟨by simp,xs,rest,H2.out.1,H2.out.2.1,H2.out.2.2⟩
end Go.Proofs.YthfmaclnccdcbaaGreatDoor
namespace Go.Proofs.YthfmaclnccdcbaaGreatDoor
open Go.RowKit PA
attribute [local go_sem] Oper.semAt_some
set_option maxRecDepth 100000 in
set_option maxHeartbeats 8000000 in
theorem down11 {W:World} {I:Mem} {Pn:Fm→Prop} {R Z:List FV→aC} {lp yb wb N:Nat} (hY:∀m,wu Fence.wide m Tryz.prog W lp qN (EW I Pn) N R Z) (o n:Int) (i:List Iv) (k:List Fm) (hD:∀g∈k,Down W I Pn R Z lp yb wb N g):
 Down W I Pn R Z lp yb wb N (.mk o n i k):=by
 intro p q x1 n1 c1 x2 n2 c2 pre w A hr hP hN h;obtain⟨x1',c1',x2',c2',e,hi,hk⟩:=dR.1 hr;simp only[List.cons.injEq,Value.int.injEq,Value.slice.injEq,true_and,and_true] at e;obtain⟨rfl,rfl,⟨rfl,rfl,rfl⟩,⟨rfl,rfl,rfl⟩⟩:=e;refine (callsIn_wide (n:=5)).1 ?_;have hN1:pre.length<N:=by rw[Fm.size] at hN;omega
 have hN2:∀x:FV,(pre++[x]).length+Fm.sizes k≤N:=fun x=>by rw[Fm.size] at hN;rw[dF,List.length_singleton];omega
 have ZB:(Fm.mk p q i k).nodes=Fm.mk p q i k::Fm.bQ k:=by rw[Fm.nodes]
 have hPk:∀g∈Fm.bQ k,Pn g:=fun g hg=>hP g (by rw[ZB];exact List.mem_cons_of_mem _ hg)
 have hP0:Pn (Fm.mk p q i k):=hP _ (by rw[ZB];exact List.mem_cons_self ..);have Yt:=fun (x:FV) (w':World) (A':aC) (h':Sat W w' (sep (R (pre++[x])) (sep (kD lp yb wb) (sep (kn I) A'))))=>fcontF hD x2 c2 hk hPk (pre++[x]) w' A' (hN2 x) h'
 have h1:=h.alloc (.cells #[.int .i64 p,.int .i64 q,.slice x1 i.length c1,.slice x2 k.length c2] 34);obtain⟨B,hB⟩:=aB (w.heap.size);obtain⟨w1,hw1⟩:=aB (w.alloc (.cells #[.int .i64 p,.int .i64 q,.slice x1 i.length c1,.slice x2 k.length c2] 34));rw[←hB,←hw1] at h1;obtain⟨nk,hnk⟩:=aB (k.length);obtain⟨ni,hni⟩:=aB (i.length);obtain⟨xv,hxv⟩:∃z:FV,z=([.int .i64 p,.int .i64 q,.slice x1 i.length c1,.slice x2 k.length c2],Fm.mk p q i k):=⟨_,rfl⟩
 have hx:Sat W w1 (sep (R pre) (sep (EW I Pn xv) (sep (blk B (.cells #[.int .i64 p,.int .i64 q,.slice x1 i.length c1,.slice x2 k.length c2] 34 (0,0))) (sep (kD lp yb wb) (sep (kn I) A))))):=by
  have h2:Sat W w1 (sep (EW I Pn xv) (sep (R pre) (sep (blk B (.cells #[.int .i64 p,.int .i64 q,.slice x1 i.length c1,.slice x2 k.length c2] 34 (0,0))) (sep (kD lp yb wb) (sep (kn I) A))))):=Sat.fact.2 ⟨by rw[hxv];exact⟨hr,hP0⟩,by simpa only[aA,ay,aj] using h1⟩;simpa only[aA,ay,aj] using h2
 have hy0:=hY 5 pre xv w1 _ hN1 hx;have hno:(Fm.mk p q i k).nodes=Fm.mk p q i k::Fm.bQ k:=by rw[Fm.nodes]
 have hx2:xv.2=Fm.mk p q i k:=by rw[hxv]
 have hxe:qN xv=#[.agg #[.int .i64 p,.int .i64 q,.slice x1 i.length c1,.slice x2 k.length c2]]:=by rw[hxv];rfl
 rw[hno];rw[←hni,←hnk] at hy0 hx hxe ⊢;rw[←hnk] at Yt;rw[hxe] at hy0;obtain⟨k0,k1,k2,k3⟩:=kR hx.p2;obtain⟨e0,e1⟩:=AQ hx.p3;have HB:Hid (B=w.heap.size∧w1=w.alloc (.cells #[.int .i64 p,.int .i64 q,.slice x1 ni c1,.slice x2 nk c2] 34)):=ah ⟨hB,by rw[hw1,hni,hnk]⟩;have SI:=ah hx2;have Z4:=ah Yt;have hmf:∀(fn:Fn) (first cap:Array Value) (w:World),(Instr.makeFunc fn first cap).run Tryz.prog w=.ok (.func fn first cap) w:=fun _ _ _ _=>rfl
 obtain⟨nds,Uf⟩:=aB (Fm.bQ k);rw[←Uf] at Z4 ⊢;obtain⟨f0,hf0⟩:=aB (Fm.mk p q i k);rw[←hf0] at SI ⊢;clear hr hi hk hN h h1 hB hw1 hnk hni hxv hx hno hx2 hxe hY hD hN1 hN2 Yt Uf hf0 hP hPk hP0 ZB;refine callsIn_of_wp (n:=5) Tryz.func173 rfl trivial ?_ rfl;simp only[Tryz.ntmps173,List.size_toArray,List.length_cons,List.length_nil,Nat.reduceAdd,Nat.reduceSub,Array.replicate_succ,Array.replicate_zero,List.push_toArray,List.append_toArray,List.nil_append,List.cons_append]
 gi_upto_region 1 with (fail)
 rw[←HB.out.1,←HB.out.2];obtain⟨fn,tmps,assign,body,hy,hR⟩:=hy0
 gi_wp2_with fail
 refine (qZ hR).mono ?_;rintro e wz (⟨rfl,hz⟩|⟨rfl,hz⟩)
 ·clear hR hy k0 k1 k2 k3 e0 e1
  obtain⟨k0,k1,k2,k3⟩:=kR hz.p1;obtain⟨e0,e1⟩:=AQ hz.p2;have HW:=ah (Z4.out xv wz (sep (blk B (.cells #[.int .i64 p,.int .i64 q,.slice x1 ni c1,.slice x2 nk c2] 34 (0,0))) A) (by simpa only[aA,ay,aj] using hz));clear hz
  gi_wp2_with fail
  refine⟨trivial,(callsIn_wide.2 HW.out).mono ?_⟩;rintro e w2 (⟨rfl,xs,hxs,h2⟩|⟨rfl,xs,rest,hxs,hne,h2⟩)
  ·have H2:Hid (Sat W w2 (sep (R (pre++xv::xs)) (sep (kD lp yb wb) (sep (kn I) A)))):=ah (by
    rw[List.append_assoc] at h2;have h3:Sat W w2 (sep (blk B (.cells #[.int .i64 p,.int .i64 q,.slice x1 ni c1,.slice x2 nk c2] 34 (0,0))) (sep (R (pre++([xv]++xs))) (sep (kD lp yb wb) (sep (kn I) A)))):=dJ h2;exact h3.forget)
   have xu:Hid ((xv::xs).map (·.2)=f0::nds):=ah (by rw[List.map_cons,SI.out,hxs]);clear h2 hxs HW k0 k1 k2 k3 e0 e1
   gi_wp2_with fail
   refine bodyPost_ret (results_tmp rfl _ _ _) rfl (.inl ⟨rfl,_,xu.out,H2.out⟩)
  ·have H2:Hid (Sat W w2 (sep (Z (pre++xv::xs)) (sep (kD lp yb wb) (sep (kn I) A)))):=ah (by
    rw[List.append_assoc] at h2;have h3:Sat W w2 (sep (blk B (.cells #[.int .i64 p,.int .i64 q,.slice x1 ni c1,.slice x2 nk c2] 34 (0,0))) (sep (Z (pre++([xv]++xs))) (sep (kD lp yb wb) (sep (kn I) A)))):=dJ h2;exact h3.forget)
   have xu:Hid ((xv::xs).map (·.2)++rest=f0::nds):=ah (by rw[List.map_cons,SI.out,List.cons_append,hxs]);clear h2 hxs hne HW k0 k1 k2 k3 e0 e1
   gi_wp2_with fail
   refine bodyPost_ret (results_tmp rfl _ _ _) rfl (.inr ⟨rfl,_,rest,xu.out,by simp,H2.out⟩)
 ·have H2:Hid (Sat W wz (sep (Z (pre++[xv])) (sep (kD lp yb wb) (sep (kn I) A)))):=ah (by
   have h3:Sat W wz (sep (blk B (.cells #[.int .i64 p,.int .i64 q,.slice x1 ni c1,.slice x2 nk c2] 34 (0,0))) (sep (Z (pre++[xv])) (sep (kD lp yb wb) (sep (kn I) A)))):=dJ hz;exact h3.forget)
  have xu:Hid (([xv]:List FV).map (·.2)++nds=f0::nds):=ah (by rw[List.map_cons,SI.out];rfl);clear hR hy hz k0 k1 k2 k3 e0 e1
  gi_wp2_with fail
  refine⟨trivial,?_⟩
  gi_wp2_with fail
  refine bodyPost_ret (results_tmp rfl _ _ _) rfl (.inr ⟨rfl,_,nds,xu.out,by simp,H2.out⟩)
theorem TB {W:World} {I:Mem} {Pn:Fm→Prop} {R Z:List FV→aC} {lp yb wb N:Nat} (hY:∀m,wu Fence.wide m Tryz.prog W lp qN (EW I Pn) N R Z) (f:Fm):Down W I Pn R Z lp yb wb N f:=
 Fm.ind (P:=fun f=>Down W I Pn R Z lp yb wb N f) (fun o n i k ih=>down11 hY o n i k ih) f
def o7:Nat:=1000000
set_option maxRecDepth 100000 in
set_option maxHeartbeats 4000000 in
theorem vP {W:World} {A:aC} {I:Mem} (Pn:Fm→Prop) (N:Nat) (n:Nat) (f:Fm) (p q:Int) (x1:Option Addr) (n1 c1:Nat) (x2:Option Addr) (n2 c2:Nat) (hr:rF.rel I [.int .i64 p,.int .i64 q,.slice x1 n1 c1,.slice x2 n2 c2] f) (hP:∀g∈f.nodes,Pn g) (hsz:f.size≤N) (fb:Nat):
 Bd Fence.wide n Tryz.prog W 172 #[.pointer (some ⟨fb,0,none⟩)] qN (EW I Pn) N (fun xs=>xs.map (·.2)=f.nodes) (fun xs=>xs≠[]∧∃rest,xs.map (·.2)++rest=f.nodes)
  (sep (blk fb (.cells #[.int .i64 p,.int .i64 q,.slice x1 n1 c1,.slice x2 n2 c2] 34 (0,0))) (sep (kn I) A)) (sep (kn I) A):=by
 intro lp R Z w hY h0;have hY':∀m,wu Fence.wide m Tryz.prog W lp qN (EW I Pn) N R Z:=fun m pre x w B h1 h2=>yA (hY pre x w B h1 h2)
 obtain⟨y,hy⟩:=aB (w.heap.size);obtain⟨w1,hw1⟩:=aB ((w.alloc (.cells #[.func (.yield lp) #[] #[]] 185)).alloc (.cells #[.func (.func 173) #[] #[.pointer (some ⟨y,0,none⟩),.pointer (some ⟨y+1,0,none⟩)]] 185));have h1:Sat W w1 (sep (R []) (sep (kD lp y (y+1)) (sep (kn I) (sep (blk fb (.cells #[.int .i64 p,.int .i64 q,.slice x1 n1 c1,.slice x2 n2 c2] 34 (0,0))) A)))):=by
  have h2:=(h0.alloc (.cells #[.func (.yield lp) #[] #[]] 185)).alloc (.cells #[.func (.func 173) #[] #[.pointer (some ⟨y,0,none⟩),.pointer (some ⟨y+1,0,none⟩)]] 185);rw[World.size_alloc,←hy,←hw1] at h2;unfold kD;simpa only[aA,ay,aj] using h2
 have hwk:=TB hY' f p q x1 n1 c1 x2 n2 c2 [] w1 _ hr hP (by rw[List.length_nil];omega) h1;obtain⟨e0,e1⟩:=AQ h1.p1;obtain⟨k0,k1,k2,k3⟩:=kR h1.p3;have Zg:=ah hwk;have HY:=ah (And.intro hy hw1);have hmf:∀(fn:Fn) (first cap:Array Value) (w:World),(Instr.makeFunc fn first cap).run Tryz.prog w=.ok (.func fn first cap) w:=fun _ _ _ _=>rfl
 clear hY hY' h0 h1 hwk hy hw1 hr hsz hP;refine callsIn_of_wp Tryz.func172 rfl trivial ?_ rfl;simp only[Tryz.ntmps172,List.size_toArray,List.length_cons,List.length_nil,Nat.reduceAdd,Nat.reduceSub,Array.replicate_succ,Array.replicate_zero,List.push_toArray,List.append_toArray,List.nil_append,List.cons_append]
 gi_upto_region 3 with (fail)
 rw[←HY.out.1,←HY.out.2]
 gi_wp2_with fail
 refine⟨trivial,fun hd=>(by cases hd),(callsIn_wide.2 Zg.out).mono ?_⟩;rintro e w2 (⟨rfl,xs,hx,h2⟩|⟨rfl,xs,rest,hx,hne,h2⟩)
 ·have H2:Hid (Sat W w2 (sep (R xs) (sep (kn I) A))):=ah (by
   rw[List.nil_append] at h2;unfold kD at h2;simp only[aj] at h2;have h3:Sat W w2 (sep (blk y (.cells #[.func (.yield lp) #[] #[]] 185 (0,0))) (sep (blk (y+1) (.cells #[.func (.func 173) #[] #[.pointer (some ⟨y,0,none⟩),.pointer (some ⟨y+1,0,none⟩)]] 185 (0,0))) (sep (blk fb (.cells #[.int .i64 p,.int .i64 q,.slice x1 n1 c1,.slice x2 n2 c2] 34 (0,0))) (sep (R xs) (sep (kn I) A))))):=dJ h2;exact h3.forget.forget.forget)
  have HX:=ah hx;clear Zg e0 e1 k0 k1 k2 k3 h2 hx
  gi_wp2_with fail
  exact bodyPost_end (results_none rfl _ _ _) rfl ⟨⟨_,rfl⟩,.inl ⟨xs,HX.out,H2.out⟩⟩
 ·have H2:Hid (Sat W w2 (sep (Z xs) (sep (kn I) A))):=ah (by
   rw[List.nil_append] at h2;unfold kD at h2;simp only[aj] at h2;have h3:Sat W w2 (sep (blk y (.cells #[.func (.yield lp) #[] #[]] 185 (0,0))) (sep (blk (y+1) (.cells #[.func (.func 173) #[] #[.pointer (some ⟨y,0,none⟩),.pointer (some ⟨y+1,0,none⟩)]] 185 (0,0))) (sep (blk fb (.cells #[.int .i64 p,.int .i64 q,.slice x1 n1 c1,.slice x2 n2 c2] 34 (0,0))) (sep (Z xs) (sep (kn I) A))))):=dJ h2;exact h3.forget.forget.forget)
  have HX:Hid (xs≠[]∧∃rest,xs.map (·.2)++rest=f.nodes):=ah ⟨hne,rest,hx⟩;clear Zg e0 e1 k0 k1 k2 k3 h2 hx hne
  gi_wp2_with fail
  exact bodyPost_end (results_none rfl _ _ _) rfl ⟨⟨_,rfl⟩,.inr ⟨xs,HX.out,H2.out⟩⟩
theorem xU {W:World} {A:aC} {I:Mem} (Pn:Fm→Prop) (n:Nat) (f:Fm) (p q:Int) (x1:Option Addr) (n1 c1:Nat) (x2:Option Addr) (n2 c2:Nat) (hr:rF.rel I [.int .i64 p,.int .i64 q,.slice x1 n1 c1,.slice x2 n2 c2] f) (hP:∀g∈f.nodes,Pn g) (hsz:f.size≤o7) (fb:Nat):
 Bd Fence.wide n Tryz.prog W 172 #[.pointer (some ⟨fb,0,none⟩)] qN (EW I Pn) o7 (fun xs=>xs.map (·.2)=f.nodes) (fun xs=>xs≠[]∧∃rest,xs.map (·.2)++rest=f.nodes)
  (sep (blk fb (.cells #[.int .i64 p,.int .i64 q,.slice x1 n1 c1,.slice x2 n2 c2] 34 (0,0))) (sep (kn I) A)) (sep (kn I) A):=
 vP Pn o7 n f p q x1 n1 c1 x2 n2 c2 hr hP hsz fb
end Go.Proofs.YthfmaclnccdcbaaGreatDoor
namespace Go.Proofs.YthfmaclnccdcbaaGreatDoor
open Go.RowKit PA
attribute [local go_sem] Oper.semAt_some
theorem tV {W w:World} {A:aC} (a b c d:Value) (h:Sat W w A):
 Calls Tryz.prog 130 #[.agg #[a,b,c,d]] w fun e w'=>∃fb,e=.returned (.func (.func 172) #[] #[.pointer (some ⟨fb,0,none⟩)])∧Sat W w' (sep (blk fb (.cells #[a,b,c,d] 34 (0,0))) A):=by
 have h1:=h.alloc (.cells #[a,b,c,d] 34);obtain⟨B,hB⟩:=aB (w.heap.size);obtain⟨w1,hw1⟩:=aB (w.alloc (.cells #[a,b,c,d] 34));rw[←hB,←hw1] at h1;have HB:=ah (And.intro hB hw1);have hmf:∀(fn:Fn) (first cap:Array Value) (w:World),(Instr.makeFunc fn first cap).run Tryz.prog w=.ok (.func fn first cap) w:=fun _ _ _ _=>rfl
 clear h hB hw1
 go_enter Tryz.func130,Tryz.ntmps130
 go_upto_region 1 with (fail)
 rw[←HB.out.1,←HB.out.2]
 go_wp2
 go_ret
 exact⟨B,rfl,h1⟩
set_option maxRecDepth 100000 in
set_option maxHeartbeats 4000000 in
theorem Ou {W w:World} {A:aC} {I:Mem} (f:Fm) (p q:Int) (x1:Option Addr) (n1 c1:Nat) (x2:Option Addr) (n2 c2:Nat) (hr:rF.rel I [.int .i64 p,.int .i64 q,.slice x1 n1 c1,.slice x2 n2 c2] f) (hsz:f.size≤o7) (h:Sat W w (sep (kn I) A)):
 Calls Tryz.prog 161 #[.agg #[.int .i64 p,.int .i64 q,.slice x1 n1 c1,.slice x2 n2 c2]] w fun e w'=>e=.returned (.int .i64 (f.size:Nat))∧Sat W w' (sep (kn I) A):=by
 obtain⟨sz,ZH⟩:=aB (f.size);rw[←ZH];have Je:=ah ZH;clear ZH;have h1:=(h.alloc (.cells #[.int .i64 p,.int .i64 q,.slice x1 n1 c1,.slice x2 n2 c2] 34)).alloc (.cells #[.int .i64 0] 3);rw[World.size_alloc] at h1;obtain⟨B,hB⟩:=aB (w.heap.size);obtain⟨w1,hw1⟩:=aB ((w.alloc (.cells #[.int .i64 p,.int .i64 q,.slice x1 n1 c1,.slice x2 n2 c2] 34)).alloc (.cells #[.int .i64 0] 3));rw[←hB,←hw1] at h1;have HB:=ah (And.intro hB hw1);have XD:=ah (tV (.int .i64 p) (.int .i64 q) (.slice x1 n1 c1) (.slice x2 n2 c2) h1);obtain⟨k0,k1,k2,k3⟩:=kR h1.p1;have HR:=ah (And.intro hr hsz);have eg:=enters_of (P:=Tryz.prog) Tryz.func172 (by kernel_rfl) rfl;clear h h1 hB hw1 hr hsz;refine (callsIn_wide (n:=5)).1 ?_;refine callsIn_of_wp_marks Tryz.func161 rfl trivial ?_ rfl;simp only[Tryz.ntmps161,List.size_toArray,List.length_cons,List.length_nil,Nat.reduceAdd,Nat.reduceSub,Array.replicate_succ,Array.replicate_zero,List.push_toArray,List.append_toArray,List.nil_append,List.cons_append];refine wpIn_wide.2 ?_
 go_upto_region 2 with (fail)
 rw[←HB.out.1,←HB.out.2]
 go_wp2_with fail
 refine XD.out.mono ?_;rintro e w2 ⟨fb,rfl,h2⟩;have h3:Sat W w2 (sep (blk (B+1) (.cells #[.int .i64 (([]:List FV).length:Nat)] 3 (0,0))) (sep (blk fb (.cells #[.int .i64 p,.int .i64 q,.slice x1 n1 c1,.slice x2 n2 c2] 34 (0,0))) (sep (kn I) (sep (blk B (.cells #[.int .i64 p,.int .i64 q,.slice x1 n1 c1,.slice x2 n2 c2] 34 (0,0))) A)))):=by
  have:=h2;show Sat W w2 (sep (blk (B+1) (.cells #[.int .i64 0] 3 (0,0))) _);simpa only[aA,ay,aj] using this
 clear h2 XD k0 k1 k2 k3
 go_wp2_with fail
 refine (wpIn_wide (n:=5)).1 ?_;refine l9 (F:=Fence.wide) (W:=W) rfl (by omega) (gf:=172) (lb:=#[.pointer (some ⟨fb,0,none⟩)]) rfl trivial eg (encs:=qN) (fun _=>rfl) (xU (A:=sep (blk B (.cells #[.int .i64 p,.int .i64 q,.slice x1 n1 c1,.slice x2 n2 c2] 34 (0,0))) A) (fun _=>True) (5-1) f p q x1 n1 c1 x2 n2 c2 HR.out.1 (fun _ _=>trivial) HR.out.2 fb)
  (fun xs=>blk (B+1) (.cells #[.int .i64 (xs.length:Nat)] 3 (0,0))) (fun _ _=>fact False) h3
  (fun y _ t=>t.setIfInBounds 6 (.agg y.1.toArray))
  (fun pre _ _=>blk (B+1) (.cells #[.int .i64 (pre.length:Nat)] 3 (0,0))) ?assign ?body ?done ?stop
 case assign=>
  as_aux_lemma=>
  intro lp pre y w' X K hlen hS hK;have h4:Sat W w' (sep (EW I (fun _=>True) y) (sep (blk (B+1) (.cells #[.int .i64 (pre.length:Nat)] 3 (0,0))) X)):=dJ hS;unfold EW at h4;have h5:=hK 0 w' (Sat.fact.1 h4).2;simp only[lsA,lsB,kJ] at h5;have H5:=ah h5;clear hK hS h4 h5 h3;dsimp only[qN] at *
  gi_wp2_with fail
  simpa using H5.out
 case body=>
  as_aux_lemma=>
  intro lp pre y g w' X hlen hS;simp only[lsA,lsB,kJ];obtain⟨m,hm⟩:=aB (pre.length);rw[←hm] at hS hlen;have c0:w'.cell? ⟨B+1,0,none⟩=some (.int .i64 (m:Nat)):=hS.cell 0;have u0:=hS.aH 0;have h4:=hS.setCell 0 (.int .i64 ((m:Int)+1));obtain⟨w3,hw3⟩:=aB (w'.setCell ⟨B+1,0,none⟩ (.int .i64 ((m:Int)+1)));rw[←hw3] at h4;have HW3:=ah hw3;have hmz:(m:Int)<1000000:=by unfold o7 at hlen;omega
  have H4:Hid (Sat W w3 (sep (blk (B+1) (.cells #[.int .i64 ((pre++[y]).length:Nat)] 3 (0,0))) X)):=ah (by
   rw[dF,←hm];exact h4)
  clear hS h4 hw3 hm hlen h3
  gi_wp2_with fail
  rw[←HW3.out];exact H4.out
 case done=>
  as_aux_lemma=>
  intro D xs w' hxs hS;have hl:xs.length=sz:=by rw[Je.out,←Fm.uY,←hxs,List.length_map]
  rw[hl] at hS;have c0:w'.cell? ⟨B+1,0,none⟩=some (.int .i64 (sz:Nat)):=hS.p1.cell 0;have hD:=hS.aO;have h4:=hS.putObj (.deferred none);have h5:Sat W (w'.putObj D (.deferred none)) (sep (blk D (.deferred none)) (sep (blk (B+1) (.cells #[.int .i64 (sz:Nat)] 3 (0,0))) (sep (blk B (.cells #[.int .i64 p,.int .i64 q,.slice x1 n1 c1,.slice x2 n2 c2] 34 (0,0))) (sep (kn I) A)))):=dJ h4;have H5:=ah h5.drop.forget.forget;clear hS h4 h5 hl hxs h3
  go_wp2_with fail
  refine⟨by simp,.inl ⟨_,_,rfl,run_takeDeferred hD,?_⟩⟩;refine⟨.int .i64 (sz:Nat),?_,?_⟩
  ·simp[results,Tryz.results161,go_sem]
  ·exact⟨rfl,H5.out⟩
 case stop=>
  intro D c xs w' _ hS;exact absurd (Sat.fact.1 (show Sat W w' (sep (fact False) _) from hS.p1)).1 (fun h=>h)
end Go.Proofs.YthfmaclnccdcbaaGreatDoor
namespace Go.Proofs.YthfmaclnccdcbaaGreatDoor
open Go.RowKit PA
attribute [local go_sem] Oper.semAt_some
def vC (I:Mem) (rc:Nat) (xs:List FV):aC:=sep (fact (∀x∈xs,x.2.formed qG=true)) (sep (kn I) (blk rc (.cells #[.int .i64 0] 39 (0,0))))
def vZ (rc:Nat):Code→List FV→aC
 | .ret,xs=>sep (fact (∃x∈xs,x.2.formed qG=false)) (blk rc (.cells #[.int .i64 1] 39 (0,0)))
 | _,_=>fact False
set_option maxRecDepth 100000 in
set_option maxHeartbeats 4000000 in
theorem lF {W w:World} {A:aC} {I:Mem} (f:Fm) (p q:Int) (x1:Option Addr) (n1 c1:Nat) (x2:Option Addr) (n2 c2:Nat) (hr:rF.rel I [.int .i64 p,.int .i64 q,.slice x1 n1 c1,.slice x2 n2 c2] f) (hsz:f.size≤o7) (Yv:∀g∈f.nodes,∀x∈g.ins,Jg x) (h:Sat W w (sep (kn I) A)):
 Calls Tryz.prog 118 #[.agg #[.int .i64 p,.int .i64 q,.slice x1 n1 c1,.slice x2 n2 c2]] w fun e w'=>e=.returned (.int .i64 (jV f))∧Sat W w' (sep (kn I) A):=by
 have h1:=(h.alloc (.cells #[.int .i64 p,.int .i64 q,.slice x1 n1 c1,.slice x2 n2 c2] 34)).alloc (.cells #[.int .i64 0] 39);rw[World.size_alloc] at h1;obtain⟨B,hB⟩:=aB (w.heap.size);obtain⟨w1,hw1⟩:=aB ((w.alloc (.cells #[.int .i64 p,.int .i64 q,.slice x1 n1 c1,.slice x2 n2 c2] 34)).alloc (.cells #[.int .i64 0] 39));rw[←hB,←hw1] at h1;have HB:=ah (And.intro hB hw1);have h1':Sat W w1 (sep (blk B (.cells #[.int .i64 p,.int .i64 q,.slice x1 n1 c1,.slice x2 n2 c2] 34 (0,0))) (sep (kn I) (sep (blk (B+1) (.cells #[.int .i64 0] 39 (0,0))) A))):=dJ h1;have H1:=ah h1';obtain⟨k0,k1,k2,k3⟩:=kR h1';obtain⟨sz,hs⟩:=aB (f.size);obtain⟨dp,hdp⟩:=aB (f.deep);obtain⟨wh,hwh⟩:=aB (f.whole qG);obtain⟨rv,dK⟩:=aB (jV f);have ji:rv=if 96<sz∨8<dp then 4 else if wh=true then 0 else 1:=by rw[dK,hs,hdp,hwh];rfl
 have bM:=ah ji;have XL:Hid (wh=f.nodes.all (Fm.formed qG)):=ah (by rw[hwh,Fm.uD]);have ahv:sz≤1000000:=by rw[hs];exact hsz
 have ahi:dp≤1000000:=by rw[hdp];exact Nat.le_trans (Fm.Pv f) hsz
 have HA:Hid (∀w' A',Sat W w' (sep (kn I) A')→Calls Tryz.prog 161 #[.agg #[.int .i64 p,.int .i64 q,.slice x1 n1 c1,.slice x2 n2 c2]] w' fun e w''=>e=.returned (.int .i64 (sz:Nat))∧Sat W w'' (sep (kn I) A')):=ah fun w' A' h'=>by rw[hs];exact Ou f p q x1 n1 c1 x2 n2 c2 hr hsz h'
 have HD:Hid (∀w' A',Sat W w' (sep (kn I) A')→Calls Tryz.prog 162 #[.agg #[.int .i64 p,.int .i64 q,.slice x1 n1 c1,.slice x2 n2 c2]] w' fun e w''=>e=.returned (.int .i64 (dp:Nat))∧Sat W w'' (sep (kn I) A')):=ah fun w' A' h'=>by rw[hdp];exact Oo f w' A' p q x1 n1 c1 x2 n2 c2 hr hsz h'
 have XD:Hid (∀w' A',Sat W w' A'→Calls Tryz.prog 130 #[.agg #[.int .i64 p,.int .i64 q,.slice x1 n1 c1,.slice x2 n2 c2]] w' fun e w''=>∃fb,e=.returned (.func (.func 172) #[] #[.pointer (some ⟨fb,0,none⟩)])∧Sat W w'' (sep (blk fb (.cells #[.int .i64 p,.int .i64 q,.slice x1 n1 c1,.slice x2 n2 c2] 34 (0,0))) A')):=ah fun w' A' h'=>tV (.int .i64 p) (.int .i64 q) (.slice x1 n1 c1) (.slice x2 n2 c2) h'
 have HR:=ah (And.intro hr (And.intro hsz Yv));have eg:=enters_of (P:=Tryz.prog) Tryz.func172 (by kernel_rfl) rfl;rw[←dK];clear h h1 h1' hB hw1 hr hsz Yv hs hdp hwh dK ji
 by_cases z1:96<sz
 ·have z1':(96:Int)<(sz:Int):=by omega
  have HV:Hid (rv=4):=ah (by rw[bM.out,if_pos (.inl z1)]);clear z1;refine (callsIn_wide (n:=5)).1 ?_;refine callsIn_of_wp_marks Tryz.func118 rfl trivial ?_ rfl;simp only[Tryz.ntmps118,List.size_toArray,List.length_cons,List.length_nil,Nat.reduceAdd,Nat.reduceSub,Array.replicate_succ,Array.replicate_zero,List.push_toArray,List.append_toArray,List.nil_append,List.cons_append];refine wpIn_wide.2 ?_
  go_upto_region 1 with (fail)
  rw[←HB.out.1,←HB.out.2]
  go_wp2_with fail
  refine (HA.out _ _ H1.out.p1).mono ?_;rintro e w2 ⟨rfl,h2⟩;have h2':=h2.p2;have c0:=h2'.cell 0;have u0:=h2'.aH 0;have h3:=h2'.setCell 0 (.int .i64 4);obtain⟨w3,hw3⟩:=aB (w2.setCell ⟨B+1,0,none⟩ (.int .i64 4));rw[←hw3] at h3;have HW3:=ah hw3;have y0:w3.cell? ⟨B+1,0,none⟩=some (.int .i64 4):=h3.cell 0;have H3:Hid (Sat W w3 (sep (kn I) A)):=ah (by have:=h3.p2.drop.drop;simpa only[aA] using this);clear h2 h2' h3 HA k0 k1 k2 k3 hw3
  go_wp2_with fail
  rw[←HW3.out];refine⟨.int .i64 4,?_,?_⟩
  ·simp[results,Tryz.results118,go_sem,y0]
  ·exact⟨by rw[HV.out],H3.out⟩
 ·have z1':¬(96:Int)<(sz:Int):=by omega
  by_cases z2:8<dp
  ·have z2':(8:Int)<(dp:Int):=by omega
   have HV:Hid (rv=4):=ah (by rw[bM.out,if_pos (.inr z2)]);clear z1 z2;refine (callsIn_wide (n:=5)).1 ?_;refine callsIn_of_wp_marks Tryz.func118 rfl trivial ?_ rfl;simp only[Tryz.ntmps118,List.size_toArray,List.length_cons,List.length_nil,Nat.reduceAdd,Nat.reduceSub,Array.replicate_succ,Array.replicate_zero,List.push_toArray,List.append_toArray,List.nil_append,List.cons_append];refine wpIn_wide.2 ?_
   go_upto_region 1 with (fail)
   rw[←HB.out.1,←HB.out.2]
   go_wp2_with fail
   refine (HA.out _ _ H1.out.p1).mono ?_;rintro e w2 ⟨rfl,h2⟩;have H2:Hid (Sat W w2 (sep (blk B (.cells #[.int .i64 p,.int .i64 q,.slice x1 n1 c1,.slice x2 n2 c2] 34 (0,0))) (sep (kn I) (sep (blk (B+1) (.cells #[.int .i64 0] 39 (0,0))) A)))):=ah (dJ h2);clear h2 HA k0 k1 k2 k3;obtain⟨k0,k1,k2,k3⟩:=kR H2.out
   go_wp2_with fail
   refine (HD.out _ _ H2.out.p1).mono ?_;rintro e w4 ⟨rfl,h4⟩;have h2':=h4.p2;have c0:=h2'.cell 0;have u0:=h2'.aH 0;have h3:=h2'.setCell 0 (.int .i64 4);obtain⟨w3,hw3⟩:=aB (w4.setCell ⟨B+1,0,none⟩ (.int .i64 4));rw[←hw3] at h3;have HW3:=ah hw3;have y0:w3.cell? ⟨B+1,0,none⟩=some (.int .i64 4):=h3.cell 0;have H3:Hid (Sat W w3 (sep (kn I) A)):=ah (by have:=h3.p2.drop.drop;simpa only[aA] using this);clear h4 h2' h3 HD k0 k1 k2 k3 hw3 H2
   go_wp2_with fail
   rw[←HW3.out];refine⟨.int .i64 4,?_,?_⟩
   ·simp[results,Tryz.results118,go_sem,y0]
   ·exact⟨by rw[HV.out],H3.out⟩
  ·have z2':¬(8:Int)<(dp:Int):=by omega
   have HV:Hid (rv=if wh=true then 0 else 1):=ah (by rw[bM.out,if_neg (by omega)]);clear z1 z2;refine (callsIn_wide (n:=5)).1 ?_;refine callsIn_of_wp_marks Tryz.func118 rfl trivial ?_ rfl;simp only[Tryz.ntmps118,List.size_toArray,List.length_cons,List.length_nil,Nat.reduceAdd,Nat.reduceSub,Array.replicate_succ,Array.replicate_zero,List.push_toArray,List.append_toArray,List.nil_append,List.cons_append];refine wpIn_wide.2 ?_
   go_upto_region 1 with (fail)
   rw[←HB.out.1,←HB.out.2]
   go_wp2_with fail
   refine (HA.out _ _ H1.out.p1).mono ?_;rintro e w2 ⟨rfl,h2⟩;have H2:Hid (Sat W w2 (sep (blk B (.cells #[.int .i64 p,.int .i64 q,.slice x1 n1 c1,.slice x2 n2 c2] 34 (0,0))) (sep (kn I) (sep (blk (B+1) (.cells #[.int .i64 0] 39 (0,0))) A)))):=ah (dJ h2);clear h2 HA k0 k1 k2 k3;obtain⟨k0,k1,k2,k3⟩:=kR H2.out
   go_wp2_with fail
   refine (HD.out _ _ H2.out.p1).mono ?_;rintro e w3 ⟨rfl,h3⟩;have H3:Hid (Sat W w3 (sep (blk B (.cells #[.int .i64 p,.int .i64 q,.slice x1 n1 c1,.slice x2 n2 c2] 34 (0,0))) (sep (kn I) (sep (blk (B+1) (.cells #[.int .i64 0] 39 (0,0))) A)))):=ah (dJ h3);clear h3 HD k0 k1 k2 k3 H2;obtain⟨k0,k1,k2,k3⟩:=kR H3.out
   go_upto_region 3 with (fail)
   go_wp2_with fail
   refine (XD.out _ _ H3.out).mono ?_;rintro e w4 ⟨fb,rfl,h4⟩;have h5:Sat W w4 (sep (vC I (B+1) []) (sep (blk fb (.cells #[.int .i64 p,.int .i64 q,.slice x1 n1 c1,.slice x2 n2 c2] 34 (0,0))) (sep (kn I) (sep (blk B (.cells #[.int .i64 p,.int .i64 q,.slice x1 n1 c1,.slice x2 n2 c2] 34 (0,0))) A)))):=by
    unfold vC;rw[aj];exact Sat.fact.2 ⟨fun x hx=>absurd hx (by simp),by
     have:=Sat.dup (show Sat W w4 (sep (kn I) (sep (blk fb (.cells #[.int .i64 p,.int .i64 q,.slice x1 n1 c1,.slice x2 n2 c2] 34 (0,0))) (sep (blk B (.cells #[.int .i64 p,.int .i64 q,.slice x1 n1 c1,.slice x2 n2 c2] 34 (0,0))) (sep (blk (B+1) (.cells #[.int .i64 0] 39 (0,0))) A)))) by simpa only[aA,ay,aj] using h4);show Sat W w4 (sep (sep (kn I) _) _);simpa only[aA,ay,aj,kn] using this⟩
   clear h4 XD k0 k1 k2 k3 H3 H1 bM
   go_wp2_with fail
   refine (wpIn_wide (n:=5)).1 ?_;refine l9 (F:=Fence.wide) (W:=W) rfl (by omega) (gf:=172) (lb:=#[.pointer (some ⟨fb,0,none⟩)]) rfl trivial eg (encs:=qN) (fun _=>rfl) (xU (A:=sep (blk B (.cells #[.int .i64 p,.int .i64 q,.slice x1 n1 c1,.slice x2 n2 c2] 34 (0,0))) A) (fun g=>∀x∈g.ins,Jg x) (5-1) f p q x1 n1 c1 x2 n2 c2 HR.out.1 HR.out.2.2 HR.out.2.1 fb)
    (vC I (B+1)) (vZ (B+1)) h5
    (fun y g t=>(t.setIfInBounds 14 (.agg y.1.toArray)).setIfInBounds 3 (.pointer (some ⟨g,0,none⟩)))
    (fun pre y g=>sep (fact (rF.rel I y.1 y.2∧∀x∈y.2.ins,Jg x)) (sep (blk g (.cells y.1.toArray 34 (0,0))) (vC I (B+1) pre))) ?assign ?body ?done ?stop
   case assign=>
    as_aux_lemma=>
    intro lp pre y w' X K hlen hS hK;have h4:Sat W w' (sep (EW I (fun g=>∀x∈g.ins,Jg x) y) (sep (vC I (B+1) pre) X)):=dJ hS;unfold EW at h4;obtain⟨hf,h6⟩:=Sat.fact.1 h4;obtain⟨y1,y2⟩:=y;obtain⟨yo,yn,yi,yk⟩:=y2;obtain⟨u1,d1,u2,d2,e,hi,hk⟩:=dR.1 hf.1;dsimp only at e hf hK;subst e;have h7:=h6.alloc (.cells #[.int .i64 yo,.int .i64 yn,.slice u1 yi.length d1,.slice u2 yk.length d2] 34);have h5:=hK w'.heap.size _ (show Sat W (w'.alloc (.cells #[.int .i64 yo,.int .i64 yn,.slice u1 yi.length d1,.slice u2 yk.length d2] 34)) (sep (sep (fact _) (sep _ _)) X) by rw[aj,aj];exact Sat.fact.2 ⟨hf,h7⟩);simp only[lsA,lsB,kJ] at h5;have H5:=ah h5;clear hK hS h4 h5 h6 h7 hf hi hk;dsimp only[qN] at *
    gi_wp2_with fail
    simpa using H5.out
   case body=>
    as_aux_lemma=>
    intro lp pre y g w' X hlen hS;simp only[lsA,lsB,kJ];rw[aj,aj] at hS;obtain⟨hf,h4⟩:=Sat.fact.1 hS;have h5:Sat W w' (sep (fact (∀x∈pre,x.2.formed qG=true)) (sep (blk g (.cells y.1.toArray 34 (0,0))) (sep (kn I) (sep (blk (B+1) (.cells #[.int .i64 0] 39 (0,0))) X)))):=by
     unfold vC at h4;simpa only[aA,ay,aj] using h4
    obtain⟨hpre,h6⟩:=Sat.fact.1 h5;obtain⟨y1,y2⟩:=y;dsimp only at hf h6;obtain⟨yo,yn,yi,yk⟩:=y2;obtain⟨u1,d1,u2,d2,e,hi,hk⟩:=dR.1 hf.1;subst e;have HF:=ah (Il (Fm.mk yo yn yi yk) yo yn u1 yi.length d1 u2 yk.length d2 hf.1 hf.2 h6.p1);obtain⟨k0,k1,k2,k3⟩:=kR h6;obtain⟨fo,hfo⟩:=aB ((Fm.mk yo yn yi yk).formed qG);rw[←hfo] at HF;have XE:=ah (And.intro hpre hfo);clear hS h4 h5 h6 hf hi hk hpre hfo HR XL HV;cases fo with
    | true=>
     gi_wp2_with fail
     refine⟨trivial,(callsIn_wide.2 HF.out).mono ?_⟩;rintro e w2 ⟨rfl,h7⟩;have h8:Sat W w2 (sep (vC I (B+1) (pre++[([.int .i64 yo,.int .i64 yn,.slice u1 yi.length d1,.slice u2 yk.length d2],Fm.mk yo yn yi yk)])) X):=by
      unfold vC;rw[aj];refine Sat.fact.2 ⟨fun x hx=>?_,?_⟩
      ·rcases List.mem_append.1 hx with hx|hx
       ·exact XE.out.1 x hx
       ·rw[List.mem_singleton.1 hx]
        exact XE.out.2.symm
      ·have:=(show Sat W w2 (sep (blk g (.cells #[.int .i64 yo,.int .i64 yn,.slice u1 yi.length d1,.slice u2 yk.length d2] 34 (0,0))) (sep (kn I) (sep (blk (B+1) (.cells #[.int .i64 0] 39 (0,0))) X))) by simpa only[aA,ay,aj] using h7).drop
       simpa only[aA,ay,aj] using this
     have H8:=ah h8;clear h7 h8 HF k0 k1 k2 k3
     gi_wp2_with fail
     exact H8.out
    | false=>
     gi_wp2_with fail
     refine⟨trivial,(callsIn_wide.2 HF.out).mono ?_⟩;rintro e w2 ⟨rfl,h7⟩;have h8:Sat W w2 (sep (blk (B+1) (.cells #[.int .i64 0] 39 (0,0))) X):=
      (show Sat W w2 (sep (blk g (.cells #[.int .i64 yo,.int .i64 yn,.slice u1 yi.length d1,.slice u2 yk.length d2] 34 (0,0))) (sep (kn I) (sep (blk (B+1) (.cells #[.int .i64 0] 39 (0,0))) X))) by simpa only[aA,ay,aj] using h7).drop.drop
     have c0:=h8.cell 0;have u0:=h8.aH 0;have h9:=h8.setCell 0 (.int .i64 1);obtain⟨w3,hw3⟩:=aB (w2.setCell ⟨B+1,0,none⟩ (.int .i64 1));rw[←hw3] at h9;have H9:Hid (Sat W w3 (sep (vZ (B+1) .ret (pre++[([.int .i64 yo,.int .i64 yn,.slice u1 yi.length d1,.slice u2 yk.length d2],Fm.mk yo yn yi yk)])) X)):=ah (by
      show Sat W w3 (sep (sep (fact _) _) X);rw[aj];exact Sat.fact.2 ⟨⟨_,List.mem_append_right _ (List.mem_singleton_self _),XE.out.2.symm⟩,h9⟩)
     have HW3:=ah hw3;clear h7 h8 h9 hw3 HF k0 k1 k2 k3
     gi_wp2_with fail
     rw[←HW3.out];exact H9.out
   case done=>
    as_aux_lemma=>
    intro D xs w' hxs hS;have h6:Sat W w' (sep (fact (∀x∈xs,x.2.formed qG=true)) (sep (blk D (.deferred (some []))) (sep (blk (B+1) (.cells #[.int .i64 0] 39 (0,0))) (sep (kn I) (sep A (blk B (.cells #[.int .i64 p,.int .i64 q,.slice x1 n1 c1,.slice x2 n2 c2] 34 (0,0)))))))):=by
     unfold vC at hS;have h0:=(show Sat W w' (sep (kn I) (sep (fact (∀x∈xs,x.2.formed qG=true)) (sep (blk D (.deferred (some []))) (sep (blk (B+1) (.cells #[.int .i64 0] 39 (0,0))) (sep (kn I) (sep A (blk B (.cells #[.int .i64 p,.int .i64 q,.slice x1 n1 c1,.slice x2 n2 c2] 34 (0,0))))))))) by simpa only[aA,ay,aj] using hS).drop;exact h0
    obtain⟨hall,h7⟩:=Sat.fact.1 h6;have hwt:wh=true:=by
     rw[XL.out,←hxs,List.all_eq_true];intro x hx;obtain⟨y,hy,rfl⟩:=List.mem_map.1 hx;exact hall y hy
    have hD:=h7.aO;have c0:=h7.p1.cell 0;have u0:=h7.p1.aH 0;have h8:=h7.p1.setCell 0 (.int .i64 0);obtain⟨w3,hw3⟩:=aB (w'.setCell ⟨B+1,0,none⟩ (.int .i64 0));rw[←hw3] at h8;have h9:Sat W w3 (sep (blk D (.deferred (some []))) (sep (kn I) (sep (blk (B+1) (.cells #[.int .i64 0] 39 (0,0))) (sep (blk B (.cells #[.int .i64 p,.int .i64 q,.slice x1 n1 c1,.slice x2 n2 c2] 34 (0,0))) A)))):=by
     show Sat W w3 (sep _ (sep _ (sep (blk (B+1) (.cells (#[Value.int .i64 0].setIfInBounds 0 (.int .i64 0)) 39 (0,0))) _)));simpa only[aA,ay,aj] using h8
    have hD:=h9.aO;have h10:=h9.putObj (.deferred none);have y0:=h10.p2.cell 0;have Fh:Hid (Sat W (w3.putObj D (.deferred none)) (sep (kn I) A)):=ah (by
     have:=(h10.drop.p1.drop).p1.drop;simpa only[aA,ay,aj] using this)
    have HW3:=ah hw3;have lW:Hid (rv=0):=ah (by rw[HV.out,if_pos hwt]);clear hS h6 h7 h8 h9 h10 hw3 hall hwt HR XL h5
    go_wp2_with fail
    rw[←HW3.out];refine⟨by simp,.inl ⟨_,_,rfl,run_takeDeferred hD,?_⟩⟩;refine⟨.int .i64 0,?_,?_⟩
    ·simp[results,Tryz.results118,go_sem,y0]
    ·exact⟨by rw[lW.out],Fh.out⟩
   case stop=>
    as_aux_lemma=>
    intro D c xs w' hxs hS;cases c with
    | ret=>
     obtain⟨-,rest,hrest⟩:=hxs;have h6:Sat W w' (sep (fact (∃x∈xs,x.2.formed qG=false)) (sep (blk D (.deferred (some []))) (sep (kn I) (sep (blk (B+1) (.cells #[.int .i64 1] 39 (0,0))) (sep (blk B (.cells #[.int .i64 p,.int .i64 q,.slice x1 n1 c1,.slice x2 n2 c2] 34 (0,0))) A))))):=by
      unfold vZ at hS;simpa only[aA,ay,aj] using hS
     obtain⟨⟨x,hx,hbad⟩,h7⟩:=Sat.fact.1 h6;have hwt:wh=false:=by
      rw[XL.out,←hrest,List.all_eq_false];exact⟨x.2,List.mem_append_left _ (List.mem_map_of_mem hx),by rw[hbad];decide⟩
     have hD:=h7.aO;have h10:=h7.putObj (.deferred none);have y0:=h10.p2.cell 0;have Fh:Hid (Sat W (w'.putObj D (.deferred none)) (sep (kn I) A)):=ah (by
      have:=(h10.drop.p1.drop).p1.drop;simpa only[aA,ay,aj] using this)
     have lW:Hid (rv=1):=ah (by rw[HV.out,hwt];rfl);clear hS h6 h7 h10 hwt HR XL h5 hbad hrest hx
     gi_wp2_with fail
     refine⟨by simp,.inl ⟨_,_,rfl,run_takeDeferred hD,?_⟩⟩;refine⟨.int .i64 1,?_,?_⟩
     ·simp[results,Tryz.results118,go_sem,y0]
     ·exact⟨by rw[lW.out],Fh.out⟩
    | _=>exact absurd (Sat.fact.1 (show Sat W w' (sep (fact False) _) from hS.p1)).1 (fun h=>h)
end Go.Proofs.YthfmaclnccdcbaaGreatDoor
namespace Go.Proofs.YthfmaclnccdcbaaGreatDoor
open Go.RowKit PA
def Jk (f:Fm):Prop:=f.size≤o7∧∀g∈f.nodes,∀x∈g.ins,Jg x
theorem cl5 {W w:World} {A:aC} {g:Nat} {a b c d e:Value} {t:TypeId} (h:Sat W w (sep (blk g (.cells #[a,b,c,d,e] t (0,0))) A)):
 w.cell? ⟨g,0,none⟩=some a∧w.cell? ⟨g,1,none⟩=some b∧w.cell? ⟨g,2,none⟩=some c∧w.cell? ⟨g,3,none⟩=some d∧w.cell? ⟨g,4,none⟩=some e:=
 ⟨h.cell 0,h.cell 1,h.cell 2,h.cell 3,h.cell 4⟩
set_option maxRecDepth 100000 in
set_option maxHeartbeats 4000000 in
theorem lY {W w:World} {A:aC} {I:Mem} (a:Option Addr) (n c:Nat) (l:List Cl) (hv:(kM.slice 5).rel I [.slice a n c] l) (hB:∀x∈l,Jk x.body) (h:Sat W w (sep (kn I) A)):
 Calls Tryz.prog 113 #[.slice a n c] w fun e w'=>e=.returned (.int .i64 (pR l))∧Sat W w' (sep (kn I) A):=by
 have hn:=(aI hv).1;have hl63:=(aI hv).2.2;obtain⟨rv,dK⟩:=aB (pR l);rw[←dK];have bM:Hid (rv=(if 32<n then 4 else qL 0 l)∧n=l.length):=ah ⟨by rw[dK,hn];rfl,hn⟩;have HV:=ah hv;have xq:=ah hB;have H:=ah h;clear hv h dK hn hB
 by_cases h32:32<n
 ·have NJ:(32:Int)<(n:Int):=by omega
  have HF:Hid (rv=4):=ah (by rw[bM.out.1,if_pos h32]);clear h32
  go_enter Tryz.func113,Tryz.ntmps113
  go_wp2
  go_ret
  exact⟨by rw[HF.out];rfl,H.out⟩
 ·have NJ:¬(32:Int)<(n:Int):=by omega
  have HG:Hid (rv=qL 0 l):=ah (by rw[bM.out.1,if_neg h32]);have adA:(n:Int)≤32:=by omega
  clear h32
  go_enter Tryz.func113,Tryz.ntmps113
  go_upto_region 3 with (fail)
  clear NJ
  go_wp2
  go_loopw [11] (fun iv wr=>∃k:Nat,iv=.int .i64 k∧k≤n∧Hid (rv=qL k (l.drop k))∧Sat W wr (sep (kn I) A)) (fun iv _=>n-(intOf iv).toNat)
  case atStart=>exact⟨0,rfl,by omega,HG,H.out⟩
  case round=>
   obtain⟨k,rfl,hk,HT,hS⟩:=hrel
   by_cases hlt:k<n
   ·have hltz:(k:Int)<(n:Int):=by omega
    have hkl:k<l.length:=by have:=bM.out.2;omega
    obtain⟨x,hx⟩:∃x,l[k]?=some x:=⟨_,List.getElem?_eq_getElem hkl⟩
    obtain⟨b,o,ra,rc,p,q,x1,n1,c1,x2,n2,c2,rfl,hrr,hrb,hcell⟩:=uI HV.out hx;obtain⟨j0,j1,j2,j3,j4⟩:=hcell wr hS.ext;have hT:=HT.out;rw[FH hx] at hT;obtain⟨nr,hnr⟩:=aB (x.refs.length);obtain⟨rf,hrf⟩:=aB (jS x.refs k);obtain⟨be,hbe⟩:=aB (jV x.body);have hAl:=hS.alloc (.cells #[.slice ra x.refs.length rc,.int .i64 p,.int .i64 q,.slice x1 n1 c1,.slice x2 n2 c2] 91);rw[←hnr] at hAl;obtain⟨M,hM⟩:=aB (wr.heap.size);obtain⟨w1,hw1⟩:=aB (wr.alloc (.cells #[.slice ra nr rc,.int .i64 p,.int .i64 q,.slice x1 n1 c1,.slice x2 n2 c2] 91));rw[←hM,←hw1] at hAl;obtain⟨k0,k1,k2,k3,k4⟩:=cl5 hAl;have GY:=ah (And.intro hM hw1);have su:=ah hAl;have hrs:=Ot ra rc x.refs k hrr hAl.p1;rw[←hrf,←hnr] at hrs;have SH:=ah hrs;have hvs:∀w' A',Sat W w' (sep (kn I) A')→Calls Tryz.prog 118 #[.agg #[.int .i64 p,.int .i64 q,.slice x1 n1 c1,.slice x2 n2 c2]] w' fun e w''=>e=.returned (.int .i64 be)∧Sat W w'' (sep (kn I) A'):=fun w' A' h'=>by
     rw[hbe];exact lF x.body p q x1 n1 c1 x2 n2 c2 hrb (xq.out x (List.mem_of_getElem? hx)).1 (xq.out x (List.mem_of_getElem? hx)).2 h'
    have sH:=ah hvs;have ZE:=(aI hrr).2.2;rw[←hnr] at hT j0 ZE;rw[←hrf,←hbe] at hT;have HT2:=ah hT;have HK:=ah hlt;clear hx hrr hrb hcell hT hnr hrf hbe hrs hvs hS hlt hkl hk H HT HG hAl hM hw1
    by_cases h8:8<nr
    ·have h8z:(8:Int)<(nr:Int):=by omega
     have HF:Hid (rv=4):=ah (by rw[HT2.out,if_pos h8]);clear h8
     go_upto_region 6 with (fail)
     rw[←GY.out.1,←GY.out.2]
     go_wp2
     go_ret
     exact⟨by rw[HF.out];rfl,su.out.drop⟩
    ·have h8z:¬(8:Int)<(nr:Int):=by omega
     have HT3:Hid (rv=if rf=false then 1 else if be≠0 then be else qL (k+1) (l.drop (k+1))):=ah (by rw[HT2.out,if_neg h8]);clear h8 HT2
     go_upto_region 6 with (fail)
     rw[←GY.out.1,←GY.out.2]
     go_wp2_with fail
     refine SH.out.mono ?_;rintro e w2 ⟨rfl,h2⟩;have h2':Sat W w2 (sep (blk M (.cells #[.slice ra nr rc,.int .i64 p,.int .i64 q,.slice x1 n1 c1,.slice x2 n2 c2] 91 (0,0))) (sep (kn I) A)):=dJ h2;have H2:=ah h2'.drop;clear h2 SH k0 k1 k2 k3 k4 h8z j0 j1 j2 j3 j4;obtain⟨k0,k1,k2,k3,k4⟩:=cl5 h2';clear h2' su;cases rf with
     | false=>
      have HF:Hid (rv=1):=ah (by rw[HT3.out];rfl)
      go_wp2
      go_ret
      exact⟨by rw[HF.out];rfl,H2.out⟩
     | true=>
      go_wp2_with fail
      refine (sH.out _ _ H2.out).mono ?_;rintro e w3 ⟨rfl,h3⟩;have H3:=ah h3;clear h3 H2 sH k0 k1 k2 k3 k4
      by_cases hb0:be=0
      ·have HF:Hid (rv=qL (k+1) (l.drop (k+1))):=ah (by rw[HT3.out];simp[hb0])
       subst hb0
       go_wp2
       go_roundw
       case rel=>exact⟨k+1,by go_num,by have:=HK.out;omega,HF,H3.out⟩
       case measure=>simp[intOf];have:=HK.out;omega
      ·have HF:Hid (rv=be):=ah (by rw[HT3.out];simp[hb0])
       have hb1:(be !=0)=true:=by simpa using hb0
       have hb2:(be==0)=false:=by simpa using hb0
       clear hb0
       go_wp2
       go_ret
       exact⟨by rw[HF.out];rfl,H3.out⟩
   ·obtain rfl:k=n:=by omega
    have HF:Hid (rv=0):=ah (by
     have:=HT.out;rw[List.drop_of_length_le (by have:=bM.out.2;omega)] at this;exact this)
    have HS:=ah hS;clear hS H
    go_wp2
    go_ret
    exact⟨by rw[HF.out];rfl,HS.out⟩
end Go.Proofs.YthfmaclnccdcbaaGreatDoor
namespace PA
open Go Go.RowKit
def qR:List (Int×Int)→Int
 | []=>0
 | p::l=>if p.1<p.2 then -1 else if p.2<p.1 then 1 else qR l
def oC (X Y:List UInt8):List (Int×Int):=List.zipWith (fun u v=>(((u.toNat:Nat):Int),((v.toNat:Nat):Int))) X Y
def keysB (d1 n1 d2 n2:Int) (X Y:List UInt8):List (Int×Int):=[(d1,d2),(n1,n2)]++oC X Y++[((X.length:Int),(Y.length:Int))]
def o9 (x y:Pa):Int:=qR (keysB x.d x.n y.d y.n (gZ x) (gZ y))
def wQ (l:List (Int×Int)):List Value:=(l.map fun p=>[Value.int .i64 p.1,Value.int .i64 p.2]).flatten
theorem PY (a b:List (Int×Int)):wQ (a++b)=wQ a++wQ b:=by unfold wQ;simp
theorem PZ:∀{l:List (Int×Int)} {i:Nat} {p:Int×Int},l[i]?=some p→(wQ l)[i*2]?=some (.int .i64 p.1)∧(wQ l)[i*2+1]?=some (.int .i64 p.2)
 | [],i,p,h=>by simp at h
 | q::l,0,p,h=>by simp at h;subst h;unfold wQ;simp
 | q::l,i+1,p,h=>by
  have:=PZ (l:=l) (i:=i) (p:=p) (by simpa using h);unfold wQ at this ⊢;rw[List.map_cons,List.flatten_cons,show (i+1)*2=i*2+2 by omega,show i*2+2+1=i*2+1+2 by omega];exact⟨by simpa using this.1,by simpa using this.2⟩
theorem P5 (l:List (Int×Int)):∀u∈wQ l,u.oneCell'=true:=by
 intro u hu;unfold wQ at hu;obtain⟨c,hc,hu⟩:=List.mem_flatten.1 hu;obtain⟨p,-,rfl⟩:=List.mem_map.1 hc;simp at hu;rcases hu with rfl|rfl<;>rfl
theorem L9 (X Y:List UInt8):(oC X Y).length=min X.length Y.length:=by unfold oC;simp
theorem U5 {X Y:List UInt8} {i:Nat} {u v:UInt8} (h1:X[i]?=some u) (h2:Y[i]?=some v):(oC X Y)[i]?=some (((u.toNat:Nat):Int),((v.toNat:Nat):Int)):=by
 unfold oC;rw[List.getElem?_zipWith,h1,h2]
theorem QW {l:List (Int×Int)} {i:Nat} {p:Int×Int} (h:l[i]?=some p):qR (l.drop i)=if p.1<p.2 then -1 else if p.2<p.1 then 1 else qR (l.drop (i+1)):=by
 obtain⟨hi,rfl⟩:=List.getElem?_eq_some_iff.1 h;rw[List.drop_eq_getElem_cons hi];rfl
theorem uG {I:Mem} {a:Option Addr} {n c:Nat} {l:List UInt8} (h:bT.rel I [.slice a n c] l):n=l.length∧(n:Int)≤9223372036854775807∧∀i u,l[i]?=some u→∃b o,a=some ⟨b,o,none⟩∧∀w',Ext I w'→w'.cell? ⟨b,o+i,none⟩=some (bv u):=by
 obtain⟨a',c',e,hsw,hc⟩:=uH.1 h;simp only[Value.slice.injEq] at e;obtain⟨rfl,rfl,rfl⟩:=e;refine⟨rfl,by have h1:=hsw.1;have h2:=hsw.2.1;unfold maxLen at h2;omega,fun i u hu=>?_⟩;obtain⟨b,o,e,hx⟩:=pO hc (fun e=>by rw[List.map_eq_nil_iff] at e;rw[e] at hu;simp at hu);exact⟨b,o,e,fun w' he=>hx w' he i _ (by rw[List.getElem?_map,hu];rfl)⟩
end PA
