/- Part of a proof. -/
import Derived.Laws.EntriesVeiled
import Derived.Test.YthfmaclnccdcbaaGreatDoorZFO14
import Derived.Sort.CutIn
namespace PA
open Go Go.RowKit
theorem sS {n m:Nat} {P:Program} {l:Nat} {f:FuncId} {tmps:Array Value} {assign body:Code} {w:World} {R:Ending→World→Prop} (h:RoundIn Fence.wide n P l f tmps assign body w R):RoundIn Fence.wide m P l f tmps assign body w R:=
 ⟨h.1,fun c cs _=>h.2 c cs (room_wide _)⟩
theorem zA {n m:Nat} {P:Program} {l:Nat} {args:Array Value} {w:World} {R:Ending→World→Prop} (h:YieldAt Fence.wide n P l args w R):YieldAt Fence.wide m P l args w R:=by
 obtain⟨fn,tmps,assign,body,hy,hR⟩:=h;exact⟨fn,tmps,assign,body,hy,sS hR⟩
abbrev FV:=List Value×Fm
def su (x:FV):Array Value:=#[.agg x.1.toArray]
def Gu (I:Mem) (Pn:Fm→Prop) (x:FV):aB:=fact (rF.rel I x.1 x.2∧Pn x.2)
theorem Fm.Ey {k:List Fm} {g x:Fm} (hg:g∈k) (hx:x∈g.nodes):x∈Fm.bV k:=by
 induction k with
 | nil=>cases hg
 | cons f k ih=>
  rw[Fm.bV];rcases List.mem_cons.1 hg with rfl|hg
  ·exact zC _ hx
  ·exact Bl _ (ih hg)
theorem Fm.vX:∀f:Fm,f.nodes.length=f.size:=by
 intro f;refine Fm.ind (P:=fun f=>f.nodes.length=f.size) (fun o n i k ih=>?_) f;have key:∀l:List Fm,(∀g∈l,g.nodes.length=g.size)→(Fm.bV l).length=Fm.sizes l:=by
  intro l
  induction l with
  | nil=>intro _;rfl
  | cons g l ihl=>
   intro h;rw[Fm.bV,Fm.sizes,dM,h g (by simp),ihl fun x hx=>h x (by simp[hx])]
 rw[Fm.nodes,Fm.size,oP,key k ih]
theorem Fm.Ny (l:List Fm) (f:Fm):Fm.bV (l++[f])=Fm.bV l++f.nodes:=by
 induction l with
 | nil=>simp[Fm.bV]
 | cons g l ih=>rw[pV,Fm.bV,Fm.bV,ih,kZ]
theorem Fm.Nz (l:List Fm) (i:Nat) {f:Fm} (h:l[i]?=some f):Fm.bV (l.take (i+1))=Fm.bV (l.take i)++f.nodes:=by
 rw[List.take_add_one,h];exact Fm.Ny _ _
theorem Fm.Jz (l:List Fm) (i:Nat):Fm.bV l=Fm.bV (l.take i)++Fm.bV (l.drop i):=by
 have key:∀a b:List Fm,Fm.bV (a++b)=Fm.bV a++Fm.bV b:=by
  intro a b
  induction a with
  | nil=>rfl
  | cons g a ih=>rw[pV,Fm.bV,Fm.bV,ih,kZ]
 rw[←key,List.take_append_drop]
def GR (W:World) (R Z:List FV→aB) (pre:List FV) (ys:List Fm) (B:aB) (b:Bool) (e:Ending) (w':World):Prop:=
 (e=.returned (.bool b)∧∃xs:List FV,xs.map (·.2)=ys∧Sat W w' (sep (R (pre++xs)) B))∨(e=.returned (.bool (!b))∧∃(xs:List FV) (rest:List Fm),xs.map (·.2)++rest=ys∧xs≠[]∧Sat W w' (sep (Z (pre++xs)) B))
end PA
namespace Go.Proofs.YthfmaclnccdcbaaGreatDoor
open Go.RowKit PA
section
attribute [local go_sem] Oper.semAt_some
def kV (lp yb wb:Nat):aB:=sep (blk yb (.cells #[.func (.yield lp) #[] #[]] 185 (0,0))) (blk wb (.cells #[.func (.func 173) #[] #[.pointer (some ⟨yb,0,none⟩),.pointer (some ⟨wb,0,none⟩)]] 185 (0,0)))
theorem CP {W w:World} {A:aB} {lp yb wb:Nat} (h:Sat W w (sep (kV lp yb wb) A)):w.cell? ⟨yb,0,none⟩=some (.func (.yield lp) #[] #[])∧w.cell? ⟨wb,0,none⟩=some (.func (.func 173) #[] #[.pointer (some ⟨yb,0,none⟩),.pointer (some ⟨wb,0,none⟩)]):=by
 unfold kV at h;rw[aj] at h;exact⟨h.cell 0,h.p1.cell 0⟩
def Down (W:World) (I:Mem) (Pn:Fm→Prop) (R Z:List FV→aB) (lp yb wb N:Nat) (f:Fm):Prop:=
 ∀(p q:Int) (x1:Option Addr) (n1 c1:Nat) (x2:Option Addr) (n2 c2:Nat) (pre:List FV) (w:World) (A:aB),rF.rel I [.int .i64 p,.int .i64 q,.slice x1 n1 c1,.slice x2 n2 c2] f→(∀g∈f.nodes,Pn g)→pre.length+f.size≤N →
  Sat W w (sep (R pre) (sep (kV lp yb wb) (sep (kn I) A))) →
  Calls Tryz.prog 173 #[.agg #[.int .i64 p,.int .i64 q,.slice x1 n1 c1,.slice x2 n2 c2],.pointer (some ⟨yb,0,none⟩),.pointer (some ⟨wb,0,none⟩)] w (GR W R Z pre f.nodes (sep (kV lp yb wb) (sep (kn I) A)) true)
theorem Y7 {W:World} {I:Mem} {Pn:Fm→Prop} {R Z:List FV→aB} {lp yb wb N:Nat} {f:Fm} (hD:Down W I Pn R Z lp yb wb N f) (p q:Int) (x1:Option Addr) (n1 c1:Nat) (x2:Option Addr) (n2 c2:Nat) (pre:List FV) (w:World) (A:aB) (hr:rF.rel I [.int .i64 p,.int .i64 q,.slice x1 n1 c1,.slice x2 n2 c2] f) (hP:∀g∈f.nodes,Pn g) (hN:pre.length+f.size≤N)
 (h:Sat W w (sep (R pre) (sep (kV lp yb wb) (sep (kn I) A)))):
 Calls Tryz.prog 175 #[.agg #[.int .i64 p,.int .i64 q,.slice x1 n1 c1,.slice x2 n2 c2],.pointer (some ⟨wb,0,none⟩)] w (GR W R Z pre f.nodes (sep (kV lp yb wb) (sep (kn I) A)) false):=by
 have h1:=h.alloc (.cells #[.int .i64 p,.int .i64 q,.slice x1 n1 c1,.slice x2 n2 c2] 34);obtain⟨B,hB⟩:=aC (w.heap.size);obtain⟨w1,hw1⟩:=aC (w.alloc (.cells #[.int .i64 p,.int .i64 q,.slice x1 n1 c1,.slice x2 n2 c2] 34));rw[←hB,←hw1] at h1;obtain⟨k0,k1,k2,k3⟩:=lH h1;obtain⟨-,e1⟩:=CP h1.p2;have hd:=hD p q x1 n1 c1 x2 n2 c2 pre w1 (sep (blk B (.cells #[.int .i64 p,.int .i64 q,.slice x1 n1 c1,.slice x2 n2 c2] 34 (0,0))) A) hr hP hN (by simpa only[aA,au,aj] using h1);have HD:=ah hd;have HB:=ah (aH hB hw1);clear h h1 hB hw1 hd hD hr hP hN;go_enter Tryz.func175,Tryz.ntmps175;go_upto_region 1 with fail;rw[←HB.out.1,←HB.out.2];go_wp2_with fail;refine HD.out.mono ?_;rintro e w2 (⟨rfl,xs,hx,h2⟩|⟨rfl,xs,rest,hx,hne,h2⟩)
 ·have H2:Hid (Sat W w2 (sep (R (pre++xs)) (sep (kV lp yb wb) (sep (kn I) A)))):=ah (by
   have h3:Sat W w2 (sep (blk B (.cells #[.int .i64 p,.int .i64 q,.slice x1 n1 c1,.slice x2 n2 c2] 34 (0,0))) (sep (R (pre++xs)) (sep (kV lp yb wb) (sep (kn I) A)))):=dI h2;exact h3.forget)
  have HX:=ah hx;clear h2 hx HD k0 k1 k2 k3 e1;go_wp2;go_ret;exact .inl ⟨rfl,xs,HX.out,H2.out⟩
 ·have H2:Hid (Sat W w2 (sep (Z (pre++xs)) (sep (kV lp yb wb) (sep (kn I) A)))):=ah (by
   have h3:Sat W w2 (sep (blk B (.cells #[.int .i64 p,.int .i64 q,.slice x1 n1 c1,.slice x2 n2 c2] 34 (0,0))) (sep (Z (pre++xs)) (sep (kV lp yb wb) (sep (kn I) A)))):=dI h2;exact h3.forget)
  have HX:=ah (aH hx hne);clear h2 hx hne HD k0 k1 k2 k3 e1;go_wp2;go_ret;exact .inr ⟨rfl,xs,rest,HX.out.1,HX.out.2,H2.out⟩
def aah (W:World) (R Z:List FV→aB) (pre:List FV) (ys:List Fm) (B:aB) (e:Ending) (w':World):Prop:=
 (e=.returned (.int .i64 (-1))∧∃xs:List FV,xs.map (·.2)=ys∧Sat W w' (sep (R (pre++xs)) B))∨∃j:Nat,e=.returned (.int .i64 j)∧∃(xs:List FV) (rest:List Fm),xs.map (·.2)++rest=ys∧xs≠[]∧Sat W w' (sep (Z (pre++xs)) B)
set_option maxRecDepth 100000 in
set_option maxHeartbeats 4000000 in
theorem Zd {W:World} {I:Mem} {Pn:Fm→Prop} {R Z:List FV→aB} {lp yb wb N:Nat} {k:List Fm} (hD:∀g∈k,Down W I Pn R Z lp yb wb N g) (x2:Option Addr) (c2:Nat) (hk:(rF.slice 4).rel I [.slice x2 k.length c2] k) (hP:∀g∈Fm.bV k,Pn g) (pre:List FV) (w:World) (A:aB) (hN:pre.length+Fm.sizes k≤N)
 (h:Sat W w (sep (R pre) (sep (kV lp yb wb) (sep (kn I) A)))):
 Calls Tryz.prog 202 #[.slice x2 k.length c2,.func (.func 175) #[] #[.pointer (some ⟨wb,0,none⟩)]] w (aah W R Z pre (Fm.bV k) (sep (kV lp yb wb) (sep (kn I) A))):=by
 obtain⟨n,hn⟩:=aC (k.length);obtain⟨Po,dS⟩:=aC (aah W R Z pre (Fm.bV k) (sep (kV lp yb wb) (sep (kn I) A)));rw[←dS];have hl63:=(aJ hk).2.2;rw[←hn] at hk hl63 ⊢;have bK:=ah dS;have HN:=ah (aH hn hN);have HPN:=ah hP;have HK:=ah hk;have HD:=ah hD;have H:=ah h;clear hn dS hk h hD hN hP;go_enter Tryz.func202,Tryz.ntmps202;go_wp2;go_loopw [8] (fun iv wr=>∃(i:Nat) (xs:List FV),iv=.int .i64 i∧i≤n∧Hid (xs.map (·.2)=Fm.bV (k.take i))∧Sat W wr (sep (R (pre++xs)) (sep (kV lp yb wb) (sep (kn I) A)))) (fun iv _=>n-(intOf iv).toNat)
 case atStart=>exact⟨0,[],rfl,by omega,ah (by simp[Fm.bV]),by rw[List.append_nil];exact H.out⟩
 case round=>
  obtain⟨i,xs,rfl,hi,wL,hS⟩:=hrel;clear H;by_cases hlt:i<n
  ·as_aux_lemma=>
   have hltz:(i:Int)<(n:Int):=by omega
   obtain⟨g,hg⟩:∃g,k[i]?=some g:=⟨_,iM (by have:=HN.out.1;omega)⟩
   obtain⟨b,o,p',q',y1,m1,d1,y2,m2,d2,rfl,hgr,hcell⟩:=gY HK.out hg;have hmem:g∈k:=mZ hg;obtain⟨j0,j1,j2,j3⟩:=hcell wr hS.p2.ext;have htk:=Fm.Nz k i hg;have hsz:(pre++xs).length+g.size≤N:=by
    have h1:xs.length=(Fm.bV (k.take i)).length:=by rw[←wL.out,List.length_map]
    have h2:(Fm.bV (k.take (i+1))).length=Fm.sizes (k.take (i+1)):=by
     have key:∀l:List Fm,(Fm.bV l).length=Fm.sizes l:=by
      intro l
      induction l with
      | nil=>rfl
      | cons g l ih=>rw[Fm.bV,Fm.sizes,dM,Fm.vX,ih]
     exact key _
    have h3:=Fm.rH k (i+1);rw[htk,dM,Fm.vX] at h2;have:=HN.out.2;rw[dM];omega
   have hc:=Y7 (HD.out g hmem) p' q' y1 m1 d1 y2 m2 d2 (pre++xs) wr A hgr (fun z hz=>HPN.out z (Fm.Ey hmem hz)) hsz hS;have HC:=ah hc;have HT:=ah (aH htk (aH hlt hg));clear hgr hcell hmem htk hsz hc hg hlt hi hS;go_wp2_with fail;refine HC.out.mono ?_;rintro e w2 (⟨rfl,ys,hy,h2⟩|⟨rfl,ys,rest,hy,hne,h2⟩)
   ·have H2:=ah h2
    have HY:Hid ((xs++ys).map (·.2)=Fm.bV (k.take (i+1))):=ah (by rw[qy,wL.out,hy,HT.out.1]);clear h2 hy HC j0 j1 j2 j3;go_wp2;go_roundw;case rel=>exact⟨i+1,xs++ys,by go_num,by have:=HT.out.2.1;omega,HY,by rw[←kZ];exact H2.out⟩
    case measure=>simp[intOf];have:=HT.out.2.1;omega
   ·have H2:=ah h2
    have HY:Hid ((xs++ys).map (·.2)++(rest++Fm.bV (k.drop (i+1)))=Fm.bV k∧xs++ys≠[]):=ah ⟨by
     rw[qy,wL.out,Fm.Jz k (i+1),HT.out.1,←hy];simp only[kZ],fun e=>hne (List.append_eq_nil_iff.1 e).2⟩
    clear h2 hy hne HC j0 j1 j2 j3;go_wp2;rw[bK.out];exact .inr ⟨i,rfl,xs++ys,_,HY.out.1,HY.out.2,by rw[←kZ];exact H2.out⟩
  ·obtain rfl:i=n:=by omega
   have hx:xs.map (·.2)=Fm.bV k:=by rw[wL.out,List.take_of_length_le (by rw[←HN.out.1];exact Nat.le_refl _)]
   have HX:=ah (aH hx hS);clear hx hS hlt hi;go_wp2;rw[bK.out];exact .inl ⟨rfl,xs,HX.out.1,HX.out.2⟩
theorem fcontF {W:World} {I:Mem} {Pn:Fm→Prop} {R Z:List FV→aB} {lp yb wb N:Nat} {k:List Fm} (hD:∀g∈k,Down W I Pn R Z lp yb wb N g) (x2:Option Addr) (c2:Nat) (hk:(rF.slice 4).rel I [.slice x2 k.length c2] k) (hP:∀g∈Fm.bV k,Pn g) (pre:List FV) (w:World) (A:aB) (hN:pre.length+Fm.sizes k≤N)
 (h:Sat W w (sep (R pre) (sep (kV lp yb wb) (sep (kn I) A)))):
 Calls Tryz.prog 174 #[.slice x2 k.length c2,.func (.func 175) #[] #[.pointer (some ⟨wb,0,none⟩)]] w (GR W R Z pre (Fm.bV k) (sep (kV lp yb wb) (sep (kn I) A)) false):=by
 have HI:=ah (Zd hD x2 c2 hk hP pre w A hN h);obtain⟨n,hn⟩:=aC (k.length);rw[←hn] at HI ⊢;clear hn hk h hD hN hP;go_enter Tryz.func174,Tryz.ntmps174;go_wp2_with fail;refine HI.out.mono ?_;rintro e w2 (⟨rfl,xs,hx,h2⟩|⟨j,rfl,xs,rest,hx,hne,h2⟩)
 ·have H2:=ah (aH hx h2)
  clear hx h2 HI;go_wp2;go_ret;exact .inl ⟨rfl,xs,H2.out.1,H2.out.2⟩
 ·have H2:=ah (aH hx (aH hne h2))
  have hj:(0:Int)≤(j:Int):=by omega
  clear hx hne h2 HI;go_wp2;go_ret;exact .inr ⟨by simp,xs,rest,H2.out.1,H2.out.2.1,H2.out.2.2⟩
end
section
attribute [local go_sem] Oper.semAt_some
set_option maxRecDepth 100000 in
set_option maxHeartbeats 8000000 in
theorem down11 {W:World} {I:Mem} {Pn:Fm→Prop} {R Z:List FV→aB} {lp yb wb N:Nat} (hY:∀m,xA Fence.wide m Tryz.prog W lp su (Gu I Pn) N R Z) (o n:Int) (i:List Iv) (k:List Fm) (hD:∀g∈k,Down W I Pn R Z lp yb wb N g):
 Down W I Pn R Z lp yb wb N (.mk o n i k):=by
 intro p q x1 n1 c1 x2 n2 c2 pre w A hr hP hN h;obtain⟨x1',c1',x2',c2',e,hi,hk⟩:=dW.1 hr;simp only[List.cons.injEq,Value.int.injEq,Value.slice.injEq,true_and,and_true] at e;obtain⟨rfl,rfl,⟨rfl,rfl,rfl⟩,⟨rfl,rfl,rfl⟩⟩:=e;refine (callsIn_wide (n:=5)).1 ?_;have hN1:pre.length<N:=by rw[Fm.size] at hN;omega
 have Zi:∀x:FV,(pre++[x]).length+Fm.sizes k≤N:=fun x=>by rw[Fm.size] at hN;rw[dM,List.length_singleton];omega
 have abB:(Fm.mk p q i k).nodes=Fm.mk p q i k::Fm.bV k:=by rw[Fm.nodes]
 have hPk:∀g∈Fm.bV k,Pn g:=fun g hg=>hP g (by rw[abB];exact tY _ hg)
 have hP0:Pn (Fm.mk p q i k):=hP _ (by rw[abB];exact List.mem_cons_self ..);have hFC:=fun (x:FV) (w':World) (A':aB) (h':Sat W w' (sep (R (pre++[x])) (sep (kV lp yb wb) (sep (kn I) A'))))=>fcontF hD x2 c2 hk hPk (pre++[x]) w' A' (Zi x) h'
 have h1:=h.alloc (.cells #[.int .i64 p,.int .i64 q,.slice x1 i.length c1,.slice x2 k.length c2] 34);obtain⟨B,hB⟩:=aC (w.heap.size);obtain⟨w1,hw1⟩:=aC (w.alloc (.cells #[.int .i64 p,.int .i64 q,.slice x1 i.length c1,.slice x2 k.length c2] 34));rw[←hB,←hw1] at h1;obtain⟨nk,hnk⟩:=aC (k.length);obtain⟨ni,hni⟩:=aC (i.length);obtain⟨xv,hxv⟩:∃z:FV,z=([.int .i64 p,.int .i64 q,.slice x1 i.length c1,.slice x2 k.length c2],Fm.mk p q i k):=⟨_,rfl⟩
 have hx:Sat W w1 (sep (R pre) (sep (Gu I Pn xv) (sep (blk B (.cells #[.int .i64 p,.int .i64 q,.slice x1 i.length c1,.slice x2 k.length c2] 34 (0,0))) (sep (kV lp yb wb) (sep (kn I) A))))):=by
  have h2:Sat W w1 (sep (Gu I Pn xv) (sep (R pre) (sep (blk B (.cells #[.int .i64 p,.int .i64 q,.slice x1 i.length c1,.slice x2 k.length c2] 34 (0,0))) (sep (kV lp yb wb) (sep (kn I) A))))):=Sat.fact.2 ⟨by rw[hxv];exact⟨hr,hP0⟩,by simpa only[aA,au,aj] using h1⟩;simpa only[aA,au,aj] using h2
 have hy0:=hY 5 pre xv w1 _ hN1 hx;have hno:(Fm.mk p q i k).nodes=Fm.mk p q i k::Fm.bV k:=by rw[Fm.nodes]
 have hx2:xv.2=Fm.mk p q i k:=by rw[hxv]
 have hxe:su xv=#[.agg #[.int .i64 p,.int .i64 q,.slice x1 i.length c1,.slice x2 k.length c2]]:=by rw[hxv];rfl
 rw[hno];rw[←hni,←hnk] at hy0 hx hxe ⊢;rw[←hnk] at hFC;rw[hxe] at hy0;obtain⟨k0,k1,k2,k3⟩:=lH hx.p2;obtain⟨e0,e1⟩:=CP hx.p3;have HB:Hid (B=w.heap.size∧w1=w.alloc (.cells #[.int .i64 p,.int .i64 q,.slice x1 ni c1,.slice x2 nk c2] 34)):=ah ⟨hB,by rw[hw1,hni,hnk]⟩;have QZ:=ah hx2;have HFC:=ah hFC;have hmf:∀(fn:Fn) (first cap:Array Value) (w:World),(Instr.makeFunc fn first cap).run Tryz.prog w=.ok (.func fn first cap) w:=fun _ _ _ _=>rfl
 obtain⟨nds,WC⟩:=aC (Fm.bV k);rw[←WC] at HFC ⊢;obtain⟨f0,hf0⟩:=aC (Fm.mk p q i k);rw[←hf0] at QZ ⊢;clear hr hi hk hN h h1 hB hw1 hnk hni hxv hx hno hx2 hxe hY hD hN1 Zi hFC WC hf0 hP hPk hP0 abB;refine callsIn_of_wp (n:=5) Tryz.func173 rfl trivial ?_ rfl;simp only[Tryz.ntmps173,List.size_toArray,oP,List.length_nil,Nat.reduceAdd,Nat.reduceSub,Array.replicate_succ,Array.replicate_zero,List.push_toArray,List.append_toArray,tK,pV];gi_upto_region 1 with fail;rw[←HB.out.1,←HB.out.2];obtain⟨fn,tmps,assign,body,hy,hR⟩:=hy0;gi_wp2_with fail;refine (sS hR).mono ?_;rintro e wz (⟨rfl,hz⟩|⟨rfl,hz⟩)
 ·clear hR hy k0 k1 k2 k3 e0 e1
  obtain⟨k0,k1,k2,k3⟩:=lH hz.p1;obtain⟨e0,e1⟩:=CP hz.p2;have HW:=ah (HFC.out xv wz (sep (blk B (.cells #[.int .i64 p,.int .i64 q,.slice x1 ni c1,.slice x2 nk c2] 34 (0,0))) A) (by simpa only[aA,au,aj] using hz));clear hz;gi_wp2_with fail;refine⟨trivial,(callsIn_wide.2 HW.out).mono ?_⟩;rintro e w2 (⟨rfl,xs,hxs,h2⟩|⟨rfl,xs,rest,hxs,hne,h2⟩)
  ·have H2:Hid (Sat W w2 (sep (R (pre++xv::xs)) (sep (kV lp yb wb) (sep (kn I) A)))):=ah (by
    rw[kZ] at h2;have h3:Sat W w2 (sep (blk B (.cells #[.int .i64 p,.int .i64 q,.slice x1 ni c1,.slice x2 nk c2] 34 (0,0))) (sep (R (pre++([xv]++xs))) (sep (kV lp yb wb) (sep (kn I) A)))):=dI h2;exact h3.forget)
   have wL:Hid ((xv::xs).map (·.2)=f0::nds):=ah (by rw[mM,QZ.out,hxs]);clear h2 hxs HW k0 k1 k2 k3 e0 e1;gi_wp2_with fail;refine bodyPost_ret (results_tmp rfl _ _ _) rfl (.inl ⟨rfl,_,wL.out,H2.out⟩)
  ·have H2:Hid (Sat W w2 (sep (Z (pre++xv::xs)) (sep (kV lp yb wb) (sep (kn I) A)))):=ah (by
    rw[kZ] at h2;have h3:Sat W w2 (sep (blk B (.cells #[.int .i64 p,.int .i64 q,.slice x1 ni c1,.slice x2 nk c2] 34 (0,0))) (sep (Z (pre++([xv]++xs))) (sep (kV lp yb wb) (sep (kn I) A)))):=dI h2;exact h3.forget)
   have wL:Hid ((xv::xs).map (·.2)++rest=f0::nds):=ah (by rw[mM,QZ.out,pV,hxs]);clear h2 hxs hne HW k0 k1 k2 k3 e0 e1;gi_wp2_with fail;refine bodyPost_ret (results_tmp rfl _ _ _) rfl (.inr ⟨rfl,_,rest,wL.out,by simp,H2.out⟩)
 ·have H2:Hid (Sat W wz (sep (Z (pre++[xv])) (sep (kV lp yb wb) (sep (kn I) A)))):=ah (by
   have h3:Sat W wz (sep (blk B (.cells #[.int .i64 p,.int .i64 q,.slice x1 ni c1,.slice x2 nk c2] 34 (0,0))) (sep (Z (pre++[xv])) (sep (kV lp yb wb) (sep (kn I) A)))):=dI hz;exact h3.forget)
  have wL:Hid (([xv]:List FV).map (·.2)++nds=f0::nds):=ah (by rw[mM,QZ.out];rfl);clear hR hy hz k0 k1 k2 k3 e0 e1;gi_wp2_with fail;refine⟨trivial,?_⟩;gi_wp2_with fail;refine bodyPost_ret (results_tmp rfl _ _ _) rfl (.inr ⟨rfl,_,nds,wL.out,by simp,H2.out⟩)
theorem VY {W:World} {I:Mem} {Pn:Fm→Prop} {R Z:List FV→aB} {lp yb wb N:Nat} (hY:∀m,xA Fence.wide m Tryz.prog W lp su (Gu I Pn) N R Z) (f:Fm):Down W I Pn R Z lp yb wb N f:=
 Fm.ind (P:=fun f=>Down W I Pn R Z lp yb wb N f) (fun o n i k ih=>down11 hY o n i k ih) f
def qI:Nat:=1000000
set_option maxRecDepth 100000 in
set_option maxHeartbeats 4000000 in
theorem wV {W:World} {A:aB} {I:Mem} (Pn:Fm→Prop) (N:Nat) (n:Nat) (f:Fm) (p q:Int) (x1:Option Addr) (n1 c1:Nat) (x2:Option Addr) (n2 c2:Nat) (hr:rF.rel I [.int .i64 p,.int .i64 q,.slice x1 n1 c1,.slice x2 n2 c2] f) (hP:∀g∈f.nodes,Pn g) (hsz:f.size≤N) (fb:Nat):
 Dh Fence.wide n Tryz.prog W 172 #[.pointer (some ⟨fb,0,none⟩)] su (Gu I Pn) N (fun xs=>xs.map (·.2)=f.nodes) (fun xs=>xs≠[]∧∃rest,xs.map (·.2)++rest=f.nodes)
  (sep (blk fb (.cells #[.int .i64 p,.int .i64 q,.slice x1 n1 c1,.slice x2 n2 c2] 34 (0,0))) (sep (kn I) A)) (sep (kn I) A):=by
 intro lp R Z w hY h0;have hY':∀m,xA Fence.wide m Tryz.prog W lp su (Gu I Pn) N R Z:=fun m pre x w B h1 h2=>zA (hY pre x w B h1 h2)
 obtain⟨y,hy⟩:=aC (w.heap.size);obtain⟨w1,hw1⟩:=aC ((w.alloc (.cells #[.func (.yield lp) #[] #[]] 185)).alloc (.cells #[.func (.func 173) #[] #[.pointer (some ⟨y,0,none⟩),.pointer (some ⟨y+1,0,none⟩)]] 185));have h1:Sat W w1 (sep (R []) (sep (kV lp y (y+1)) (sep (kn I) (sep (blk fb (.cells #[.int .i64 p,.int .i64 q,.slice x1 n1 c1,.slice x2 n2 c2] 34 (0,0))) A)))):=by
  have h2:=(h0.alloc (.cells #[.func (.yield lp) #[] #[]] 185)).alloc (.cells #[.func (.func 173) #[] #[.pointer (some ⟨y,0,none⟩),.pointer (some ⟨y+1,0,none⟩)]] 185);rw[World.size_alloc,←hy,←hw1] at h2;unfold kV;simpa only[aA,au,aj] using h2
 have hwk:=VY hY' f p q x1 n1 c1 x2 n2 c2 [] w1 _ hr hP (by rw[List.length_nil];omega) h1;obtain⟨e0,e1⟩:=CP h1.p1;obtain⟨k0,k1,k2,k3⟩:=lH h1.p3;have HWK:=ah hwk;have HY:=ah (aH hy hw1);have hmf:∀(fn:Fn) (first cap:Array Value) (w:World),(Instr.makeFunc fn first cap).run Tryz.prog w=.ok (.func fn first cap) w:=fun _ _ _ _=>rfl
 clear hY hY' h0 h1 hwk hy hw1 hr hsz hP;refine callsIn_of_wp Tryz.func172 rfl trivial ?_ rfl;simp only[Tryz.ntmps172,List.size_toArray,oP,List.length_nil,Nat.reduceAdd,Nat.reduceSub,Array.replicate_succ,Array.replicate_zero,List.push_toArray,List.append_toArray,tK,pV];gi_upto_region 3 with fail;rw[←HY.out.1,←HY.out.2];gi_wp2_with fail;refine⟨trivial,fun hd=>(by cases hd),(callsIn_wide.2 HWK.out).mono ?_⟩;rintro e w2 (⟨rfl,xs,hx,h2⟩|⟨rfl,xs,rest,hx,hne,h2⟩)
 ·have H2:Hid (Sat W w2 (sep (R xs) (sep (kn I) A))):=ah (by
   rw[tK] at h2;unfold kV at h2;simp only[aj] at h2;have h3:Sat W w2 (sep (blk y (.cells #[.func (.yield lp) #[] #[]] 185 (0,0))) (sep (blk (y+1) (.cells #[.func (.func 173) #[] #[.pointer (some ⟨y,0,none⟩),.pointer (some ⟨y+1,0,none⟩)]] 185 (0,0))) (sep (blk fb (.cells #[.int .i64 p,.int .i64 q,.slice x1 n1 c1,.slice x2 n2 c2] 34 (0,0))) (sep (R xs) (sep (kn I) A))))):=dI h2;exact h3.forget.forget.forget)
  have HX:=ah hx;clear HWK e0 e1 k0 k1 k2 k3 h2 hx;gi_wp2_with fail;exact bodyPost_end (results_none rfl _ _ _) rfl ⟨⟨_,rfl⟩,.inl ⟨xs,HX.out,H2.out⟩⟩
 ·have H2:Hid (Sat W w2 (sep (Z xs) (sep (kn I) A))):=ah (by
   rw[tK] at h2;unfold kV at h2;simp only[aj] at h2;have h3:Sat W w2 (sep (blk y (.cells #[.func (.yield lp) #[] #[]] 185 (0,0))) (sep (blk (y+1) (.cells #[.func (.func 173) #[] #[.pointer (some ⟨y,0,none⟩),.pointer (some ⟨y+1,0,none⟩)]] 185 (0,0))) (sep (blk fb (.cells #[.int .i64 p,.int .i64 q,.slice x1 n1 c1,.slice x2 n2 c2] 34 (0,0))) (sep (Z xs) (sep (kn I) A))))):=dI h2;exact h3.forget.forget.forget)
  have HX:Hid (xs≠[]∧∃rest,xs.map (·.2)++rest=f.nodes):=ah ⟨hne,rest,hx⟩;clear HWK e0 e1 k0 k1 k2 k3 h2 hx hne;gi_wp2_with fail;exact bodyPost_end (results_none rfl _ _ _) rfl ⟨⟨_,rfl⟩,.inr ⟨xs,HX.out,H2.out⟩⟩
theorem yT {W:World} {A:aB} {I:Mem} (Pn:Fm→Prop) (n:Nat) (f:Fm) (p q:Int) (x1:Option Addr) (n1 c1:Nat) (x2:Option Addr) (n2 c2:Nat) (hr:rF.rel I [.int .i64 p,.int .i64 q,.slice x1 n1 c1,.slice x2 n2 c2] f) (hP:∀g∈f.nodes,Pn g) (hsz:f.size≤qI) (fb:Nat):
 Dh Fence.wide n Tryz.prog W 172 #[.pointer (some ⟨fb,0,none⟩)] su (Gu I Pn) qI (fun xs=>xs.map (·.2)=f.nodes) (fun xs=>xs≠[]∧∃rest,xs.map (·.2)++rest=f.nodes)
  (sep (blk fb (.cells #[.int .i64 p,.int .i64 q,.slice x1 n1 c1,.slice x2 n2 c2] 34 (0,0))) (sep (kn I) A)) (sep (kn I) A):=
 wV Pn qI n f p q x1 n1 c1 x2 n2 c2 hr hP hsz fb
end
section
attribute [local go_sem] Oper.semAt_some
theorem uO {W w:World} {A:aB} (a b c d:Value) (h:Sat W w A):
 Calls Tryz.prog 130 #[.agg #[a,b,c,d]] w fun e w'=>∃fb,e=.returned (.func (.func 172) #[] #[.pointer (some ⟨fb,0,none⟩)])∧Sat W w' (sep (blk fb (.cells #[a,b,c,d] 34 (0,0))) A):=by
 have h1:=h.alloc (.cells #[a,b,c,d] 34);obtain⟨B,hB⟩:=aC (w.heap.size);obtain⟨w1,hw1⟩:=aC (w.alloc (.cells #[a,b,c,d] 34));rw[←hB,←hw1] at h1;have HB:=ah (aH hB hw1);have hmf:∀(fn:Fn) (first cap:Array Value) (w:World),(Instr.makeFunc fn first cap).run Tryz.prog w=.ok (.func fn first cap) w:=fun _ _ _ _=>rfl
 clear h hB hw1;go_enter Tryz.func130,Tryz.ntmps130;go_upto_region 1 with fail;rw[←HB.out.1,←HB.out.2];go_wp2;go_ret;exact⟨B,rfl,h1⟩
set_option maxRecDepth 100000 in
set_option maxHeartbeats 4000000 in
theorem Qm {W w:World} {A:aB} {I:Mem} (f:Fm) (p q:Int) (x1:Option Addr) (n1 c1:Nat) (x2:Option Addr) (n2 c2:Nat) (hr:rF.rel I [.int .i64 p,.int .i64 q,.slice x1 n1 c1,.slice x2 n2 c2] f) (hsz:f.size≤qI) (h:Sat W w (sep (kn I) A)):
 Calls Tryz.prog 161 #[.agg #[.int .i64 p,.int .i64 q,.slice x1 n1 c1,.slice x2 n2 c2]] w fun e w'=>e=.returned (.int .i64 (f.size:Nat))∧Sat W w' (sep (kn I) A):=by
 obtain⟨sz,abJ⟩:=aC (f.size);rw[←abJ];have KI:=ah abJ;clear abJ;have h1:=(h.alloc (.cells #[.int .i64 p,.int .i64 q,.slice x1 n1 c1,.slice x2 n2 c2] 34)).alloc (.cells #[.int .i64 0] 3);rw[World.size_alloc] at h1;obtain⟨B,hB⟩:=aC (w.heap.size);obtain⟨w1,hw1⟩:=aC ((w.alloc (.cells #[.int .i64 p,.int .i64 q,.slice x1 n1 c1,.slice x2 n2 c2] 34)).alloc (.cells #[.int .i64 0] 3));rw[←hB,←hw1] at h1;have HB:=ah (aH hB hw1);have XR:=ah (uO (.int .i64 p) (.int .i64 q) (.slice x1 n1 c1) (.slice x2 n2 c2) h1);obtain⟨k0,k1,k2,k3⟩:=lH h1.p1;have HR:=ah (aH hr hsz);have eg:=enters_of (P:=Tryz.prog) Tryz.func172 (by kernel_rfl) rfl;clear h h1 hB hw1 hr hsz;refine (callsIn_wide (n:=5)).1 ?_;refine callsIn_of_wp_marks Tryz.func161 rfl trivial ?_ rfl;simp only[Tryz.ntmps161,List.size_toArray,oP,List.length_nil,Nat.reduceAdd,Nat.reduceSub,Array.replicate_succ,Array.replicate_zero,List.push_toArray,List.append_toArray,tK,pV];refine wpIn_wide.2 ?_;go_upto_region 2 with fail;rw[←HB.out.1,←HB.out.2];go_wp2_with fail;refine XR.out.mono ?_;rintro e w2 ⟨fb,rfl,h2⟩;have h3:Sat W w2 (sep (blk (B+1) (.cells #[.int .i64 (([]:List FV).length:Nat)] 3 (0,0))) (sep (blk fb (.cells #[.int .i64 p,.int .i64 q,.slice x1 n1 c1,.slice x2 n2 c2] 34 (0,0))) (sep (kn I) (sep (blk B (.cells #[.int .i64 p,.int .i64 q,.slice x1 n1 c1,.slice x2 n2 c2] 34 (0,0))) A)))):=by
  have:=h2;show Sat W w2 (sep (blk (B+1) (.cells #[.int .i64 0] 3 (0,0))) _);simpa only[aA,au,aj] using this
 clear h2 XR k0 k1 k2 k3;go_wp2_with fail;refine (wpIn_wide (n:=5)).1 ?_;refine nM (F:=Fence.wide) (W:=W) rfl (by omega) (gf:=172) (lb:=#[.pointer (some ⟨fb,0,none⟩)]) rfl trivial eg (encs:=su) (fun _=>rfl) (yT (A:=sep (blk B (.cells #[.int .i64 p,.int .i64 q,.slice x1 n1 c1,.slice x2 n2 c2] 34 (0,0))) A) (fun _=>True) (5-1) f p q x1 n1 c1 x2 n2 c2 HR.out.1 (fun _ _=>trivial) HR.out.2 fb)
  (fun xs=>blk (B+1) (.cells #[.int .i64 (xs.length:Nat)] 3 (0,0))) (fun _ _=>fact False) h3
  (fun y _ t=>t.setIfInBounds 6 (.agg y.1.toArray))
  (fun pre _ _=>blk (B+1) (.cells #[.int .i64 (pre.length:Nat)] 3 (0,0))) ?assign ?body ?done ?stop
 case assign=>
  as_aux_lemma=>
  intro lp pre y w' X K hlen hS hK;have h4:Sat W w' (sep (Gu I (fun _=>True) y) (sep (blk (B+1) (.cells #[.int .i64 (pre.length:Nat)] 3 (0,0))) X)):=dI hS;unfold Gu at h4;have h5:=hK 0 w' (Sat.fact.1 h4).2;simp only[lsA,lsB,lq] at h5;have H5:=ah h5;clear hK hS h4 h5 h3;dsimp only[su] at *;gi_wp2_with fail;simpa using H5.out
 case body=>
  as_aux_lemma=>
  intro lp pre y g w' X hlen hS;simp only[lsA,lsB,lq];obtain⟨m,hm⟩:=aC (pre.length);rw[←hm] at hS hlen;have c0:w'.cell? ⟨B+1,0,none⟩=some (.int .i64 (m:Nat)):=hS.cell 0;have u0:=hS.aI 0;have h4:=hS.setCell 0 (.int .i64 ((m:Int)+1));obtain⟨w3,hw3⟩:=aC (w'.setCell ⟨B+1,0,none⟩ (.int .i64 ((m:Int)+1)));rw[←hw3] at h4;have HW3:=ah hw3;have hmz:(m:Int)<1000000:=by unfold qI at hlen;omega
  have H4:Hid (Sat W w3 (sep (blk (B+1) (.cells #[.int .i64 ((pre++[y]).length:Nat)] 3 (0,0))) X)):=ah (by
   rw[dM,←hm];exact h4)
  clear hS h4 hw3 hm hlen h3;gi_wp2_with fail;rw[←HW3.out];exact H4.out
 case done=>
  as_aux_lemma=>
  intro D xs w' hxs hS;have hl:xs.length=sz:=by rw[KI.out,←Fm.vX,←hxs,List.length_map]
  rw[hl] at hS;have c0:w'.cell? ⟨B+1,0,none⟩=some (.int .i64 (sz:Nat)):=hS.p1.cell 0;have hD:=hS.aO;have h4:=hS.putObj (.deferred none);have h5:Sat W (w'.putObj D (.deferred none)) (sep (blk D (.deferred none)) (sep (blk (B+1) (.cells #[.int .i64 (sz:Nat)] 3 (0,0))) (sep (blk B (.cells #[.int .i64 p,.int .i64 q,.slice x1 n1 c1,.slice x2 n2 c2] 34 (0,0))) (sep (kn I) A)))):=dI h4;have H5:=ah h5.drop.forget.forget;clear hS h4 h5 hl hxs h3;go_wp2_with fail;refine⟨by simp,.inl ⟨_,_,rfl,run_takeDeferred hD,?_⟩⟩;refine⟨.int .i64 (sz:Nat),?_,?_⟩
  ·simp[results,Tryz.results161,go_sem]
  ·exact⟨rfl,H5.out⟩
 case stop=>
  intro D c xs w' _ hS;exact absurd (Sat.fact.1 (show Sat W w' (sep (fact False) _) from hS.p1)).1 (fun h=>h)
end
section
attribute [local go_sem] Oper.semAt_some
def vC (I:Mem) (rc:Nat) (xs:List FV):aB:=sep (fact (∀x∈xs,x.2.formed rU=true)) (sep (kn I) (blk rc (.cells #[.int .i64 0] 39 (0,0))))
def vZ (rc:Nat):Code→List FV→aB
 | .ret,xs=>sep (fact (∃x∈xs,x.2.formed rU=false)) (blk rc (.cells #[.int .i64 1] 39 (0,0)))
 | _,_=>fact False
set_option maxRecDepth 100000 in
set_option maxHeartbeats 4000000 in
theorem mF {W w:World} {A:aB} {I:Mem} (f:Fm) (p q:Int) (x1:Option Addr) (n1 c1:Nat) (x2:Option Addr) (n2 c2:Nat) (hr:rF.rel I [.int .i64 p,.int .i64 q,.slice x1 n1 c1,.slice x2 n2 c2] f) (hsz:f.size≤qI) (hIv:∀g∈f.nodes,∀x∈g.ins,KJ x) (h:Sat W w (sep (kn I) A)):
 Calls Tryz.prog 118 #[.agg #[.int .i64 p,.int .i64 q,.slice x1 n1 c1,.slice x2 n2 c2]] w fun e w'=>e=.returned (.int .i64 (kQ f))∧Sat W w' (sep (kn I) A):=by
 have h1:=(h.alloc (.cells #[.int .i64 p,.int .i64 q,.slice x1 n1 c1,.slice x2 n2 c2] 34)).alloc (.cells #[.int .i64 0] 39);rw[World.size_alloc] at h1;obtain⟨B,hB⟩:=aC (w.heap.size);obtain⟨w1,hw1⟩:=aC ((w.alloc (.cells #[.int .i64 p,.int .i64 q,.slice x1 n1 c1,.slice x2 n2 c2] 34)).alloc (.cells #[.int .i64 0] 39));rw[←hB,←hw1] at h1;have HB:=ah (aH hB hw1);have h1':Sat W w1 (sep (blk B (.cells #[.int .i64 p,.int .i64 q,.slice x1 n1 c1,.slice x2 n2 c2] 34 (0,0))) (sep (kn I) (sep (blk (B+1) (.cells #[.int .i64 0] 39 (0,0))) A))):=dI h1;have H1:=ah h1';obtain⟨k0,k1,k2,k3⟩:=lH h1';obtain⟨sz,hs⟩:=aC (f.size);obtain⟨dp,hdp⟩:=aC (f.deep);obtain⟨wh,hwh⟩:=aC (f.whole rU);obtain⟨rv,dQ⟩:=aC (kQ f);have jW:rv=if 96<sz∨8<dp then 4 else if wh=true then 0 else 1:=by rw[dQ,hs,hdp,hwh];rfl
 have bU:=ah jW;have U9:Hid (wh=f.nodes.all (Fm.formed rU)):=ah (by rw[hwh,Fm.vg]);have ajr:sz≤1000000:=by rw[hs];exact hsz
 have ai8:dp≤1000000:=by rw[hdp];exact Nat.le_trans (Fm.Rx f) hsz
 have HA:Hid (∀w' A',Sat W w' (sep (kn I) A')→Calls Tryz.prog 161 #[.agg #[.int .i64 p,.int .i64 q,.slice x1 n1 c1,.slice x2 n2 c2]] w' fun e w''=>e=.returned (.int .i64 (sz:Nat))∧Sat W w'' (sep (kn I) A')):=ah fun w' A' h'=>by rw[hs];exact Qm f p q x1 n1 c1 x2 n2 c2 hr hsz h'
 have HD:Hid (∀w' A',Sat W w' (sep (kn I) A')→Calls Tryz.prog 162 #[.agg #[.int .i64 p,.int .i64 q,.slice x1 n1 c1,.slice x2 n2 c2]] w' fun e w''=>e=.returned (.int .i64 (dp:Nat))∧Sat W w'' (sep (kn I) A')):=ah fun w' A' h'=>by rw[hdp];exact Qj f w' A' p q x1 n1 c1 x2 n2 c2 hr hsz h'
 have XR:Hid (∀w' A',Sat W w' A'→Calls Tryz.prog 130 #[.agg #[.int .i64 p,.int .i64 q,.slice x1 n1 c1,.slice x2 n2 c2]] w' fun e w''=>∃fb,e=.returned (.func (.func 172) #[] #[.pointer (some ⟨fb,0,none⟩)])∧Sat W w'' (sep (blk fb (.cells #[.int .i64 p,.int .i64 q,.slice x1 n1 c1,.slice x2 n2 c2] 34 (0,0))) A')):=ah fun w' A' h'=>uO (.int .i64 p) (.int .i64 q) (.slice x1 n1 c1) (.slice x2 n2 c2) h'
 have HR:=ah (aH hr (aH hsz hIv));have eg:=enters_of (P:=Tryz.prog) Tryz.func172 (by kernel_rfl) rfl;rw[←dQ];clear h h1 h1' hB hw1 hr hsz hIv hs hdp hwh dQ jW;by_cases z1:96<sz
 ·have z1':(96:Int)<(sz:Int):=by omega
  have HV:Hid (rv=4):=ah (by rw[bU.out,if_pos (.inl z1)]);clear z1;refine (callsIn_wide (n:=5)).1 ?_;refine callsIn_of_wp_marks Tryz.func118 rfl trivial ?_ rfl;simp only[Tryz.ntmps118,List.size_toArray,oP,List.length_nil,Nat.reduceAdd,Nat.reduceSub,Array.replicate_succ,Array.replicate_zero,List.push_toArray,List.append_toArray,tK,pV];refine wpIn_wide.2 ?_;go_upto_region 1 with fail;rw[←HB.out.1,←HB.out.2];go_wp2_with fail;refine (HA.out _ _ H1.out.p1).mono ?_;rintro e w2 ⟨rfl,h2⟩;have h2':=h2.p2;have c0:=h2'.cell 0;have u0:=h2'.aI 0;have h3:=h2'.setCell 0 (.int .i64 4);obtain⟨w3,hw3⟩:=aC (w2.setCell ⟨B+1,0,none⟩ (.int .i64 4));rw[←hw3] at h3;have HW3:=ah hw3;have y0:w3.cell? ⟨B+1,0,none⟩=some (.int .i64 4):=h3.cell 0;have H3:Hid (Sat W w3 (sep (kn I) A)):=ah (by have:=h3.p2.drop.drop;simpa only[aA] using this);clear h2 h2' h3 HA k0 k1 k2 k3 hw3;go_wp2_with fail;rw[←HW3.out];refine⟨.int .i64 4,?_,?_⟩
  ·simp[results,Tryz.results118,go_sem,y0]
  ·exact⟨by rw[HV.out],H3.out⟩
 ·have z1':¬(96:Int)<(sz:Int):=by omega
  by_cases z2:8<dp
  ·have z2':(8:Int)<(dp:Int):=by omega
   have HV:Hid (rv=4):=ah (by rw[bU.out,if_pos (.inr z2)]);clear z1 z2;refine (callsIn_wide (n:=5)).1 ?_;refine callsIn_of_wp_marks Tryz.func118 rfl trivial ?_ rfl;simp only[Tryz.ntmps118,List.size_toArray,oP,List.length_nil,Nat.reduceAdd,Nat.reduceSub,Array.replicate_succ,Array.replicate_zero,List.push_toArray,List.append_toArray,tK,pV];refine wpIn_wide.2 ?_;go_upto_region 1 with fail;rw[←HB.out.1,←HB.out.2];go_wp2_with fail;refine (HA.out _ _ H1.out.p1).mono ?_;rintro e w2 ⟨rfl,h2⟩;have H2:Hid (Sat W w2 (sep (blk B (.cells #[.int .i64 p,.int .i64 q,.slice x1 n1 c1,.slice x2 n2 c2] 34 (0,0))) (sep (kn I) (sep (blk (B+1) (.cells #[.int .i64 0] 39 (0,0))) A)))):=ah (dI h2);clear h2 HA k0 k1 k2 k3;obtain⟨k0,k1,k2,k3⟩:=lH H2.out;go_wp2_with fail;refine (HD.out _ _ H2.out.p1).mono ?_;rintro e w4 ⟨rfl,h4⟩;have h2':=h4.p2;have c0:=h2'.cell 0;have u0:=h2'.aI 0;have h3:=h2'.setCell 0 (.int .i64 4);obtain⟨w3,hw3⟩:=aC (w4.setCell ⟨B+1,0,none⟩ (.int .i64 4));rw[←hw3] at h3;have HW3:=ah hw3;have y0:w3.cell? ⟨B+1,0,none⟩=some (.int .i64 4):=h3.cell 0;have H3:Hid (Sat W w3 (sep (kn I) A)):=ah (by have:=h3.p2.drop.drop;simpa only[aA] using this);clear h4 h2' h3 HD k0 k1 k2 k3 hw3 H2;go_wp2_with fail;rw[←HW3.out];refine⟨.int .i64 4,?_,?_⟩
   ·simp[results,Tryz.results118,go_sem,y0]
   ·exact⟨by rw[HV.out],H3.out⟩
  ·have z2':¬(8:Int)<(dp:Int):=by omega
   have HV:Hid (rv=if wh=true then 0 else 1):=ah (by rw[bU.out,if_neg (by omega)]);clear z1 z2;refine (callsIn_wide (n:=5)).1 ?_;refine callsIn_of_wp_marks Tryz.func118 rfl trivial ?_ rfl;simp only[Tryz.ntmps118,List.size_toArray,oP,List.length_nil,Nat.reduceAdd,Nat.reduceSub,Array.replicate_succ,Array.replicate_zero,List.push_toArray,List.append_toArray,tK,pV];refine wpIn_wide.2 ?_;go_upto_region 1 with fail;rw[←HB.out.1,←HB.out.2];go_wp2_with fail;refine (HA.out _ _ H1.out.p1).mono ?_;rintro e w2 ⟨rfl,h2⟩;have H2:Hid (Sat W w2 (sep (blk B (.cells #[.int .i64 p,.int .i64 q,.slice x1 n1 c1,.slice x2 n2 c2] 34 (0,0))) (sep (kn I) (sep (blk (B+1) (.cells #[.int .i64 0] 39 (0,0))) A)))):=ah (dI h2);clear h2 HA k0 k1 k2 k3;obtain⟨k0,k1,k2,k3⟩:=lH H2.out;go_wp2_with fail;refine (HD.out _ _ H2.out.p1).mono ?_;rintro e w3 ⟨rfl,h3⟩;have H3:Hid (Sat W w3 (sep (blk B (.cells #[.int .i64 p,.int .i64 q,.slice x1 n1 c1,.slice x2 n2 c2] 34 (0,0))) (sep (kn I) (sep (blk (B+1) (.cells #[.int .i64 0] 39 (0,0))) A)))):=ah (dI h3);clear h3 HD k0 k1 k2 k3 H2;obtain⟨k0,k1,k2,k3⟩:=lH H3.out;go_upto_region 3 with fail;go_wp2_with fail;refine (XR.out _ _ H3.out).mono ?_;rintro e w4 ⟨fb,rfl,h4⟩;have h5:Sat W w4 (sep (vC I (B+1) []) (sep (blk fb (.cells #[.int .i64 p,.int .i64 q,.slice x1 n1 c1,.slice x2 n2 c2] 34 (0,0))) (sep (kn I) (sep (blk B (.cells #[.int .i64 p,.int .i64 q,.slice x1 n1 c1,.slice x2 n2 c2] 34 (0,0))) A)))):=by
    unfold vC;rw[aj];exact Sat.fact.2 ⟨fun x hx=>absurd hx (by simp),by
     have:=Sat.dup (show Sat W w4 (sep (kn I) (sep (blk fb (.cells #[.int .i64 p,.int .i64 q,.slice x1 n1 c1,.slice x2 n2 c2] 34 (0,0))) (sep (blk B (.cells #[.int .i64 p,.int .i64 q,.slice x1 n1 c1,.slice x2 n2 c2] 34 (0,0))) (sep (blk (B+1) (.cells #[.int .i64 0] 39 (0,0))) A)))) by simpa only[aA,au,aj] using h4);show Sat W w4 (sep (sep (kn I) _) _);simpa only[aA,au,aj,kn] using this⟩
   clear h4 XR k0 k1 k2 k3 H3 H1 bU;go_wp2_with fail;refine (wpIn_wide (n:=5)).1 ?_;refine nM (F:=Fence.wide) (W:=W) rfl (by omega) (gf:=172) (lb:=#[.pointer (some ⟨fb,0,none⟩)]) rfl trivial eg (encs:=su) (fun _=>rfl) (yT (A:=sep (blk B (.cells #[.int .i64 p,.int .i64 q,.slice x1 n1 c1,.slice x2 n2 c2] 34 (0,0))) A) (fun g=>∀x∈g.ins,KJ x) (5-1) f p q x1 n1 c1 x2 n2 c2 HR.out.1 HR.out.2.2 HR.out.2.1 fb)
    (vC I (B+1)) (vZ (B+1)) h5
    (fun y g t=>(t.setIfInBounds 14 (.agg y.1.toArray)).setIfInBounds 3 (.pointer (some ⟨g,0,none⟩)))
    (fun pre y g=>sep (fact (rF.rel I y.1 y.2∧∀x∈y.2.ins,KJ x)) (sep (blk g (.cells y.1.toArray 34 (0,0))) (vC I (B+1) pre))) ?assign ?body ?done ?stop
   case assign=>
    as_aux_lemma=>
    intro lp pre y w' X K hlen hS hK;have h4:Sat W w' (sep (Gu I (fun g=>∀x∈g.ins,KJ x) y) (sep (vC I (B+1) pre) X)):=dI hS;unfold Gu at h4;obtain⟨hf,h6⟩:=Sat.fact.1 h4;obtain⟨y1,y2⟩:=y;obtain⟨yo,yn,yi,yk⟩:=y2;obtain⟨u1,d1,u2,d2,e,hi,hk⟩:=dW.1 hf.1;dsimp only at e hf hK;subst e;have h7:=h6.alloc (.cells #[.int .i64 yo,.int .i64 yn,.slice u1 yi.length d1,.slice u2 yk.length d2] 34);have h5:=hK w'.heap.size _ (show Sat W (w'.alloc (.cells #[.int .i64 yo,.int .i64 yn,.slice u1 yi.length d1,.slice u2 yk.length d2] 34)) (sep (sep (fact _) (sep _ _)) X) by rw[aj,aj];exact Sat.fact.2 ⟨hf,h7⟩);simp only[lsA,lsB,lq] at h5;have H5:=ah h5;clear hK hS h4 h5 h6 h7 hf hi hk;dsimp only[su] at *;gi_wp2_with fail;simpa using H5.out
   case body=>
    as_aux_lemma=>
    intro lp pre y g w' X hlen hS;simp only[lsA,lsB,lq];rw[aj,aj] at hS;obtain⟨hf,h4⟩:=Sat.fact.1 hS;have h5:Sat W w' (sep (fact (∀x∈pre,x.2.formed rU=true)) (sep (blk g (.cells y.1.toArray 34 (0,0))) (sep (kn I) (sep (blk (B+1) (.cells #[.int .i64 0] 39 (0,0))) X)))):=by
     unfold vC at h4;simpa only[aA,au,aj] using h4
    obtain⟨hpre,h6⟩:=Sat.fact.1 h5;obtain⟨y1,y2⟩:=y;dsimp only at hf h6;obtain⟨yo,yn,yi,yk⟩:=y2;obtain⟨u1,d1,u2,d2,e,hi,hk⟩:=dW.1 hf.1;subst e;have HF:=ah (Jw (Fm.mk yo yn yi yk) yo yn u1 yi.length d1 u2 yk.length d2 hf.1 hf.2 h6.p1);obtain⟨k0,k1,k2,k3⟩:=lH h6;obtain⟨fo,hfo⟩:=aC ((Fm.mk yo yn yi yk).formed rU);rw[←hfo] at HF;have Z9:=ah (aH hpre hfo);clear hS h4 h5 h6 hf hi hk hpre hfo HR U9 HV;cases fo with
    | true=>
     gi_wp2_with fail;refine⟨trivial,(callsIn_wide.2 HF.out).mono ?_⟩;rintro e w2 ⟨rfl,h7⟩;have h8:Sat W w2 (sep (vC I (B+1) (pre++[([.int .i64 yo,.int .i64 yn,.slice u1 yi.length d1,.slice u2 yk.length d2],Fm.mk yo yn yi yk)])) X):=by
      unfold vC;rw[aj];refine Sat.fact.2 ⟨fun x hx=>?_,?_⟩
      ·rcases List.mem_append.1 hx with hx|hx
       ·exact Z9.out.1 x hx
       ·rw[vW hx]
        exact Z9.out.2.symm
      ·have:=(show Sat W w2 (sep (blk g (.cells #[.int .i64 yo,.int .i64 yn,.slice u1 yi.length d1,.slice u2 yk.length d2] 34 (0,0))) (sep (kn I) (sep (blk (B+1) (.cells #[.int .i64 0] 39 (0,0))) X))) by simpa only[aA,au,aj] using h7).drop
       simpa only[aA,au,aj] using this
     have H8:=ah h8;clear h7 h8 HF k0 k1 k2 k3;gi_wp2_with fail;exact H8.out
    | false=>
     gi_wp2_with fail;refine⟨trivial,(callsIn_wide.2 HF.out).mono ?_⟩;rintro e w2 ⟨rfl,h7⟩;have h8:Sat W w2 (sep (blk (B+1) (.cells #[.int .i64 0] 39 (0,0))) X):=
      (show Sat W w2 (sep (blk g (.cells #[.int .i64 yo,.int .i64 yn,.slice u1 yi.length d1,.slice u2 yk.length d2] 34 (0,0))) (sep (kn I) (sep (blk (B+1) (.cells #[.int .i64 0] 39 (0,0))) X))) by simpa only[aA,au,aj] using h7).drop.drop
     have c0:=h8.cell 0;have u0:=h8.aI 0;have h9:=h8.setCell 0 (.int .i64 1);obtain⟨w3,hw3⟩:=aC (w2.setCell ⟨B+1,0,none⟩ (.int .i64 1));rw[←hw3] at h9;have H9:Hid (Sat W w3 (sep (vZ (B+1) .ret (pre++[([.int .i64 yo,.int .i64 yn,.slice u1 yi.length d1,.slice u2 yk.length d2],Fm.mk yo yn yi yk)])) X)):=ah (by
      show Sat W w3 (sep (sep (fact _) _) X);rw[aj];exact Sat.fact.2 ⟨⟨_,Bl _ (List.mem_singleton_self _),Z9.out.2.symm⟩,h9⟩)
     have HW3:=ah hw3;clear h7 h8 h9 hw3 HF k0 k1 k2 k3;gi_wp2_with fail;rw[←HW3.out];exact H9.out
   case done=>
    as_aux_lemma=>
    intro D xs w' hxs hS;have h6:Sat W w' (sep (fact (∀x∈xs,x.2.formed rU=true)) (sep (blk D (.deferred (some []))) (sep (blk (B+1) (.cells #[.int .i64 0] 39 (0,0))) (sep (kn I) (sep A (blk B (.cells #[.int .i64 p,.int .i64 q,.slice x1 n1 c1,.slice x2 n2 c2] 34 (0,0)))))))):=by
     unfold vC at hS;have h0:=(show Sat W w' (sep (kn I) (sep (fact (∀x∈xs,x.2.formed rU=true)) (sep (blk D (.deferred (some []))) (sep (blk (B+1) (.cells #[.int .i64 0] 39 (0,0))) (sep (kn I) (sep A (blk B (.cells #[.int .i64 p,.int .i64 q,.slice x1 n1 c1,.slice x2 n2 c2] 34 (0,0))))))))) by simpa only[aA,au,aj] using hS).drop;exact h0
    obtain⟨hall,h7⟩:=Sat.fact.1 h6;have hwt:wh=true:=by
     rw[U9.out,←hxs,List.all_eq_true];intro x hx;obtain⟨y,hy,rfl⟩:=List.mem_map.1 hx;exact hall y hy
    have hD:=h7.aO;have c0:=h7.p1.cell 0;have u0:=h7.p1.aI 0;have h8:=h7.p1.setCell 0 (.int .i64 0);obtain⟨w3,hw3⟩:=aC (w'.setCell ⟨B+1,0,none⟩ (.int .i64 0));rw[←hw3] at h8;have h9:Sat W w3 (sep (blk D (.deferred (some []))) (sep (kn I) (sep (blk (B+1) (.cells #[.int .i64 0] 39 (0,0))) (sep (blk B (.cells #[.int .i64 p,.int .i64 q,.slice x1 n1 c1,.slice x2 n2 c2] 34 (0,0))) A)))):=by
     show Sat W w3 (sep _ (sep _ (sep (blk (B+1) (.cells (#[Value.int .i64 0].setIfInBounds 0 (.int .i64 0)) 39 (0,0))) _)));simpa only[aA,au,aj] using h8
    have hD:=h9.aO;have h10:=h9.putObj (.deferred none);have y0:=h10.p2.cell 0;have KD:Hid (Sat W (w3.putObj D (.deferred none)) (sep (kn I) A)):=ah (by
     have:=(h10.drop.p1.drop).p1.drop;simpa only[aA,au,aj] using this)
    have HW3:=ah hw3;have pO:Hid (rv=0):=ah (by rw[HV.out,if_pos hwt]);clear hS h6 h7 h8 h9 h10 hw3 hall hwt HR U9 h5;go_wp2_with fail;rw[←HW3.out];refine⟨by simp,.inl ⟨_,_,rfl,run_takeDeferred hD,?_⟩⟩;refine⟨.int .i64 0,?_,?_⟩
    ·simp[results,Tryz.results118,go_sem,y0]
    ·exact⟨by rw[pO.out],KD.out⟩
   case stop=>
    as_aux_lemma=>
    intro D c xs w' hxs hS;cases c with
    | ret=>
     obtain⟨-,rest,hrest⟩:=hxs;have h6:Sat W w' (sep (fact (∃x∈xs,x.2.formed rU=false)) (sep (blk D (.deferred (some []))) (sep (kn I) (sep (blk (B+1) (.cells #[.int .i64 1] 39 (0,0))) (sep (blk B (.cells #[.int .i64 p,.int .i64 q,.slice x1 n1 c1,.slice x2 n2 c2] 34 (0,0))) A))))):=by
      unfold vZ at hS;simpa only[aA,au,aj] using hS
     obtain⟨⟨x,hx,hbad⟩,h7⟩:=Sat.fact.1 h6;have hwt:wh=false:=by
      rw[U9.out,←hrest,List.all_eq_false];exact⟨x.2,zC _ (List.mem_map_of_mem hx),by rw[hbad];decide⟩
     have hD:=h7.aO;have h10:=h7.putObj (.deferred none);have y0:=h10.p2.cell 0;have KD:Hid (Sat W (w'.putObj D (.deferred none)) (sep (kn I) A)):=ah (by
      have:=(h10.drop.p1.drop).p1.drop;simpa only[aA,au,aj] using this)
     have pO:Hid (rv=1):=ah (by rw[HV.out,hwt];rfl);clear hS h6 h7 h10 hwt HR U9 h5 hbad hrest hx;gi_wp2_with fail;refine⟨by simp,.inl ⟨_,_,rfl,run_takeDeferred hD,?_⟩⟩;refine⟨.int .i64 1,?_,?_⟩
     ·simp[results,Tryz.results118,go_sem,y0]
     ·exact⟨by rw[pO.out],KD.out⟩
    | _=>exact absurd (Sat.fact.1 (show Sat W w' (sep (fact False) _) from hS.p1)).1 (fun h=>h)
end
def KQ (f:Fm):Prop:=f.size≤qI∧∀g∈f.nodes,∀x∈g.ins,KJ x
theorem cl5 {W w:World} {A:aB} {g:Nat} {a b c d e:Value} {t:TypeId} (h:Sat W w (sep (blk g (.cells #[a,b,c,d,e] t (0,0))) A)):
 w.cell? ⟨g,0,none⟩=some a∧w.cell? ⟨g,1,none⟩=some b∧w.cell? ⟨g,2,none⟩=some c∧w.cell? ⟨g,3,none⟩=some d∧w.cell? ⟨g,4,none⟩=some e:=
 ⟨h.cell 0,h.cell 1,h.cell 2,h.cell 3,h.cell 4⟩
set_option maxRecDepth 100000 in
set_option maxHeartbeats 4000000 in
theorem nI {W w:World} {A:aB} {I:Mem} (a:Option Addr) (n c:Nat) (l:List Cl) (hv:(lM.slice 5).rel I [.slice a n c] l) (hB:∀x∈l,KQ x.body) (h:Sat W w (sep (kn I) A)):
 Calls Tryz.prog 113 #[.slice a n c] w fun e w'=>e=.returned (.int .i64 (qQ l))∧Sat W w' (sep (kn I) A):=by
 have hn:=(aJ hv).1;have hl63:=(aJ hv).2.2;obtain⟨rv,dQ⟩:=aC (qQ l);rw[←dQ];have bU:Hid (rv=(if 32<n then 4 else rZ 0 l)∧n=l.length):=ah ⟨by rw[dQ,hn];rfl,hn⟩;have HV:=ah hv;have vk:=ah hB;have H:=ah h;clear hv h dQ hn hB;by_cases h32:32<n
 ·have PU:(32:Int)<(n:Int):=by omega
  have HF:Hid (rv=4):=ah (by rw[bU.out.1,if_pos h32]);clear h32;go_enter Tryz.func113,Tryz.ntmps113;go_wp2;go_ret;exact⟨by rw[HF.out];rfl,H.out⟩
 ·have PU:¬(32:Int)<(n:Int):=by omega
  have HG:Hid (rv=rZ 0 l):=ah (by rw[bU.out.1,if_neg h32]);have afk:(n:Int)≤32:=by omega
  clear h32;go_enter Tryz.func113,Tryz.ntmps113;go_upto_region 3 with fail;clear PU;go_wp2;go_loopw [11] (fun iv wr=>∃k:Nat,iv=.int .i64 k∧k≤n∧Hid (rv=rZ k (l.drop k))∧Sat W wr (sep (kn I) A)) (fun iv _=>n-(intOf iv).toNat)
  case atStart=>exact⟨0,rfl,by omega,HG,H.out⟩
  case round=>
   obtain⟨k,rfl,hk,HT,hS⟩:=hrel;by_cases hlt:k<n
   ·have hltz:(k:Int)<(n:Int):=by omega
    have hkl:k<l.length:=by have:=bU.out.2;omega
    obtain⟨x,hx⟩:∃x,l[k]?=some x:=⟨_,iM hkl⟩
    obtain⟨b,o,ra,rc,p,q,x1,n1,c1,x2,n2,c2,rfl,hrr,hrb,hcell⟩:=vH HV.out hx;obtain⟨j0,j1,j2,j3,j4⟩:=hcell wr hS.ext;have hT:=HT.out;rw[G8 hx] at hT;obtain⟨nr,hnr⟩:=aC (x.refs.length);obtain⟨rf,hrf⟩:=aC (kK x.refs k);obtain⟨be,hbe⟩:=aC (kQ x.body);have hAl:=hS.alloc (.cells #[.slice ra x.refs.length rc,.int .i64 p,.int .i64 q,.slice x1 n1 c1,.slice x2 n2 c2] 91);rw[←hnr] at hAl;obtain⟨M,hM⟩:=aC (wr.heap.size);obtain⟨w1,hw1⟩:=aC (wr.alloc (.cells #[.slice ra nr rc,.int .i64 p,.int .i64 q,.slice x1 n1 c1,.slice x2 n2 c2] 91));rw[←hM,←hw1] at hAl;obtain⟨k0,k1,k2,k3,k4⟩:=cl5 hAl;have IX:=ah (aH hM hw1);have ug:=ah hAl;have hrs:=Ql ra rc x.refs k hrr hAl.p1;rw[←hrf,←hnr] at hrs;have U8:=ah hrs;have hvs:∀w' A',Sat W w' (sep (kn I) A')→Calls Tryz.prog 118 #[.agg #[.int .i64 p,.int .i64 q,.slice x1 n1 c1,.slice x2 n2 c2]] w' fun e w''=>e=.returned (.int .i64 be)∧Sat W w'' (sep (kn I) A'):=fun w' A' h'=>by
     rw[hbe];exact mF x.body p q x1 n1 c1 x2 n2 c2 hrb (vk.out x (mZ hx)).1 (vk.out x (mZ hx)).2 h'
    have wF:=ah hvs;have abE:=(aJ hrr).2.2;rw[←hnr] at hT j0 abE;rw[←hrf,←hbe] at hT;have HT2:=ah hT;have HK:=ah hlt;clear hx hrr hrb hcell hT hnr hrf hbe hrs hvs hS hlt hkl hk H HT HG hAl hM hw1;by_cases h8:8<nr
    ·have h8z:(8:Int)<(nr:Int):=by omega
     have HF:Hid (rv=4):=ah (by rw[HT2.out,if_pos h8]);clear h8;go_upto_region 6 with fail;rw[←IX.out.1,←IX.out.2];go_wp2;go_ret;exact⟨by rw[HF.out];rfl,ug.out.drop⟩
    ·have h8z:¬(8:Int)<(nr:Int):=by omega
     have HT3:Hid (rv=if rf=false then 1 else if be≠0 then be else rZ (k+1) (l.drop (k+1))):=ah (by rw[HT2.out,if_neg h8]);clear h8 HT2;go_upto_region 6 with fail;rw[←IX.out.1,←IX.out.2];go_wp2_with fail;refine U8.out.mono ?_;rintro e w2 ⟨rfl,h2⟩;have h2':Sat W w2 (sep (blk M (.cells #[.slice ra nr rc,.int .i64 p,.int .i64 q,.slice x1 n1 c1,.slice x2 n2 c2] 91 (0,0))) (sep (kn I) A)):=dI h2;have H2:=ah h2'.drop;clear h2 U8 k0 k1 k2 k3 k4 h8z j0 j1 j2 j3 j4;obtain⟨k0,k1,k2,k3,k4⟩:=cl5 h2';clear h2' ug;cases rf with
     | false=>
      have HF:Hid (rv=1):=ah (by rw[HT3.out];rfl);go_wp2;go_ret;exact⟨by rw[HF.out];rfl,H2.out⟩
     | true=>
      go_wp2_with fail;refine (wF.out _ _ H2.out).mono ?_;rintro e w3 ⟨rfl,h3⟩;have H3:=ah h3;clear h3 H2 wF k0 k1 k2 k3 k4;by_cases hb0:be=0
      ·have HF:Hid (rv=rZ (k+1) (l.drop (k+1))):=ah (by rw[HT3.out];simp[hb0])
       subst hb0;go_wp2;go_roundw;case rel=>exact⟨k+1,by go_num,by have:=HK.out;omega,HF,H3.out⟩
       case measure=>simp[intOf];have:=HK.out;omega
      ·have HF:Hid (rv=be):=ah (by rw[HT3.out];simp[hb0])
       have hb1:(be !=0)=true:=by simpa using hb0
       have hb2:(be==0)=false:=by simpa using hb0
       clear hb0;go_wp2;go_ret;exact⟨by rw[HF.out];rfl,H3.out⟩
   ·obtain rfl:k=n:=by omega
    have HF:Hid (rv=0):=ah (by
     have:=HT.out;rw[List.drop_of_length_le (by have:=bU.out.2;omega)] at this;exact this)
    have HS:=ah hS;clear hS H;go_wp2;go_ret;exact⟨by rw[HF.out];rfl,HS.out⟩
end Go.Proofs.YthfmaclnccdcbaaGreatDoor
namespace PA
open Go Go.RowKit
theorem IC {e:Int→List UInt8} {l:List Int} {j:Nat} {g:Int} (h:l[j]?=some g):((l.take (j+1)).map e).flatten=((l.take j).map e).flatten++e g:=by
 rw[List.take_add_one,h];simp
end PA
namespace Go.Proofs.YthfmaclnccdcbaaGreatDoor
open Go.RowKit PA
def aaq (p:Array (Nat×Value)):Sem Value:=Instr.buildSlice 22 11 p
theorem uy (p:Array (Nat×Value)):Instr.buildSlice 22 11 p=aaq p:=rfl
theorem VR (w:World) (a b c d e f g h i j k:Int):(aaq #[(0,.int .i64 a),(1,.int .i64 b),(2,.int .i64 c),(3,.int .i64 d),(4,.int .i64 e),(5,.int .i64 f),(6,.int .i64 g),(7,.int .i64 h),(8,.int .i64 i),(9,.int .i64 j),(10,.int .i64 k)]).run Tryz.prog w=.ok (.slice (some ⟨w.heap.size,0,none⟩) 11 11) (w.alloc (.cells #[.int .i64 a,.int .i64 b,.int .i64 c,.int .i64 d,.int .i64 e,.int .i64 f,.int .i64 g,.int .i64 h,.int .i64 i,.int .i64 j,.int .i64 k] 3)):=by
 obtain⟨i,h1,h2,h3,h4⟩:=info_parts Nh;exact run_buildSlice w 22 3 11 _ _ i _ Tryz.underlying22 h1 h2 (by rw[h3];omega) (by rw[h3];omega) (by rw[h3];kernel_rfl)
end Go.Proofs.YthfmaclnccdcbaaGreatDoor
namespace PA
open Go Go.RowKit
theorem jw {r:Int} (h1:-9223372036854775808≤r) (h2:r≤9223372036854775807):(PA.encI r).length≤10:=eP h1 h2
theorem Jh {l:List Int} (hn:l.length≤1048576) (hi:∀r∈l,-9223372036854775808≤r∧r≤9223372036854775807):(gu l).length≤10+10*l.length:=by
 have:=vK hn hi l.length
 rwa [qV] at this
theorem iY {α:Type} (e:α→List UInt8) {B:Nat}:∀{l:List α},(∀g∈l,(e g).length≤B)→(l.map e).flatten.length≤B*l.length
 | [],_=>by simp
 | g::l,h=>by
  rw[mM,List.flatten_cons,dM,oP,Nat.mul_add];have h1:=h g (List.mem_cons_self ..);have h2:=iY e (B:=B) (l:=l) fun a ha=>h a (tY _ ha)
  omega
theorem iv64 {x:Iv} (h:Di x):∀r∈PA.dL x,-9223372036854775808≤r∧r≤9223372036854775807:=by
 obtain⟨h1,h2,h3,h4,h5⟩:=h;have o1:=CU x.lo;have o2:=CU x.ho;have o3:=CU x.li;have o4:=CU x.hi;unfold O1 at o1 o2 o3 o4;have hh:0≤x.hn∧x.hn≤8∧0≤x.hd∧x.hd≤1:=by
  rcases h5 with ⟨-,e1,e2,-⟩|⟨-,e1,e2,e3⟩
  ·rw[e1,e2];omega
  ·omega
 intro r hr;simp only[dL,List.mem_cons,List.not_mem_nil,or_false] at hr;rcases hr with rfl|rfl|rfl|rfl|rfl|rfl|rfl|rfl<;>omega
theorem qR {o n:Int} {i:List Iv} {k:List Fm} (ho:O1 o) (hn:O1 n) (hi:i.length≤1000000) (hk:k.length≤1000000):(dw (.mk o n i k)).length≤40+(dU i).length+(eY k).length:=by
 rw[dw];simp only[dM];have h1:=jw ho.1 ho.2;have h2:=jw hn.1 hn.2;have h3:=jw (r:=(i.length:Int)) (by omega) (by omega);have h4:=jw (r:=(k.length:Int)) (by omega) (by omega);omega
theorem jF {f:Fm} (h:pW f):f.n64∧(dw f).length≤140:=by
 obtain⟨n,h1,h2,rfl⟩:=h;refine⟨by simp[Fm.n64,Fm.EC,O1];omega,?_⟩;have:=qR (o:=1) (n:=n) (i:=[]) (k:=[]) ⟨by omega,by omega⟩ ⟨by omega,by omega⟩ (by simp) (by simp);simp[dU,eY] at this;omega
theorem vV {f:Fm} (h:AB f):f.n64∧(dw f).length≤140:=by
 obtain⟨n,x,h1,h2,hx,rfl⟩:=h;have hi:=iv64 hx;refine⟨?_,?_⟩
 ·rw[Fm.n64]
  exact⟨⟨by omega,by omega⟩,⟨by omega,by omega⟩,fun y hy=>by rw[vW hy];exact hi,by simp[Fm.EC]⟩
 ·have:=qR (o:=2) (n:=n) (i:=[x]) (k:=[]) ⟨by omega,by omega⟩ ⟨by omega,by omega⟩ (by simp) (by simp)
  have e:=Jh (l:=dL x) (by simp[dL]) hi;rw[show (dL x).length=8 from rfl] at e;simp[dU,eY] at this;omega
theorem Nw {o:Int} {k:List Fm} (ho:0≤o∧o≤10) (hk:∀f∈k,f.n64∧(dw f).length≤200) (hl:k.length≤2):Fm.n64 (.mk o 0 [] k)∧(dw (.mk o 0 [] k)).length≤440:=by
 have h1:Fm.EC k:=by
  have key:∀l:List Fm,(∀f∈l,f.n64)→Fm.EC l:=by
   intro l
   induction l with
   | nil=>intro _;trivial
   | cons g l ih=>intro h;rw[Fm.EC];exact⟨h g (List.mem_cons_self ..),ih fun f hf=>h f (tY _ hf)⟩
  exact key k fun f hf=>(hk f hf).1
 have h2:(eY k).length≤200*k.length:=by
  have key:∀l:List Fm,(∀f∈l,(dw f).length≤200)→(eY l).length≤200*l.length:=by
   intro l
   induction l with
   | nil=>intro _;simp[eY]
   | cons g l ih=>
    intro h;rw[eY,dM,oP];have:=h g (List.mem_cons_self ..);have:=ih fun f hf=>h f (tY _ hf)
    omega
  exact key k fun f hf=>(hk f hf).2
 refine⟨by rw[Fm.n64];exact⟨⟨by omega,by omega⟩,⟨by omega,by omega⟩,by simp,h1⟩,?_⟩;have:=qR (o:=o) (n:=0) (i:=[]) (k:=k) ⟨by omega,by omega⟩ ⟨by omega,by omega⟩ (by simp) (by omega);simp[dU] at this;omega
theorem Ag {o:Int} {f:Fm} (ho:0≤o∧o≤10) (hf:f.n64∧(dw f).length≤140):Fm.n64 (.mk o 0 [] [f])∧(dw (.mk o 0 [] [f])).length≤200:=by
 refine⟨by rw[Fm.n64];exact⟨⟨by omega,by omega⟩,⟨by omega,by omega⟩,by simp,by rw[Fm.EC];exact⟨hf.1,trivial⟩⟩,?_⟩;have:=qR (o:=o) (n:=0) (i:=[]) (k:=[f]) ⟨by omega,by omega⟩ ⟨by omega,by omega⟩ (by simp) (by simp);simp[dU,eY] at this;omega
theorem kF {f:Fm} (h:dA f):f.n64∧(dw f).length≤440:=by
 have two:∀{o:Int} {f g:Fm},0≤o∧o≤10→f.n64∧(dw f).length≤140→g.n64∧(dw g).length≤200→Fm.n64 (.mk o 0 [] [f,g])∧(dw (.mk o 0 [] [f,g])).length≤440:=by
  intro o f g ho hf hg;refine Nw ho (fun x hx=>?_) (by simp);simp only[List.mem_cons,List.not_mem_nil,or_false] at hx;rcases hx with rfl|rfl
  ·exact⟨hf.1,by omega⟩
  ·exact hg
 cases h with
 | c h=>have:=jF h;exact⟨this.1,by omega⟩
 | v h=>have:=vV h;exact⟨this.1,by omega⟩
 | GZ h g=>have:=vV g;exact two (by omega) (jF h) ⟨this.1,by omega⟩
 | Un h g=>have:=vV g;exact two (by omega) (jF h) ⟨this.1,by omega⟩
 | Xj h g=>have:=jF g;exact two (by omega) (jF h) ⟨this.1,by omega⟩
 | VH h g=>exact two (by omega) (jF h) (Ag (by omega) (jF g))
 | part h=>have:=Ag (o:=3) (by omega) (jF h);exact⟨this.1,by omega⟩
 | VI h g=>exact two (by omega) (jF h) (Ag (by omega) (vV g))
theorem PO {f:Fm} (h:dA f):SK f:=⟨(kF h).1,by have:=(kF h).2;omega⟩
theorem XP:Fm.n64 Fm.zero∧(dw Fm.zero).length≤440:=by
 unfold Fm.zero;refine Nw (by omega) (fun f hf=>by cases hf) (by simp)
theorem zY {l:List Cl} (h:kR l):∀c∈l,FW c∧(oL c).length≤480:=by
 intro c hc;obtain⟨i,hi,rfl⟩:=List.mem_iff_getElem.1 hc;obtain⟨hF,hr⟩:=h.2.2 i hi;have hl:=h.2.1;have hrn:=(qp hr).1;have Ej:∀r∈l[i].refs,-9223372036854775808≤r∧r≤9223372036854775807:=fun r hh=>by
  have:=Ak (qp hr).2 r hh;omega
 refine⟨⟨Ej,by omega,(kF hF).1,by have:=(kF hF).2;omega⟩,?_⟩;unfold oL;rw[dM];have e1:=Jh (by omega) Ej;have e2:=jd (kF hF).2 (by omega);omega
theorem D8 {l:List Cl} (h:kR l):(gJ l).length≤1500:=by
 unfold gJ oM;rw[dM];have e1:=jw (r:=(l.length:Int)) (by omega) (by have:=h.2.1;omega);have e2:=iY oL (B:=480) fun c hc=>(zY h c hc).2
 have:=h.2.1;have e3:480*l.length≤480*3:=Nat.mul_le_mul_left _ this;omega
theorem RU:(gJ []).length≤1500:=by
 unfold gJ oM;have:=jw (r:=0) (by omega) (by omega);simp;omega
structure ShA (x:Pa):Prop where
 ns:∀r∈gV x,-1≤r∧r≤1000000
 td:∀f∈x.td,dA f
 tn:x.td.length≤2
 tc:x.tc=[]∨kR x.tc
 cl:x.cl=[]∨kR x.cl
 en:x.ea.length≤2
 ea:∀e∈x.ea,(0≤e.file∧e.file≤5000)∧0≤e.day∧e.day≤40000
 fx:x.fx=Fm.zero∨dA x.fx
theorem MG {N:Nat} {x:Pa} (hN:N≤100) (h:KR N x) (hn:0≤x.n∧x.n≤1000000):ShA x:=by
 obtain⟨y,d,n,hy,hd1,hd2,rfl⟩:=h;have hn':0≤n∧n≤1000000:=hn;rcases hy with ⟨o,p,q,td,tc,ea,rfl,ho,hp,hq,hT,hE⟩|hy
 ·refine⟨?_,hT.2.2.1,hT.2.1,.inr hT.2.2.2,.inl rfl,hE.1,fun e he=>?_,.inl rfl⟩
  ·have Zn:-1≤q∧q≤4095:=by
    rcases hq with rfl|⟨j,hj,rfl⟩<;>omega
   simp[gV,bH,Pa.zero];omega
  ·obtain⟨⟨j,hj,hf⟩,h1,h2⟩:=hE.2.1 e he
   omega
 ·cases hy with
  | plain hk hf=>obtain⟨j,hj,rfl⟩:=hf;refine⟨?_,by simp[bH,Pa.zero],by simp[bH,Pa.zero],.inl rfl,.inl rfl,by simp[bH,Pa.zero],by simp[bH,Pa.zero],.inl rfl⟩;rcases hk with rfl|rfl|rfl|rfl<;>(simp[gV,bH,Pa.zero];omega)
  | list hk hf hc=>obtain⟨j,hj,rfl⟩:=hf;refine⟨?_,by simp[bH,Pa.zero],by simp[bH,Pa.zero],.inl rfl,.inr hc,by simp[bH,Pa.zero],by simp[bH,Pa.zero],.inl rfl⟩;rcases hk with rfl|rfl<;>(simp[gV,bH,Pa.zero];omega)
  | pay hf hp hq hu hm1 hm2=>obtain⟨j,hj,rfl⟩:=hf;refine⟨?_,by simp[bH,Pa.zero],by simp[bH,Pa.zero],.inl rfl,.inl rfl,by simp[bH,Pa.zero],by simp[bH,Pa.zero],.inl rfl⟩;simp[gV,bH,Pa.zero];omega
  | small hp hu=>refine⟨?_,by simp[bH,Pa.zero],by simp[bH,Pa.zero],.inl rfl,.inl rfl,by simp[bH,Pa.zero],by simp[bH,Pa.zero],.inl rfl⟩;simp[gV,bH,Pa.zero];omega
  | order hk hf hu1 hu2 hu3=>obtain⟨j,hj,rfl⟩:=hf;refine⟨?_,by simp[bH,Pa.zero],by simp[bH,Pa.zero],.inl rfl,.inl rfl,by simp[bH,Pa.zero],by simp[bH,Pa.zero],.inl rfl⟩;rcases hk with rfl|rfl|rfl|rfl<;>(simp[gV,bH,Pa.zero];omega)
  | extend hf hu1 hu2 hm1 hm2=>obtain⟨j,hj,rfl⟩:=hf;refine⟨?_,by simp[bH,Pa.zero],by simp[bH,Pa.zero],.inl rfl,.inl rfl,by simp[bH,Pa.zero],by simp[bH,Pa.zero],.inl rfl⟩;simp[gV,bH,Pa.zero];omega
  | JB hk hf hp1 hp2=>obtain⟨j,hj,rfl⟩:=hf;refine⟨?_,by simp[bH,Pa.zero],by simp[bH,Pa.zero],.inl rfl,.inl rfl,by simp[bH,Pa.zero],by simp[bH,Pa.zero],.inl rfl⟩;rcases hk with rfl|rfl<;>(simp[gV,bH,Pa.zero];omega)
  | @decide f q u cl hf hq hu=>
   obtain⟨j,hj,rfl⟩:=hf;refine⟨?_,by simp[bH,Pa.zero],by simp[bH,Pa.zero],.inl rfl,?_,by simp[bH,Pa.zero],by simp[bH,Pa.zero],.inl rfl⟩
   ·have hu':0≤u∧u≤2:=by rcases hu with ⟨h|h,-⟩|⟨h,-⟩<;>(rw[h];decide)
    simp[gV,bH,Pa.zero];omega
   ·rcases hu with ⟨-,rfl⟩|⟨-,hc⟩
    ·exact .inl rfl
    ·exact .inr hc
  | transfer hf hp1 hp2 hq1 hq2 hs=>
   obtain⟨j,hj,rfl⟩:=hf;refine⟨?_,by simp[bH,Pa.zero],by simp[bH,Pa.zero],.inl rfl,.inl rfl,by simp[bH,Pa.zero],by simp[bH,Pa.zero],.inl rfl⟩;unfold OV at hs;simp[gV,bH,Pa.zero];omega
  | Js hf hp1 hp2 hq1 hq2 hu1 hu2=>obtain⟨j,hj,rfl⟩:=hf;refine⟨?_,by simp[bH,Pa.zero],by simp[bH,Pa.zero],.inl rfl,.inl rfl,by simp[bH,Pa.zero],by simp[bH,Pa.zero],.inl rfl⟩;simp[gV,bH,Pa.zero];omega
  | art hg=>refine⟨?_,by simp[bH,Pa.zero],by simp[bH,Pa.zero],.inl rfl,.inl rfl,by simp[bH,Pa.zero],by simp[bH,Pa.zero],.inr hg⟩;simp[gV,bH,Pa.zero];omega
  | closure ho hu1 hu2=>refine⟨?_,by simp[bH,Pa.zero],by simp[bH,Pa.zero],.inl rfl,.inl rfl,by simp[bH,Pa.zero],by simp[bH,Pa.zero],.inl rfl⟩;simp[gV,bH,Pa.zero];omega
  | rule ho hu1 hu2 hm1 hm2=>refine⟨?_,by simp[bH,Pa.zero],by simp[bH,Pa.zero],.inl rfl,.inl rfl,by simp[bH,Pa.zero],by simp[bH,Pa.zero],.inl rfl⟩;simp[gV,bH,Pa.zero];omega
theorem ShA.size {x:Pa} (h:ShA x):YK x:=by
 have hg:∀{f:Fm},dA f→f.size≤Go.Proofs.YthfmaclnccdcbaaGreatDoor.nN:=fun hf=>by
  have:=(D9 hf).sz;unfold Go.Proofs.YthfmaclnccdcbaaGreatDoor.nN;omega
 have hc:∀{l:List Cl},(l=[]∨kR l)→∀c∈l,c.body.size≤Go.Proofs.YthfmaclnccdcbaaGreatDoor.nN:=fun hl c hc=>by
  rcases hl with rfl|hl
  ·cases hc
  ·obtain⟨i,hi,rfl⟩:=List.mem_iff_getElem.1 hc
   exact hg (hl.2.2 i hi).1
 refine⟨fun f hf=>hg (h.td f hf),hc h.tc,hc h.cl,?_⟩;rcases h.fx with e|e
 ·rw[e];unfold Fm.zero Go.Proofs.YthfmaclnccdcbaaGreatDoor.nN;simp[Fm.size,Fm.sizes]
 ·exact hg e
theorem ShA.enc {x:Pa} (h:ShA x):uj x:=by
 have hns:∀r∈gV x,-9223372036854775808≤r∧r≤9223372036854775807:=fun r hr=>by have:=h.ns r hr;omega
 have hcl:∀{l:List Cl},(l=[]∨kR l)→(∀c∈l,FW c)∧(gJ l).length≤1500:=fun hl=>by
  rcases hl with rfl|hl
  ·exact⟨fun c hc=>(by cases hc),RU⟩
  ·exact⟨fun c hc=>(zY hl c hc).1,D8 hl⟩
 have hfx:x.fx.n64∧(dw x.fx).length≤440:=by
  rcases h.fx with e|e
  ·rw[e];exact XP
  ·exact kF e
 have hea:∀e∈x.ea,(-9223372036854775808≤e.file∧e.file≤9223372036854775807)∧(-9223372036854775808≤e.day∧e.day≤9223372036854775807):=fun e he=>by have:=h.ea e he;omega
 have htd:(tJ x.td).length≤450*x.td.length:=iY (fun f=>encR (gK f)) fun f hf=>jd (kU (kF (h.td f hf)).2) (by omega)
 have htn:450*x.td.length≤450*2:=Nat.mul_le_mul_left _ h.tn;have e1:=jw (r:=(x.td.length:Int)) (by omega) (by have:=h.tn;omega);have e2:=jd (jr (hcl h.tc).2) (by omega);have htx:(nG x.td x.tc).length≤3000:=by
  unfold nG;rw[dM,dM];omega
 have hen:(lG x.ea).length≤20*x.ea.length:=iY pY fun e he=>by
  have:=hea e he;unfold pY;rw[dM];have:=jw this.1.1 this.1.2;have:=jw (hea e he).2.1 (hea e he).2.2;omega
 have afE:20*x.ea.length≤20*2:=Nat.mul_le_mul_left _ h.en;have e3:=jw (r:=(x.ea.length:Int)) (by omega) (by have:=h.en;omega);have hkd:(iP x).length≤3100:=by
  unfold iP;split
  ·rw[dM,dM]
   have:=jd (nS htx) (by omega);omega
  ·split
   ·have:=jd (kU hfx.2) (by omega)
    omega
   ·simp
 have hac:(uI x).length≤1510:=by
  unfold uI;split
  ·simp
  ·exact jd (jr (hcl h.cl).2) (by omega)
 have hn1:=iY PA.encI (B:=10) (l:=gV x) fun r hr=>jw (hns r hr).1 (hns r hr).2
 have hn2:(gV x).length=11:=rfl;rw[hn2] at hn1;refine⟨hns,fun f hf=>PO (h.td f hf),(hcl h.tc).1,(hcl h.cl).1,hea,⟨hfx.1,by have:=hfx.2;omega⟩,by omega,by have:=(hcl h.tc).2;omega,by have:=(hcl h.cl).2;omega,?_⟩;unfold L6;rw[dM,dM];omega
end PA
