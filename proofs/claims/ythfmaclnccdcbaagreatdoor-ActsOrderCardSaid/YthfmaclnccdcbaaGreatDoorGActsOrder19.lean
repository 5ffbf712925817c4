/- Part of a proof. -/
import Derived.Test.YthfmaclnccdcbaaGreatDoorGActsOrder18
namespace PA
open Go Go.RowKit
def YM:Nat→List Nat:=fun x=>if x=4 then [1,3] else if x=5 then [4] else if x=6 then [5] else []
def Aq:Nat→List Nat:=fun x=>if x=2 then [0] else if x=4 then [0,3] else if x=5 then [2,4] else if x=6 then [1,5] else if x=7 then [4] else []
theorem UL {I:Mem} {cs:List Value} {f:Fm} (h:rF.rel I cs f):cs.length=4:=by
 obtain⟨o,n,i,k⟩:=f;obtain⟨a,c,b,d,rfl,-,-⟩:=dR.1 h;rfl
theorem Qb {I:Mem}:∀{xs:List FV},(∀x∈xs,rF.rel I x.1 x.2)→(rF.rows 4).rel I (xs.map (·.1)).flatten (xs.map (·.2))
 | [],_=>⟨[],rfl,trivial⟩
 | x::xs,h=>by
  obtain⟨css,e,h2⟩:=Qb fun y hy=>h y (List.mem_cons_of_mem x hy)
  have h1:=h x (List.mem_cons_self ..);exact⟨x.1::css,by rw[List.map_cons,List.flatten_cons,List.flatten_cons,e],⟨h1,UL h1⟩,h2⟩
def KX (I:Mem) (O:Nat) (tO E:TypeId) (xs:List FV):aC:=ex fun q:Option Addr×Nat=>sep (fact (∀x∈xs,rF.rel I x.1 x.2)) (sep (kn I) (sep (blk O (.cells #[.slice q.1 xs.length q.2] tO (0,0))) (aT E 4 q.1 xs.length q.2 (xs.map (·.1)).flatten)))
section
variable {W w w':World} {I:Mem} {O:Nat} {tO E:TypeId} {xs:List FV} {A:aC}
theorem xW:Sat W w (sep (KX I O tO E xs) A)↔∃(a:Option Addr) (c:Nat),(∀x∈xs,rF.rel I x.1 x.2)∧Sat W w (sep (kn I) (sep (blk O (.cells #[.slice a xs.length c] tO (0,0))) (sep (aT E 4 a xs.length c (xs.map (·.1)).flatten) A))):=by
 unfold KX;rw[fK,Sat.ex];constructor
 ·rintro⟨⟨a,c⟩,h⟩
  simp only[aj] at h;exact⟨a,c,Sat.fact.1 h⟩
 ·rintro⟨a,c,h⟩
  refine⟨⟨a,c⟩,?_⟩;simp only[aj];exact Sat.fact.2 h
end
end PA
namespace Go.Proofs.YthfmaclnccdcbaaGreatDoor
open Go.RowKit PA
attribute [local go_sem] Oper.semAt_some
attribute [local go_sem ↓] iq
attribute [local go_sem] BL
theorem Qg (w:World):(zeroValue 27).run Tryz.prog w=.ok (.slice none 0 0) w:=by kernel_rfl
def MW (D B:Nat) (tF tC:TypeId) (ta:Option Addr) (tn tc:Nat) (cs:Array Value) (mb:Nat) (fm:Int→Option Value) (nm:Nat) (A:aC):aC:=
 sep (blk D (.deferred (some []))) (sep (blk (B+1) (.cells #[.slice ta tn tc] tF (0,0))) (sep (blk B (.cells cs tC (0,0))) (sep (kE mb fm nm) A)))
theorem S9 {W w:World} {J:Mem} {D B:Nat} {tF tC:TypeId} {ta:Option Addr} {tn tc:Nat} {cs:Array Value} {mb:Nat} {fm:Int→Option Value} {nm:Nat} {A:aC} (h:Sat W w (sep (kn J) (MW D B tF tC ta tn tc cs mb fm nm A))):
 w.heap[D]?=some (.deferred (some []))∧Sat W (w.putObj D (.deferred none)) (sep (kn J) (sep (kE mb fm nm) A)):=by
 unfold MW at h;have h2:Sat W w (sep (blk D (.deferred (some []))) (sep (blk (B+1) (.cells #[.slice ta tn tc] tF (0,0))) (sep (blk B (.cells cs tC (0,0))) (sep (kn J) (sep (kE mb fm nm) A))))):=dJ h;exact⟨h2.aO,(h2.putObj (.deferred none)).drop.forget.forget⟩
set_option maxRecDepth 100000 in
set_option maxHeartbeats 16000000 in
theorem Oi {W w:World} {A:aC} {I:Mem} (cl:Cl) (ra:Option Addr) (rc:Nat) (p q:Int) (x1:Option Addr) (n1 c1:Nat) (x2:Option Addr) (n2 c2:Nat) (mb:Nat) (of:Nat→Option (List Fm)) (fm:Int→Option Value) (nm:Nat)
 (hrr:(qX.slice 1).rel I [.slice ra cl.refs.length rc] cl.refs) (hr:rF.rel I [.int .i64 p,.int .i64 q,.slice x1 n1 c1,.slice x2 n2 c2] cl.body) (ZF:cl.refs.length≤8) (MG:∀r∈cl.refs,0≤r) (hbe:jV cl.body=0) (hiv:Jh cl.body)
 (hof:∀r:Nat,(of r=none→fm r=none)∧∀y,of r=some y→(∃(a:Option Addr) (m d:Nat),fm r=some (.slice a m d)∧m=y.length∧(rF.slice 4).rel I [.slice a m d] y)∧y.length≤64∧∀f∈y,f.size≤96∧Jh f)
 (h:Sat W w (sep (kn I) (sep (kE mb fm nm) A))):
 Calls Tryz.prog 219 #[.agg #[.slice ra cl.refs.length rc,.int .i64 p,.int .i64 q,.slice x1 n1 c1,.slice x2 n2 c2],.map (some mb)] w fun e w'=>∃(b:Option Addr) (m d:Nat) (J:Mem),e=.returned (.tuple #[.slice b m d,.bool (rX of cl).isSome])∧Mem.le I J∧(∀y,rX of cl=some y→m=y.length∧(rF.slice 4).rel J [.slice b m d] y)∧Sat W w' (sep (kn J) (sep (kE mb fm nm) A)):=by
 have hbs:=lq hbe;obtain⟨nr,hnr⟩:=aB (cl.refs.length);obtain⟨av,hav⟩:=aB (rX of cl);obtain⟨tp,htp⟩:=aB (cl.body.dL);rw[←hav];rw[←hnr] at hrr ZF ⊢;have h1:=(h.alloc (.cells #[.slice ra nr rc,.int .i64 p,.int .i64 q,.slice x1 n1 c1,.slice x2 n2 c2] 91)).alloc (.cells #[.slice none 0 0] 27);rw[World.size_alloc] at h1;obtain⟨B,hB⟩:=aB (w.heap.size);obtain⟨w1,hw1⟩:=aB ((w.alloc (.cells #[.slice ra nr rc,.int .i64 p,.int .i64 q,.slice x1 n1 c1,.slice x2 n2 c2] 91)).alloc (.cells #[.slice none 0 0] 27));rw[←hB,←hw1] at h1;have HB:=ah (And.intro hB hw1);have HFT:=ah (ND (.int .i64 p) (.int .i64 q) (.slice x1 n1 c1) (.slice x2 n2 c2) h1);obtain⟨k0,k1,k2,k3,k4⟩:=cl5 h1.p1;have htl:tp.length≤96:=by rw[htp];have:=Fm.yj cl.body;omega
 have hts:∀f∈tp,f.size≤96∧Jh f:=fun f hf=>by rw[htp] at hf;have:=zn cl.body f hf;exact⟨by omega,hiv.dL hf⟩
 have HR:=ah (And.intro hr (show cl.body.size≤o7 by unfold o7;omega));have HX:=ah (And.intro htp (And.intro hnr (And.intro MG (And.intro htl hts))));have HRR:=ah hrr;have XI:=ah hof;have EH:Hid (av=rX of cl):=ah hav;have ad5:(nr:Int)≤8:=by omega
 have eg:=enters_of (P:=Tryz.prog) Tryz.func237 (by kernel_rfl) rfl;obtain⟨Po,dU⟩:∃P:Ending→World→Prop,P=fun e w'=>∃(b:Option Addr) (m d:Nat) (J:Mem),e=.returned (.tuple #[.slice b m d,.bool av.isSome])∧Mem.le I J∧(∀y,av=some y→m=y.length∧(rF.slice 4).rel J [.slice b m d] y)∧Sat W w' (sep (kn J) (sep (kE mb fm nm) A)):=⟨_,rfl⟩
 rw[←dU];have bI:=ah dU;clear h h1 hB hw1 hr hbs hbe hiv MG ZF htl hts hrr hof hav htp hnr dU;refine (callsIn_wide (n:=5)).1 ?_;refine callsIn_of_wp_marks Tryz.func219 rfl trivial ?_ rfl;simp only[Tryz.ntmps219,List.size_toArray,List.length_cons,List.length_nil,Nat.reduceAdd,Nat.reduceSub,Array.replicate_succ,Array.replicate_zero,List.push_toArray,List.append_toArray,List.nil_append,List.cons_append];refine wpIn_wide.2 ?_
 go_upto_region 2 with (fail)
 rw[←HB.out.1,←HB.out.2]
 go_wp2_with fail
 refine HFT.out.mono ?_;rintro e w2 ⟨fb,rfl,h2⟩;have h3:Sat W w2 (sep (KX I (B+1) 27 34 []) (sep (blk fb (.cells #[.int .i64 p,.int .i64 q,.slice x1 n1 c1,.slice x2 n2 c2] 34 (0,0))) (sep (kn I) (sep (blk B (.cells #[.slice ra nr rc,.int .i64 p,.int .i64 q,.slice x1 n1 c1,.slice x2 n2 c2] 91 (0,0))) (sep (kE mb fm nm) A))))):=by
  refine xW.2 ⟨none,0,fun x hx=>absurd hx (by simp),?_⟩;have h4:Sat W w2 (sep (kn I) (sep (blk fb (.cells #[.int .i64 p,.int .i64 q,.slice x1 n1 c1,.slice x2 n2 c2] 34 (0,0))) (sep (blk (B+1) (.cells #[.slice none 0 0] 27 (0,0))) (sep (blk B (.cells #[.slice ra nr rc,.int .i64 p,.int .i64 q,.slice x1 n1 c1,.slice x2 n2 c2] 91 (0,0))) (sep (kE mb fm nm) A))))):=dJ h2;have h5:=Sat.gq (Sat.dup h4) 34 4;show Sat W w2 (sep (kn I) (sep (blk (B+1) (.cells #[.slice none 0 0] 27 (0,0))) (sep (aT 34 4 none 0 0 []) _)));unfold kn at h5 ⊢;simpa only[aA,ay,aj] using h5
 clear h2 HFT k0 k1 k2 k3 k4
 go_wp2_with fail
 refine (wpIn_wide (n:=5)).1 ?_;refine l9 (F:=Fence.wide) (W:=W) rfl (by omega) (gf:=237) (lb:=#[.pointer (some ⟨fb,0,none⟩)]) rfl trivial eg (encs:=qN) (fun _=>rfl) (LK (A:=sep (blk B (.cells #[.slice ra nr rc,.int .i64 p,.int .i64 q,.slice x1 n1 c1,.slice x2 n2 c2] 91 (0,0))) (sep (kE mb fm nm) A)) (fun _=>True) (5-1) cl.body p q x1 n1 c1 x2 n2 c2 HR.out.1 (fun _ _=>trivial) HR.out.2 fb)
  (KX I (B+1) 27 34) (fun _ _=>fact False) h3
  (fun y g t=>(t.setIfInBounds 21 (.agg y.1.toArray)).setIfInBounds 8 (.pointer (some ⟨g,0,none⟩)))
  (fun pre y g=>sep (fact (rF.rel I y.1 y.2)) (sep (blk g (.cells y.1.toArray 34 (0,0))) (KX I (B+1) 27 34 pre))) ?assign ?body ?done ?stop
 case assign=>
  as_aux_lemma=>
  intro lp pre y w' X K hlen hS hK;have h4:Sat W w' (sep (EW I (fun _=>True) y) (sep (KX I (B+1) 27 34 pre) X)):=dJ hS;unfold EW at h4;obtain⟨hf,h6⟩:=Sat.fact.1 h4;obtain⟨y1,y2⟩:=y;obtain⟨yo,yn,yi,yk⟩:=y2;obtain⟨u1,d1,u2,d2,e,hi,hk⟩:=dR.1 hf.1;dsimp only at e hf hK;subst e;have h7:=h6.alloc (.cells #[.int .i64 yo,.int .i64 yn,.slice u1 yi.length d1,.slice u2 yk.length d2] 34);have h5:=hK w'.heap.size _ (show Sat W (w'.alloc (.cells #[.int .i64 yo,.int .i64 yn,.slice u1 yi.length d1,.slice u2 yk.length d2] 34)) (sep (sep (fact _) (sep _ _)) X) by rw[aj,aj];exact Sat.fact.2 ⟨hf.1,h7⟩);simp only[lsA,lsB,kJ] at h5;have H5:=ah h5;clear hK hS h4 h5 h6 h7 hf hi hk h3;dsimp only[qN] at *
  gi_wp2_with fail
  simpa using H5.out
 case body=>
  as_aux_lemma=>
  intro lp pre y g w' X hlen hS;simp only[lsA,lsB,kJ];rw[aj,aj] at hS;obtain⟨hf,h4⟩:=Sat.fact.1 hS;have h5:Sat W w' (sep (KX I (B+1) 27 34 pre) (sep (blk g (.cells y.1.toArray 34 (0,0))) X)):=dJ h4;obtain⟨a0,c0,hpre,h6⟩:=xW.1 h5;have hyl:=UL hf;have hyv:=yg hf;obtain⟨⟨yo,yn,yi,yk⟩,hy2⟩:∃z,z=y.2:=⟨_,rfl⟩
  rw[←hy2] at hf;obtain⟨u1,d1,u2,d2,ey,hi,hk⟩:=dR.1 hf;obtain⟨np,hnp⟩:=aB (pre.length);obtain⟨vs,hvs⟩:=aB ((pre.map (·.1)).flatten);rw[←hnp,←hvs] at h6;rw[←hnp] at hlen;obtain⟨ci,hci⟩:∃z:List Value,z=[.int .i64 yo,.int .i64 yn,.slice u1 yi.length d1,.slice u2 yk.length d2]:=⟨_,rfl⟩
  obtain⟨ni,hni⟩:=aB (yi.length);obtain⟨nk,hnk⟩:=aB (yk.length);rw[←hni,←hnk] at hci ey;rw[ey,←hci] at h6;have hT0:Sat W w'.drew (YK I (B+1) 27 34 np a0 c0 vs ci (sep (blk g (.cells ci.toArray 34 (0,0))) X) (fun _=>none)):=
   qU.2 ⟨⟨I,none,0⟩,⟨Mem.le_refl _,fun _ h=>(by cases h),fun _ h=>(by cases h),fun _ h=>(by cases h),fun _ h=>(by cases h),fun _ h=>(by cases h),fun _ h=>(by cases h)⟩,by
    rw[Iw rfl,Oy rfl];exact h6.drew⟩
  have HT0:=ah hT0;have HL:=ah (And.intro hlen (And.intro hnp (And.intro hvs (And.intro hci (And.intro ey hpre)))));have HF:=ah (And.intro hf hy2);clear hS h4 h5 h6 hT0 hlen hnp hvs hci ey hpre hyl hyv hi hk hf hni hnk hy2 h3
  gi_upto_region 4 with (fail)
  refine yx rfl (fun _=>True) [.grp false [(0,[]),(1,[]),(2,[]),(3,[]),(4,[]),(5,[]),(6,[]),(7,[])]] (by kernel_rfl) ?_ ?_
  ·exact fun ⟨_,_,h⟩=>h
  refine Bj (n:=8) rfl ?_;refine jT [0,1,2,3,4,5,6,7] Aq (YK I (B+1) 27 34 np a0 c0 vs ci (sep (blk g (.cells ci.toArray 34 (0,0))) X)) (by kernel_rfl) (by kernel_rfl) ?_ ?_ ?_ 8 [0,1,2,3,4,5,6,7] (fun _=>none) w'.drew rfl (by decide) (fun z=>by simp) (fun _ _ h=>by cases h) HT0.out
  ·intro _ f w' hT;trivial
  ·intro i hi f w' o' ho hfi fE hcl hT
   simp only[List.mem_cons,List.not_mem_nil,or_false] at hi;have hno:∀y z,y∈[0,1,2,3,4,5,6,7]→z∈Aq y→f z=none→f y=none:=fun y z hy hz hf=>by
    cases Ie:f y with
    | none=>rfl
    | some v=>have:=hcl y hy (by rw[Ie];rfl) z hz;rw[hf] at this;cases this
   have hz:∀d,d∈Aq i→∃v,f d=some v:=fun d hd=>bV (fE d hd)
   obtain⟨q,hp,hq⟩:=qU.1 hT;have HP:=ah (And.intro hp (And.intro hq hT));clear fE hT hcl hp hq HT0 HF;rcases hi with rfl|rfl|rfl|rfl|rfl|rfl|rfl|rfl
   ·as_aux_lemma=>
    cases ho;have h2:=hno 2 0 (by decide) (by decide) hfi;have h4:=hno 4 0 (by decide) (by decide) hfi;have h7:=hno 7 4 (by decide) (by decide) h4;obtain⟨hp,hq,-⟩:=HP.out;have hq2:=hq;rw[Iw h7,Oy h4] at hq2;have k0:w'.cell? ⟨B+1,0,none⟩=some (.slice a0 np c0):=hq2.p1.cell 0;have HQ:=ah (And.intro hp hq);clear hp hq hq2 hno hz HP;refine .inl (.inl ⟨.slice a0 np c0,w',?_,ug (by decide) ⟨rfl,rfl⟩ (HQ.out.1.set (Mem.le_refl _) (fun _=>⟨rfl,rfl⟩) (fun e=>by cases e) (fun _=>rfl) (fun e=>by cases e) (fun e=>by cases e) (fun e=>by cases e) (fun e=>by cases e) (fun e=>by cases e)) HQ.out.2⟩)
    ·simp[cZ,List.filter,Aq,aS,Act.put]
     (go_simp;try rfl)
   ·as_aux_lemma=>
    cases ho;obtain⟨hp,hq,-⟩:=HP.out;have hq2:=hq.p3;have hci:=HL.out.2.2.2.1;rw[hci] at hq2;obtain⟨k0,k1,k2,k3⟩:=kR hq2;have HQ:=ah (And.intro hp hq);have ZY:=ah hci;clear hp hq hq2 hno hz HP hci;refine .inl (.inl ⟨.agg #[.int .i64 yo,.int .i64 yn,.slice u1 ni d1,.slice u2 nk d2],w',?_,ug (by decide) ⟨rfl,rfl⟩ (HQ.out.1.set (Mem.le_refl _) (fun _=>⟨rfl,rfl⟩) (fun e=>by cases e) (fun e=>by cases e) (fun _=>by rw[ZY.out]) (fun e=>by cases e) (fun e=>by cases e) (fun e=>by cases e) (fun e=>by cases e)) HQ.out.2⟩)
    ·simp[cZ,List.filter,Aq,aS,Act.put]
     (go_simp;try rfl)
   ·as_aux_lemma=>
    cases ho;obtain⟨v0,hv0⟩:=hz 0 (by decide);obtain⟨hp,hq,-⟩:=HP.out;obtain rfl:=hp.p0 v0 hv0;have HQ:=ah (And.intro hp hq);clear hp hq hno hz HP;refine .inl (.inl ⟨.int .i64 (np:Nat),w',?_,ug (by decide) ⟨rfl,rfl⟩ (HQ.out.1.set (Mem.le_refl _) (fun _=>⟨rfl,rfl⟩) (fun e=>by cases e) (fun e=>by cases e) (fun e=>by cases e) (fun _=>rfl) (fun e=>by cases e) (fun e=>by cases e) (fun e=>by cases e)) HQ.out.2⟩)
    ·simp[cZ,List.filter,Aq,hv0,aS,Act.put]
     (go_simp;try rfl)
   ·as_aux_lemma=>
    cases ho;obtain⟨hp,hq,-⟩:=HP.out;obtain⟨J',hle,hJ,h9⟩:=F5 #[.int .i64 0,.int .i64 0,.slice none 0 0,.slice none 0 0] 34 hq;have HQ:=ah (And.intro hp (And.intro hle (And.intro hJ h9)));clear hp hq hno hz HP hle hJ h9;refine .inl (.inl ⟨.slice (some ⟨w'.heap.size,0,none⟩) 1 1,w'.alloc (.cells #[.int .i64 0,.int .i64 0,.slice none 0 0,.slice none 0 0] 34),?_,ug (q':=⟨J',q.a,q.c⟩) (by decide) ⟨rfl,rfl⟩ (HQ.out.1.set HQ.out.2.1 (fun _=>⟨rfl,rfl⟩) (fun e=>by cases e) (fun e=>by cases e) (fun e=>by cases e) (fun e=>by cases e) (fun _=>⟨_,rfl,HQ.out.2.2.1⟩) (fun e=>by cases e) (fun e=>by cases e)) HQ.out.2.2.2⟩)
    ·simp[cZ,List.filter,Aq,aS,Act.put]
     (go_simp;try rfl)
   ·as_aux_lemma=>
    cases ho;obtain⟨v0,hv0⟩:=hz 0 (by decide);obtain⟨v3,hv3⟩:=hz 3 (by decide);have h5:=hno 5 4 (by decide) (by decide) hfi;have h6:=hno 6 5 (by decide) (by decide) h5;have h7:=hno 7 4 (by decide) (by decide) hfi;obtain⟨hp,hq,-⟩:=HP.out;obtain rfl:=hp.p0 v0 hv0;obtain⟨g3,rfl,hJ3⟩:=hp.p3 v3 hv3;have he:=hq.ext g3 _ hJ3;rw[Iw h7,Oy hfi] at hq;refine .inl ((sW (.tmp 22) (.tmp 25) 27 rfl 34 4 64 _ Tryz.underlying27 iF rfl (by simp[cZ,List.filter,Aq,hv0,hv3,aS,Act.put,Act.eval]) hq.p2 (x:=some ⟨g3,0,none⟩) (m:=1) (cc:=1) (by simp[cZ,List.filter,Aq,hv0,hv3,aS,Act.put,Act.eval]) YL rfl (fun e=>by cases e) (fun b' hb j u hu=>by
     cases hb;have e:(⟨g3,0,none⟩:Addr).add j=⟨g3,j,none⟩:=by unfold Addr.add;split<;>simp_all
     rw[e];have hcc:w'.cell? ⟨g3,j,none⟩=YL[j]?:=by
      simp[World.cell?,he,YL]
     rw[hcc];exact hu) (by decide) (by have:=HL.out.1;unfold o7 at this;omega) (by have:=HL.out.1;unfold o7 at this;unfold maxLen;omega)).mono ?_)
    rintro v w'' ⟨a',c',rfl,h'⟩;refine owT_4 hp h5 h6 h7 ?_;simpa only[aA,ay,aj] using h'
   ·as_aux_lemma=>
    cases ho;obtain⟨v2,hv2⟩:=hz 2 (by decide);obtain⟨v4,hv4⟩:=hz 4 (by decide);have h6:=hno 6 5 (by decide) (by decide) hfi;obtain⟨hp,hq,-⟩:=HP.out;obtain rfl:=hp.p2 v2 hv2;obtain rfl:=hp.p4 v4 hv4;have hq2:=hq;rw[UG hv4 h6] at hq2;have hvl:vs.length=np*4:=by
     have:=(Sat.uZ hq2.p2).1;rw[dF] at this;have e4:YL.length=4:=rfl;omega
    obtain⟨g,hg,-,-,-⟩:=F7 (.int .i64 0) (.int .i64 0) (.slice none 0 0) (.slice none 0 0) (.int .i64 0) (.int .i64 0) (.slice none 0 0) (.slice none 0 0) hvl hq2.p2;have hnp:(np:Int)<1000000:=by have:=HL.out.1;unfold o7 at this;omega
    have ahp:(np:Int)<((np+1:Nat):Int):=by omega
    have HQ:=ah (And.intro hp (And.intro hq hg));clear hp hq hq2 hno hz HP hvl;refine .inl (.inl ⟨.pointer (some ⟨g,np*4,none⟩),w',?_,ug (by decide) ⟨rfl,rfl⟩ (HQ.out.1.set (Mem.le_refl _) (fun _=>⟨rfl,rfl⟩) (fun e=>by cases e) (fun e=>by cases e) (fun e=>by cases e) (fun e=>by cases e) (fun e=>by cases e) (fun e=>by cases e) (fun _=>⟨g,HQ.out.2.2,rfl⟩)) HQ.out.2.1⟩)
    ·simp[cZ,List.filter,Aq,hv2,hv4,aS,Act.put,hg]
     (go_simp;try rfl)
     try exact fun h=>absurd h (by omega)
   ·as_aux_lemma=>
    cases ho;obtain⟨v1,hv1⟩:=hz 1 (by decide);obtain⟨v5,hv5⟩:=hz 5 (by decide);obtain⟨hp,hq,hT⟩:=HP.out;have h4:∃v4,f 4=some v4:=by
     cases h4:f 4 with
     | none=>have:=hno 5 4 (by decide) (by decide) h4;rw[hv5] at this;cases this
     | some v=>exact⟨v,rfl⟩
    obtain⟨v4,hv4⟩:=h4;obtain rfl:=hp.p1 v1 hv1;obtain⟨g,hg,rfl⟩:=hp.p5 v5 hv5;have hq2:=hq;rw[UG hv4 hfi] at hq2;have hvl:vs.length=np*4:=by
     have:=(Sat.uZ hq2.p2).1;rw[dF] at this;have e4:YL.length=4:=rfl;omega
    obtain⟨g',hg',⟨k0,k1,k2,k3⟩,hu,h9⟩:=F7 (.int .i64 0) (.int .i64 0) (.slice none 0 0) (.slice none 0 0) (.int .i64 yo) (.int .i64 yn) (.slice u1 ni d1) (.slice u2 nk d2) hvl hq2.p2;obtain rfl:g=g':=by rw[hg] at hg';cases hg';rfl
    have u0:=hu (np*4);have u1':=hu (np*4+1);have u2':=hu (np*4+2);have u3':=hu (np*4+3);have hci:=HL.out.2.2.2.1;have HQ:=ah (And.intro hp (And.intro h9 hv4));have ZY:=ah hci;clear hp hq hq2 hno hz HP hvl hu h9 hT hg hg';refine .inr ⟨(((w'.setCell ⟨g,np*4,none⟩ (.int .i64 yo)).setCell ⟨g,np*4+1,none⟩ (.int .i64 yn)).setCell ⟨g,np*4+2,none⟩ (.slice u1 ni d1)).setCell ⟨g,np*4+3,none⟩ (.slice u2 nk d2),?_,?_⟩
    ·simp[cZ,List.filter,Aq,hv1,hv5,aS,Act.put,hci]
     (go_simp;try rfl)
    ·refine owT_6 HQ.out.1 HQ.out.2.2 ?_
     have h9:=HQ.out.2.1;rw[←ZY.out] at h9;simpa only[aA,ay,aj] using h9
   ·as_aux_lemma=>
    cases ho;obtain⟨v4,hv4⟩:=hz 4 (by decide);obtain⟨hp,hq,hT⟩:=HP.out;obtain rfl:=hp.p4 v4 hv4;have hq2:=hq.p1;unfold MH at hq2;rw[hfi] at hq2;have c0':=hq2.cell 0;have u0:=hq2.aH 0;have h9:=hq2.setCell 0 (.slice q.a (np+1) q.c);have HQ:=ah (And.intro hp h9);clear hp hq hq2 hno hz HP h9 hT;refine .inr ⟨w'.setCell ⟨B+1,0,none⟩ (.slice q.a (np+1) q.c),?_,owT_7 HQ.out.1 HQ.out.2⟩
    ·simp[cZ,List.filter,Aq,hv4,aS,Act.put]
     (go_simp;try rfl)
  ·as_aux_lemma=>
   intro f w' hall hT;obtain⟨v0,hv0⟩:=bV (hall 0 (by decide));obtain⟨v1,hv1⟩:=bV (hall 1 (by decide));obtain⟨v2,hv2⟩:=bV (hall 2 (by decide));obtain⟨v3,hv3⟩:=bV (hall 3 (by decide));obtain⟨v4,hv4⟩:=bV (hall 4 (by decide));obtain⟨v5,hv5⟩:=bV (hall 5 (by decide));obtain⟨v6,hv6⟩:=bV (hall 6 (by decide));obtain⟨v7,hv7⟩:=bV (hall 7 (by decide));obtain⟨q,hp,hq⟩:=qU.1 hT;rw[YJ hv4 hv6] at hq;unfold MH at hq;rw[hv7] at hq;have h9:Sat W w' (sep (KX I (B+1) 27 34 (pre++[y])) X):=xW.2 ⟨q.a,q.c,fun x hx=>by
    rcases List.mem_append.1 hx with hx|hx
    ·exact HL.out.2.2.2.2.2 x hx
    ·rw[List.mem_singleton.1 hx,←HF.out.2];exact HF.out.1,by
    have e1:(pre++[y]).length=np+1:=by rw[dF,←HL.out.2.1];rfl
    have e2:((pre++[y]).map (·.1)).flatten=vs++ci:=by rw[oO,List.flatten_append,←HL.out.2.2.1,HL.out.2.2.2.1,←HL.out.2.2.2.2.1];simp
    rw[e1,e2];have h8:=hq.W9 hp.le;have h7:Sat W w' (sep (blk g (.cells ci.toArray 34 (0,0))) (sep (kn I) (sep (blk (B+1) (.cells #[.slice q.a (np+1) q.c] 27 (0,0))) (sep (aT 34 4 q.a (np+1) q.c (vs++ci)) X)))):=by
     have e3:(bif (some v7).isSome then Value.slice q.a (np+1) q.c else .slice a0 np c0)=.slice q.a (np+1) q.c:=rfl;rw[e3] at h8;simpa only[aA,ay,aj] using h8
    exact h7.drop⟩
   have H9:=ah h9;simp only[cZ,List.foldl,hv0,hv1,hv2,hv3,hv4,hv5,hv6,hv7,aS];clear h9 hp hq hT hall hv0 hv1 hv2 hv3 hv4 hv5 hv6 hv7;simp only[Act.put,CU,CX,CY,Option.bind_some,lsA,lsB,kJ];refine vI ?_
   gi_wp2_with fail
   exact H9.out
 case done=>
  as_aux_lemma=>
  intro D xs w3 hxs hS;obtain⟨ta,tc,hall,h4⟩:=xW.1 hS.p1;have htn:xs.length=tp.length:=by rw[HX.out.1,←hxs,List.length_map]
  obtain⟨tn,abW⟩:=aB (xs.length);have hrows:=Qb hall;rw[hxs,←HX.out.1] at hrows;rw[←abW] at h4 htn;obtain⟨J1,hle1,htr,h5⟩:=je hrows htn (show Sat W w3 (sep (aT 34 4 ta tn tc _) (sep (kn I) (sep (blk (B+1) (.cells #[.slice ta tn tc] 27 (0,0))) (sep (blk D (.deferred (some []))) (sep (kn I) (sep (blk B (.cells #[.slice ra nr rc,.int .i64 p,.int .i64 q,.slice x1 n1 c1,.slice x2 n2 c2] 91 (0,0))) (sep (kE mb fm nm) A))))))) by simpa only[aA,ay,aj] using h4);obtain⟨X,hX⟩:=aB (MW D B 27 91 ta tn tc #[.slice ra nr rc,.int .i64 p,.int .i64 q,.slice x1 n1 c1,.slice x2 n2 c2] mb fm nm A);have h6:Sat W w3 (sep (kn J1) X):=by
   rw[hX];unfold MW;have h7:Sat W w3 (sep (kn I) (sep (kn J1) (sep (blk D (.deferred (some []))) (sep (blk (B+1) (.cells #[.slice ta tn tc] 27 (0,0))) (sep (blk B (.cells #[.slice ra nr rc,.int .i64 p,.int .i64 q,.slice x1 n1 c1,.slice x2 n2 c2] 91 (0,0))) (sep (kE mb fm nm) A)))))):=dJ h5;exact h7.drop
  have HXO:Hid (∀w' Y,Sat W w' (sep X Y)→w'.cell? ⟨B+1,0,none⟩=some (.slice ta tn tc)):=ah fun w' Y h'=>by
   rw[hX] at h';unfold MW at h';simp only[aj] at h';exact h'.p1.cell 0
  have HXC:Hid (∀w' Y,Sat W w' (sep X Y)→w'.cell? ⟨B,0,none⟩=some (.slice ra nr rc)):=ah fun w' Y h'=>by
   rw[hX] at h';unfold MW at h';simp only[aj] at h';exact (cl5 h'.p2).1
  have Jf:Hid (∀w' Y (r:Int),Sat W w' (sep X Y)→(Instr.lookup 228 (.map (some mb)) (.int .i64 r) true).run Tryz.prog w'=.ok (.tuple #[(fm r).getD (.slice none 0 0),.bool (fm r).isSome]) w'):=ah fun w' Y r h'=>by
   rw[hX] at h';unfold MW at h';simp only[aj] at h';exact lS (P:=Tryz.prog) (T:=228) Tryz.underlying228 Tryz.underlying3 Qg h'.p3 r true
  have yF:Hid (∀w' J,Sat W w' (sep (kn J) X)→w'.heap[D]?=some (.deferred (some []))∧Sat W (w'.putObj D (.deferred none)) (sep (kn J) (sep (kE mb fm nm) A))):=ah fun w' J h'=>by
   rw[hX] at h';exact S9 h'
  have HT:=ah (And.intro htn (And.intro hle1 htr));have H1:=ah h6;have k0:=HXC.out w3 _ (show Sat W w3 (sep X (kn J1)) by rw[aA];exact h6);have aed:(tn:Int)≤96:=by have:=HX.out.2.2.2.1;omega
  clear hS hall h4 htn abW hrows hle1 htr h5 hX h6 h3 HR
  by_cases hr0:nr=0
  ·as_aux_lemma=>
   subst hr0;have hrn:cl.refs=[]:=List.eq_nil_of_length_eq_zero HX.out.2.1.symm;have HA:Hid (av=if tp.length≤64 then some tp else none):=ah (by rw[EH.out];unfold rX;rw[if_pos hrn,←HX.out.1]);clear hrn
   go_upto_region 6 with (fail)
   clear k0;have h2:=H1.out.drew;obtain⟨wd,hwd⟩:=aB (w3.drew);rw[←hwd] at h2;have c0:=HXO.out wd _ (show Sat W wd (sep X (kn J1)) by rw[aA];exact h2);have HE:=ah (yF.out wd _ h2);have oD:=ah hwd;clear h2 hwd H1;refine aG rfl (fun _=>True) [(0,.t),(1,.t),(2,.p),(3,.p),(4,.p),(5,.p)] (by kernel_rfl) ?_;rw[←oD.out];have hS0:True:=trivial;refine bF ?_;refine dN ?_;clear c0
   go_wp2_with fail
   refine⟨by simp,.inl ⟨_,_,rfl,run_takeDeferred HE.out.1,?_⟩⟩;refine⟨.tuple #[.slice ta tn tc,.bool (decide ((tn:Int)≤64))],?_,?_⟩
   ·simp[results,Tryz.results219,go_sem]
   ·rw[bI.out]
    have ht:=HT.out;refine⟨ta,tn,tc,J1,?_,ht.2.1,fun y hy=>?_,HE.out.2⟩
    ·have:av.isSome=decide ((tn:Int)≤64):=by
      rw[HA.out,←ht.1]
      by_cases h64:tn≤64
      ·rw[if_pos h64,decide_eq_true (by omega)];rfl
      ·rw[if_neg h64,decide_eq_false (by omega)];rfl
     rw[this]
    ·rw[HA.out] at hy
     split at hy
     ·cases hy;exact⟨ht.1,ht.2.2⟩
     ·cases hy
  ·as_aux_lemma=>
   have ZC:((nr:Int)==0)=false:=by simp;omega
   have HA:Hid (av=dX of tp (cl.refs.drop 0) []):=ah (by
    rw[EH.out];unfold rX;rw[if_neg (fun e=>hr0 (by rw[HX.out.2.1,e];rfl)),←HX.out.1];rfl)
   clear hr0
   go_upto_region 7 with (fail)
   clear ZC
   go_wp2_with fail
   clear k0
   go_loopw [7,39] (fun ov iv wr=>∃(j m d:Nat) (bO:Option Addr) (vs:List Value) (J2:Mem) (ol:List Fm),ov=.slice bO m d∧iv=.int .i64 j∧j≤nr∧m≤64∧Hid (m=ol.length∧av=dX of tp (cl.refs.drop j) ol∧Mem.le J1 J2∧(rF.rows 4).rel J2 vs ol)∧Sat W wr (sep (aT 34 4 bO m d vs) (sep (kn J2) X))) (fun _ iv _=>nr-(intOf iv).toNat)
   case atStart=>exact⟨0,0,0,none,[],J1,[],rfl,rfl,by omega,by omega,ah ⟨rfl,HA.out,Mem.le_refl _,kV _ _ _⟩,H1.out.gq 34 4⟩
   case round=>
    obtain⟨j,m,d,bO,vs,J2,ol,rfl,rfl,hj,hm,HV,hS⟩:=hrel;have vG:Mem.le I J2:=eG HT.out.2.1 HV.out.2.2.1
    by_cases hlt:j<nr
    ·as_aux_lemma=>
     have hltz:(j:Int)<(nr:Int):=by omega
     obtain⟨r,hr⟩:∃r,cl.refs[j]?=some r:=⟨_,List.getElem?_eq_getElem (by have:=HX.out.2.1;omega)⟩
     obtain⟨rb,ro,rfl,hrc⟩:=nO HRR.out hr;have hrk:=HX.out.2.2.1 r (List.mem_of_getElem? hr);obtain⟨rn,rfl⟩:∃rn:Nat,r=(rn:Int):=⟨r.toNat,by omega⟩
     have k1:=hrc wr (fun i o hb=>hS.p1.ext i o (vG i o hb));have hlk:=Jf.out wr _ (rn:Int) (show Sat W wr (sep X (sep (aT 34 4 bO m d vs) (kn J2))) by simpa only[aA,ay,aj] using hS);have c0:=HXO.out wr _ (show Sat W wr (sep X (sep (aT 34 4 bO m d vs) (kn J2))) by simpa only[aA,ay,aj] using hS);have hat:=BA (of:=of) (own:=tp) (out:=ol) hr;simp only[Int.toNat_natCast] at hat;obtain⟨hno,hsm⟩:=XI.out rn;obtain⟨al,hal⟩:=aB (of rn);rw[←hal] at hat hno hsm;have HAT:=ah (HV.out.2.1.trans hat);have HJ:=ah (And.intro hlt (And.intro hm vG));have HS:=ah hS;have hmz:(m:Int)≤64:=by omega
     clear hrc hrk hr hat hal hlt hm hj hS vG H1 HA;cases al with
     | none=>
      rw[hno rfl] at hlk;have HF:Hid (av=none):=ah (by rw[HAT.out]);have h2:=HS.out.dW;have HE:=ah (yF.out wr _ h2);simp only[Option.getD_none,Option.isSome_none] at hlk;clear h2 hno hsm HS c0
      go_wp2_with fail
      refine⟨by simp,.inl ⟨_,_,rfl,run_takeDeferred HE.out.1,?_⟩⟩;refine⟨.tuple #[.slice none 0 0,.bool false],?_,?_⟩
      ·simp[results,Tryz.results219,go_sem]
      ·rw[bI.out]
       exact⟨none,0,0,J2,by rw[HF.out];rfl,HJ.out.2.2,fun y hy=>(by rw[HF.out] at hy;cases hy),HE.out.2⟩
     | some xl=>
      obtain⟨⟨xb,xm,xd,hfm,hxm,hxr⟩,qQ,hxs⟩:=hsm xl rfl;rw[hfm] at hlk;simp only[Option.getD_some,Option.isSome_some] at hlk;obtain⟨mt,hmt⟩:=aB (xm*tn);have emt:(xm:Int)*(tn:Int)=(mt:Int):=by rw[hmt];push_cast;rfl
      have ZA:mt≤6144:=by
       rw[hmt];exact Nat.le_trans (Nat.mul_le_mul (show xm≤64 by omega) (show tn≤96 by omega)) (by decide)
      have Qn:=ah (And.intro hxm (And.intro hxr (And.intro hxs (And.intro qQ HJ.out.2.2))));have NU:mt=xl.length*tp.length:=by rw[hmt,hxm,HT.out.1]
      have GR:=HAT.out;simp only at GR;rw[←NU,←HV.out.1] at GR;have HAX:=ah GR;have HMT:=ah (And.intro hmt NU);have ad1:(mt:Int)≤6144:=by omega
      have hxz:(xm:Int)≤64:=by omega
      clear hno hsm hfm hxm hxr hxs qQ hmt NU ZA GR HAT
      by_cases h64:64<m+mt
      ·have TW:(64:Int)<(m:Int)+(mt:Int):=by omega
       have HF:Hid (av=none):=ah (by rw[HAX.out,if_pos h64]);have h2:=HS.out.dW;have HE:=ah (yF.out wr _ h2);clear h64 h2 HS
       go_wp2_with fail
       refine⟨by simp,.inl ⟨_,_,rfl,run_takeDeferred HE.out.1,?_⟩⟩;refine⟨.tuple #[.slice none 0 0,.bool false],?_,?_⟩
       ·simp[results,Tryz.results219,go_sem]
       ·rw[bI.out]
        exact⟨none,0,0,J2,by rw[HF.out];rfl,HJ.out.2.2,fun y hy=>(by rw[HF.out] at hy;cases hy),HE.out.2⟩
      ·have TW:¬(64:Int)<(m:Int)+(mt:Int):=by omega
       have HAY:Hid (av=match dZ xl tp with|none=>none|some y=>dX of tp (cl.refs.drop (j+1)) (ol++y)):=ah (by rw[HAX.out,if_neg h64];rfl);have Qj:=ah h64;clear h64
       go_upto_region 13 with (fail)
       clear TW emt hlk k1 c0
       go_wp2_with fail
       go_loopw [7,64] (fun ov iv wr=>∃(ia m2 d2:Nat) (b2:Option Addr) (vs2:List Value) (J4:Mem) (y:List Fm),ov=.slice b2 m2 d2∧iv=.int .i64 ia∧ia≤xm∧Hid (m2=(ol++y).length∧dZ (xl.take ia) tp=some y∧Mem.le J2 J4∧(rF.rows 4).rel J4 vs2 (ol++y))∧Sat W wr (sep (aT 34 4 b2 m2 d2 vs2) (sep (kn J4) X))) (fun _ iv _=>xm-(intOf iv).toNat)
       case atStart=>exact⟨0,m,d,bO,vs,J2,[],rfl,rfl,by omega,ah ⟨by rw[List.append_nil];exact HV.out.1,rfl,Mem.le_refl _,by rw[List.append_nil];exact HV.out.2.2.2⟩,HS.out⟩
       case round=>
        obtain⟨ia,m2,d2,b2,vs2,J4,y,rfl,rfl,hia,lW,hS2⟩:=hrel;clear HS
        by_cases hlt2:ia<xm
        ·as_aux_lemma=>
         have Ud:(ia:Int)<(xm:Int):=by omega
         obtain⟨fa,hfa⟩:∃fa,xl[ia]?=some fa:=⟨_,List.getElem?_eq_getElem (by have:=Qn.out.1;omega)⟩
         obtain⟨ba,oa,pA,qA,y1,e1,z1,y2,e2,z2,rfl,hra,hca⟩:=gV Qn.out.2.1 hfa;have Ky:y.length=ia*tp.length:=by
          have:=kP lW.out.2.1;rw[List.length_take,Nat.min_eq_left (by have:=Qn.out.1;omega)] at this;exact this
         have hyb:y.length+tp.length≤mt:=by
          rw[Ky,HMT.out.2];have h1:ia+1≤xl.length:=by have:=Qn.out.1;omega
          have h2:=Nat.mul_le_mul_right tp.length h1;rw[Nat.add_mul,Nat.one_mul] at h2;exact h2
         have HYB:=ah hyb;have OZ:=ah (And.intro hfa (And.intro (Qn.out.2.2.1 fa (List.mem_of_getElem? hfa)) hlt2));have lN:Mem.le I J4:=eG HJ.out.2.2 lW.out.2.2.1;have VJ:=ah (rF.mono lN hra);obtain⟨k0,k1,k2,k3⟩:=hca wr (fun i o hb=>hS2.p1.ext i o (lN i o hb));have hA2:=hS2.alloc (.cells #[.int .i64 pA,.int .i64 qA,.slice y1 e1 z1,.slice y2 e2 z2] 34);obtain⟨GA,TY⟩:=aB (wr.heap.size);obtain⟨w4,hw4⟩:=aB (wr.alloc (.cells #[.int .i64 pA,.int .i64 qA,.slice y1 e1 z1,.slice y2 e2 z2] 34));rw[←TY,←hw4] at hA2;have hA3:Sat W w4 (sep (aT 34 4 b2 m2 d2 vs2) (sep (kn J4) (sep (blk GA (.cells #[.int .i64 pA,.int .i64 qA,.slice y1 e1 z1,.slice y2 e2 z2] 34 (0,0))) X))):=dJ hA2;have c0:=HXO.out w4 _ (show Sat W w4 (sep X (sep (aT 34 4 b2 m2 d2 vs2) (sep (kn J4) (blk GA (.cells #[.int .i64 pA,.int .i64 qA,.slice y1 e1 z1,.slice y2 e2 z2] 34 (0,0)))))) by simpa only[aA,ay,aj] using hA2);have Sj:=ah hA3;have U9:=ah (And.intro TY hw4);clear Ky hyb hfa hra hca hS2 hlt2 hia hA2 hA3 TY hw4 lN
         go_upto_region 16 with (fail)
         rw[←U9.out.1,←U9.out.2];clear k0 k1 k2 k3
         go_wp2_with fail
         clear c0
         go_loopw [7,70] (fun ov iv wr=>∃(ib m3 d3:Nat) (b3:Option Addr) (vs3:List Value) (J5:Mem),ov=.slice b3 m3 d3∧iv=.int .i64 ib∧ib≤tn∧Hid (m3=(ol++y++(tp.take ib).map (eP fa)).length∧(∀(i:Nat) (fb:Fm),i<ib→tp[i]?=some fb→jV (eP fa fb)=0)∧Mem.le J4 J5∧(rF.rows 4).rel J5 vs3 (ol++y++(tp.take ib).map (eP fa)))∧Sat W wr (sep (aT 34 4 b3 m3 d3 vs3) (sep (kn J5) (sep (blk GA (.cells #[.int .i64 pA,.int .i64 qA,.slice y1 e1 z1,.slice y2 e2 z2] 34 (0,0))) X)))) (fun _ iv _=>tn-(intOf iv).toNat)
         case atStart=>exact⟨0,m2,d2,b2,vs2,J4,rfl,rfl,by omega,ah ⟨by simp only[List.take_zero,List.map_nil,List.append_nil];exact lW.out.1,fun i fb hi _=>absurd hi (Nat.not_lt_zero _),Mem.le_refl _,by simp only[List.take_zero,List.map_nil,List.append_nil];exact lW.out.2.2.2⟩,Sj.out⟩
         case round=>
          obtain⟨ib,m3,d3,b3,vs3,J5,rfl,rfl,hib,rP,hS3⟩:=hrel;clear Sj
          by_cases hlt3:ib<tn
          ·as_aux_lemma=>
           have abL:(ib:Int)<(tn:Int):=by omega
           obtain⟨fb,hfb⟩:∃fb,tp[ib]?=some fb:=⟨_,List.getElem?_eq_getElem (by have:=HT.out.1;omega)⟩
           obtain⟨bb,ob,pB,qB,v1,f1,g1,v2,f2,g2,rfl,hrb,hcb⟩:=gV HT.out.2.2 hfb;have Dc:Mem.le J1 J5:=eG (eG HV.out.2.2.1 lW.out.2.2.1) rP.out.2.2.1;obtain⟨k0,k1,k2,k3⟩:=hcb wr (fun i o hb=>hS3.p1.ext i o (Dc i o hb));have SH:=ah (And.intro (rF.mono rP.out.2.2.1 VJ.out) (rF.mono Dc hrb));have MB:=ah (And.intro hfb (And.intro (HX.out.2.2.2.2 fb (List.mem_of_getElem? hfb)) hlt3));have HM3:Hid (m3+1≤64):=ah (by
            have h1:=rP.out.1;rw[dF,dF,List.length_map,List.length_take,Nat.min_eq_left (by have:=HT.out.1;omega)] at h1;have:=HYB.out;have:=HT.out.1;have:=Qj.out;have:=HV.out.1;omega)
           obtain⟨CA,hCA⟩:=aB (blk GA (.cells #[.int .i64 pA,.int .i64 qA,.slice y1 e1 z1,.slice y2 e2 z2] 34 (0,0)));have hA2:=hS3.alloc (.cells #[.int .i64 pB,.int .i64 qB,.slice v1 f1 g1,.slice v2 f2 g2] 34);obtain⟨GB,hGB⟩:=aB (wr.heap.size);obtain⟨w5,hw5⟩:=aB (wr.alloc (.cells #[.int .i64 pB,.int .i64 qB,.slice v1 f1 g1,.slice v2 f2 g2] 34));rw[←hGB,←hw5,←hCA] at hA2;obtain⟨Z,hZ⟩:=aB (sep (blk GB (.cells #[.int .i64 pB,.int .i64 qB,.slice v1 f1 g1,.slice v2 f2 g2] 34 (0,0))) (sep CA (sep (aT 34 4 b3 m3 d3 vs3) X)));have HZ:Hid (∀w' Y,Sat W w' (sep Z Y)→(w'.cell? ⟨GA,0,none⟩=some (.int .i64 pA)∧w'.cell? ⟨GA,1,none⟩=some (.int .i64 qA)∧w'.cell? ⟨GA,2,none⟩=some (.slice y1 e1 z1)∧w'.cell? ⟨GA,3,none⟩=some (.slice y2 e2 z2))∧w'.cell? ⟨GB,0,none⟩=some (.int .i64 pB)∧w'.cell? ⟨GB,1,none⟩=some (.int .i64 qB)∧w'.cell? ⟨GB,2,none⟩=some (.slice v1 f1 g1)∧w'.cell? ⟨GB,3,none⟩=some (.slice v2 f2 g2)):=ah fun w' Y h'=>by
            rw[hZ] at h';simp only[aj] at h';have h8:=h'.p1;rw[hCA] at h8;exact⟨kR h8,kR h'⟩
           have HZO:Hid (∀w' Y,Sat W w' (sep Z Y)→Sat W w' (sep (aT 34 4 b3 m3 d3 vs3) (sep Y (sep CA X)))):=ah fun w' Y h'=>by
            rw[hZ] at h';simp only[aj] at h';have h8:=h'.forget;simpa only[aA,ay,aj] using h8
           have hZ5:Sat W w5 (sep (kn J5) Z):=by rw[hZ];simpa only[aA,ay,aj] using hA2
           have hd:=hZ5.drew;obtain⟨wd,hwd⟩:=aB (w5.drew);rw[←hwd] at hd;have hS0:=HZ.out wd _ (show Sat W wd (sep Z (kn J5)) by rw[aA];exact hd);have hT0:Sat W wd (prT 34 27 J5 fa.parts fb.parts Z (fun _=>none)):=
            qW.2 ⟨J5,⟨Mem.le_refl _,fun _ h=>(by cases h),fun _ h=>(by cases h),fun _ h=>(by cases h),fun _ h=>(by cases h),fun _ h=>(by cases h)⟩,by
             show Sat W wd (sep (kn J5) (sep emp Z));rw[iM];exact hd⟩
           have MF:=ah (fun w' A' J' (hl:Mem.le J5 J') (h':Sat W w' (sep (kn J') A'))=>zS (I:=J') fa pA qA y1 e1 z1 y2 e2 z2 (rF.mono hl SH.out.1) h');have qH:=ah (fun w' A' J' (hl:Mem.le J5 J') (h':Sat W w' (sep (kn J') A'))=>zS (I:=J') fb pB qB v1 f1 g1 v2 f2 g2 (rF.mono hl SH.out.2) h');have hpl:fa.parts.length≤97∧fb.parts.length≤97:=by
            have key:∀l:List Fm,l.length≤Fm.sizes l:=by
             intro l
             induction l with
             | nil=>simp
             | cons g l ih=>
              rw[Fm.sizes,List.length_cons];have:1≤g.size:=by cases g;rw[Fm.size];omega
              omega
            have h1:=key fa.parts;have h2:=key fb.parts;have h3:=kU fa;have h4:=kU fb;have:=OZ.out.2.1.1;have:=MB.out.2.1.1;omega
           have HPL:=ah hpl;have HT0:=ah hT0;have aaG:=ah (And.intro hGB hw5);have oD:=ah hwd;clear hrb hcb Dc hfb hS3 hlt3 hib hA2 hGB hw5 hZ hZ5 hd hwd hT0 hpl
           go_upto_region 19 with (fail)
           rw[←aaG.out.1,←aaG.out.2];clear k0 k1 k2 k3
           go_cut [17] from 74 to 88 (fun v wx=>∃(g:Nat) (pa:Option Addr) (pm pd:Nat) (J6:Mem),v=.pointer (some ⟨g,0,none⟩)∧Mem.le J5 J6∧rF.rel J6 [.int .i64 4,.int .i64 0,.slice none 0 0,.slice pa pm pd] (eP fa fb)∧Sat W wx (sep (blk g (.cells #[.int .i64 4,.int .i64 0,.slice none 0 0,.slice pa pm pd] 34 (0,0))) (sep (kn J6) (sep (aT 34 4 b3 m3 d3 vs3) (sep CA X)))))
           case first=>
            as_aux_lemma=>
            refine eY rfl (fun w'=>(w'.cell? ⟨GA,0,none⟩=some (.int .i64 pA)∧w'.cell? ⟨GA,1,none⟩=some (.int .i64 qA)∧w'.cell? ⟨GA,2,none⟩=some (.slice y1 e1 z1)∧w'.cell? ⟨GA,3,none⟩=some (.slice y2 e2 z2))∧w'.cell? ⟨GB,0,none⟩=some (.int .i64 pB)∧w'.cell? ⟨GB,1,none⟩=some (.int .i64 qB)∧w'.cell? ⟨GB,2,none⟩=some (.slice v1 f1 g1)∧w'.cell? ⟨GB,3,none⟩=some (.slice v2 f2 g2)) [.one 0 .s,.one 2 .s,.grp true [(1,[]),(3,[]),(4,[]),(5,[]),(6,[]),(7,[])],.one 8 (.e false)] (by kernel_rfl) ?_;rw[←oD.out];refine lG ?_;refine Bj (n:=6) rfl ?_;clear hS0;refine jT [1,3,4,5,6,7] YM (prT 34 27 J5 fa.parts fb.parts Z) (by kernel_rfl) (by kernel_rfl) ?_ ?_ ?_ 6 [1,3,4,5,6,7] (fun _=>none) wd rfl (by decide) (fun z=>by simp) (fun _ _ h=>by cases h) HT0.out
            ·intro _ f w' hT
             obtain⟨J,-,hq⟩:=qW.1 hT;exact HZ.out w' _ (show Sat W w' (sep Z (sep (kn J) (RS 34 f))) by simpa only[aA,ay,aj] using hq)
            ·intro i hi f w' o' ho hfi fE hcl hT
             simp only[List.mem_cons,List.not_mem_nil,or_false] at hi;have hz:∀d,d∈YM i→∃v,f d=some v:=fun d hd=>bV (fE d hd)
             obtain⟨J,hp,hq⟩:=qW.1 hT;have HP:=ah (And.intro hp (And.intro hq hT));clear fE hT hcl hp hq HT0;rcases hi with rfl|rfl|rfl|rfl|rfl|rfl
             ·as_aux_lemma=>
              cases ho;clear hz;refine .inl (.inr ⟨232,#[.agg #[.int .i64 pA,.int .i64 qA,.slice y1 e1 z1,.slice y2 e2 z2]],w',?_,(MF.out w' _ J HP.out.1.le HP.out.2.1).mono ?_⟩)
              ·simp[cZ,List.filter,YM,aS,Act.put]
               (go_simp;try rfl)
              ·rintro e w'' ⟨aR,nR,cR,JR,rfl,hnR,NT,hrR,hR⟩
               exact⟨_,rfl,uh (by decide) (HP.out.1.set hfi NT (fun _=>⟨aR,nR,cR,rfl,hnR,hrR⟩) (fun e=>by cases e) (fun e=>by cases e) (fun e=>by cases e) (fun e=>by cases e)) hR⟩
             ·as_aux_lemma=>
              cases ho;clear hz;refine .inl (.inr ⟨232,#[.agg #[.int .i64 pB,.int .i64 qB,.slice v1 f1 g1,.slice v2 f2 g2]],w',?_,(qH.out w' _ J HP.out.1.le HP.out.2.1).mono ?_⟩)
              ·simp[cZ,List.filter,YM,aS,Act.put]
               (go_simp;try rfl)
              ·rintro e w'' ⟨aR,nR,cR,JR,rfl,hnR,NT,hrR,hR⟩
               exact⟨_,rfl,uh (by decide) (HP.out.1.set hfi NT (fun e=>by cases e) (fun _=>⟨aR,nR,cR,rfl,hnR,hrR⟩) (fun e=>by cases e) (fun e=>by cases e) (fun e=>by cases e)) hR⟩
             ·as_aux_lemma=>
              cases ho;obtain⟨u1,hu1⟩:=hz 1 (by decide);obtain⟨u3,hu3⟩:=hz 3 (by decide);obtain⟨hp,hq,-⟩:=HP.out;obtain⟨a1,m1,d1,rfl,hm1,hr1⟩:=hp.p1 u1 hu1;obtain⟨a3,m3',d3',rfl,hm3,hr3⟩:=hp.p3 u3 hu3;obtain⟨J',hle,hJ,h9⟩:=F5 #[.slice a1 m1 d1,.slice a3 m3' d3'] 27 hq;have HQ:=ah (And.intro hp (And.intro hle (And.intro hJ h9)));clear hp hq hz HP hle hJ h9 hr1 hr3 hm1 hm3;refine .inl (.inl ⟨.slice (some ⟨w'.heap.size,0,none⟩) 2 2,w'.alloc (.cells #[.slice a1 m1 d1,.slice a3 m3' d3'] 27),?_,uh (by decide) (HQ.out.1.set hfi HQ.out.2.1 (fun e=>by cases e) (fun e=>by cases e) (fun _=>⟨_,_,_,hu1,hu3,rfl,HQ.out.2.2.1⟩) (fun e=>by cases e) (fun e=>by cases e)) HQ.out.2.2.2⟩)
              ·simp[cZ,List.filter,YM,hu1,hu3,aS,Act.put]
               (go_simp;try rfl)
             ·as_aux_lemma=>
              cases ho;obtain⟨u4,hu4⟩:=hz 4 (by decide);obtain⟨hp,hq,-⟩:=HP.out;obtain⟨g,u1,u3,hu1,hu3,rfl,hJg⟩:=hp.p4 u4 hu4;obtain⟨a1,m1,d1,rfl,hm1,hr1⟩:=hp.p1 u1 hu1;obtain⟨a3,m3',d3',rfl,hm3,hr3⟩:=hp.p3 u3 hu3;have hg:∀w',Ext J w'→w'.cell? ⟨g,0,none⟩=some (.slice a1 m1 d1)∧w'.cell? ⟨g,1,none⟩=some (.slice a3 m3' d3'):=fun w' he=>by
               have h0:=he g _ hJg;constructor<;>simp[World.cell?,h0]
              have hcc:=Hw g a1 m1 d1 a3 m3' d3' fa.parts fb.parts hr1 hr3 (by have:=HPL.out;omega) hg hq;have hsum:m1+m3'=(fa.parts++fb.parts).length:=by rw[dF];omega
              have HQ:=ah (And.intro hp (And.intro hcc hsum));clear hp hq hz HP hr1 hr3 hm1 hm3 hg hcc hJg hsum;refine .inl (.inr ⟨231,#[.slice (some ⟨g,0,none⟩) 2 2],w',?_,HQ.out.2.1.mono ?_⟩)
              ·simp[cZ,List.filter,YM,hu4,aS,Act.put]
               (go_simp;try rfl)
              ·rintro e w'' ⟨aR,nR,cR,vR,rfl,hnR,hrR,hR⟩
               obtain⟨J',hle,hr',h'⟩:=je hrR (hnR.trans HQ.out.2.2) hR;exact⟨_,rfl,uh (by decide) (HQ.out.1.set hfi hle (fun e=>by cases e) (fun e=>by cases e) (fun e=>by cases e) (fun _=>⟨aR,nR,cR,rfl,hr'⟩) (fun e=>by cases e)) h'⟩
             ·as_aux_lemma=>
              cases ho;obtain⟨u5,ZK⟩:=hz 5 (by decide);obtain⟨hp,hq,-⟩:=HP.out;obtain⟨a5,m5,d5,rfl,-⟩:=hp.p5 u5 ZK;have HQ:=ah (And.intro hp hq);clear hp hq hz HP;refine .inl (.inl ⟨.agg #[.int .i64 4,.int .i64 0,.slice none 0 0,.slice a5 m5 d5],w',?_,uh (by decide) (HQ.out.1.set hfi (Mem.le_refl _) (fun e=>by cases e) (fun e=>by cases e) (fun e=>by cases e) (fun e=>by cases e) (fun _=>⟨_,ZK,rfl⟩)) HQ.out.2⟩)
              ·simp[cZ,List.filter,YM,ZK,aS,Act.put]
               (go_simp;try rfl)
             ·as_aux_lemma=>
              cases ho;clear hz;refine .inl (.inl ⟨.pointer (some ⟨w'.heap.size,0,none⟩),w'.alloc (.cells #[.int .i64 0,.int .i64 0,.slice none 0 0,.slice none 0 0] 34),?_,prT_7 hfi (fun J hJ=>hJ.alloc _) HP.out.2.2⟩)
              ·simp[cZ,List.filter,YM,aS,Act.put]
               (go_simp;try rfl)
            ·as_aux_lemma=>
             intro f w' hall hT;obtain⟨u1,hu1⟩:=bV (hall 1 (by decide));obtain⟨u3,hu3⟩:=bV (hall 3 (by decide));obtain⟨u4,hu4⟩:=bV (hall 4 (by decide));obtain⟨u5,ZK⟩:=bV (hall 5 (by decide));obtain⟨u6,hu6⟩:=bV (hall 6 (by decide));obtain⟨u7,hu7⟩:=bV (hall 7 (by decide));obtain⟨J,hp,hq⟩:=qW.1 hT;obtain⟨u,hu,rfl⟩:=hp.p6 u6 hu6;obtain⟨qa,qn,qc,rfl,hrl⟩:=hp.p5 u hu;rw[ZK] at hu;cases hu;have hlen:qn=(fa.parts++fb.parts).length:=(aI hrl).1;unfold RS at hq;rw[hu7] at hq;have hq2:=hq.p1;simp only at hq2;rw[fK,Sat.ex] at hq2;obtain⟨g,hq2⟩:=hq2;rw[aj] at hq2;obtain⟨rfl,hB⟩:=Sat.fact.1 hq2;obtain⟨k0,k1,k2,k3⟩:=kR hB;have v0:w'.frozen? ⟨g,0,none⟩=false:=hB.aH 0;have v1':w'.frozen? ⟨g,1,none⟩=false:=hB.aH 1;have v2':w'.frozen? ⟨g,2,none⟩=false:=hB.aH 2;have v3':w'.frozen? ⟨g,3,none⟩=false:=hB.aH 3;have hB2:=PD hB (.int .i64 4) (.int .i64 0) (.slice none 0 0) (.slice qa qn qc);obtain⟨wz,hwz⟩:=aB ((((w'.setCell ⟨g,0,none⟩ (.int .i64 4)).setCell ⟨g,1,none⟩ (.int .i64 0)).setCell ⟨g,2,none⟩ (.slice none 0 0)).setCell ⟨g,3,none⟩ (.slice qa qn qc));rw[←hwz] at hB2;have hB3:=HZO.out wz _ (show Sat W wz (sep Z (sep (blk g (.cells #[.int .i64 4,.int .i64 0,.slice none 0 0,.slice qa qn qc] 34 (0,0))) (kn J))) by simpa only[aA,ay,aj] using hB2);have HB3:Hid (Sat W wz (sep (blk g (.cells #[.int .i64 4,.int .i64 0,.slice none 0 0,.slice qa qn qc] 34 (0,0))) (sep (kn J) (sep (aT 34 4 b3 m3 d3 vs3) (sep CA X))))):=ah (dJ hB3);have HQ:=ah (And.intro hp.le (And.intro hrl hlen));have HWZ:=ah hwz;simp only[cZ,List.foldl,hu1,hu3,hu4,ZK,hu6,hu7,aS];clear hq hq2 hB hB2 hB3 hwz hrl hlen hp hT hall hu1 hu3 hu4 ZK hu6 hu7;simp only[Act.put,CU,CX,CY,Option.bind_some,lsA,lsB,kJ]
             (refine XQ rfl rfl (fun K hK=>?_);go_simp)
             rw[←HWZ.out];refine dQ ?_;clear hK K;refine lG ?_;refine vI ?_;clear k0 k1 k2 k3 v0 v1' v2' v3'
             go_wp2
             go_meet
             case rel=>exact⟨g,qa,qn,qc,J,rfl,HQ.out.1,by rw[HQ.out.2.2];exact jm (by rw[←HQ.out.2.2];exact HQ.out.2.1),HB3.out⟩
           case rest=>
            as_aux_lemma=>
            obtain⟨g,pa,pm,pd,J6,rfl,JZ,MG,hSw⟩:=hcut;obtain⟨k0,k1,k2,k3⟩:=kR hSw;have sG:=ah (lF (eP fa fb) 4 0 none 0 0 pa pm pd MG (by have h1:=DR fa fb;have:=OZ.out.2.1.1;have:=MB.out.2.1.1;unfold o7;omega) (Jh.pair OZ.out.2.1.2 MB.out.2.1.2) hSw.p1);obtain⟨fe,hfe⟩:=aB (jV (eP fa fb));rw[←hfe] at sG;have vY:=ah hfe;have SG:=ah (And.intro JZ MG);clear JZ MG hSw hfe hS0 HT0 HZ HZO
            go_wp2_with fail
            refine sG.out.mono ?_;rintro e w3 ⟨rfl,h3⟩;clear k0 k1 k2 k3 sG;have H3:=ah (show Sat W w3 (sep (blk g (.cells #[.int .i64 4,.int .i64 0,.slice none 0 0,.slice pa pm pd] 34 (0,0))) (sep (kn J6) (sep (aT 34 4 b3 m3 d3 vs3) (sep CA X)))) from h3.p1);clear h3
            by_cases he0:fe=0
            ·subst he0
             obtain⟨k0,k1,k2,k3⟩:=kR H3.out;have jX:=ah (iP w3 [.int .i64 4,.int .i64 0,.slice none 0 0,.slice pa pm pd] 34);have su:=ah (H3.out.drop.p1.gQ (.cells #[.int .i64 4,.int .i64 0,.slice none 0 0,.slice pa pm pd] 34));clear H3
             go_upto_region 22 with (fail)
             go_wp2_with (at_builtin;refine aJ rfl _ _ 27 rfl 34 4 64 _ Tryz.underlying27 iF rfl rfl su.out rfl [.int .i64 4,.int .i64 0,.slice none 0 0,.slice pa pm pd] rfl (by simp) (by intro b' hb;cases hb;exact jX.out) (yg SG.out.2) (by have:=HM3.out;omega) (by unfold maxLen;have:=HM3.out;omega) ?_)
             intro a7 c7 w7 h7;have H7:=ah h7;clear h7 su jX k0 k1 k2 k3
             go_wp2
             go_roundw
             case rel=>
              have htk:tp.take (ib+1)=tp.take ib++[fb]:=by rw[List.take_add_one,MB.out.1];rfl
              refine⟨ib+1,m3+1,c7,a7,vs3++[.int .i64 4,.int .i64 0,.slice none 0 0,.slice pa pm pd],J6,rfl,by go_num,by have:=MB.out.2.2;omega,ah ⟨?_,fun i fb' hi hf=>?_,eG rP.out.2.2.1 SG.out.1,?_⟩,?_⟩
              ·rw[htk,oO,←List.append_assoc,dF,←rP.out.1];rfl
              ·rcases Nat.lt_succ_iff_lt_or_eq.1 hi with hi|rfl
               ·exact rP.out.2.1 i fb' hi hf
               ·rw[MB.out.1] at hf;cases hf;exact vY.out.symm
              ·rw[htk,oO,←List.append_assoc]
               exact gG ((rF.rows 4).mono SG.out.1 rP.out.2.2.2) (ig SG.out.2 rfl)
              ·exact H7.out
             case measure=>simp[intOf];have:=MB.out.2.2;omega
            ·have he1:(fe !=0)=true:=by simpa using he0
             have he2:(fe==0)=false:=by simpa using he0
             have HF:Hid (av=none):=ah (by
              rw[HAY.out,wE (List.mem_of_getElem? OZ.out.1) (List.mem_of_getElem? MB.out.1) (by rw[←vY.out];exact he0)])
             have HL:Hid (Mem.le I J6):=ah (eG (eG (eG HJ.out.2.2 lW.out.2.2.1) rP.out.2.2.1) SG.out.1);have h5:Sat W w3 (sep (kn J6) X):=by
              have h6:=H3.out.drop.p1.dW;have h7:Sat W w3 (sep CA (sep (kn J6) X)):=dJ h6;exact h7.drop
             have HE:=ah (yF.out w3 _ h5);clear he0 H3 h5
             go_wp2_with fail
             refine⟨by simp,.inl ⟨_,_,rfl,run_takeDeferred HE.out.1,?_⟩⟩;refine⟨.tuple #[.slice none 0 0,.bool false],?_,?_⟩
             ·simp[results,Tryz.results219,go_sem]
             ·rw[bI.out]
              exact⟨none,0,0,J6,by rw[HF.out];rfl,HL.out,fun y hy=>(by rw[HF.out] at hy;cases hy),HE.out.2⟩
          ·obtain rfl:ib=tn:=by omega
           have MP:Hid (Sat W wr (sep (aT 34 4 b3 m3 d3 vs3) (sep (kn J5) X))):=ah (show Sat W wr (sep (blk GA (.cells #[.int .i64 pA,.int .i64 qA,.slice y1 e1 z1,.slice y2 e2 z2] 34 (0,0))) (sep (aT 34 4 b3 m3 d3 vs3) (sep (kn J5) X))) by simpa only[aA,ay,aj] using hS3).forget;clear hS3
           go_wp2
           go_roundw
           case rel=>
            have htk:tp.take ib=tp:=List.take_of_length_le (by have:=HT.out.1;omega);have hv3:=rP.out;rw[htk] at hv3;refine⟨ia+1,m3,d3,b3,vs3,J5,y++tp.map (eP fa),rfl,by go_num,by have:=OZ.out.2.2;omega,ah ⟨by rw[←List.append_assoc];exact hv3.1,zJ OZ.out.1 lW.out.2.1 (Lr fun i fb hf=>hv3.2.1 i fb (by have:=(List.getElem?_eq_some_iff.1 hf).1;have:=HT.out.1;omega) hf),eG lW.out.2.2.1 hv3.2.2.1,by rw[←List.append_assoc];exact hv3.2.2.2⟩,MP.out⟩
           case measure=>simp[intOf];have:=OZ.out.2.2;omega
        ·obtain rfl:ia=xm:=by omega
         have MP:=ah hS2;clear hS2
         go_wp2
         go_roundw
         case rel=>
          have hc:=lW.out.2.1;rw[List.take_of_length_le (by have:=Qn.out.1;omega)] at hc;have hay:=HAY.out;rw[hc] at hay;have hm2:m2≤64:=by
           rw[lW.out.1,dF,kP hc,←HMT.out.2,←HV.out.1];have:=Qj.out;omega
          exact⟨j+1,m2,d2,b2,vs2,J4,ol++y,rfl,by go_num,by have:=HJ.out.1;omega,hm2,ah ⟨lW.out.1,hay,eG HV.out.2.2.1 lW.out.2.2.1,lW.out.2.2.2⟩,MP.out⟩
         case measure=>simp[intOf];have:=HJ.out.1;omega
    ·obtain rfl:j=nr:=by omega
     have hfin:av=some ol:=by rw[HV.out.2.1];exact zD (by have:=HX.out.2.1;omega)
     obtain⟨J',hle',hr',h'⟩:=je HV.out.2.2.2 HV.out.1 hS;have HE:=ah (yF.out wr _ h');have HF:=ah (And.intro hfin (And.intro (eG vG hle') hr'));clear hfin hle' hr' h' hS vG H1
     go_wp2_with fail
     refine⟨by simp,.inl ⟨_,_,rfl,run_takeDeferred HE.out.1,?_⟩⟩;refine⟨.tuple #[.slice bO m d,.bool true],?_,?_⟩
     ·simp[results,Tryz.results219,go_sem]
     ·rw[bI.out]
      exact⟨bO,m,d,J',by rw[HF.out.1];rfl,HF.out.2.1,fun y hy=>(by rw[HF.out.1] at hy;cases hy;exact⟨HV.out.1,HF.out.2.2⟩),HE.out.2⟩
 case stop=>
  intro D c xs w' _ hS;exact absurd (Sat.fact.1 (show Sat W w' (sep (fact False) _) from hS.p1)).1 (fun h=>h)
end Go.Proofs.YthfmaclnccdcbaaGreatDoor
namespace PA
open Go Go.RowKit
def xk (l:List Cl) (J:Mem) (i:Nat) (fm:Int→Option Value):Prop:=
 ∀r:Nat,((if r<i then fJ l r else none)=none→fm r=none)∧∀y,(if r<i then fJ l r else none)=some y→∃(a:Option Addr) (m d:Nat),fm r=some (.slice a m d)∧m=y.length∧(rF.slice 4).rel J [.slice a m d] y
theorem xk.zero (l:List Cl) (J:Mem):xk l J 0 (fun _=>none):=fun r=>⟨fun _=>rfl,fun y h=>by rw[if_neg (Nat.not_lt_zero r)] at h;cases h⟩
theorem xk.no {l:List Cl} {J:Mem} {i:Nat} {fm:Int→Option Value} (h:xk l J i fm):fm i=none:=(h i).1 (if_neg (Nat.lt_irrefl i))
theorem xk.skip {l:List Cl} {J J':Mem} {i:Nat} {fm:Int→Option Value} (h:xk l J i fm) (hl:Mem.le J J') (hn:fJ l i=none):xk l J' (i+1) fm:=fun r=>by
 obtain⟨h1,h2⟩:=h r;have e:(if r<i+1 then fJ l r else none)=if r<i then fJ l r else none:=by
  by_cases hr:r<i
  ·rw[if_pos hr,if_pos (by omega)]
  ·rw[if_neg hr]
   by_cases hr':r<i+1
   ·rw[if_pos hr',show r=i by omega,hn]
   ·rw[if_neg hr']
 rw[e];exact⟨h1,fun y hy=>by obtain⟨a,m,d,e1,e2,e3⟩:=h2 y hy;exact⟨a,m,d,e1,e2,(rF.slice 4).mono hl e3⟩⟩
theorem xk.put {l:List Cl} {J J':Mem} {i:Nat} {fm:Int→Option Value} (h:xk l J i fm) (hl:Mem.le J J') {y:List Fm} (hn:fJ l i=some y) {a:Option Addr} {m d:Nat} (hm:m=y.length) (hr:(rF.slice 4).rel J' [.slice a m d] y):
 xk l J' (i+1) (lM fm i (some (.slice a m d))):=fun r=>by
 by_cases hri:r=i
 ·subst hri
  rw[if_pos (by omega),hn];refine⟨fun h=>(by cases h),fun y' h'=>?_⟩;cases h';exact⟨a,m,d,by unfold lM;rw[if_pos rfl],hm,hr⟩
 ·obtain⟨h1,h2⟩:=h r
  have e:(if r<i+1 then fJ l r else none)=if r<i then fJ l r else none:=by
   by_cases hr:r<i
   ·rw[if_pos hr,if_pos (by omega)]
   ·rw[if_neg hr,if_neg (by omega)]
  have ef:lM fm i (some (.slice a m d)) r=fm r:=by unfold lM;rw[if_neg (by omega)]
  rw[e,ef];exact⟨h1,fun y hy=>by obtain⟨a,m,d,e1,e2,e3⟩:=h2 y hy;exact⟨a,m,d,e1,e2,(rF.slice 4).mono hl e3⟩⟩
theorem Sat.Ul {W w:World} {A:aC} (h:Sat W w A):Sat W (w.alloc (.map #[] 0)) (sep (kE w.heap.size (fun _=>none) 0) A):=(h.alloc (.map #[] 0)).Ig fP.nil rfl
end PA
namespace Go.Proofs.YthfmaclnccdcbaaGreatDoor
open Go.RowKit PA
theorem OM (a:Option Addr) (n c j:Nat) (hj:j≤c) (w:World):(Instr.slice 28 (.slice a n c) none (some (.int .i64 (j:Int))) none).run Tryz.prog w=.ok (.slice a j c) w:=by
 have hu:=Tryz.underlying28;cases a with
 | none=>simp[Instr.slice,Instr.sliceBounds,Instr.sliceBound,go_sem];exact fun h=>absurd h (by omega)
 | some x=>simp[Instr.slice,Instr.sliceBounds,Instr.sliceBound,go_sem,Addr.add];exact fun h=>absurd h (by omega)
set_option maxRecDepth 100000 in
set_option maxHeartbeats 4000000 in
theorem Q5 {W w:World} {A:aC} {I:Mem} (a:Option Addr) (n c:Nat) (l:List Cl) (hv:(kM.slice 5).rel I [.slice a n c] l) (hok:pR l=0) (hB:∀x∈l,Jk x.body) (k:Nat) (hk:k<l.length) (h:Sat W w (sep (kn I) A)):
 Calls Tryz.prog 218 #[.slice a n c,.int .i64 (k:Nat)] w fun e w'=>e=.returned (.int .i64 0)∧Sat W w' (sep (kn I) A):=by
 have hn:=(aI hv).1;have hn63:=(aI hv).2.2;have hvs:=lY a n c l hv hB h;rw[hok] at hvs;have HV:=ah hvs;have hkz:(k:Int)<(n:Int):=by omega
 have hk0:¬(k:Int)<0:=by omega
 clear hvs h hv hB hok hn hk
 go_enter Tryz.func218,Tryz.ntmps218
 go_wp2_with fail
 refine HV.out.mono ?_;rintro e w2 ⟨rfl,h2⟩;have H2:=ah h2;clear h2 HV
 go_wp2
 go_ret
 exact⟨rfl,H2.out⟩
set_option maxRecDepth 100000 in
set_option maxHeartbeats 8000000 in
theorem QZ {W w:World} {A:aC} {I:Mem} (a:Option Addr) (n c:Nat) (l:List Cl) (hv:(kM.slice 5).rel I [.slice a n c] l) (hok:pR l=0) (hB:∀x∈l,Jk x.body) (k:Nat) (hk:k<l.length) (h:Sat W w (sep (kn I) A)):
 Calls Tryz.prog 201 #[.slice a n c,.int .i64 (k:Nat)] w fun e w'=>∃(b:Option Addr) (m d:Nat) (J:Mem),e=.returned (.tuple #[.slice b m d,.int .i64 (if (fJ l k).isSome=true then 0 else 4)])∧Mem.le I J∧(∀y,fJ l k=some y→m=y.length∧(rF.slice 4).rel J [.slice b m d] y)∧Sat W w' (sep (kn J) A):=by
 have hn:=(aI hv).1;have hn63:=(aI hv).2.2;have hsw:n≤c:=by
  obtain⟨a',c',cells,e,hsw,-,-⟩:=hv;simp only[List.cons.injEq,Value.slice.injEq,and_true] at e;obtain⟨rfl,rfl,rfl⟩:=e;rw[hn];exact hsw.1
 have h32:=(sV hok).1;have nD:=ah (Q5 a n c l hv hok hB k hk h);have hpre:=OM a n c (k+1) (by omega);have hpre':∀w,(Instr.slice 28 (.slice a n c) none (some (.int .i64 ((k:Int)+1))) none).run Tryz.prog w=.ok (.slice a (k+1) c) w:=fun w=>by
  have:=hpre w;simpa using this
 have hmm:=@run_makeMap Tryz.prog;have Yv:∀r y,fJ l r=some y→y.length≤64∧∀f∈y,f.size≤96∧Jh f:=fun r y hy=>⟨xC hy,fun f hf=>⟨Fv hok hy f hf,altN_Q (Q:=Jh) (fun a b ha hb=>Jh.pair ha hb) (fun x hx g hg=>Jh.dL (f:=x.body) (hB x hx).2 hg) r y hy f hf⟩⟩
 obtain⟨av,hav⟩:=aB (fJ l k);rw[←hav];obtain⟨Po,dU⟩:∃P:Ending→World→Prop,P=fun e w'=>∃(b:Option Addr) (m d:Nat) (J:Mem),e=.returned (.tuple #[.slice b m d,.int .i64 (if av.isSome=true then 0 else 4)])∧Mem.le I J∧(∀y,av=some y→m=y.length∧(rF.slice 4).rel J [.slice b m d] y)∧Sat W w' (sep (kn J) A):=⟨_,rfl⟩
 rw[←dU];have bI:=ah dU;have HX:=ah (And.intro hv (And.intro hok (And.intro hB (And.intro Yv (And.intro hav (And.intro hk hn))))));have hkz:(k:Int)<32:=by omega
 clear hv hok hB Yv hav dU h hpre hsw h32 hn hk
 go_enter Tryz.func201,Tryz.ntmps201
 go_wp2_with fail
 refine nD.out.mono ?_;rintro e w2 ⟨rfl,h2⟩;have h3:=Sat.Ul h2;obtain⟨mb,hmb⟩:=aB (w2.heap.size);obtain⟨w3,hw3⟩:=aB (w2.alloc (.map #[] 0));rw[←hmb,←hw3] at h3;have H3:=ah (show Sat W w3 (sep (kn I) (sep (kE mb (fun _=>none) 0) A)) from h3.p1);have HW3:=ah (And.intro hmb hw3);clear h2 h3 hmb hw3 nD
 go_upto_region 5 with (fail)
 rw[←HW3.out.1,←HW3.out.2]
 go_wp2_with fail
 go_loopw [26] (fun iv wr=>∃(i nm:Nat) (fm:Int→Option Value) (J:Mem),iv=.int .i64 i∧i≤k+1∧Hid (xk l J i fm∧Mem.le I J)∧Sat W wr (sep (kn J) (sep (kE mb fm nm) A))) (fun iv _=>k+1-(intOf iv).toNat)
 case atStart=>exact⟨0,0,_,I,rfl,by omega,ah ⟨xk.zero l I,Mem.le_refl _⟩,H3.out⟩
 case round=>
  obtain⟨i,nm,fm,J,rfl,hi,HV,hS⟩:=hrel;clear H3
  by_cases hlt:i<k+1
  ·as_aux_lemma=>
   have hltz:(i:Int)<((k+1:Nat):Int):=by omega
   obtain⟨x,hx⟩:∃x,l[i]?=some x:=⟨_,List.getElem?_eq_getElem (by have:=HX.out.2.2.2.2.2.1;omega)⟩
   obtain⟨b,o,ra,rc,p,q,x1,n1,c1,x2,n2,c2,rfl,hrr,hrb,hcell⟩:=uI HX.out.1 hx;obtain⟨ZF,MG,hbe⟩:x.refs.length≤8∧jS x.refs i=true∧jV x.body=0:=by
    obtain⟨hk',e⟩:=List.getElem?_eq_some_iff.1 hx;have:=(sV HX.out.2.1).2 i hk'
    rwa [e] at this
   obtain⟨j0,j1,j2,j3,j4⟩:=hcell wr (fun g u hb=>hS.ext g u (HV.out.2 g u hb));obtain⟨nr,hnr⟩:=aB (x.refs.length);have hae:=AL hx;obtain⟨al,hal⟩:=aB (fJ l i);have hcall:∀w' A',Sat W w' (sep (kn J) (sep (kE mb fm nm) A'))→Calls Tryz.prog 219 #[.agg #[.slice ra x.refs.length rc,.int .i64 p,.int .i64 q,.slice x1 n1 c1,.slice x2 n2 c2],.map (some mb)] w' fun e w''=>∃(b:Option Addr) (m d:Nat) (J':Mem),e=.returned (.tuple #[.slice b m d,.bool al.isSome])∧Mem.le J J'∧(∀y,al=some y→m=y.length∧(rF.slice 4).rel J' [.slice b m d] y)∧Sat W w'' (sep (kn J') (sep (kE mb fm nm) A')):=fun w' A' h'=>by
    rw[hal,hae];exact Oi x ra rc p q x1 n1 c1 x2 n2 c2 mb (fun r=>if r<i then fJ l r else none) fm nm ((qX.slice 1).mono HV.out.2 hrr) (rF.mono HV.out.2 hrb) ZF (fun r hr=>(zf MG r hr).1) hbe (HX.out.2.2.1 x (List.mem_of_getElem? hx)).2
     (fun r=>⟨(HV.out.1 r).1,fun y hy=>⟨(HV.out.1 r).2 y hy,by
      by_cases hri:r<i
      ·rw[if_pos hri] at hy;exact HX.out.2.2.2.1 r y hy
      ·rw[if_neg hri] at hy;cases hy⟩⟩) h'
   have hAl:=hS.alloc (.cells #[.slice ra x.refs.length rc,.int .i64 p,.int .i64 q,.slice x1 n1 c1,.slice x2 n2 c2] 91);rw[←hnr] at hAl j0 hcall;obtain⟨M,hM⟩:=aB (wr.heap.size);obtain⟨w4,hw4⟩:=aB (wr.alloc (.cells #[.slice ra nr rc,.int .i64 p,.int .i64 q,.slice x1 n1 c1,.slice x2 n2 c2] 91));rw[←hM,←hw4] at hAl;obtain⟨k0,k1,k2,k3,k4⟩:=cl5 hAl;have GY:=ah (And.intro hM hw4);have HC:=ah (hcall w4 _ (show Sat W w4 (sep (kn J) (sep (kE mb fm nm) (sep (blk M (.cells #[.slice ra nr rc,.int .i64 p,.int .i64 q,.slice x1 n1 c1,.slice x2 n2 c2] 91 (0,0))) A))) by simpa only[aA,ay,aj] using hAl));have su:=ah (And.intro hal hlt);clear hcall hAl hM hw4 hae hal hnr ZF MG hbe hcell hrr hrb hx hlt hi hS
   go_upto_region 8 with (fail)
   rw[←GY.out.1,←GY.out.2];clear j0 j1 j2 j3 j4
   go_wp2_with fail
   refine HC.out.mono ?_;rintro e w5 ⟨b5,m5,d5,J5,rfl,Aj,hres,h5⟩;clear k0 k1 k2 k3 k4 HC;have h6:Sat W w5 (sep (kE mb fm nm) (sep (kn J5) A)):=by
    have h7:Sat W w5 (sep (blk M (.cells #[.slice ra nr rc,.int .i64 p,.int .i64 q,.slice x1 n1 c1,.slice x2 n2 c2] 91 (0,0))) (sep (kE mb fm nm) (sep (kn J5) A))):=dJ h5;exact h7.drop
   cases al with
   | none=>
    have H6:=ah h6.p1;have HN:Hid (xk l J5 (i+1) fm∧Mem.le I J5):=ah ⟨HV.out.1.skip Aj su.out.1.symm,eG HV.out.2 Aj⟩;clear h5 h6 hres Aj
    go_wp2
    go_roundw
    case rel=>exact⟨i+1,nm,fm,J5,by go_num,by have:=su.out.2;omega,HN,H6.out⟩
    case measure=>simp[intOf];have:=su.out.2;omega
   | some y=>
    obtain⟨Zy,hr5⟩:=hres y rfl;obtain⟨w6,hup,h7⟩:=Ed (P:=Tryz.prog) (T:=228) Tryz.underlying228 Tryz.underlying3 h6 (i:Int) (.slice b5 m5 d5) HV.out.1.no;have H7:=ah (show Sat W w6 (sep (kn J5) (sep (kE mb (lM fm i (some (.slice b5 m5 d5))) (nm+1)) A)) from h7.p1);have HN:Hid (xk l J5 (i+1) (lM fm i (some (.slice b5 m5 d5)))∧Mem.le I J5):=ah ⟨HV.out.1.put Aj su.out.1.symm Zy hr5,eG HV.out.2 Aj⟩;clear h5 h6 h7 hres Aj Zy hr5
    go_wp2
    go_roundw
    case rel=>exact⟨i+1,nm+1,_,J5,by go_num,by have:=su.out.2;omega,HN,H7.out⟩
    case measure=>simp[intOf];have:=su.out.2;omega
  ·obtain rfl:i=k+1:=by omega
   have hlk:=lS (P:=Tryz.prog) (T:=228) Tryz.underlying228 Tryz.underlying3 Qg hS.p1 (k:Int) true;obtain⟨ha1,ha2⟩:=HV.out.1 k;rw[if_pos (Nat.lt_succ_self k),←HX.out.2.2.2.2.1] at ha1 ha2;have HF:=ah (And.intro HV.out.2 (show Sat W wr (sep (kn J) A) by
    have:=hS.p1;obtain⟨es,cl,-,-,h9⟩:=this.yX;exact h9.forget))
   clear hS hlt hi;cases av with
   | none=>
    rw[ha1 rfl] at hlk;simp only[Option.getD_none,Option.isSome_none,if_true] at hlk;clear ha1 ha2
    go_wp2
    rw[bI.out];exact⟨none,0,0,J,rfl,HF.out.1,fun y hy=>(by cases hy),HF.out.2⟩
   | some y=>
    obtain⟨a6,m6,d6,e1,e2,e3⟩:=ha2 y rfl;rw[e1] at hlk;simp only[Option.getD_some,Option.isSome_some,if_true] at hlk;have HE:=ah (And.intro e2 e3);clear ha1 ha2 e1 e2 e3
    go_wp2
    rw[bI.out];exact⟨a6,m6,d6,J,rfl,HF.out.1,fun y' hy=>(by cases hy;exact HE.out),HF.out.2⟩
end Go.Proofs.YthfmaclnccdcbaaGreatDoor
