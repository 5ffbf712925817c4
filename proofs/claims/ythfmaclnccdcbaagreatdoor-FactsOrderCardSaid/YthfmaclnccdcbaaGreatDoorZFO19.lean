/- Part of a proof. -/
import Derived.Test.YthfmaclnccdcbaaGreatDoorZFO18
namespace PA
open Go Go.RowKit
def prD:Nat→List Nat:=fun x=>if x=4 then [1,3] else if x=5 then [4] else if x=6 then [5] else []
def BQ:Nat→List Nat:=fun x=>if x=2 then [0] else if x=4 then [0,3] else if x=5 then [2,4] else if x=6 then [1,5] else if x=7 then [4] else []
theorem Xt {I:Mem} {cs:List Value} {f:Fm} (h:rF.rel I cs f):cs.length=4:=by
 obtain⟨o,n,i,k⟩:=f;obtain⟨a,c,b,d,rfl,-,-⟩:=dW.1 h;rfl
theorem SC {I:Mem}:∀{xs:List FV},(∀x∈xs,rF.rel I x.1 x.2)→(rF.rows 4).rel I (xs.map (·.1)).flatten (xs.map (·.2))
 | [],_=>⟨[],rfl,trivial⟩
 | x::xs,h=>by
  obtain⟨css,e,h2⟩:=SC fun y hy=>h y (tY x hy)
  have h1:=h x (List.mem_cons_self ..);exact⟨x.1::css,by rw[mM,List.flatten_cons,List.flatten_cons,e],⟨h1,Xt h1⟩,h2⟩
def NH (I:Mem) (O:Nat) (tO E:TypeId) (xs:List FV):aB:=ex fun q:Option Addr×Nat=>sep (fact (∀x∈xs,rF.rel I x.1 x.2)) (sep (kn I) (sep (blk O (.cells #[.slice q.1 xs.length q.2] tO (0,0))) (aT E 4 q.1 xs.length q.2 (xs.map (·.1)).flatten)))
section
variable {W w w':World} {I:Mem} {O:Nat} {tO E:TypeId} {xs:List FV} {A:aB}
theorem yV:Sat W w (sep (NH I O tO E xs) A)↔∃(a:Option Addr) (c:Nat),(∀x∈xs,rF.rel I x.1 x.2)∧Sat W w (sep (kn I) (sep (blk O (.cells #[.slice a xs.length c] tO (0,0))) (sep (aT E 4 a xs.length c (xs.map (·.1)).flatten) A))):=by
 unfold NH;rw[fP,Sat.ex];constructor
 ·rintro⟨⟨a,c⟩,h⟩
  simp only[aj] at h;exact⟨a,c,Sat.fact.1 h⟩
 ·rintro⟨a,c,h⟩
  refine⟨⟨a,c⟩,?_⟩;simp only[aj];exact Sat.fact.2 h
end
end PA
namespace Go.Proofs.YthfmaclnccdcbaaGreatDoor
open Go.RowKit PA
attribute [local go_sem] Oper.semAt_some
attribute [local go_sem ↓] iF
attribute [local go_sem] DN
theorem SI (w:World):(zeroValue 27).run Tryz.prog w=.ok (.slice none 0 0) w:=by kernel_rfl
def O4 (D B:Nat) (tF tC:TypeId) (ta:Option Addr) (tn tc:Nat) (cs:Array Value) (mb:Nat) (fm:Int→Option Value) (nm:Nat) (A:aB):aB:=
 sep (blk D (.deferred (some []))) (sep (blk (B+1) (.cells #[.slice ta tn tc] tF (0,0))) (sep (blk B (.cells cs tC (0,0))) (sep (kW mb fm nm) A)))
theorem VG {W w:World} {J:Mem} {D B:Nat} {tF tC:TypeId} {ta:Option Addr} {tn tc:Nat} {cs:Array Value} {mb:Nat} {fm:Int→Option Value} {nm:Nat} {A:aB} (h:Sat W w (sep (kn J) (O4 D B tF tC ta tn tc cs mb fm nm A))):
 w.heap[D]?=some (.deferred (some []))∧Sat W (w.putObj D (.deferred none)) (sep (kn J) (sep (kW mb fm nm) A)):=by
 unfold O4 at h;have h2:Sat W w (sep (blk D (.deferred (some []))) (sep (blk (B+1) (.cells #[.slice ta tn tc] tF (0,0))) (sep (blk B (.cells cs tC (0,0))) (sep (kn J) (sep (kW mb fm nm) A))))):=dI h;exact⟨h2.aO,(h2.putObj (.deferred none)).drop.forget.forget⟩
set_option maxRecDepth 100000 in
set_option maxHeartbeats 16000000 in
theorem Qh {W w:World} {A:aB} {I:Mem} (cl:Cl) (ra:Option Addr) (rc:Nat) (p q:Int) (x1:Option Addr) (n1 c1:Nat) (x2:Option Addr) (n2 c2:Nat) (mb:Nat) (of:Nat→Option (List Fm)) (fm:Int→Option Value) (nm:Nat)
 (hrr:(sO.slice 1).rel I [.slice ra cl.refs.length rc] cl.refs) (hr:rF.rel I [.int .i64 p,.int .i64 q,.slice x1 n1 c1,.slice x2 n2 c2] cl.body) (hr8:cl.refs.length≤8) (OQ:∀r∈cl.refs,0≤r) (hbe:kQ cl.body=0) (hiv:KL cl.body)
 (hof:∀r:Nat,(of r=none→fm r=none)∧∀y,of r=some y→(∃(a:Option Addr) (m d:Nat),fm r=some (.slice a m d)∧m=y.length∧(rF.slice 4).rel I [.slice a m d] y)∧y.length≤64∧∀f∈y,f.size≤96∧KL f)
 (h:Sat W w (sep (kn I) (sep (kW mb fm nm) A))):
 Calls Tryz.prog 219 #[.agg #[.slice ra cl.refs.length rc,.int .i64 p,.int .i64 q,.slice x1 n1 c1,.slice x2 n2 c2],.map (some mb)] w fun e w'=>∃(b:Option Addr) (m d:Nat) (J:Mem),e=.returned (.tuple #[.slice b m d,.bool (tX of cl).isSome])∧Mem.le I J∧(∀y,tX of cl=some y→m=y.length∧(rF.slice 4).rel J [.slice b m d] y)∧Sat W w' (sep (kn J) (sep (kW mb fm nm) A)):=by
 have hbs:=lY hbe;obtain⟨nr,hnr⟩:=aC (cl.refs.length);obtain⟨av,hav⟩:=aC (tX of cl);obtain⟨tp,htp⟩:=aC (cl.body.dO);rw[←hav];rw[←hnr] at hrr hr8 ⊢;have h1:=(h.alloc (.cells #[.slice ra nr rc,.int .i64 p,.int .i64 q,.slice x1 n1 c1,.slice x2 n2 c2] 91)).alloc (.cells #[.slice none 0 0] 27);rw[World.size_alloc] at h1;obtain⟨B,hB⟩:=aC (w.heap.size);obtain⟨w1,hw1⟩:=aC ((w.alloc (.cells #[.slice ra nr rc,.int .i64 p,.int .i64 q,.slice x1 n1 c1,.slice x2 n2 c2] 91)).alloc (.cells #[.slice none 0 0] 27));rw[←hB,←hw1] at h1;have HB:=ah (aH hB hw1);have HFT:=ah (PL (.int .i64 p) (.int .i64 q) (.slice x1 n1 c1) (.slice x2 n2 c2) h1);obtain⟨k0,k1,k2,k3,k4⟩:=cl5 h1.p1;have htl:tp.length≤96:=by rw[htp];have:=Fm.zo cl.body;omega
 have hts:∀f∈tp,f.size≤96∧KL f:=fun f hf=>by rw[htp] at hf;have:=Aq cl.body f hf;exact⟨by omega,hiv.dO hf⟩
 have HR:=ah (aH hr (show cl.body.size≤qI by unfold qI;omega));have HX:=ah (aH htp (aH hnr (aH OQ (aH htl hts))));have HRR:=ah hrr;have HOF:=ah hof;have FX:Hid (av=tX of cl):=ah hav;have afP:(nr:Int)≤8:=by omega
 have eg:=enters_of (P:=Tryz.prog) Tryz.func237 (by kernel_rfl) rfl;obtain⟨Po,dS⟩:∃P:Ending→World→Prop,P=fun e w'=>∃(b:Option Addr) (m d:Nat) (J:Mem),e=.returned (.tuple #[.slice b m d,.bool av.isSome])∧Mem.le I J∧(∀y,av=some y→m=y.length∧(rF.slice 4).rel J [.slice b m d] y)∧Sat W w' (sep (kn J) (sep (kW mb fm nm) A)):=⟨_,rfl⟩
 rw[←dS];have bK:=ah dS;clear h h1 hB hw1 hr hbs hbe hiv OQ hr8 htl hts hrr hof hav htp hnr dS;refine (callsIn_wide (n:=5)).1 ?_;refine callsIn_of_wp_marks Tryz.func219 rfl trivial ?_ rfl;simp only[Tryz.ntmps219,List.size_toArray,oP,List.length_nil,Nat.reduceAdd,Nat.reduceSub,Array.replicate_succ,Array.replicate_zero,List.push_toArray,List.append_toArray,tK,pV];refine wpIn_wide.2 ?_;go_upto_region 2 with fail;rw[←HB.out.1,←HB.out.2];go_wp2_with fail;refine HFT.out.mono ?_;rintro e w2 ⟨fb,rfl,h2⟩;have h3:Sat W w2 (sep (NH I (B+1) 27 34 []) (sep (blk fb (.cells #[.int .i64 p,.int .i64 q,.slice x1 n1 c1,.slice x2 n2 c2] 34 (0,0))) (sep (kn I) (sep (blk B (.cells #[.slice ra nr rc,.int .i64 p,.int .i64 q,.slice x1 n1 c1,.slice x2 n2 c2] 91 (0,0))) (sep (kW mb fm nm) A))))):=by
  refine yV.2 ⟨none,0,fun x hx=>absurd hx (by simp),?_⟩;have h4:Sat W w2 (sep (kn I) (sep (blk fb (.cells #[.int .i64 p,.int .i64 q,.slice x1 n1 c1,.slice x2 n2 c2] 34 (0,0))) (sep (blk (B+1) (.cells #[.slice none 0 0] 27 (0,0))) (sep (blk B (.cells #[.slice ra nr rc,.int .i64 p,.int .i64 q,.slice x1 n1 c1,.slice x2 n2 c2] 91 (0,0))) (sep (kW mb fm nm) A))))):=dI h2;have h5:=Sat.fV (Sat.dup h4) 34 4;show Sat W w2 (sep (kn I) (sep (blk (B+1) (.cells #[.slice none 0 0] 27 (0,0))) (sep (aT 34 4 none 0 0 []) _)));unfold kn at h5 ⊢;simpa only[aA,au,aj] using h5
 clear h2 HFT k0 k1 k2 k3 k4;go_wp2_with fail;refine (wpIn_wide (n:=5)).1 ?_;refine nM (F:=Fence.wide) (W:=W) rfl (by omega) (gf:=237) (lb:=#[.pointer (some ⟨fb,0,none⟩)]) rfl trivial eg (encs:=su) (fun _=>rfl) (Ou (A:=sep (blk B (.cells #[.slice ra nr rc,.int .i64 p,.int .i64 q,.slice x1 n1 c1,.slice x2 n2 c2] 91 (0,0))) (sep (kW mb fm nm) A)) (fun _=>True) (5-1) cl.body p q x1 n1 c1 x2 n2 c2 HR.out.1 (fun _ _=>trivial) HR.out.2 fb)
  (NH I (B+1) 27 34) (fun _ _=>fact False) h3
  (fun y g t=>(t.setIfInBounds 21 (.agg y.1.toArray)).setIfInBounds 8 (.pointer (some ⟨g,0,none⟩)))
  (fun pre y g=>sep (fact (rF.rel I y.1 y.2)) (sep (blk g (.cells y.1.toArray 34 (0,0))) (NH I (B+1) 27 34 pre))) ?assign ?body ?done ?stop
 case assign=>
  as_aux_lemma=>
  intro lp pre y w' X K hlen hS hK;have h4:Sat W w' (sep (Gu I (fun _=>True) y) (sep (NH I (B+1) 27 34 pre) X)):=dI hS;unfold Gu at h4;obtain⟨hf,h6⟩:=Sat.fact.1 h4;obtain⟨y1,y2⟩:=y;obtain⟨yo,yn,yi,yk⟩:=y2;obtain⟨u1,d1,u2,d2,e,hi,hk⟩:=dW.1 hf.1;dsimp only at e hf hK;subst e;have h7:=h6.alloc (.cells #[.int .i64 yo,.int .i64 yn,.slice u1 yi.length d1,.slice u2 yk.length d2] 34);have h5:=hK w'.heap.size _ (show Sat W (w'.alloc (.cells #[.int .i64 yo,.int .i64 yn,.slice u1 yi.length d1,.slice u2 yk.length d2] 34)) (sep (sep (fact _) (sep _ _)) X) by rw[aj,aj];exact Sat.fact.2 ⟨hf.1,h7⟩);simp only[lsA,lsB,lq] at h5;have H5:=ah h5;clear hK hS h4 h5 h6 h7 hf hi hk h3;dsimp only[su] at *;gi_wp2_with fail;simpa using H5.out
 case body=>
  as_aux_lemma=>
  intro lp pre y g w' X hlen hS;simp only[lsA,lsB,lq];rw[aj,aj] at hS;obtain⟨hf,h4⟩:=Sat.fact.1 hS;have h5:Sat W w' (sep (NH I (B+1) 27 34 pre) (sep (blk g (.cells y.1.toArray 34 (0,0))) X)):=dI h4;obtain⟨a0,c0,hpre,h6⟩:=yV.1 h5;have hyl:=Xt hf;have hyv:=zf hf;obtain⟨⟨yo,yn,yi,yk⟩,hy2⟩:∃z,z=y.2:=⟨_,rfl⟩
  rw[←hy2] at hf;obtain⟨u1,d1,u2,d2,ey,hi,hk⟩:=dW.1 hf;obtain⟨np,hnp⟩:=aC (pre.length);obtain⟨vs,hvs⟩:=aC ((pre.map (·.1)).flatten);rw[←hnp,←hvs] at h6;rw[←hnp] at hlen;obtain⟨ci,hci⟩:∃z:List Value,z=[.int .i64 yo,.int .i64 yn,.slice u1 yi.length d1,.slice u2 yk.length d2]:=⟨_,rfl⟩
  obtain⟨ni,hni⟩:=aC (yi.length);obtain⟨nk,hnk⟩:=aC (yk.length);rw[←hni,←hnk] at hci ey;rw[ey,←hci] at h6;have hT0:Sat W w'.drew (owT I (B+1) 27 34 np a0 c0 vs ci (sep (blk g (.cells ci.toArray 34 (0,0))) X) (fun _=>none)):=
   sJ.2 ⟨⟨I,none,0⟩,⟨bW _,fun _ h=>(by cases h),fun _ h=>(by cases h),fun _ h=>(by cases h),fun _ h=>(by cases h),fun _ h=>(by cases h),fun _ h=>(by cases h)⟩,by
    rw[JD rfl,Qr rfl];exact h6.drew⟩
  have HT0:=ah hT0;have HL:=ah (aH hlen (aH hnp (aH hvs (aH hci (aH ey hpre)))));have HF:=ah (aH hf hy2);clear hS h4 h5 h6 hT0 hlen hnp hvs hci ey hpre hyl hyv hi hk hf hni hnk hy2 h3;gi_upto_region 4 with fail;refine zy rfl (fun _=>True) [.grp false [(0,[]),(1,[]),(2,[]),(3,[]),(4,[]),(5,[]),(6,[]),(7,[])]] (by kernel_rfl) ?_ ?_
  ·exact fun ⟨_,_,h⟩=>h
  refine Dp (n:=8) rfl ?_;refine kL [0,1,2,3,4,5,6,7] BQ (owT I (B+1) 27 34 np a0 c0 vs ci (sep (blk g (.cells ci.toArray 34 (0,0))) X)) (by kernel_rfl) (by kernel_rfl) ?_ ?_ ?_ 8 [0,1,2,3,4,5,6,7] (fun _=>none) w'.drew rfl (by decide) (fun z=>by simp) (fun _ _ h=>by cases h) HT0.out
  ·intro _ f w' hT;trivial
  ·intro i hi f w' o' ho hfi fK hcl hT
   simp only[List.mem_cons,List.not_mem_nil,or_false] at hi;have hno:∀y z,y∈[0,1,2,3,4,5,6,7]→z∈BQ y→f z=none→f y=none:=fun y z hy hz hf=>by
    cases Jm:f y with
    | none=>rfl
    | some v=>have:=hcl y hy (by rw[Jm];rfl) z hz;rw[hf] at this;cases this
   have hz:∀d,d∈BQ i→∃v,f d=some v:=fun d hd=>cO (fK d hd)
   obtain⟨q,hp,hq⟩:=sJ.1 hT;have HP:=ah (aH hp (aH hq hT));clear fK hT hcl hp hq HT0 HF;rcases hi with rfl|rfl|rfl|rfl|rfl|rfl|rfl|rfl
   ·as_aux_lemma=>
    cases ho;have h2:=hno 2 0 (by decide) (by decide) hfi;have h4:=hno 4 0 (by decide) (by decide) hfi;have h7:=hno 7 4 (by decide) (by decide) h4;obtain⟨hp,hq,-⟩:=HP.out;have hq2:=hq;rw[JD h7,Qr h4] at hq2;have k0:w'.cell? ⟨B+1,0,none⟩=some (.slice a0 np c0):=hq2.p1.cell 0;have HQ:=ah (aH hp hq);clear hp hq hq2 hno hz HP;refine .inl (.inl ⟨.slice a0 np c0,w',?_,uT (by decide) ⟨rfl,rfl⟩ (HQ.out.1.set (bW _) (fun _=>⟨rfl,rfl⟩) (fun e=>by cases e) (fun _=>rfl) (fun e=>by cases e) (fun e=>by cases e) (fun e=>by cases e) (fun e=>by cases e) (fun e=>by cases e)) HQ.out.2⟩)
    ·simp[dB,List.filter,BQ,aU,Act.put]
     (go_simp;try rfl)
   ·as_aux_lemma=>
    cases ho;obtain⟨hp,hq,-⟩:=HP.out;have hq2:=hq.p3;have hci:=HL.out.2.2.2.1;rw[hci] at hq2;obtain⟨k0,k1,k2,k3⟩:=lH hq2;have HQ:=ah (aH hp hq);have HCI:=ah hci;clear hp hq hq2 hno hz HP hci;refine .inl (.inl ⟨.agg #[.int .i64 yo,.int .i64 yn,.slice u1 ni d1,.slice u2 nk d2],w',?_,uT (by decide) ⟨rfl,rfl⟩ (HQ.out.1.set (bW _) (fun _=>⟨rfl,rfl⟩) (fun e=>by cases e) (fun e=>by cases e) (fun _=>by rw[HCI.out]) (fun e=>by cases e) (fun e=>by cases e) (fun e=>by cases e) (fun e=>by cases e)) HQ.out.2⟩)
    ·simp[dB,List.filter,BQ,aU,Act.put]
     (go_simp;try rfl)
   ·as_aux_lemma=>
    cases ho;obtain⟨v0,hv0⟩:=hz 0 (by decide);obtain⟨hp,hq,-⟩:=HP.out;obtain rfl:=hp.p0 v0 hv0;have HQ:=ah (aH hp hq);clear hp hq hno hz HP;refine .inl (.inl ⟨.int .i64 (np:Nat),w',?_,uT (by decide) ⟨rfl,rfl⟩ (HQ.out.1.set (bW _) (fun _=>⟨rfl,rfl⟩) (fun e=>by cases e) (fun e=>by cases e) (fun e=>by cases e) (fun _=>rfl) (fun e=>by cases e) (fun e=>by cases e) (fun e=>by cases e)) HQ.out.2⟩)
    ·simp[dB,List.filter,BQ,hv0,aU,Act.put]
     (go_simp;try rfl)
   ·as_aux_lemma=>
    cases ho;obtain⟨hp,hq,-⟩:=HP.out;obtain⟨J',hle,hJ,h9⟩:=Ic #[.int .i64 0,.int .i64 0,.slice none 0 0,.slice none 0 0] 34 hq;have HQ:=ah (aH hp (aH hle (aH hJ h9)));clear hp hq hno hz HP hle hJ h9;refine .inl (.inl ⟨.slice (some ⟨w'.heap.size,0,none⟩) 1 1,w'.alloc (.cells #[.int .i64 0,.int .i64 0,.slice none 0 0,.slice none 0 0] 34),?_,uT (q':=⟨J',q.a,q.c⟩) (by decide) ⟨rfl,rfl⟩ (HQ.out.1.set HQ.out.2.1 (fun _=>⟨rfl,rfl⟩) (fun e=>by cases e) (fun e=>by cases e) (fun e=>by cases e) (fun e=>by cases e) (fun _=>⟨_,rfl,HQ.out.2.2.1⟩) (fun e=>by cases e) (fun e=>by cases e)) HQ.out.2.2.2⟩)
    ·simp[dB,List.filter,BQ,aU,Act.put]
     (go_simp;try rfl)
   ·as_aux_lemma=>
    cases ho;obtain⟨v0,hv0⟩:=hz 0 (by decide);obtain⟨v3,hv3⟩:=hz 3 (by decide);have h5:=hno 5 4 (by decide) (by decide) hfi;have h6:=hno 6 5 (by decide) (by decide) h5;have h7:=hno 7 4 (by decide) (by decide) hfi;obtain⟨hp,hq,-⟩:=HP.out;obtain rfl:=hp.p0 v0 hv0;obtain⟨g3,rfl,hJ3⟩:=hp.p3 v3 hv3;have he:=hq.ext g3 _ hJ3;rw[JD h7,Qr hfi] at hq;refine .inl ((uH (.tmp 22) (.tmp 25) 27 rfl 34 4 64 _ Tryz.underlying27 iQ rfl (by simp[dB,List.filter,BQ,hv0,hv3,aU,Act.put,Act.eval]) hq.p2 (x:=some ⟨g3,0,none⟩) (m:=1) (cc:=1) (by simp[dB,List.filter,BQ,hv0,hv3,aU,Act.put,Act.eval]) owZ rfl (fun e=>by cases e) (fun b' hb j u hu=>by
     cases hb;have e:(⟨g3,0,none⟩:Addr).add j=⟨g3,j,none⟩:=by unfold Addr.add;split<;>simp_all
     rw[e];have hcc:w'.cell? ⟨g3,j,none⟩=owZ[j]?:=by
      simp[World.cell?,he,owZ]
     rw[hcc];exact hu) (by decide) (by have:=HL.out.1;unfold qI at this;omega) (by have:=HL.out.1;unfold qI at this;unfold maxLen;omega)).mono ?_)
    rintro v w'' ⟨a',c',rfl,h'⟩;refine owT_4 hp h5 h6 h7 ?_;simpa only[aA,au,aj] using h'
   ·as_aux_lemma=>
    cases ho;obtain⟨v2,hv2⟩:=hz 2 (by decide);obtain⟨v4,hv4⟩:=hz 4 (by decide);have h6:=hno 6 5 (by decide) (by decide) hfi;obtain⟨hp,hq,-⟩:=HP.out;obtain rfl:=hp.p2 v2 hv2;obtain rfl:=hp.p4 v4 hv4;have hq2:=hq;rw[Xn hv4 h6] at hq2;have hvl:vs.length=np*4:=by
     have:=(Sat.vY hq2.p2).1;rw[dM] at this;have e4:owZ.length=4:=rfl;omega
    obtain⟨g,hg,-,-,-⟩:=Ig (.int .i64 0) (.int .i64 0) (.slice none 0 0) (.slice none 0 0) (.int .i64 0) (.int .i64 0) (.slice none 0 0) (.slice none 0 0) hvl hq2.p2;have hnp:(np:Int)<1000000:=by have:=HL.out.1;unfold qI at this;omega
    have aji:(np:Int)<((np+1:Nat):Int):=by omega
    have HQ:=ah (aH hp (aH hq hg));clear hp hq hq2 hno hz HP hvl;refine .inl (.inl ⟨.pointer (some ⟨g,np*4,none⟩),w',?_,uT (by decide) ⟨rfl,rfl⟩ (HQ.out.1.set (bW _) (fun _=>⟨rfl,rfl⟩) (fun e=>by cases e) (fun e=>by cases e) (fun e=>by cases e) (fun e=>by cases e) (fun e=>by cases e) (fun e=>by cases e) (fun _=>⟨g,HQ.out.2.2,rfl⟩)) HQ.out.2.1⟩)
    ·simp[dB,List.filter,BQ,hv2,hv4,aU,Act.put,hg]
     (go_simp;try rfl)
     try exact fun h=>absurd h (by omega)
   ·as_aux_lemma=>
    cases ho;obtain⟨v1,hv1⟩:=hz 1 (by decide);obtain⟨v5,hv5⟩:=hz 5 (by decide);obtain⟨hp,hq,hT⟩:=HP.out;have h4:∃v4,f 4=some v4:=by
     cases h4:f 4 with
     | none=>have:=hno 5 4 (by decide) (by decide) h4;rw[hv5] at this;cases this
     | some v=>exact⟨v,rfl⟩
    obtain⟨v4,hv4⟩:=h4;obtain rfl:=hp.p1 v1 hv1;obtain⟨g,hg,rfl⟩:=hp.p5 v5 hv5;have hq2:=hq;rw[Xn hv4 hfi] at hq2;have hvl:vs.length=np*4:=by
     have:=(Sat.vY hq2.p2).1;rw[dM] at this;have e4:owZ.length=4:=rfl;omega
    obtain⟨g',hg',⟨k0,k1,k2,k3⟩,hu,h9⟩:=Ig (.int .i64 0) (.int .i64 0) (.slice none 0 0) (.slice none 0 0) (.int .i64 yo) (.int .i64 yn) (.slice u1 ni d1) (.slice u2 nk d2) hvl hq2.p2;obtain rfl:g=g':=by rw[hg] at hg';cases hg';rfl
    have u0:=hu (np*4);have u1':=hu (np*4+1);have u2':=hu (np*4+2);have u3':=hu (np*4+3);have hci:=HL.out.2.2.2.1;have HQ:=ah (aH hp (aH h9 hv4));have HCI:=ah hci;clear hp hq hq2 hno hz HP hvl hu h9 hT hg hg';refine .inr ⟨(((w'.setCell ⟨g,np*4,none⟩ (.int .i64 yo)).setCell ⟨g,np*4+1,none⟩ (.int .i64 yn)).setCell ⟨g,np*4+2,none⟩ (.slice u1 ni d1)).setCell ⟨g,np*4+3,none⟩ (.slice u2 nk d2),?_,?_⟩
    ·simp[dB,List.filter,BQ,hv1,hv5,aU,Act.put,hci]
     (go_simp;try rfl)
    ·refine owT_6 HQ.out.1 HQ.out.2.2 ?_
     have h9:=HQ.out.2.1;rw[←HCI.out] at h9;simpa only[aA,au,aj] using h9
   ·as_aux_lemma=>
    cases ho;obtain⟨v4,hv4⟩:=hz 4 (by decide);obtain⟨hp,hq,hT⟩:=HP.out;obtain rfl:=hp.p4 v4 hv4;have hq2:=hq.p1;unfold OT at hq2;rw[hfi] at hq2;have c0':=hq2.cell 0;have u0:=hq2.aI 0;have h9:=hq2.setCell 0 (.slice q.a (np+1) q.c);have HQ:=ah (aH hp h9);clear hp hq hq2 hno hz HP h9 hT;refine .inr ⟨w'.setCell ⟨B+1,0,none⟩ (.slice q.a (np+1) q.c),?_,owT_7 HQ.out.1 HQ.out.2⟩
    ·simp[dB,List.filter,BQ,hv4,aU,Act.put]
     (go_simp;try rfl)
  ·as_aux_lemma=>
   intro f w' hall hT;obtain⟨v0,hv0⟩:=cO (hall 0 (by decide));obtain⟨v1,hv1⟩:=cO (hall 1 (by decide));obtain⟨v2,hv2⟩:=cO (hall 2 (by decide));obtain⟨v3,hv3⟩:=cO (hall 3 (by decide));obtain⟨v4,hv4⟩:=cO (hall 4 (by decide));obtain⟨v5,hv5⟩:=cO (hall 5 (by decide));obtain⟨v6,hv6⟩:=cO (hall 6 (by decide));obtain⟨v7,hv7⟩:=cO (hall 7 (by decide));obtain⟨q,hp,hq⟩:=sJ.1 hT;rw[aaK hv4 hv6] at hq;unfold OT at hq;rw[hv7] at hq;have h9:Sat W w' (sep (NH I (B+1) 27 34 (pre++[y])) X):=yV.2 ⟨q.a,q.c,fun x hx=>by
    rcases List.mem_append.1 hx with hx|hx
    ·exact HL.out.2.2.2.2.2 x hx
    ·rw[vW hx,←HF.out.2];exact HF.out.1,by
    have e1:(pre++[y]).length=np+1:=by rw[dM,←HL.out.2.1];rfl
    have e2:((pre++[y]).map (·.1)).flatten=vs++ci:=by rw[qy,List.flatten_append,←HL.out.2.2.1,HL.out.2.2.2.1,←HL.out.2.2.2.2.1];simp
    rw[e1,e2];have h8:=hq.RP hp.le;have h7:Sat W w' (sep (blk g (.cells ci.toArray 34 (0,0))) (sep (kn I) (sep (blk (B+1) (.cells #[.slice q.a (np+1) q.c] 27 (0,0))) (sep (aT 34 4 q.a (np+1) q.c (vs++ci)) X)))):=by
     have e3:(bif (some v7).isSome then Value.slice q.a (np+1) q.c else .slice a0 np c0)=.slice q.a (np+1) q.c:=rfl;rw[e3] at h8;simpa only[aA,au,aj] using h8
    exact h7.drop⟩
   have H9:=ah h9;simp only[dB,List.foldl,hv0,hv1,hv2,hv3,hv4,hv5,hv6,hv7,aU];clear h9 hp hq hT hall hv0 hv1 hv2 hv3 hv4 hv5 hv6 hv7;simp only[Act.put,Ec,Ed,Ee,Option.bind_some,lsA,lsB,lq];refine wM ?_;gi_wp2_with fail;exact H9.out
 case done=>
  as_aux_lemma=>
  intro D xs w3 hxs hS;obtain⟨ta,tc,hall,h4⟩:=yV.1 hS.p1;have htn:xs.length=tp.length:=by rw[HX.out.1,←hxs,List.length_map]
  obtain⟨tn,adV⟩:=aC (xs.length);have hrows:=SC hall;rw[hxs,←HX.out.1] at hrows;rw[←adV] at h4 htn;obtain⟨J1,hle1,htr,h5⟩:=jA hrows htn (show Sat W w3 (sep (aT 34 4 ta tn tc _) (sep (kn I) (sep (blk (B+1) (.cells #[.slice ta tn tc] 27 (0,0))) (sep (blk D (.deferred (some []))) (sep (kn I) (sep (blk B (.cells #[.slice ra nr rc,.int .i64 p,.int .i64 q,.slice x1 n1 c1,.slice x2 n2 c2] 91 (0,0))) (sep (kW mb fm nm) A))))))) by simpa only[aA,au,aj] using h4);obtain⟨X,hX⟩:=aC (O4 D B 27 91 ta tn tc #[.slice ra nr rc,.int .i64 p,.int .i64 q,.slice x1 n1 c1,.slice x2 n2 c2] mb fm nm A);have h6:Sat W w3 (sep (kn J1) X):=by
   rw[hX];unfold O4;have h7:Sat W w3 (sep (kn I) (sep (kn J1) (sep (blk D (.deferred (some []))) (sep (blk (B+1) (.cells #[.slice ta tn tc] 27 (0,0))) (sep (blk B (.cells #[.slice ra nr rc,.int .i64 p,.int .i64 q,.slice x1 n1 c1,.slice x2 n2 c2] 91 (0,0))) (sep (kW mb fm nm) A)))))):=dI h5;exact h7.drop
  have HXO:Hid (∀w' Y,Sat W w' (sep X Y)→w'.cell? ⟨B+1,0,none⟩=some (.slice ta tn tc)):=ah fun w' Y h'=>by
   rw[hX] at h';unfold O4 at h';simp only[aj] at h';exact h'.p1.cell 0
  have HXC:Hid (∀w' Y,Sat W w' (sep X Y)→w'.cell? ⟨B,0,none⟩=some (.slice ra nr rc)):=ah fun w' Y h'=>by
   rw[hX] at h';unfold O4 at h';simp only[aj] at h';exact (cl5 h'.p2).1
  have SV:Hid (∀w' Y (r:Int),Sat W w' (sep X Y)→(Instr.lookup 228 (.map (some mb)) (.int .i64 r) true).run Tryz.prog w'=.ok (.tuple #[(fm r).getD (.slice none 0 0),.bool (fm r).isSome]) w'):=ah fun w' Y r h'=>by
   rw[hX] at h';unfold O4 at h';simp only[aj] at h';exact nC (P:=Tryz.prog) (T:=228) Tryz.underlying228 Tryz.underlying3 SI h'.p3 r true
  have FZ:Hid (∀w' J,Sat W w' (sep (kn J) X)→w'.heap[D]?=some (.deferred (some []))∧Sat W (w'.putObj D (.deferred none)) (sep (kn J) (sep (kW mb fm nm) A))):=ah fun w' J h'=>by
   rw[hX] at h';exact VG h'
  have HT:=ah (aH htn (aH hle1 htr));have H1:=ah h6;have k0:=HXC.out w3 _ (show Sat W w3 (sep X (kn J1)) by rw[aA];exact h6);have af4:(tn:Int)≤96:=by have:=HX.out.2.2.2.1;omega
  clear hS hall h4 htn adV hrows hle1 htr h5 hX h6 h3 HR;by_cases hr0:nr=0
  ·as_aux_lemma=>
   subst hr0;have hrn:cl.refs=[]:=Ju HX.out.2.1.symm;have HA:Hid (av=if tp.length≤64 then some tp else none):=ah (by rw[FX.out];unfold tX;rw[if_pos hrn,←HX.out.1]);clear hrn;go_upto_region 6 with fail;clear k0;have h2:=H1.out.drew;obtain⟨wd,hwd⟩:=aC (w3.drew);rw[←hwd] at h2;have c0:=HXO.out wd _ (show Sat W wd (sep X (kn J1)) by rw[aA];exact h2);have HE:=ah (FZ.out wd _ h2);have jY:=ah hwd;clear h2 hwd H1;refine aG rfl (fun _=>True) [(0,.t),(1,.t),(2,.p),(3,.p),(4,.p),(5,.p)] (by kernel_rfl) ?_;rw[←jY.out];have hS0:True:=trivial;refine bG ?_;refine dJ ?_;clear c0;go_wp2_with fail;refine⟨by simp,.inl ⟨_,_,rfl,run_takeDeferred HE.out.1,?_⟩⟩;refine⟨.tuple #[.slice ta tn tc,.bool (decide ((tn:Int)≤64))],?_,?_⟩
   ·simp[results,Tryz.results219,go_sem]
   ·rw[bK.out]
    have ht:=HT.out;refine⟨ta,tn,tc,J1,?_,ht.2.1,fun y hy=>?_,HE.out.2⟩
    ·have:av.isSome=decide ((tn:Int)≤64):=by
      rw[HA.out,←ht.1];by_cases h64:tn≤64
      ·rw[if_pos h64,decide_eq_true (by omega)];rfl
      ·rw[if_neg h64,decide_eq_false (by omega)];rfl
     rw[this]
    ·rw[HA.out] at hy
     split at hy
     ·cases hy;exact⟨ht.1,ht.2.2⟩
     ·cases hy
  ·as_aux_lemma=>
   have abD:((nr:Int)==0)=false:=by simp;omega
   have HA:Hid (av=eH of tp (cl.refs.drop 0) []):=ah (by
    rw[FX.out];unfold tX;rw[if_neg (fun e=>hr0 (by rw[HX.out.2.1,e];rfl)),←HX.out.1];rfl)
   clear hr0;go_upto_region 7 with fail;clear abD;go_wp2_with fail;clear k0;go_loopw [7,39] (fun ov iv wr=>∃(j m d:Nat) (bO:Option Addr) (vs:List Value) (J2:Mem) (ol:List Fm),ov=.slice bO m d∧iv=.int .i64 j∧j≤nr∧m≤64∧Hid (m=ol.length∧av=eH of tp (cl.refs.drop j) ol∧Mem.le J1 J2∧(rF.rows 4).rel J2 vs ol)∧Sat W wr (sep (aT 34 4 bO m d vs) (sep (kn J2) X))) (fun _ iv _=>nr-(intOf iv).toNat)
   case atStart=>exact⟨0,0,0,none,[],J1,[],rfl,rfl,by omega,by omega,ah ⟨rfl,HA.out,bW _,lN _ _ _⟩,H1.out.fV 34 4⟩
   case round=>
    obtain⟨j,m,d,bO,vs,J2,ol,rfl,rfl,hj,hm,HV,hS⟩:=hrel;have wH:Mem.le I J2:=eG HT.out.2.1 HV.out.2.2.1;by_cases hlt:j<nr
    ·as_aux_lemma=>
     have hltz:(j:Int)<(nr:Int):=by omega
     obtain⟨r,hr⟩:∃r,cl.refs[j]?=some r:=⟨_,iM (by have:=HX.out.2.1;omega)⟩
     obtain⟨rb,ro,rfl,hrc⟩:=l9 HRR.out hr;have hrk:=HX.out.2.2.1 r (mZ hr);obtain⟨rn,rfl⟩:∃rn:Nat,r=(rn:Int):=⟨r.toNat,by omega⟩
     have k1:=hrc wr (fun i o hb=>hS.p1.ext i o (wH i o hb));have hlk:=SV.out wr _ (rn:Int) (show Sat W wr (sep X (sep (aT 34 4 bO m d vs) (kn J2))) by simpa only[aA,au,aj] using hS);have c0:=HXO.out wr _ (show Sat W wr (sep X (sep (aT 34 4 bO m d vs) (kn J2))) by simpa only[aA,au,aj] using hS);have hat:=Dw (of:=of) (own:=tp) (out:=ol) hr;simp only[Int.toNat_natCast] at hat;obtain⟨hno,hsm⟩:=HOF.out rn;obtain⟨al,hal⟩:=aC (of rn);rw[←hal] at hat hno hsm;have HAT:=ah (HV.out.2.1.trans hat);have HJ:=ah (aH hlt (aH hm wH));have HS:=ah hS;have hmz:(m:Int)≤64:=by omega
     clear hrc hrk hr hat hal hlt hm hj hS wH H1 HA;cases al with
     | none=>
      rw[hno rfl] at hlk;have HF:Hid (av=none):=ah (by rw[HAT.out]);have h2:=HS.out.eu;have HE:=ah (FZ.out wr _ h2);simp only[Option.getD_none,Option.isSome_none] at hlk;clear h2 hno hsm HS c0;go_wp2_with fail;refine⟨by simp,.inl ⟨_,_,rfl,run_takeDeferred HE.out.1,?_⟩⟩;refine⟨.tuple #[.slice none 0 0,.bool false],?_,?_⟩
      ·simp[results,Tryz.results219,go_sem]
      ·rw[bK.out]
       exact⟨none,0,0,J2,by rw[HF.out];rfl,HJ.out.2.2,fun y hy=>(by rw[HF.out] at hy;cases hy),HE.out.2⟩
     | some xl=>
      obtain⟨⟨xb,xm,xd,hfm,hxm,hxr⟩,oO,hxs⟩:=hsm xl rfl;rw[hfm] at hlk;simp only[Option.getD_some,Option.isSome_some] at hlk;obtain⟨mt,hmt⟩:=aC (xm*tn);have emt:(xm:Int)*(tn:Int)=(mt:Int):=by rw[hmt];push_cast;rfl
      have abz:mt≤6144:=by
       rw[hmt];exact Nat.le_trans (Nat.mul_le_mul (show xm≤64 by omega) (show tn≤96 by omega)) (by decide)
      have SX:=ah (aH hxm (aH hxr (aH hxs (aH oO HJ.out.2.2))));have P7:mt=xl.length*tp.length:=by rw[hmt,hxm,HT.out.1]
      have IU:=HAT.out;simp only at IU;rw[←P7,←HV.out.1] at IU;have HAX:=ah IU;have HMT:=ah (aH hmt P7);have afK:(mt:Int)≤6144:=by omega
      have hxz:(xm:Int)≤64:=by omega
      clear hno hsm hfm hxm hxr hxs oO hmt P7 abz IU HAT;by_cases h64:64<m+mt
      ·have Wv:(64:Int)<(m:Int)+(mt:Int):=by omega
       have HF:Hid (av=none):=ah (by rw[HAX.out,if_pos h64]);have h2:=HS.out.eu;have HE:=ah (FZ.out wr _ h2);clear h64 h2 HS;go_wp2_with fail;refine⟨by simp,.inl ⟨_,_,rfl,run_takeDeferred HE.out.1,?_⟩⟩;refine⟨.tuple #[.slice none 0 0,.bool false],?_,?_⟩
       ·simp[results,Tryz.results219,go_sem]
       ·rw[bK.out]
        exact⟨none,0,0,J2,by rw[HF.out];rfl,HJ.out.2.2,fun y hy=>(by rw[HF.out] at hy;cases hy),HE.out.2⟩
      ·have Wv:¬(64:Int)<(m:Int)+(mt:Int):=by omega
       have HAY:Hid (av=match eX xl tp with|none=>none|some y=>eH of tp (cl.refs.drop (j+1)) (ol++y)):=ah (by rw[HAX.out,if_neg h64];rfl);have H64:=ah h64;clear h64;go_upto_region 13 with fail;clear Wv emt hlk k1 c0;go_wp2_with fail;go_loopw [7,64] (fun ov iv wr=>∃(ia m2 d2:Nat) (b2:Option Addr) (vs2:List Value) (J4:Mem) (y:List Fm),ov=.slice b2 m2 d2∧iv=.int .i64 ia∧ia≤xm∧Hid (m2=(ol++y).length∧eX (xl.take ia) tp=some y∧Mem.le J2 J4∧(rF.rows 4).rel J4 vs2 (ol++y))∧Sat W wr (sep (aT 34 4 b2 m2 d2 vs2) (sep (kn J4) X))) (fun _ iv _=>xm-(intOf iv).toNat)
       case atStart=>exact⟨0,m,d,bO,vs,J2,[],rfl,rfl,by omega,ah ⟨by rw[List.append_nil];exact HV.out.1,rfl,bW _,by rw[List.append_nil];exact HV.out.2.2.2⟩,HS.out⟩
       case round=>
        obtain⟨ia,m2,d2,b2,vs2,J4,y,rfl,rfl,hia,pO,hS2⟩:=hrel;clear HS;by_cases hlt2:ia<xm
        ·as_aux_lemma=>
         have WB:(ia:Int)<(xm:Int):=by omega
         obtain⟨fa,hfa⟩:∃fa,xl[ia]?=some fa:=⟨_,iM (by have:=SX.out.1;omega)⟩
         obtain⟨ba,oa,pA,qA,y1,e1,z1,y2,e2,z2,rfl,hra,hca⟩:=gY SX.out.2.1 hfa;have MW:y.length=ia*tp.length:=by
          have:=lF pO.out.2.1;rw[List.length_take,Nat.min_eq_left (by have:=SX.out.1;omega)] at this;exact this
         have hyb:y.length+tp.length≤mt:=by
          rw[MW,HMT.out.2];have h1:ia+1≤xl.length:=by have:=SX.out.1;omega
          have h2:=Nat.mul_le_mul_right tp.length h1;rw[Nat.add_mul,Nat.one_mul] at h2;exact h2
         have HYB:=ah hyb;have QU:=ah (aH hfa (aH (SX.out.2.2.1 fa (mZ hfa)) hlt2));have jE:Mem.le I J4:=eG HJ.out.2.2 pO.out.2.2.1;have YD:=ah (rF.mono jE hra);obtain⟨k0,k1,k2,k3⟩:=hca wr (fun i o hb=>hS2.p1.ext i o (jE i o hb));have hA2:=hS2.alloc (.cells #[.int .i64 pA,.int .i64 qA,.slice y1 e1 z1,.slice y2 e2 z2] 34);obtain⟨GA,Wx⟩:=aC (wr.heap.size);obtain⟨w4,hw4⟩:=aC (wr.alloc (.cells #[.int .i64 pA,.int .i64 qA,.slice y1 e1 z1,.slice y2 e2 z2] 34));rw[←Wx,←hw4] at hA2;have hA3:Sat W w4 (sep (aT 34 4 b2 m2 d2 vs2) (sep (kn J4) (sep (blk GA (.cells #[.int .i64 pA,.int .i64 qA,.slice y1 e1 z1,.slice y2 e2 z2] 34 (0,0))) X))):=dI hA2;have c0:=HXO.out w4 _ (show Sat W w4 (sep X (sep (aT 34 4 b2 m2 d2 vs2) (sep (kn J4) (blk GA (.cells #[.int .i64 pA,.int .i64 qA,.slice y1 e1 z1,.slice y2 e2 z2] 34 (0,0)))))) by simpa only[aA,au,aj] using hA2);have IQ:=ah hA3;have XT:=ah (aH Wx hw4);clear MW hyb hfa hra hca hS2 hlt2 hia hA2 hA3 Wx hw4 jE;go_upto_region 16 with fail;rw[←XT.out.1,←XT.out.2];clear k0 k1 k2 k3;go_wp2_with fail;clear c0;go_loopw [7,70] (fun ov iv wr=>∃(ib m3 d3:Nat) (b3:Option Addr) (vs3:List Value) (J5:Mem),ov=.slice b3 m3 d3∧iv=.int .i64 ib∧ib≤tn∧Hid (m3=(ol++y++(tp.take ib).map (fC fa)).length∧(∀(i:Nat) (fb:Fm),i<ib→tp[i]?=some fb→kQ (fC fa fb)=0)∧Mem.le J4 J5∧(rF.rows 4).rel J5 vs3 (ol++y++(tp.take ib).map (fC fa)))∧Sat W wr (sep (aT 34 4 b3 m3 d3 vs3) (sep (kn J5) (sep (blk GA (.cells #[.int .i64 pA,.int .i64 qA,.slice y1 e1 z1,.slice y2 e2 z2] 34 (0,0))) X)))) (fun _ iv _=>tn-(intOf iv).toNat)
         case atStart=>exact⟨0,m2,d2,b2,vs2,J4,rfl,rfl,by omega,ah ⟨by simp only[List.take_zero,List.map_nil,List.append_nil];exact pO.out.1,fun i fb hi _=>absurd hi (Nat.not_lt_zero _),bW _,by simp only[List.take_zero,List.map_nil,List.append_nil];exact pO.out.2.2.2⟩,IQ.out⟩
         case round=>
          obtain⟨ib,m3,d3,b3,vs3,J5,rfl,rfl,hib,tH,hS3⟩:=hrel;clear IQ;by_cases hlt3:ib<tn
          ·as_aux_lemma=>
           have adI:(ib:Int)<(tn:Int):=by omega
           obtain⟨fb,hfb⟩:∃fb,tp[ib]?=some fb:=⟨_,iM (by have:=HT.out.1;omega)⟩
           obtain⟨bb,ob,pB,qB,v1,f1,g1,v2,f2,g2,rfl,hrb,hcb⟩:=gY HT.out.2.2 hfb;have Eh:Mem.le J1 J5:=eG (eG HV.out.2.2.1 pO.out.2.2.1) tH.out.2.2.1;obtain⟨k0,k1,k2,k3⟩:=hcb wr (fun i o hb=>hS3.p1.ext i o (Eh i o hb));have U8:=ah (aH (rF.mono tH.out.2.2.1 YD.out) (rF.mono Eh hrb));have OI:=ah (aH hfb (aH (HX.out.2.2.2.2 fb (mZ hfb)) hlt3));have HM3:Hid (m3+1≤64):=ah (by
            have h1:=tH.out.1;rw[dM,dM,List.length_map,List.length_take,Nat.min_eq_left (by have:=HT.out.1;omega)] at h1;have:=HYB.out;have:=HT.out.1;have:=H64.out;have:=HV.out.1;omega)
           obtain⟨CA,hCA⟩:=aC (blk GA (.cells #[.int .i64 pA,.int .i64 qA,.slice y1 e1 z1,.slice y2 e2 z2] 34 (0,0)));have hA2:=hS3.alloc (.cells #[.int .i64 pB,.int .i64 qB,.slice v1 f1 g1,.slice v2 f2 g2] 34);obtain⟨GB,hGB⟩:=aC (wr.heap.size);obtain⟨w5,hw5⟩:=aC (wr.alloc (.cells #[.int .i64 pB,.int .i64 qB,.slice v1 f1 g1,.slice v2 f2 g2] 34));rw[←hGB,←hw5,←hCA] at hA2;obtain⟨Z,hZ⟩:=aC (sep (blk GB (.cells #[.int .i64 pB,.int .i64 qB,.slice v1 f1 g1,.slice v2 f2 g2] 34 (0,0))) (sep CA (sep (aT 34 4 b3 m3 d3 vs3) X)));have HZ:Hid (∀w' Y,Sat W w' (sep Z Y)→(w'.cell? ⟨GA,0,none⟩=some (.int .i64 pA)∧w'.cell? ⟨GA,1,none⟩=some (.int .i64 qA)∧w'.cell? ⟨GA,2,none⟩=some (.slice y1 e1 z1)∧w'.cell? ⟨GA,3,none⟩=some (.slice y2 e2 z2))∧w'.cell? ⟨GB,0,none⟩=some (.int .i64 pB)∧w'.cell? ⟨GB,1,none⟩=some (.int .i64 qB)∧w'.cell? ⟨GB,2,none⟩=some (.slice v1 f1 g1)∧w'.cell? ⟨GB,3,none⟩=some (.slice v2 f2 g2)):=ah fun w' Y h'=>by
            rw[hZ] at h';simp only[aj] at h';have h8:=h'.p1;rw[hCA] at h8;exact⟨lH h8,lH h'⟩
           have HZO:Hid (∀w' Y,Sat W w' (sep Z Y)→Sat W w' (sep (aT 34 4 b3 m3 d3 vs3) (sep Y (sep CA X)))):=ah fun w' Y h'=>by
            rw[hZ] at h';simp only[aj] at h';have h8:=h'.forget;simpa only[aA,au,aj] using h8
           have hZ5:Sat W w5 (sep (kn J5) Z):=by rw[hZ];simpa only[aA,au,aj] using hA2
           have hd:=hZ5.drew;obtain⟨wd,hwd⟩:=aC (w5.drew);rw[←hwd] at hd;have hS0:=HZ.out wd _ (show Sat W wd (sep Z (kn J5)) by rw[aA];exact hd);have hT0:Sat W wd (prT 34 27 J5 fa.parts fb.parts Z (fun _=>none)):=
            sN.2 ⟨J5,⟨bW _,fun _ h=>(by cases h),fun _ h=>(by cases h),fun _ h=>(by cases h),fun _ h=>(by cases h),fun _ h=>(by cases h)⟩,by
             show Sat W wd (sep (kn J5) (sep emp Z));rw[jc];exact hd⟩
           have OL:=ah (fun w' A' J' (hl:Mem.le J5 J') (h':Sat W w' (sep (kn J') A'))=>Bh (I:=J') fa pA qA y1 e1 z1 y2 e2 z2 (rF.mono hl U8.out.1) h');have rW:=ah (fun w' A' J' (hl:Mem.le J5 J') (h':Sat W w' (sep (kn J') A'))=>Bh (I:=J') fb pB qB v1 f1 g1 v2 f2 g2 (rF.mono hl U8.out.2) h');have hpl:fa.parts.length≤97∧fb.parts.length≤97:=by
            have key:∀l:List Fm,l.length≤Fm.sizes l:=by
             intro l
             induction l with
             | nil=>simp
             | cons g l ih=>
              rw[Fm.sizes,oP];have:1≤g.size:=by cases g;rw[Fm.size];omega
              omega
            have h1:=key fa.parts;have h2:=key fb.parts;have h3:=lK fa;have h4:=lK fb;have:=QU.out.2.1.1;have:=OI.out.2.1.1;omega
           have YC:=ah hpl;have HT0:=ah hT0;have acC:=ah (aH hGB hw5);have jY:=ah hwd;clear hrb hcb Eh hfb hS3 hlt3 hib hA2 hGB hw5 hZ hZ5 hd hwd hT0 hpl;go_upto_region 19 with fail;rw[←acC.out.1,←acC.out.2];clear k0 k1 k2 k3;go_cut [17] from 74 to 88 (fun v wx=>∃(g:Nat) (pa:Option Addr) (pm pd:Nat) (J6:Mem),v=.pointer (some ⟨g,0,none⟩)∧Mem.le J5 J6∧rF.rel J6 [.int .i64 4,.int .i64 0,.slice none 0 0,.slice pa pm pd] (fC fa fb)∧Sat W wx (sep (blk g (.cells #[.int .i64 4,.int .i64 0,.slice none 0 0,.slice pa pm pd] 34 (0,0))) (sep (kn J6) (sep (aT 34 4 b3 m3 d3 vs3) (sep CA X)))))
           case first=>
            as_aux_lemma=>
            refine fE rfl (fun w'=>(w'.cell? ⟨GA,0,none⟩=some (.int .i64 pA)∧w'.cell? ⟨GA,1,none⟩=some (.int .i64 qA)∧w'.cell? ⟨GA,2,none⟩=some (.slice y1 e1 z1)∧w'.cell? ⟨GA,3,none⟩=some (.slice y2 e2 z2))∧w'.cell? ⟨GB,0,none⟩=some (.int .i64 pB)∧w'.cell? ⟨GB,1,none⟩=some (.int .i64 qB)∧w'.cell? ⟨GB,2,none⟩=some (.slice v1 f1 g1)∧w'.cell? ⟨GB,3,none⟩=some (.slice v2 f2 g2)) [.one 0 .s,.one 2 .s,.grp true [(1,[]),(3,[]),(4,[]),(5,[]),(6,[]),(7,[])],.one 8 (.e false)] (by kernel_rfl) ?_;rw[←jY.out];refine mG ?_;refine Dp (n:=6) rfl ?_;clear hS0;refine kL [1,3,4,5,6,7] prD (prT 34 27 J5 fa.parts fb.parts Z) (by kernel_rfl) (by kernel_rfl) ?_ ?_ ?_ 6 [1,3,4,5,6,7] (fun _=>none) wd rfl (by decide) (fun z=>by simp) (fun _ _ h=>by cases h) HT0.out
            ·intro _ f w' hT
             obtain⟨J,-,hq⟩:=sN.1 hT;exact HZ.out w' _ (show Sat W w' (sep Z (sep (kn J) (UZ 34 f))) by simpa only[aA,au,aj] using hq)
            ·intro i hi f w' o' ho hfi fK hcl hT
             simp only[List.mem_cons,List.not_mem_nil,or_false] at hi;have hz:∀d,d∈prD i→∃v,f d=some v:=fun d hd=>cO (fK d hd)
             obtain⟨J,hp,hq⟩:=sN.1 hT;have HP:=ah (aH hp (aH hq hT));clear fK hT hcl hp hq HT0;rcases hi with rfl|rfl|rfl|rfl|rfl|rfl
             ·as_aux_lemma=>
              cases ho;clear hz;refine .inl (.inr ⟨232,#[.agg #[.int .i64 pA,.int .i64 qA,.slice y1 e1 z1,.slice y2 e2 z2]],w',?_,(OL.out w' _ J HP.out.1.le HP.out.2.1).mono ?_⟩)
              ·simp[dB,List.filter,prD,aU,Act.put]
               (go_simp;try rfl)
              ·rintro e w'' ⟨aR,nR,cR,JR,rfl,hnR,P6,hrR,hR⟩
               exact⟨_,rfl,uU (by decide) (HP.out.1.set hfi P6 (fun _=>⟨aR,nR,cR,rfl,hnR,hrR⟩) (fun e=>by cases e) (fun e=>by cases e) (fun e=>by cases e) (fun e=>by cases e)) hR⟩
             ·as_aux_lemma=>
              cases ho;clear hz;refine .inl (.inr ⟨232,#[.agg #[.int .i64 pB,.int .i64 qB,.slice v1 f1 g1,.slice v2 f2 g2]],w',?_,(rW.out w' _ J HP.out.1.le HP.out.2.1).mono ?_⟩)
              ·simp[dB,List.filter,prD,aU,Act.put]
               (go_simp;try rfl)
              ·rintro e w'' ⟨aR,nR,cR,JR,rfl,hnR,P6,hrR,hR⟩
               exact⟨_,rfl,uU (by decide) (HP.out.1.set hfi P6 (fun e=>by cases e) (fun _=>⟨aR,nR,cR,rfl,hnR,hrR⟩) (fun e=>by cases e) (fun e=>by cases e) (fun e=>by cases e)) hR⟩
             ·as_aux_lemma=>
              cases ho;obtain⟨u1,hu1⟩:=hz 1 (by decide);obtain⟨u3,hu3⟩:=hz 3 (by decide);obtain⟨hp,hq,-⟩:=HP.out;obtain⟨a1,m1,d1,rfl,hm1,hr1⟩:=hp.p1 u1 hu1;obtain⟨a3,m3',d3',rfl,hm3,hr3⟩:=hp.p3 u3 hu3;obtain⟨J',hle,hJ,h9⟩:=Ic #[.slice a1 m1 d1,.slice a3 m3' d3'] 27 hq;have HQ:=ah (aH hp (aH hle (aH hJ h9)));clear hp hq hz HP hle hJ h9 hr1 hr3 hm1 hm3;refine .inl (.inl ⟨.slice (some ⟨w'.heap.size,0,none⟩) 2 2,w'.alloc (.cells #[.slice a1 m1 d1,.slice a3 m3' d3'] 27),?_,uU (by decide) (HQ.out.1.set hfi HQ.out.2.1 (fun e=>by cases e) (fun e=>by cases e) (fun _=>⟨_,_,_,hu1,hu3,rfl,HQ.out.2.2.1⟩) (fun e=>by cases e) (fun e=>by cases e)) HQ.out.2.2.2⟩)
              ·simp[dB,List.filter,prD,hu1,hu3,aU,Act.put]
               (go_simp;try rfl)
             ·as_aux_lemma=>
              cases ho;obtain⟨u4,hu4⟩:=hz 4 (by decide);obtain⟨hp,hq,-⟩:=HP.out;obtain⟨g,u1,u3,hu1,hu3,rfl,hJg⟩:=hp.p4 u4 hu4;obtain⟨a1,m1,d1,rfl,hm1,hr1⟩:=hp.p1 u1 hu1;obtain⟨a3,m3',d3',rfl,hm3,hr3⟩:=hp.p3 u3 hu3;have hg:∀w',Ext J w'→w'.cell? ⟨g,0,none⟩=some (.slice a1 m1 d1)∧w'.cell? ⟨g,1,none⟩=some (.slice a3 m3' d3'):=fun w' he=>by
               have h0:=he g _ hJg;constructor<;>simp[World.cell?,h0]
              have hcc:=Ji g a1 m1 d1 a3 m3' d3' fa.parts fb.parts hr1 hr3 (by have:=YC.out;omega) hg hq;have hsum:m1+m3'=(fa.parts++fb.parts).length:=by rw[dM];omega
              have HQ:=ah (aH hp (aH hcc hsum));clear hp hq hz HP hr1 hr3 hm1 hm3 hg hcc hJg hsum;refine .inl (.inr ⟨231,#[.slice (some ⟨g,0,none⟩) 2 2],w',?_,HQ.out.2.1.mono ?_⟩)
              ·simp[dB,List.filter,prD,hu4,aU,Act.put]
               (go_simp;try rfl)
              ·rintro e w'' ⟨aR,nR,cR,vR,rfl,hnR,hrR,hR⟩
               obtain⟨J',hle,hr',h'⟩:=jA hrR (hnR.trans HQ.out.2.2) hR;exact⟨_,rfl,uU (by decide) (HQ.out.1.set hfi hle (fun e=>by cases e) (fun e=>by cases e) (fun e=>by cases e) (fun _=>⟨aR,nR,cR,rfl,hr'⟩) (fun e=>by cases e)) h'⟩
             ·as_aux_lemma=>
              cases ho;obtain⟨u5,hu5⟩:=hz 5 (by decide);obtain⟨hp,hq,-⟩:=HP.out;obtain⟨a5,m5,d5,rfl,-⟩:=hp.p5 u5 hu5;have HQ:=ah (aH hp hq);clear hp hq hz HP;refine .inl (.inl ⟨.agg #[.int .i64 4,.int .i64 0,.slice none 0 0,.slice a5 m5 d5],w',?_,uU (by decide) (HQ.out.1.set hfi (bW _) (fun e=>by cases e) (fun e=>by cases e) (fun e=>by cases e) (fun e=>by cases e) (fun _=>⟨_,hu5,rfl⟩)) HQ.out.2⟩)
              ·simp[dB,List.filter,prD,hu5,aU,Act.put]
               (go_simp;try rfl)
             ·as_aux_lemma=>
              cases ho;clear hz;refine .inl (.inl ⟨.pointer (some ⟨w'.heap.size,0,none⟩),w'.alloc (.cells #[.int .i64 0,.int .i64 0,.slice none 0 0,.slice none 0 0] 34),?_,prT_7 hfi (fun J hJ=>hJ.alloc _) HP.out.2.2⟩)
              ·simp[dB,List.filter,prD,aU,Act.put]
               (go_simp;try rfl)
            ·as_aux_lemma=>
             intro f w' hall hT;obtain⟨u1,hu1⟩:=cO (hall 1 (by decide));obtain⟨u3,hu3⟩:=cO (hall 3 (by decide));obtain⟨u4,hu4⟩:=cO (hall 4 (by decide));obtain⟨u5,hu5⟩:=cO (hall 5 (by decide));obtain⟨u6,hu6⟩:=cO (hall 6 (by decide));obtain⟨u7,hu7⟩:=cO (hall 7 (by decide));obtain⟨J,hp,hq⟩:=sN.1 hT;obtain⟨u,hu,rfl⟩:=hp.p6 u6 hu6;obtain⟨qa,qn,qc,rfl,hrl⟩:=hp.p5 u hu;rw[hu5] at hu;cases hu;have hlen:qn=(fa.parts++fb.parts).length:=(aJ hrl).1;unfold UZ at hq;rw[hu7] at hq;have hq2:=hq.p1;simp only at hq2;rw[fP,Sat.ex] at hq2;obtain⟨g,hq2⟩:=hq2;rw[aj] at hq2;obtain⟨rfl,hB⟩:=Sat.fact.1 hq2;obtain⟨k0,k1,k2,k3⟩:=lH hB;have v0:w'.frozen? ⟨g,0,none⟩=false:=hB.aI 0;have v1':w'.frozen? ⟨g,1,none⟩=false:=hB.aI 1;have v2':w'.frozen? ⟨g,2,none⟩=false:=hB.aI 2;have v3':w'.frozen? ⟨g,3,none⟩=false:=hB.aI 3;have hB2:=RG hB (.int .i64 4) (.int .i64 0) (.slice none 0 0) (.slice qa qn qc);obtain⟨wz,hwz⟩:=aC ((((w'.setCell ⟨g,0,none⟩ (.int .i64 4)).setCell ⟨g,1,none⟩ (.int .i64 0)).setCell ⟨g,2,none⟩ (.slice none 0 0)).setCell ⟨g,3,none⟩ (.slice qa qn qc));rw[←hwz] at hB2;have hB3:=HZO.out wz _ (show Sat W wz (sep Z (sep (blk g (.cells #[.int .i64 4,.int .i64 0,.slice none 0 0,.slice qa qn qc] 34 (0,0))) (kn J))) by simpa only[aA,au,aj] using hB2);have HB3:Hid (Sat W wz (sep (blk g (.cells #[.int .i64 4,.int .i64 0,.slice none 0 0,.slice qa qn qc] 34 (0,0))) (sep (kn J) (sep (aT 34 4 b3 m3 d3 vs3) (sep CA X))))):=ah (dI hB3);have HQ:=ah (aH hp.le (aH hrl hlen));have HWZ:=ah hwz;simp only[dB,List.foldl,hu1,hu3,hu4,hu5,hu6,hu7,aU];clear hq hq2 hB hB2 hB3 hwz hrl hlen hp hT hall hu1 hu3 hu4 hu5 hu6 hu7;simp only[Act.put,Ec,Ed,Ee,Option.bind_some,lsA,lsB,lq]
             (refine J_e rfl rfl (fun K hK=>?_);go_simp)
             rw[←HWZ.out];refine dY ?_;clear hK K;refine mG ?_;refine wM ?_;clear k0 k1 k2 k3 v0 v1' v2' v3';go_wp2;go_meet;case rel=>exact⟨g,qa,qn,qc,J,rfl,HQ.out.1,by rw[HQ.out.2.2];exact jH (by rw[←HQ.out.2.2];exact HQ.out.2.1),HB3.out⟩
           case rest=>
            as_aux_lemma=>
            obtain⟨g,pa,pm,pd,J6,rfl,yK,OQ,hSw⟩:=hcut;obtain⟨k0,k1,k2,k3⟩:=lH hSw;have wK:=ah (mF (fC fa fb) 4 0 none 0 0 pa pm pd OQ (by have h1:=EL fa fb;have:=QU.out.2.1.1;have:=OI.out.2.1.1;unfold qI;omega) (KL.pair QU.out.2.1.2 OI.out.2.1.2) hSw.p1);obtain⟨fe,hfe⟩:=aC (kQ (fC fa fb));rw[←hfe] at wK;have xw:=ah hfe;have KU:=ah (aH yK OQ);clear yK OQ hSw hfe hS0 HT0 HZ HZO;go_wp2_with fail;refine wK.out.mono ?_;rintro e w3 ⟨rfl,h3⟩;clear k0 k1 k2 k3 wK;have H3:=ah (show Sat W w3 (sep (blk g (.cells #[.int .i64 4,.int .i64 0,.slice none 0 0,.slice pa pm pd] 34 (0,0))) (sep (kn J6) (sep (aT 34 4 b3 m3 d3 vs3) (sep CA X)))) from h3.p1);clear h3;by_cases he0:fe=0
            ·subst he0
             obtain⟨k0,k1,k2,k3⟩:=lH H3.out;have oD:=ah (jm w3 [.int .i64 4,.int .i64 0,.slice none 0 0,.slice pa pm pd] 34);have ug:=ah (H3.out.drop.p1.iy (.cells #[.int .i64 4,.int .i64 0,.slice none 0 0,.slice pa pm pd] 34));clear H3;go_upto_region 22 with fail;go_wp2_with (at_builtin;refine aK rfl _ _ 27 rfl 34 4 64 _ Tryz.underlying27 iQ rfl rfl ug.out rfl [.int .i64 4,.int .i64 0,.slice none 0 0,.slice pa pm pd] rfl (by simp) (by intro b' hb;cases hb;exact oD.out) (zf KU.out.2) (by have:=HM3.out;omega) (by unfold maxLen;have:=HM3.out;omega) ?_)
             intro a7 c7 w7 h7;have H7:=ah h7;clear h7 ug oD k0 k1 k2 k3;go_wp2;go_roundw;case rel=>
              have htk:tp.take (ib+1)=tp.take ib++[fb]:=by rw[List.take_add_one,OI.out.1];rfl
              refine⟨ib+1,m3+1,c7,a7,vs3++[.int .i64 4,.int .i64 0,.slice none 0 0,.slice pa pm pd],J6,rfl,by go_num,by have:=OI.out.2.2;omega,ah ⟨?_,fun i fb' hi hf=>?_,eG tH.out.2.2.1 KU.out.1,?_⟩,?_⟩
              ·rw[htk,qy,←kZ,dM,←tH.out.1];rfl
              ·rcases Nat.lt_succ_iff_lt_or_eq.1 hi with hi|rfl
               ·exact tH.out.2.1 i fb' hi hf
               ·rw[OI.out.1] at hf;cases hf;exact xw.out.symm
              ·rw[htk,qy,←kZ]
               exact gQ ((rF.rows 4).mono KU.out.1 tH.out.2.2.2) (jg KU.out.2 rfl)
              ·exact H7.out
             case measure=>simp[intOf];have:=OI.out.2.2;omega
            ·have he1:(fe !=0)=true:=by simpa using he0
             have he2:(fe==0)=false:=by simpa using he0
             have HF:Hid (av=none):=ah (by
              rw[HAY.out,xE (mZ QU.out.1) (mZ OI.out.1) (by rw[←xw.out];exact he0)])
             have HL:Hid (Mem.le I J6):=ah (eG (eG (eG HJ.out.2.2 pO.out.2.2.1) tH.out.2.2.1) KU.out.1);have h5:Sat W w3 (sep (kn J6) X):=by
              have h6:=H3.out.drop.p1.eu;have h7:Sat W w3 (sep CA (sep (kn J6) X)):=dI h6;exact h7.drop
             have HE:=ah (FZ.out w3 _ h5);clear he0 H3 h5;go_wp2_with fail;refine⟨by simp,.inl ⟨_,_,rfl,run_takeDeferred HE.out.1,?_⟩⟩;refine⟨.tuple #[.slice none 0 0,.bool false],?_,?_⟩
             ·simp[results,Tryz.results219,go_sem]
             ·rw[bK.out]
              exact⟨none,0,0,J6,by rw[HF.out];rfl,HL.out,fun y hy=>(by rw[HF.out] at hy;cases hy),HE.out.2⟩
          ·obtain rfl:ib=tn:=by omega
           have OY:Hid (Sat W wr (sep (aT 34 4 b3 m3 d3 vs3) (sep (kn J5) X))):=ah (show Sat W wr (sep (blk GA (.cells #[.int .i64 pA,.int .i64 qA,.slice y1 e1 z1,.slice y2 e2 z2] 34 (0,0))) (sep (aT 34 4 b3 m3 d3 vs3) (sep (kn J5) X))) by simpa only[aA,au,aj] using hS3).forget;clear hS3;go_wp2;go_roundw;case rel=>
            have htk:tp.take ib=tp:=List.take_of_length_le (by have:=HT.out.1;omega);have hv3:=tH.out;rw[htk] at hv3;refine⟨ia+1,m3,d3,b3,vs3,J5,y++tp.map (fC fa),rfl,by go_num,by have:=QU.out.2.2;omega,ah ⟨by rw[←kZ];exact hv3.1,AZ QU.out.1 pO.out.2.1 (N7 fun i fb hf=>hv3.2.1 i fb (by have:=(qM hf).1;have:=HT.out.1;omega) hf),eG pO.out.2.2.1 hv3.2.2.1,by rw[←kZ];exact hv3.2.2.2⟩,OY.out⟩
           case measure=>simp[intOf];have:=QU.out.2.2;omega
        ·obtain rfl:ia=xm:=by omega
         have OY:=ah hS2;clear hS2;go_wp2;go_roundw;case rel=>
          have hc:=pO.out.2.1;rw[List.take_of_length_le (by have:=SX.out.1;omega)] at hc;have hay:=HAY.out;rw[hc] at hay;have hm2:m2≤64:=by
           rw[pO.out.1,dM,lF hc,←HMT.out.2,←HV.out.1];have:=H64.out;omega
          exact⟨j+1,m2,d2,b2,vs2,J4,ol++y,rfl,by go_num,by have:=HJ.out.1;omega,hm2,ah ⟨pO.out.1,hay,eG HV.out.2.2.1 pO.out.2.2.1,pO.out.2.2.2⟩,OY.out⟩
         case measure=>simp[intOf];have:=HJ.out.1;omega
    ·obtain rfl:j=nr:=by omega
     have hfin:av=some ol:=by rw[HV.out.2.1];exact AP (by have:=HX.out.2.1;omega)
     obtain⟨J',hle',hr',h'⟩:=jA HV.out.2.2.2 HV.out.1 hS;have HE:=ah (FZ.out wr _ h');have HF:=ah (aH hfin (aH (eG wH hle') hr'));clear hfin hle' hr' h' hS wH H1;go_wp2_with fail;refine⟨by simp,.inl ⟨_,_,rfl,run_takeDeferred HE.out.1,?_⟩⟩;refine⟨.tuple #[.slice bO m d,.bool true],?_,?_⟩
     ·simp[results,Tryz.results219,go_sem]
     ·rw[bK.out]
      exact⟨bO,m,d,J',by rw[HF.out.1];rfl,HF.out.2.1,fun y hy=>(by rw[HF.out.1] at hy;cases hy;exact⟨HV.out.1,HF.out.2.2⟩),HE.out.2⟩
 case stop=>
  intro D c xs w' _ hS;exact absurd (Sat.fact.1 (show Sat W w' (sep (fact False) _) from hS.p1)).1 (fun h=>h)
end Go.Proofs.YthfmaclnccdcbaaGreatDoor
namespace PA
open Go Go.RowKit
def yC (l:List Cl) (J:Mem) (i:Nat) (fm:Int→Option Value):Prop:=
 ∀r:Nat,((if r<i then fU l r else none)=none→fm r=none)∧∀y,(if r<i then fU l r else none)=some y→∃(a:Option Addr) (m d:Nat),fm r=some (.slice a m d)∧m=y.length∧(rF.slice 4).rel J [.slice a m d] y
theorem yC.zero (l:List Cl) (J:Mem):yC l J 0 (fun _=>none):=fun r=>⟨fun _=>rfl,fun y h=>by rw[if_neg (Nat.not_lt_zero r)] at h;cases h⟩
theorem yC.no {l:List Cl} {J:Mem} {i:Nat} {fm:Int→Option Value} (h:yC l J i fm):fm i=none:=(h i).1 (if_neg (Nat.lt_irrefl i))
theorem yC.skip {l:List Cl} {J J':Mem} {i:Nat} {fm:Int→Option Value} (h:yC l J i fm) (hl:Mem.le J J') (hn:fU l i=none):yC l J' (i+1) fm:=fun r=>by
 obtain⟨h1,h2⟩:=h r;have e:(if r<i+1 then fU l r else none)=if r<i then fU l r else none:=by
  by_cases hr:r<i
  ·rw[if_pos hr,if_pos (by omega)]
  ·rw[if_neg hr]
   by_cases hr':r<i+1
   ·rw[if_pos hr',show r=i by omega,hn]
   ·rw[if_neg hr']
 rw[e];exact⟨h1,fun y hy=>by obtain⟨a,m,d,e1,e2,e3⟩:=h2 y hy;exact⟨a,m,d,e1,e2,(rF.slice 4).mono hl e3⟩⟩
theorem yC.put {l:List Cl} {J J':Mem} {i:Nat} {fm:Int→Option Value} (h:yC l J i fm) (hl:Mem.le J J') {y:List Fm} (hn:fU l i=some y) {a:Option Addr} {m d:Nat} (hm:m=y.length) (hr:(rF.slice 4).rel J' [.slice a m d] y):
 yC l J' (i+1) (mY fm i (some (.slice a m d))):=fun r=>by
 by_cases hri:r=i
 ·subst hri
  rw[if_pos (by omega),hn];refine⟨fun h=>(by cases h),fun y' h'=>?_⟩;cases h';exact⟨a,m,d,by unfold mY;rw[if_pos rfl],hm,hr⟩
 ·obtain⟨h1,h2⟩:=h r
  have e:(if r<i+1 then fU l r else none)=if r<i then fU l r else none:=by
   by_cases hr:r<i
   ·rw[if_pos hr,if_pos (by omega)]
   ·rw[if_neg hr,if_neg (by omega)]
  have ef:mY fm i (some (.slice a m d)) r=fm r:=by unfold mY;rw[if_neg (by omega)]
  rw[e,ef];exact⟨h1,fun y hy=>by obtain⟨a,m,d,e1,e2,e3⟩:=h2 y hy;exact⟨a,m,d,e1,e2,(rF.slice 4).mono hl e3⟩⟩
theorem Sat.WM {W w:World} {A:aB} (h:Sat W w A):Sat W (w.alloc (.map #[] 0)) (sep (kW w.heap.size (fun _=>none) 0) A):=(h.alloc (.map #[] 0)).Jq gG.nil rfl
end PA
namespace Go.Proofs.YthfmaclnccdcbaaGreatDoor
open Go.RowKit PA
theorem QE (a:Option Addr) (n c j:Nat) (hj:j≤c) (w:World):(Instr.slice 28 (.slice a n c) none (some (.int .i64 (j:Int))) none).run Tryz.prog w=.ok (.slice a j c) w:=by
 have hu:=Tryz.underlying28;cases a with
 | none=>simp[Instr.slice,Instr.sliceBounds,Instr.sliceBound,go_sem];exact fun h=>absurd h (by omega)
 | some x=>simp[Instr.slice,Instr.sliceBounds,Instr.sliceBound,go_sem,Addr.add];exact fun h=>absurd h (by omega)
set_option maxRecDepth 100000 in
set_option maxHeartbeats 4000000 in
theorem Uf {W w:World} {A:aB} {I:Mem} (a:Option Addr) (n c:Nat) (l:List Cl) (hv:(lM.slice 5).rel I [.slice a n c] l) (hok:qQ l=0) (hB:∀x∈l,KQ x.body) (k:Nat) (hk:k<l.length) (h:Sat W w (sep (kn I) A)):
 Calls Tryz.prog 218 #[.slice a n c,.int .i64 (k:Nat)] w fun e w'=>e=.returned (.int .i64 0)∧Sat W w' (sep (kn I) A):=by
 have hn:=(aJ hv).1;have hn63:=(aJ hv).2.2;have hvs:=nI a n c l hv hB h;rw[hok] at hvs;have HV:=ah hvs;have hkz:(k:Int)<(n:Int):=by omega
 have hk0:¬(k:Int)<0:=by omega
 clear hvs h hv hB hok hn hk;go_enter Tryz.func218,Tryz.ntmps218;go_wp2_with fail;refine HV.out.mono ?_;rintro e w2 ⟨rfl,h2⟩;have H2:=ah h2;clear h2 HV;go_wp2;go_ret;exact⟨rfl,H2.out⟩
set_option maxRecDepth 100000 in
set_option maxHeartbeats 8000000 in
theorem Ue {W w:World} {A:aB} {I:Mem} (a:Option Addr) (n c:Nat) (l:List Cl) (hv:(lM.slice 5).rel I [.slice a n c] l) (hok:qQ l=0) (hB:∀x∈l,KQ x.body) (k:Nat) (hk:k<l.length) (h:Sat W w (sep (kn I) A)):
 Calls Tryz.prog 201 #[.slice a n c,.int .i64 (k:Nat)] w fun e w'=>∃(b:Option Addr) (m d:Nat) (J:Mem),e=.returned (.tuple #[.slice b m d,.int .i64 (if (fU l k).isSome=true then 0 else 4)])∧Mem.le I J∧(∀y,fU l k=some y→m=y.length∧(rF.slice 4).rel J [.slice b m d] y)∧Sat W w' (sep (kn J) A):=by
 have hn:=(aJ hv).1;have hn63:=(aJ hv).2.2;have hsw:n≤c:=by
  obtain⟨a',c',cells,e,hsw,-,-⟩:=hv;simp only[List.cons.injEq,Value.slice.injEq,and_true] at e;obtain⟨rfl,rfl,rfl⟩:=e;rw[hn];exact hsw.1
 have h32:=(uG hok).1;have pU:=ah (Uf a n c l hv hok hB k hk h);have hpre:=QE a n c (k+1) (by omega);have hpre':∀w,(Instr.slice 28 (.slice a n c) none (some (.int .i64 ((k:Int)+1))) none).run Tryz.prog w=.ok (.slice a (k+1) c) w:=fun w=>by
  have:=hpre w;simpa using this
 have hmm:=@run_makeMap Tryz.prog;have hIv:∀r y,fU l r=some y→y.length≤64∧∀f∈y,f.size≤96∧KL f:=fun r y hy=>⟨yF hy,fun f hf=>⟨GX hok hy f hf,altN_Q (Q:=KL) (fun a b ha hb=>KL.pair ha hb) (fun x hx g hg=>KL.dO (f:=x.body) (hB x hx).2 hg) r y hy f hf⟩⟩
 obtain⟨av,hav⟩:=aC (fU l k);rw[←hav];obtain⟨Po,dS⟩:∃P:Ending→World→Prop,P=fun e w'=>∃(b:Option Addr) (m d:Nat) (J:Mem),e=.returned (.tuple #[.slice b m d,.int .i64 (if av.isSome=true then 0 else 4)])∧Mem.le I J∧(∀y,av=some y→m=y.length∧(rF.slice 4).rel J [.slice b m d] y)∧Sat W w' (sep (kn J) A):=⟨_,rfl⟩
 rw[←dS];have bK:=ah dS;have HX:=ah (aH hv (aH hok (aH hB (aH hIv (aH hav (aH hk hn))))));have hkz:(k:Int)<32:=by omega
 clear hv hok hB hIv hav dS h hpre hsw h32 hn hk;go_enter Tryz.func201,Tryz.ntmps201;go_wp2_with fail;refine pU.out.mono ?_;rintro e w2 ⟨rfl,h2⟩;have h3:=Sat.WM h2;obtain⟨mb,hmb⟩:=aC (w2.heap.size);obtain⟨w3,hw3⟩:=aC (w2.alloc (.map #[] 0));rw[←hmb,←hw3] at h3;have H3:=ah (show Sat W w3 (sep (kn I) (sep (kW mb (fun _=>none) 0) A)) from h3.p1);have HW3:=ah (aH hmb hw3);clear h2 h3 hmb hw3 pU;go_upto_region 5 with fail;rw[←HW3.out.1,←HW3.out.2];go_wp2_with fail;go_loopw [26] (fun iv wr=>∃(i nm:Nat) (fm:Int→Option Value) (J:Mem),iv=.int .i64 i∧i≤k+1∧Hid (yC l J i fm∧Mem.le I J)∧Sat W wr (sep (kn J) (sep (kW mb fm nm) A))) (fun iv _=>k+1-(intOf iv).toNat)
 case atStart=>exact⟨0,0,_,I,rfl,by omega,ah ⟨yC.zero l I,bW _⟩,H3.out⟩
 case round=>
  obtain⟨i,nm,fm,J,rfl,hi,HV,hS⟩:=hrel;clear H3;by_cases hlt:i<k+1
  ·as_aux_lemma=>
   have hltz:(i:Int)<((k+1:Nat):Int):=by omega
   obtain⟨x,hx⟩:∃x,l[i]?=some x:=⟨_,iM (by have:=HX.out.2.2.2.2.2.1;omega)⟩
   obtain⟨b,o,ra,rc,p,q,x1,n1,c1,x2,n2,c2,rfl,hrr,hrb,hcell⟩:=vH HX.out.1 hx;obtain⟨hr8,OQ,hbe⟩:x.refs.length≤8∧kK x.refs i=true∧kQ x.body=0:=by
    obtain⟨hk',e⟩:=qM hx;have:=(uG HX.out.2.1).2 i hk'
    rwa [e] at this
   obtain⟨j0,j1,j2,j3,j4⟩:=hcell wr (fun g u hb=>hS.ext g u (HV.out.2 g u hb));obtain⟨nr,hnr⟩:=aC (x.refs.length);have hae:=CG hx;obtain⟨al,hal⟩:=aC (fU l i);have hcall:∀w' A',Sat W w' (sep (kn J) (sep (kW mb fm nm) A'))→Calls Tryz.prog 219 #[.agg #[.slice ra x.refs.length rc,.int .i64 p,.int .i64 q,.slice x1 n1 c1,.slice x2 n2 c2],.map (some mb)] w' fun e w''=>∃(b:Option Addr) (m d:Nat) (J':Mem),e=.returned (.tuple #[.slice b m d,.bool al.isSome])∧Mem.le J J'∧(∀y,al=some y→m=y.length∧(rF.slice 4).rel J' [.slice b m d] y)∧Sat W w'' (sep (kn J') (sep (kW mb fm nm) A')):=fun w' A' h'=>by
    rw[hal,hae];exact Qh x ra rc p q x1 n1 c1 x2 n2 c2 mb (fun r=>if r<i then fU l r else none) fm nm ((sO.slice 1).mono HV.out.2 hrr) (rF.mono HV.out.2 hrb) hr8 (fun r hr=>(Ak OQ r hr).1) hbe (HX.out.2.2.1 x (mZ hx)).2
     (fun r=>⟨(HV.out.1 r).1,fun y hy=>⟨(HV.out.1 r).2 y hy,by
      by_cases hri:r<i
      ·rw[if_pos hri] at hy;exact HX.out.2.2.2.1 r y hy
      ·rw[if_neg hri] at hy;cases hy⟩⟩) h'
   have hAl:=hS.alloc (.cells #[.slice ra x.refs.length rc,.int .i64 p,.int .i64 q,.slice x1 n1 c1,.slice x2 n2 c2] 91);rw[←hnr] at hAl j0 hcall;obtain⟨M,hM⟩:=aC (wr.heap.size);obtain⟨w4,hw4⟩:=aC (wr.alloc (.cells #[.slice ra nr rc,.int .i64 p,.int .i64 q,.slice x1 n1 c1,.slice x2 n2 c2] 91));rw[←hM,←hw4] at hAl;obtain⟨k0,k1,k2,k3,k4⟩:=cl5 hAl;have IX:=ah (aH hM hw4);have HC:=ah (hcall w4 _ (show Sat W w4 (sep (kn J) (sep (kW mb fm nm) (sep (blk M (.cells #[.slice ra nr rc,.int .i64 p,.int .i64 q,.slice x1 n1 c1,.slice x2 n2 c2] 91 (0,0))) A))) by simpa only[aA,au,aj] using hAl));have ug:=ah (aH hal hlt);clear hcall hAl hM hw4 hae hal hnr hr8 OQ hbe hcell hrr hrb hx hlt hi hS;go_upto_region 8 with fail;rw[←IX.out.1,←IX.out.2];clear j0 j1 j2 j3 j4;go_wp2_with fail;refine HC.out.mono ?_;rintro e w5 ⟨b5,m5,d5,J5,rfl,xO,hres,h5⟩;clear k0 k1 k2 k3 k4 HC;have h6:Sat W w5 (sep (kW mb fm nm) (sep (kn J5) A)):=by
    have h7:Sat W w5 (sep (blk M (.cells #[.slice ra nr rc,.int .i64 p,.int .i64 q,.slice x1 n1 c1,.slice x2 n2 c2] 91 (0,0))) (sep (kW mb fm nm) (sep (kn J5) A))):=dI h5;exact h7.drop
   cases al with
   | none=>
    have H6:=ah h6.p1;have HN:Hid (yC l J5 (i+1) fm∧Mem.le I J5):=ah ⟨HV.out.1.skip xO ug.out.1.symm,eG HV.out.2 xO⟩;clear h5 h6 hres xO;go_wp2;go_roundw;case rel=>exact⟨i+1,nm,fm,J5,by go_num,by have:=ug.out.2;omega,HN,H6.out⟩
    case measure=>simp[intOf];have:=ug.out.2;omega
   | some y=>
    obtain⟨hm5,hr5⟩:=hres y rfl;obtain⟨w6,hup,h7⟩:=Fg (P:=Tryz.prog) (T:=228) Tryz.underlying228 Tryz.underlying3 h6 (i:Int) (.slice b5 m5 d5) HV.out.1.no;have H7:=ah (show Sat W w6 (sep (kn J5) (sep (kW mb (mY fm i (some (.slice b5 m5 d5))) (nm+1)) A)) from h7.p1);have HN:Hid (yC l J5 (i+1) (mY fm i (some (.slice b5 m5 d5)))∧Mem.le I J5):=ah ⟨HV.out.1.put xO ug.out.1.symm hm5 hr5,eG HV.out.2 xO⟩;clear h5 h6 h7 hres xO hm5 hr5;go_wp2;go_roundw;case rel=>exact⟨i+1,nm+1,_,J5,by go_num,by have:=ug.out.2;omega,HN,H7.out⟩
    case measure=>simp[intOf];have:=ug.out.2;omega
  ·obtain rfl:i=k+1:=by omega
   have hlk:=nC (P:=Tryz.prog) (T:=228) Tryz.underlying228 Tryz.underlying3 SI hS.p1 (k:Int) true;obtain⟨ha1,ha2⟩:=HV.out.1 k;rw[if_pos (Nat.lt_succ_self k),←HX.out.2.2.2.2.1] at ha1 ha2;have HF:=ah (aH HV.out.2 (show Sat W wr (sep (kn J) A) by
    have:=hS.p1;obtain⟨es,cl,-,-,h9⟩:=this.Ad;exact h9.forget))
   clear hS hlt hi;cases av with
   | none=>
    rw[ha1 rfl] at hlk;simp only[Option.getD_none,Option.isSome_none,if_true] at hlk;clear ha1 ha2;go_wp2;rw[bK.out];exact⟨none,0,0,J,rfl,HF.out.1,fun y hy=>(by cases hy),HF.out.2⟩
   | some y=>
    obtain⟨a6,m6,d6,e1,e2,e3⟩:=ha2 y rfl;rw[e1] at hlk;simp only[Option.getD_some,Option.isSome_some,if_true] at hlk;have HE:=ah (aH e2 e3);clear ha1 ha2 e1 e2 e3;go_wp2;rw[bK.out];exact⟨a6,m6,d6,J,rfl,HF.out.1,fun y' hy=>(by cases hy;exact HE.out),HF.out.2⟩
end Go.Proofs.YthfmaclnccdcbaaGreatDoor
