/- Part of a proof. -/
import Derived.Test.YthfmaclnccdcbaaGreatDoorGActsValid20
namespace PA
open Go Go.RowKit
def vW (l:List Cl) (J:Mem) (i:Nat) (fm:Int→Option Value):Prop:=
 ∀r:Nat,((if r<i then eY l r else none)=none→fm r=none)∧∀y,(if r<i then eY l r else none)=some y→∃(a:Option Addr) (m d:Nat),fm r=some (.slice a m d)∧m=y.length∧(rF.slice 4).rel J [.slice a m d] y
theorem vW.zero (l:List Cl) (J:Mem):vW l J 0 (fun _=>none):=fun r=>⟨fun _=>rfl,fun y h=>by rw[if_neg (Nat.not_lt_zero r)] at h;cases h⟩
theorem vW.no {l:List Cl} {J:Mem} {i:Nat} {fm:Int→Option Value} (h:vW l J i fm):fm i=none:=(h i).1 (if_neg (Nat.lt_irrefl i))
theorem vW.skip {l:List Cl} {J J':Mem} {i:Nat} {fm:Int→Option Value} (h:vW l J i fm) (hl:Mem.le J J') (hn:eY l i=none):vW l J' (i+1) fm:=fun r=>by
 obtain⟨h1,h2⟩:=h r
 have e:(if r<i+1 then eY l r else none)=if r<i then eY l r else none:=by
  by_cases hr:r<i
  ·rw[if_pos hr,if_pos (by omega)]
  ·rw[if_neg hr]
   by_cases hr':r<i+1
   ·rw[if_pos hr',show r=i by omega,hn]
   ·rw[if_neg hr']
 rw[e]
 exact⟨h1,fun y hy=>by obtain⟨a,m,d,e1,e2,e3⟩:=h2 y hy;exact⟨a,m,d,e1,e2,(rF.slice 4).mono hl e3⟩⟩
theorem vW.put {l:List Cl} {J J':Mem} {i:Nat} {fm:Int→Option Value} (h:vW l J i fm) (hl:Mem.le J J') {y:List Fm} (hn:eY l i=some y) {a:Option Addr} {m d:Nat} (hm:m=y.length) (hr:(rF.slice 4).rel J' [.slice a m d] y):
 vW l J' (i+1) (kP fm i (some (.slice a m d))):=fun r=>by
 by_cases ZU:r=i
 ·subst ZU
  rw[if_pos (by omega),hn]
  refine⟨fun h=>(by cases h),fun y' h'=>?_⟩
  cases h'
  exact⟨a,m,d,by unfold kP;rw[if_pos rfl],hm,hr⟩
 ·obtain⟨h1,h2⟩:=h r
  have e:(if r<i+1 then eY l r else none)=if r<i then eY l r else none:=by
   by_cases hr:r<i
   ·rw[if_pos hr,if_pos (by omega)]
   ·rw[if_neg hr,if_neg (by omega)]
  have ef:kP fm i (some (.slice a m d)) r=fm r:=by unfold kP;rw[if_neg (by omega)]
  rw[e,ef]
  exact⟨h1,fun y hy=>by obtain⟨a,m,d,e1,e2,e3⟩:=h2 y hy;exact⟨a,m,d,e1,e2,(rF.slice 4).mono hl e3⟩⟩
theorem Sat.QI {W w:World} {A:aB} (h:Sat W w A):Sat W (w.alloc (.map #[] 0)) (sep (jF w.heap.size (fun _=>none) 0) A):=(h.alloc (.map #[] 0)).EN fD.nil rfl
end PA
namespace Go.Proofs.YthfmaclnccdcbaaGreatDoor
open Go.RowKit PA
theorem LG (a:Option Addr) (n c j:Nat) (hj:j≤c) (w:World):(Instr.slice 28 (.slice a n c) none (some (.int .i64 (j:Int))) none).run Tryz.prog w=.ok (.slice a j c) w:=by
 have hu:=Tryz.underlying28
 cases a with
 | none=>simp[Instr.slice,Instr.sliceBounds,Instr.sliceBound,go_sem];exact fun h=>absurd h (by omega)
 | some x=>simp[Instr.slice,Instr.sliceBounds,Instr.sliceBound,go_sem,Addr.add];exact fun h=>absurd h (by omega)
set_option maxRecDepth 100000 in
set_option maxHeartbeats 4000000 in
theorem OJ {W w:World} {A:aB} {I:Mem} (a:Option Addr) (n c:Nat) (l:List Cl) (hv:(kV.slice 5).rel I [.slice a n c] l) (hok:qF l=0) (hB:∀x∈l,IL x.body) (k:Nat) (hk:k<l.length) (h:Sat W w (sep (kn I) A)):
 Calls Tryz.prog 218 #[.slice a n c,.int .i64 (k:Nat)] w fun e w'=>e=.returned (.int .i64 0)∧Sat W w' (sep (kn I) A):=by
 have hn:=(aI hv).1
 have hn63:=(aI hv).2.2
 have hvs:=kY a n c l hv hB h
 rw[hok] at hvs
 have HV:=ah hvs
 have hkz:(k:Int)<(n:Int):=by omega
 have hk0:¬(k:Int)<0:=by omega
 clear hvs h hv hB hok hn hk
 go_enter Tryz.func218,Tryz.ntmps218
 go_wp2_with fail
 refine HV.out.mono ?_
 rintro e w2 ⟨rfl,h2⟩
 have H2:=ah h2
 clear h2 HV
 go_wp2
 go_ret
 exact⟨rfl,H2.out⟩
set_option maxRecDepth 100000 in
set_option maxHeartbeats 8000000 in
theorem OL {W w:World} {A:aB} {I:Mem} (a:Option Addr) (n c:Nat) (l:List Cl) (hv:(kV.slice 5).rel I [.slice a n c] l) (hok:qF l=0) (hB:∀x∈l,IL x.body) (k:Nat) (hk:k<l.length) (h:Sat W w (sep (kn I) A)):
 Calls Tryz.prog 201 #[.slice a n c,.int .i64 (k:Nat)] w fun e w'=>∃(b:Option Addr) (m d:Nat) (J:Mem),e=.returned (.tuple #[.slice b m d,.int .i64 (if (eY l k).isSome=true then 0 else 4)])∧Mem.le I J∧(∀y,eY l k=some y→m=y.length∧(rF.slice 4).rel J [.slice b m d] y)∧Sat W w' (sep (kn J) A):=by
 have hn:=(aI hv).1
 have hn63:=(aI hv).2.2
 have hsw:n≤c:=by
  obtain⟨a',c',cells,e,hsw,-,-⟩:=hv
  simp only[List.cons.injEq,Value.slice.injEq,and_true] at e
  obtain⟨rfl,rfl,rfl⟩:=e
  rw[hn];exact hsw.1
 have h32:=(qZ hok).1
 have mO:=ah (OJ a n c l hv hok hB k hk h)
 have hpre:=LG a n c (k+1) (by omega)
 have hpre':∀w,(Instr.slice 28 (.slice a n c) none (some (.int .i64 ((k:Int)+1))) none).run Tryz.prog w=.ok (.slice a (k+1) c) w:=fun w=>by
  have:=hpre w
  simpa using this
 have hmm:=@run_makeMap Tryz.prog
 have VE:∀r y,eY l r=some y→y.length≤64∧∀f∈y,f.size≤96∧Hq f:=fun r y hy=>⟨vX hy,fun f hf=>⟨Eb hok hy f hf,altN_Q (Q:=Hq) (fun a b ha hb=>Hq.pair ha hb) (fun x hx g hg=>Hq.cZ (f:=x.body) (hB x hx).2 hg) r y hy f hf⟩⟩
 obtain⟨av,hav⟩:=aC (eY l k)
 rw[←hav]
 obtain⟨Po,fK⟩:∃P:Ending→World→Prop,P=fun e w'=>∃(b:Option Addr) (m d:Nat) (J:Mem),e=.returned (.tuple #[.slice b m d,.int .i64 (if av.isSome=true then 0 else 4)])∧Mem.le I J∧(∀y,av=some y→m=y.length∧(rF.slice 4).rel J [.slice b m d] y)∧Sat W w' (sep (kn J) A):=⟨_,rfl⟩
 rw[←fK]
 have bP:=ah fK
 have HX:=ah (And.intro hv (And.intro hok (And.intro hB (And.intro VE (And.intro hav (And.intro hk hn))))))
 have hkz:(k:Int)<32:=by omega
 clear hv hok hB VE hav fK h hpre hsw h32 hn hk
 go_enter Tryz.func201,Tryz.ntmps201
 go_wp2_with fail
 refine mO.out.mono ?_
 rintro e w2 ⟨rfl,h2⟩
 have h3:=Sat.QI h2
 obtain⟨mb,hmb⟩:=aC (w2.heap.size)
 obtain⟨w3,hw3⟩:=aC (w2.alloc (.map #[] 0))
 rw[←hmb,←hw3] at h3
 have H3:=ah (show Sat W w3 (sep (kn I) (sep (jF mb (fun _=>none) 0) A)) from h3.p1)
 have HW3:=ah (And.intro hmb hw3)
 clear h2 h3 hmb hw3 mO
 go_upto_region 5 with (fail)
 rw[←HW3.out.1,←HW3.out.2]
 go_wp2_with fail
 go_loopw [26] (fun iv wr=>∃(i nm:Nat) (fm:Int→Option Value) (J:Mem),iv=.int .i64 i∧i≤k+1∧Hid (vW l J i fm∧Mem.le I J)∧Sat W wr (sep (kn J) (sep (jF mb fm nm) A))) (fun iv _=>k+1-(intOf iv).toNat)
 case atStart=>exact⟨0,0,_,I,rfl,by omega,ah ⟨vW.zero l I,Mem.le_refl _⟩,H3.out⟩
 case round=>
  obtain⟨i,nm,fm,J,rfl,hi,HV,hS⟩:=hrel
  clear H3
  by_cases hlt:i<k+1
  ·as_aux_lemma=>
   have hltz:(i:Int)<((k+1:Nat):Int):=by omega
   obtain⟨x,hx⟩:∃x,l[i]?=some x:=⟨_,List.getElem?_eq_getElem (by have:=HX.out.2.2.2.2.2.1;omega)⟩
   obtain⟨b,o,ra,rc,p,q,x1,n1,c1,x2,n2,c2,rfl,hrr,hrb,hcell⟩:=vO HX.out.1 hx
   obtain⟨Xl,Ku,hbe⟩:x.refs.length≤8∧jr x.refs i=true∧jO x.body=0:=by
    obtain⟨hk',e⟩:=List.getElem?_eq_some_iff.1 hx
    have:=(qZ HX.out.2.1).2 i hk'
    rwa [e] at this
   obtain⟨j0,j1,j2,j3,j4⟩:=hcell wr (fun g u hb=>hS.ext g u (HV.out.2 g u hb))
   obtain⟨nr,hnr⟩:=aC (x.refs.length)
   have hae:=zF hx
   obtain⟨al,hal⟩:=aC (eY l i)
   have hcall:∀w' A',Sat W w' (sep (kn J) (sep (jF mb fm nm) A'))→Calls Tryz.prog 219 #[.agg #[.slice ra x.refs.length rc,.int .i64 p,.int .i64 q,.slice x1 n1 c1,.slice x2 n2 c2],.map (some mb)] w' fun e w''=>∃(b:Option Addr) (m d:Nat) (J':Mem),e=.returned (.tuple #[.slice b m d,.bool al.isSome])∧Mem.le J J'∧(∀y,al=some y→m=y.length∧(rF.slice 4).rel J' [.slice b m d] y)∧Sat W w'' (sep (kn J') (sep (jF mb fm nm) A')):=fun w' A' h'=>by
    rw[hal,hae]
    exact Lr x ra rc p q x1 n1 c1 x2 n2 c2 mb (fun r=>if r<i then eY l r else none) fm nm ((oU.slice 1).mono HV.out.2 hrr) (rF.mono HV.out.2 hrb) Xl (fun r hr=>(xq Ku r hr).1) hbe (HX.out.2.2.1 x (List.mem_of_getElem? hx)).2
     (fun r=>⟨(HV.out.1 r).1,fun y hy=>⟨(HV.out.1 r).2 y hy,by
      by_cases ZU:r<i
      ·rw[if_pos ZU] at hy;exact HX.out.2.2.2.1 r y hy
      ·rw[if_neg ZU] at hy;cases hy⟩⟩) h'
   have hAl:=hS.alloc (.cells #[.slice ra x.refs.length rc,.int .i64 p,.int .i64 q,.slice x1 n1 c1,.slice x2 n2 c2] 91)
   rw[←hnr] at hAl j0 hcall
   obtain⟨M,hM⟩:=aC (wr.heap.size)
   obtain⟨w4,hw4⟩:=aC (wr.alloc (.cells #[.slice ra nr rc,.int .i64 p,.int .i64 q,.slice x1 n1 c1,.slice x2 n2 c2] 91))
   rw[←hM,←hw4] at hAl
   obtain⟨k0,k1,k2,k3,k4⟩:=cl5 hAl
   have Fp:=ah (And.intro hM hw4)
   have HC:=ah (hcall w4 _ (show Sat W w4 (sep (kn J) (sep (jF mb fm nm) (sep (blk M (.cells #[.slice ra nr rc,.int .i64 p,.int .i64 q,.slice x1 n1 c1,.slice x2 n2 c2] 91 (0,0))) A))) by simpa only[au,ak,aj] using hAl))
   have qH:=ah (And.intro hal hlt)
   clear hcall hAl hM hw4 hae hal hnr Xl Ku hbe hcell hrr hrb hx hlt hi hS
   go_upto_region 8 with (fail)
   rw[←Fp.out.1,←Fp.out.2]
   clear j0 j1 j2 j3 j4
   go_wp2_with fail
   refine HC.out.mono ?_
   rintro e w5 ⟨b5,m5,d5,J5,rfl,yX,hres,h5⟩
   clear k0 k1 k2 k3 k4 HC
   have h6:Sat W w5 (sep (jF mb fm nm) (sep (kn J5) A)):=by
    have h7:Sat W w5 (sep (blk M (.cells #[.slice ra nr rc,.int .i64 p,.int .i64 q,.slice x1 n1 c1,.slice x2 n2 c2] 91 (0,0))) (sep (jF mb fm nm) (sep (kn J5) A))):=by simpa only[au,ak,aj] using h5
    exact h7.drop
   cases al with
   | none=>
    have H6:=ah h6.p1
    have HN:Hid (vW l J5 (i+1) fm∧Mem.le I J5):=ah ⟨HV.out.1.skip yX qH.out.1.symm,Mem.le_trans HV.out.2 yX⟩
    clear h5 h6 hres yX
    go_wp2
    go_roundw
    case rel=>exact⟨i+1,nm,fm,J5,by go_num,by have:=qH.out.2;omega,HN,H6.out⟩
    case measure=>simp[intOf];have:=qH.out.2;omega
   | some y=>
    obtain⟨hm5,hr5⟩:=hres y rfl
    obtain⟨w6,hup,h7⟩:=Aw (P:=Tryz.prog) (T:=228) Tryz.underlying228 Tryz.underlying3 h6 (i:Int) (.slice b5 m5 d5) HV.out.1.no
    have H7:=ah (show Sat W w6 (sep (kn J5) (sep (jF mb (kP fm i (some (.slice b5 m5 d5))) (nm+1)) A)) from h7.p1)
    have HN:Hid (vW l J5 (i+1) (kP fm i (some (.slice b5 m5 d5)))∧Mem.le I J5):=ah ⟨HV.out.1.put yX qH.out.1.symm hm5 hr5,Mem.le_trans HV.out.2 yX⟩
    clear h5 h6 h7 hres yX hm5 hr5
    go_wp2
    go_roundw
    case rel=>exact⟨i+1,nm+1,_,J5,by go_num,by have:=qH.out.2;omega,HN,H7.out⟩
    case measure=>simp[intOf];have:=qH.out.2;omega
  ·obtain rfl:i=k+1:=by omega
   have hlk:=kM (P:=Tryz.prog) (T:=228) Tryz.underlying228 Tryz.underlying3 NI hS.p1 (k:Int) true
   obtain⟨ha1,ha2⟩:=HV.out.1 k
   rw[if_pos (Nat.lt_succ_self k),←HX.out.2.2.2.2.1] at ha1 ha2
   have HF:=ah (And.intro HV.out.2 (show Sat W wr (sep (kn J) A) by
    have:=hS.p1
    obtain⟨es,cl,-,-,h9⟩:=this.xu
    exact h9.forget))
   clear hS hlt hi
   cases av with
   | none=>
    rw[ha1 rfl] at hlk
    simp only[Option.getD_none,Option.isSome_none,if_true] at hlk
    clear ha1 ha2
    go_wp2
    rw[bP.out]
    exact⟨none,0,0,J,rfl,HF.out.1,fun y hy=>(by cases hy),HF.out.2⟩
   | some y=>
    obtain⟨a6,m6,d6,e1,e2,e3⟩:=ha2 y rfl
    rw[e1] at hlk
    simp only[Option.getD_some,Option.isSome_some,if_true] at hlk
    have HE:=ah (And.intro e2 e3)
    clear ha1 ha2 e1 e2 e3
    go_wp2
    rw[bP.out]
    exact⟨a6,m6,d6,J,rfl,HF.out.1,fun y' hy=>(by cases hy;exact HE.out),HF.out.2⟩
end Go.Proofs.YthfmaclnccdcbaaGreatDoor
namespace PA
open Go Go.RowKit
def oD:Fm→List UInt8
 | .mk o n i k=>PA.encI o++PA.encI n++PA.encI i.length++dZ i++PA.encI k.length
def lU (l:List Fm):List UInt8:=(l.map oD).flatten
theorem rG (a b:List Fm):lU (a++b)=lU a++lU b:=by unfold lU;rw[zi,List.flatten_append]
theorem OW (a:List Fm) (f:Fm):lU (a++[f])=lU a++oD f:=by rw[rG];simp[lU]
theorem LM:∀f:Fm,lU f.nodes=fM f:=by
 intro f
 refine Fm.ind (P:=fun f=>lU f.nodes=fM f) (fun o n i k ih=>?_) f
 have key:∀l:List Fm,(∀f∈l,lU f.nodes=fM f)→lU (Fm.bJ l)=jV l:=by
  intro l
  induction l with
  | nil=>intro _;rfl
  | cons g l ihl=>
   intro h
   rw[Fm.bJ,rG,jV,h g (List.mem_cons_self ..),ihl fun x hx=>h x (List.mem_cons_of_mem _ hx)]
 rw[Fm.nodes,fM,←key k ih]
 show lU ([Fm.mk o n i k]++Fm.bJ k)=_
 rw[rG]
 simp[lU,oD]
theorem OX:∀(f:Fm),f.n64→∀g∈f.nodes,g.n64:=by
 intro f
 refine Fm.ind (P:=fun f=>f.n64→∀g∈f.nodes,g.n64) (fun o n i k ih=>?_) f
 intro h g hg
 rw[Fm.nodes] at hg
 rcases List.mem_cons.1 hg with rfl|hg
 ·exact h
 ·obtain⟨y,hy,OA⟩:=Fm.uD hg
  rw[Fm.n64] at h
  exact ih y hy (Fm.QW h.2.2.2 hy) g OA
end PA
namespace Go.Proofs.YthfmaclnccdcbaaGreatDoor
open Go.RowKit PA
theorem mZ (b:Bool) (w:World):Calls Tryz.prog 132 #[.bool b] w fun e w'=>e=.returned (.int .i64 (kG b))∧w=w':=by
 cases b with
 | false=>
  go_enter Tryz.func132,Tryz.ntmps132
  go_wp2
  go_ret
  exact⟨rfl,rfl⟩
 | true=>
  go_enter Tryz.func132,Tryz.ntmps132
  go_wp2
  go_ret
  exact⟨rfl,rfl⟩
set_option maxRecDepth 100000 in
set_option maxHeartbeats 4000000 in
theorem yB {W w:World} {A:aB} (p:Nat) (bs:List UInt8) (a:Option Addr) (n c:Nat) (l:List Int) (hn:n=l.length) (hn2:l.length≤1048576) (hi:∀r∈l,-9223372036854775808≤r∧r≤9223372036854775807)
 (hc:∀w' B,Sat W w' (sep B A)→∀(k:Nat) r,l[k]?=some r→∃b o,a=some ⟨b,o,none⟩∧w'.cell? ⟨b,o+k,none⟩=some (.int .i64 r)) (h:Sat W w (sep (dh p bs) A)) (hb:bs.length≤1000000000):
 Calls Tryz.prog 131 #[.pointer (some ⟨p,0,none⟩),.slice a n c] w fun e w'=>e=.returned (.tuple #[])∧Sat W w' (sep (dh p (bs++lN l)) A):=by
 have hw1:IntKind.u64.wrap (n:Int)=(n:Nat):=wraps_u64 _ (by omega) (by omega)
 have hu:=uI p bs n (by omega) h (by omega)
 have hall:=wu l
 have hle:=zH hn2 hi
 have h0:uJ l 0=Lib.uvarint n:=by unfold uJ;rw[hn];simp
 rw[←h0] at hu
 obtain⟨V,hV⟩:∃V:Nat→List UInt8,V=fun k=>bs++uJ l k:=⟨_,rfl⟩
 have hV0:bs++uJ l 0=V 0:=by rw[hV]
 have VY:bs++lN l=V n:=by rw[hV];simp only;rw[hn,hall]
 have PW:∀k r,l[k]?=some r→V (k+1)=V k++PA.encI r:=fun k r hr=>by rw[hV];simp only;rw[Ee hr,List.append_assoc]
 have OY:∀k,k≤n→(V k).length≤1073741824:=fun k hk=>by rw[hV];simp only[fA];have:=hle k;omega
 rw[hV0] at hu
 rw[VY]
 have HU:=ah hu
 have HX:=ah (And.intro hn (And.intro hi (And.intro hc (And.intro PW OY))))
 have hn63:(n:Int)≤1048576:=by omega
 clear hu hn hn2 hi hc hb hall hle h0 h hV hV0 VY PW OY
 go_enter Tryz.func131,Tryz.ntmps131
 go_wp2_with fail
 refine HU.out.mono ?_
 rintro e w2 ⟨rfl,h1⟩
 have H1:=ah h1
 clear HU h1
 go_wp2_with fail
 go_loopw [13] (fun kv wr=>∃k:Nat,k≤n∧kv=.int .i64 k∧Sat W wr (sep (dh p (V k)) A)) (fun kv _=>n-(intOf kv).toNat)
 case atStart=>exact⟨0,Nat.zero_le _,rfl,H1.out⟩
 case round=>
  clear H1
  obtain⟨k,hk,rfl,hS⟩:=hrel
  by_cases hkm:k<n
  ·obtain⟨x,hx⟩:∃x,l[k]?=some x:=⟨_,List.getElem?_eq_getElem (by have:=HX.out.1;omega)⟩
   obtain⟨g,o,rfl,hcc⟩:=HX.out.2.2.1 wr _ hS k x hx
   have oV:=HX.out.2.1 x (List.mem_of_getElem? hx)
   have hwi:=iq p (V k) x oV.1 oV.2 hS (HX.out.2.2.2.2 k hk)
   rw[←HX.out.2.2.2.1 k x hx] at hwi
   have Jc:=ah hwi
   have hkI:(k:Int)<n:=by omega
   have HK:=ah hkm
   clear hx oV hwi hS hkm hk
   go_wp2_with fail
   refine Jc.out.mono ?_
   rintro e w3 ⟨rfl,h3⟩
   have H3:=ah h3
   clear h3 Jc hcc
   go_wp2_with fail
   go_roundw
   case rel=>exact⟨k+1,by have:=HK.out;omega,by go_num,H3.out⟩
   case measure=>simp[intOf];have:=HK.out;omega
  ·obtain rfl:k=n:=by omega
   have H3:=ah hS
   clear hS hkm hk
   go_wp2
   exact bodyPost_end (results_none rfl _ _ _) rfl ⟨rfl,H3.out⟩
end Go.Proofs.YthfmaclnccdcbaaGreatDoor
namespace PA
open Go Go.RowKit
theorem Ub {l:List Iv} (h:oQ l=true):l.length≤32:=by
 unfold oQ Hg at h
 split at h
 ·simp at h
 ·split at h
  ·simp at h
  ·omega
theorem Uc {f:Fm} (h:jO f=0):∀g∈f.nodes,g.ins.length≤32:=by
 unfold jO Fm.valid at h
 split at h
 ·cases h
 ·split at h
  ·rename_i hw
   rw[Fm.qI,List.all_eq_true] at hw
   intro g hg
   have h1:=hw g hg
   obtain⟨o,n,i,k⟩:=g
   rw[Fm.formed] at h1
   by_cases o2:o=2
   ·subst o2
    simp at h1
    have:=Ub h1.2
    exact this
   ·split at h1
    ·cases h1
    ·rename_i h2
     have:i=[]:=Classical.byContradiction fun hn=>h2 (.inl ⟨o2,hn⟩)
     subst this
     exact Nat.zero_le _
  ·cases h
theorem uK {l:List Iv} (h:∀x∈l,∀r∈PA.gW x,-9223372036854775808≤r∧r≤9223372036854775807):(dZ l).length≤90*l.length:=by
 induction l with
 | nil=>simp[dZ]
 | cons x l ih=>
  have h1:=ih fun y hy=>h y (List.mem_cons_of_mem _ hy)
  have h2:=zH (l:=PA.gW x) (by simp[PA.gW]) (h x (List.mem_cons_self ..)) 8
  have h3:uJ (PA.gW x) 8=lN (PA.gW x):=wu (PA.gW x)
  unfold dZ at h1 ⊢
  rw[List.map_cons,List.flatten_cons,fA,List.length_cons]
  rw[h3] at h2
  omega
def QX (g:Fm):Prop:=g.n64∧g.ins.length≤32∧g.kids.length≤1000000
theorem OZ {g:Fm} (h:QX g):(oD g).length≤3000:=by
 obtain⟨o,n,i,k⟩:=g
 obtain⟨h1,h2,h3⟩:=h
 rw[Fm.n64] at h1
 have e1:=iE h1.1.1 h1.1.2
 have e2:=iE h1.2.1.1 h1.2.1.2
 have hi:i.length≤32:=h2
 have hk:k.length≤1000000:=h3
 have e3:=iE (r:=(i.length:Int)) (by omega) (by omega)
 have e4:=iE (r:=(k.length:Int)) (by omega) (by omega)
 have e5:=uK h1.2.2.1
 unfold oD
 simp only[fA]
 omega
def Dj (I:Mem) (C P:Nat) (tP:TypeId) (wr:Nat→List UInt8→aB) (xs:List FV):aB:=sep (fact ((lU (xs.map (·.2))).length≤3000*xs.length)) (sep (kn I) (sep (blk C (.cells #[.pointer (some ⟨P,0,none⟩)] tP (0,0))) (wr P (lU (xs.map (·.2))))))
end PA
namespace Go.Proofs.YthfmaclnccdcbaaGreatDoor
open Go.RowKit PA
attribute [local go_sem] Oper.semAt_some
attribute [local go_sem ↓] rH
set_option maxRecDepth 100000 in
set_option maxHeartbeats 16000000 in
theorem nN {W w:World} {A:aB} {I:Mem} (f:Fm) (p q:Int) (x1:Option Addr) (n1 c1:Nat) (x2:Option Addr) (n2 c2:Nat) (hr:rF.rel I [.int .i64 p,.int .i64 q,.slice x1 n1 c1,.slice x2 n2 c2] f) (hK:IL f) (h64:f.n64) (h:Sat W w (sep (kn I) A)):
 Calls Tryz.prog 75 #[.agg #[.int .i64 p,.int .i64 q,.slice x1 n1 c1,.slice x2 n2 c2]] w fun e w'=>∃(a:Option Addr) (n c:Nat) (J:Mem),e=.returned (.tuple #[.slice a n c,.int .i64 (jO f)])∧Mem.le I J∧gZ.rel J [.slice a n c] (jg f)∧Sat W w' (sep (kn J) A):=by
 have h1:=h.alloc (.cells #[.int .i64 p,.int .i64 q,.slice x1 n1 c1,.slice x2 n2 c2] 34)
 obtain⟨B,hB⟩:=aC (w.heap.size)
 obtain⟨w1,hw1⟩:=aC (w.alloc (.cells #[.int .i64 p,.int .i64 q,.slice x1 n1 c1,.slice x2 n2 c2] 34))
 rw[←hB,←hw1] at h1
 obtain⟨k0,k1,k2,k3⟩:=kS h1
 have HB:=ah (And.intro hB hw1)
 have H1:=ah h1
 obtain⟨rv,dJ⟩:=aC (jO f)
 obtain⟨E,hE⟩:=aC (jg f)
 have Ho:Hid (∀w' A',Sat W w' (sep (kn I) A')→Calls Tryz.prog 118 #[.agg #[.int .i64 p,.int .i64 q,.slice x1 n1 c1,.slice x2 n2 c2]] w' fun e w''=>e=.returned (.int .i64 rv)∧Sat W w'' (sep (kn I) A')):=ah fun w' A' h'=>by rw[dJ];exact kD f p q x1 n1 c1 x2 n2 c2 hr hK.1 hK.2 h'
 have yj:Hid ((rv≠0→E=[])∧(rv=0→E=fM f)):=ah ⟨fun h0=>by rw[hE];unfold jg;rw[if_neg (by rw[←dJ];exact h0)],fun h0=>by rw[hE];unfold jg;rw[if_pos (by rw[←dJ];exact h0)]⟩
 have Xg:Hid (rv=0→f.size≤96∧∀g∈f.nodes,QX g):=ah fun h0=>by
  rw[dJ] at h0
  refine⟨kF h0,fun g hg=>⟨OX f h64 g hg,Uc h0 g hg,?_⟩⟩
  have h2:∀(l:List Fm),l.length≤Fm.sizes l:=by
   intro l
   induction l with
   | nil=>simp
   | cons g l ih=>
    rw[Fm.sizes,List.length_cons];have:1≤g.size:=by cases g;rw[Fm.size];omega
    omega
  have h3:∀(f:Fm),∀g∈f.nodes,g.kids.length≤f.size:=by
   intro f
   refine Fm.ind (P:=fun f=>∀g∈f.nodes,g.kids.length≤f.size) (fun o n i k ih=>?_) f
   intro g hg
   rw[Fm.nodes] at hg
   rw[Fm.size]
   rcases List.mem_cons.1 hg with rfl|hg
   ·have:=h2 k;show k.length≤_;omega
   ·obtain⟨y,hy,OA⟩:=Fm.uD hg
    have h4:=ih y hy g OA
    have h5:=Fm.jQ hy
    omega
  have:=h3 f g hg
  have:=kF h0
  omega
 have HR:=ah hr
 have VH:=ah (fun w' (A':aB) (h':Sat W w' A')=>qU (.int .i64 p) (.int .i64 q) (.slice x1 n1 c1) (.slice x2 n2 c2) h')
 rw[←dJ,←hE]
 obtain⟨Po,fK⟩:∃P:Ending→World→Prop,P=fun e w'=>∃(a:Option Addr) (n c:Nat) (J:Mem),e=.returned (.tuple #[.slice a n c,.int .i64 rv])∧Mem.le I J∧gZ.rel J [.slice a n c] E∧Sat W w' (sep (kn J) A):=⟨_,rfl⟩
 rw[←fK]
 have bP:=ah fK
 have eg:=enters_of (P:=Tryz.prog) Tryz.func172 (by kernel_rfl) rfl
 clear hr hK h64 h h1 hB hw1 dJ hE fK
 by_cases hb0:rv=0
 ·subst hb0
  obtain⟨Y8,hPn⟩:=Xg.out rfl
  have hEf:=yj.out.2 rfl
  have ZW:=ah (And.intro Y8 (And.intro hPn hEf))
  clear Xg yj Y8 hPn hEf
  refine (callsIn_wide (n:=5)).1 ?_
  refine callsIn_of_wp_marks Tryz.func75 rfl trivial ?_ rfl
  simp only[Tryz.ntmps75,List.size_toArray,List.length_cons,List.length_nil,Nat.reduceAdd,Nat.reduceSub,Array.replicate_succ,Array.replicate_zero,List.push_toArray,List.append_toArray,List.nil_append,List.cons_append]
  refine wpIn_wide.2 ?_
  go_upto_region 1 with (fail)
  rw[←HB.out.1,←HB.out.2]
  go_wp2_with fail
  refine (Ho.out _ _ H1.out.p1).mono ?_
  rintro e w2 ⟨rfl,h2⟩
  have h3:=(h2.p1.alloc (.cells #[.slice none 0 0] 104)).alloc (.cells #[.pointer (some ⟨w2.heap.size,0,none⟩)] 140)
  rw[World.size_alloc] at h3
  obtain⟨P,hP⟩:=aC (w2.heap.size)
  obtain⟨w3,hw3⟩:=aC ((w2.alloc (.cells #[.slice none 0 0] 104)).alloc (.cells #[.pointer (some ⟨w2.heap.size,0,none⟩)] 140))
  rw[←hw3,←hP] at h3
  have HP:=ah (And.intro hP hw3)
  have h4:Sat W w3 (sep (blk B (.cells #[.int .i64 p,.int .i64 q,.slice x1 n1 c1,.slice x2 n2 c2] 34 (0,0))) (sep (Dj I (P+1) P 140 dh []) (sep (kn I) A))):=by
   have h5:Sat W w3 (sep (kn I) (sep (blk P (.cells #[.slice none 0 0] 104 (0,0))) (sep (blk (P+1) (.cells #[.pointer (some ⟨P,0,none⟩)] 140 (0,0))) (sep (blk B (.cells #[.int .i64 p,.int .i64 q,.slice x1 n1 c1,.slice x2 n2 c2] 34 (0,0))) A)))):=by simpa only[au,ak,aj] using h3
   have h6:=Sat.gK (Sat.dup h5) 5 1
   have h7:Sat W w3 (sep (blk P (.cells #[.slice none 0 0] 104 (0,0))) (sep (aY 5 1 none 0 0 (([]:List UInt8).map bv)) (sep (kn I) (sep (kn I) (sep (blk (P+1) (.cells #[.pointer (some ⟨P,0,none⟩)] 140 (0,0))) (sep (blk B (.cells #[.int .i64 p,.int .i64 q,.slice x1 n1 c1,.slice x2 n2 c2] 34 (0,0))) A)))))):=by
    show Sat W w3 (sep _ (sep (aY 5 1 none 0 0 []) _))
    unfold kn at h6 ⊢
    simpa only[au,ak,aj] using h6
   have h8:Sat W w3 (sep (fact ((lU (([]:List FV).map (·.2))).length≤3000*([]:List FV).length)) (sep (dh P (lU (([]:List FV).map (·.2)))) (sep (kn I) (sep (kn I) (sep (blk (P+1) (.cells #[.pointer (some ⟨P,0,none⟩)] 140 (0,0))) (sep (blk B (.cells #[.int .i64 p,.int .i64 q,.slice x1 n1 c1,.slice x2 n2 c2] 34 (0,0))) A)))))):=Sat.fact.2 ⟨by simp[lU],sG h7⟩
   unfold Dj
   simpa only[au,ak,aj] using h8
  obtain⟨j0,j1,j2,j3⟩:=kS h4
  have H4:=ah h4
  clear h2 h3 h4 hP hw3 Ho k0 k1 k2 k3
  go_upto_region 5 with (fail)
  rw[←HP.out.2,←HP.out.1]
  go_wp2_with fail
  refine (VH.out _ _ H4.out).mono ?_
  rintro e w4 ⟨fb,rfl,h5⟩
  have h6:Sat W w4 (sep (Dj I (P+1) P 140 dh []) (sep (blk fb (.cells #[.int .i64 p,.int .i64 q,.slice x1 n1 c1,.slice x2 n2 c2] 34 (0,0))) (sep (kn I) (sep (blk B (.cells #[.int .i64 p,.int .i64 q,.slice x1 n1 c1,.slice x2 n2 c2] 34 (0,0))) A)))):=by simpa only[au,ak,aj] using h5
  clear h5 VH j0 j1 j2 j3 H4 HP
  go_wp2_with fail
  refine (wpIn_wide (n:=5)).1 ?_
  refine kX (F:=Fence.wide) (W:=W) rfl (by omega) (gf:=172) (lb:=#[.pointer (some ⟨fb,0,none⟩)]) rfl trivial eg (encs:=pG) (fun _=>rfl) (sW (A:=sep (blk B (.cells #[.int .i64 p,.int .i64 q,.slice x1 n1 c1,.slice x2 n2 c2] 34 (0,0))) A) QX 96 (5-1) f p q x1 n1 c1 x2 n2 c2 HR.out ZW.out.2.1 ZW.out.1 fb)
   (Dj I (P+1) P 140 dh) (fun _ _=>fact False) h6
   (fun y g t=>(t.setIfInBounds 18 (.agg y.1.toArray)).setIfInBounds 6 (.pointer (some ⟨g,0,none⟩)))
   (fun pre y g=>sep (fact (rF.rel I y.1 y.2∧QX y.2)) (sep (blk g (.cells y.1.toArray 34 (0,0))) (Dj I (P+1) P 140 dh pre))) ?assign ?body ?done ?stop
  case assign=>
   as_aux_lemma=>
   intro lp pre y w' X K hlen hS hK
   have h4:Sat W w' (sep (Df I QX y) (sep (Dj I (P+1) P 140 dh pre) X)):=by simpa only[au,ak,aj] using hS
   unfold Df at h4
   obtain⟨hf,h6⟩:=Sat.fact.1 h4
   obtain⟨y1,y2⟩:=y
   obtain⟨yo,yn,yi,yk⟩:=y2
   obtain⟨u1,d1,u2,d2,e,hi,hk⟩:=dL.1 hf.1
   dsimp only at e hf hK
   subst e
   have h7:=h6.alloc (.cells #[.int .i64 yo,.int .i64 yn,.slice u1 yi.length d1,.slice u2 yk.length d2] 34)
   have h5:=hK w'.heap.size _ (show Sat W (w'.alloc (.cells #[.int .i64 yo,.int .i64 yn,.slice u1 yi.length d1,.slice u2 yk.length d2] 34)) (sep (sep (fact _) (sep _ _)) X) by rw[aj,aj];exact Sat.fact.2 ⟨hf,h7⟩)
   simp only[lsA,lsB,bV] at h5
   have H5:=ah h5
   clear hK hS h4 h5 h6 h7 hf hi hk
   dsimp only[pG] at *
   gi_wp2_with fail
   simpa using H5.out
  case body=>
   as_aux_lemma=>
   intro lp pre y g w' X hlen hS
   simp only[lsA,lsB,bV]
   rw[aj,aj] at hS
   obtain⟨hf,h4⟩:=Sat.fact.1 hS
   unfold Dj at h4
   obtain⟨y1,y2⟩:=y
   obtain⟨yo,yn,yi,yk⟩:=y2
   obtain⟨u1,d1,u2,d2,e,hi,hk⟩:=dL.1 hf.1
   dsimp only at e hf h4
   subst e
   have h5:Sat W w' (sep (fact ((lU (pre.map (·.2))).length≤3000*pre.length)) (sep (dh P (lU (pre.map (·.2)))) (sep (kn I) (sep (blk g (.cells #[.int .i64 yo,.int .i64 yn,.slice u1 yi.length d1,.slice u2 yk.length d2] 34 (0,0))) (sep (blk (P+1) (.cells #[.pointer (some ⟨P,0,none⟩)] 140 (0,0))) X))))):=by simpa only[au,ak,aj] using h4
   obtain⟨hlb,h6⟩:=Sat.fact.1 h5
   obtain⟨E0,hE0⟩:=aC (lU (pre.map (·.2)))
   rw[←hE0] at h6 hlb
   have y8:=hf.2.1
   rw[Fm.n64] at y8
   obtain⟨ni,hni⟩:=aC (yi.length)
   obtain⟨nk,hnk⟩:=aC (yk.length)
   have Y9:ni≤32:=by rw[hni];exact hf.2.2.1
   have abd:nk≤1000000:=by rw[hnk];exact hf.2.2.2
   have hnb:=OZ hf.2
   have hNB:oD (Fm.mk yo yn yi yk)=PA.encI yo++PA.encI yn++PA.encI ni++dZ yi++PA.encI nk:=by rw[hni,hnk];rfl
   rw[←hni,←hnk] at h6
   rw[←hni] at hi
   obtain⟨E1,hE1⟩:=aC (E0++PA.encI yo)
   obtain⟨E2,hE2⟩:=aC (E1++PA.encI yn)
   obtain⟨E3,ZX⟩:=aC (E2++PA.encI ni)
   have e1:=iE y8.1.1 y8.1.2
   have e2:=iE y8.2.1.1 y8.2.1.2
   have e3:=iE (r:=(ni:Int)) (by omega) (by omega)
   have hl0:E0.length≤300000:=by omega
   have hl1:E1.length≤300010:=by rw[hE1,fA];omega
   have hl2:E2.length≤300020:=by rw[hE2,fA];omega
   have hl3:E3.length≤300030:=by rw[ZX,fA];omega
   have HW0:Hid (∀w' A',Sat W w' (sep (dh P E0) A')→Calls Tryz.prog 72 #[.pointer (some ⟨P,0,none⟩),.int .i64 yo] w' fun e w''=>e=.returned (.tuple #[])∧Sat W w'' (sep (dh P E1) A')):=ah fun w' A' h'=>by rw[hE1];exact iq P E0 yo y8.1.1 y8.1.2 h' (by omega)
   have HW1:Hid (∀w' A',Sat W w' (sep (dh P E1) A')→Calls Tryz.prog 72 #[.pointer (some ⟨P,0,none⟩),.int .i64 yn] w' fun e w''=>e=.returned (.tuple #[])∧Sat W w'' (sep (dh P E2) A')):=ah fun w' A' h'=>by rw[hE2];exact iq P E1 yn y8.2.1.1 y8.2.1.2 h' (by omega)
   have HW2:Hid (∀w' A',Sat W w' (sep (dh P E2) A')→Calls Tryz.prog 72 #[.pointer (some ⟨P,0,none⟩),.int .i64 (ni:Nat)] w' fun e w''=>e=.returned (.tuple #[])∧Sat W w'' (sep (dh P E3) A')):=ah fun w' A' h'=>by rw[ZX];exact iq P E2 ni (by omega) (by omega) h' (by omega)
   have Iq:Hid (∀w' A',Sat W w' (sep (dh P (E3++dZ yi)) A')→Calls Tryz.prog 72 #[.pointer (some ⟨P,0,none⟩),.int .i64 (nk:Nat)] w' fun e w''=>e=.returned (.tuple #[])∧Sat W w'' (sep (dh P (E0++oD (Fm.mk yo yn yi yk))) A')):=ah fun w' A' h'=>by
    have e6:E0++oD (Fm.mk yo yn yi yk)=(E3++dZ yi)++PA.encI nk:=by rw[hNB,ZX,hE2,hE1];simp only[List.append_assoc]
    rw[e6]
    have hiv:=uK y8.2.2.1
    exact iq P _ nk (by omega) (by omega) h' (by rw[fA];omega)
   have Xw:=ah (And.intro hi (And.intro y8.2.2.1 (And.intro hni hl3)))
   have XR:Hid ((lU ((pre++[((([.int .i64 yo,.int .i64 yn,.slice u1 ni d1,.slice u2 nk d2]:List Value),Fm.mk yo yn yi yk):FV)]).map (·.2))=E0++oD (Fm.mk yo yn yi yk))∧(E0++oD (Fm.mk yo yn yi yk)).length≤3000*(pre++[(([.int .i64 yo,.int .i64 yn,.slice u1 ni d1,.slice u2 nk d2],Fm.mk yo yn yi yk):FV)]).length):=ah ⟨by
    rw[zi,hE0];exact OW _ _,by
    rw[fA,fA]
    simp only[List.length_cons,List.length_nil]
    omega⟩
   have acY:(ni:Int)≤32:=by omega
   have acZ:(nk:Int)≤1000000:=by omega
   have hyl:yi.length=ni:=hni.symm
   have Za:yk.length=nk:=hnk.symm
   simp only[hyl,Za]
   obtain⟨k0,k1,k2,k3⟩:=kS h6.p2
   have c0:w'.cell? ⟨P+1,0,none⟩=some (.pointer (some ⟨P,0,none⟩)):=h6.p3.cell 0
   have H6:=ah h6
   clear hS h4 h5 h6 hf hi hk hlb hE0 y8 hni hnk Y9 abd hnb hNB hE1 hE2 ZX e1 e2 e3 hl0 hl1 hl2 hl3 hyl Za hlen
   gi_wp2_with fail
   refine⟨trivial,(callsIn_wide.2 (HW0.out _ _ H6.out)).mono ?_⟩
   rintro e w2 ⟨rfl,h7⟩
   clear k0 k1 k2 k3 c0 H6 HW0
   obtain⟨k0,k1,k2,k3⟩:=kS h7.p2
   have c0:w2.cell? ⟨P+1,0,none⟩=some (.pointer (some ⟨P,0,none⟩)):=h7.p3.cell 0
   have H7:=ah h7
   clear h7
   gi_wp2_with fail
   refine⟨trivial,(callsIn_wide.2 (HW1.out _ _ H7.out)).mono ?_⟩
   rintro e w3 ⟨rfl,h8⟩
   clear k0 k1 k2 k3 c0 H7 HW1
   obtain⟨k0,k1,k2,k3⟩:=kS h8.p2
   have c0:w3.cell? ⟨P+1,0,none⟩=some (.pointer (some ⟨P,0,none⟩)):=h8.p3.cell 0
   have H8:=ah h8
   clear h8
   gi_wp2_with fail
   refine⟨trivial,(callsIn_wide.2 (HW2.out _ _ H8.out)).mono ?_⟩
   rintro e w4 ⟨rfl,h9⟩
   clear k0 k1 k2 k3 c0 H8 HW2
   obtain⟨k0,k1,k2,k3⟩:=kS h9.p2
   have H9:=ah h9
   clear h9
   gi_wp2_with fail
   clear k0 k1 k2 k3
   gi_loopw [35] (fun iv wr=>∃k:Nat,iv=.int .i64 k∧k≤ni∧Sat W wr (sep (dh P (E3++dZ (yi.take k))) (sep (kn I) (sep (blk g (.cells #[.int .i64 yo,.int .i64 yn,.slice u1 ni d1,.slice u2 nk d2] 34 (0,0))) (sep (blk (P+1) (.cells #[.pointer (some ⟨P,0,none⟩)] 140 (0,0))) X))))) (fun iv _=>ni-(intOf iv).toNat)
   case atStart=>exact⟨0,rfl,by omega,by simpa[dZ] using H9.out⟩
   case round=>
    obtain⟨k,rfl,hk,hS⟩:=hrel
    clear H9
    by_cases hlt:k<ni
    ·as_aux_lemma=>
     have hltz:(k:Int)<(ni:Int):=by omega
     obtain⟨x,hx⟩:∃x,yi[k]?=some x:=⟨_,List.getElem?_eq_getElem (by have:=Xw.out.2.2.1;omega)⟩
     obtain⟨b,o,rfl,hcell⟩:=vK Xw.out.1 hx
     obtain⟨j0,j1,j2,j3,j4,j5,j6,j7⟩:=hcell wr hS.p1.ext
     have oV:=Xw.out.2.1 x (List.mem_of_getElem? hx)
     have htk:=Jd hx
     have hbl:(E3++dZ (yi.take k)).length≤310000:=by
      rw[fA]
      have h1:=O1 yi k
      have h2:=uK Xw.out.2.1
      have:=Xw.out.2.2.1;have:=Xw.out.2.2.2;omega
     have hA:=hS.alloc (.cells #[.int .i64 x.ln,.int .i64 x.ld,.int .i64 x.hn,.int .i64 x.hd,.bool x.lo,.bool x.ho,.bool x.li,.bool x.hi] 159)
     obtain⟨GI,hGI⟩:=aC (wr.heap.size)
     obtain⟨w5,hw5⟩:=aC (wr.alloc (.cells #[.int .i64 x.ln,.int .i64 x.ld,.int .i64 x.hn,.int .i64 x.hd,.bool x.lo,.bool x.ho,.bool x.li,.bool x.hi] 159))
     rw[←hGI,←hw5] at hA
     have hd:=hA.drew
     obtain⟨wd,hwd⟩:=aC (w5.drew)
     rw[←hwd] at hd
     have hS0:wd.cell? ⟨P+1,0,none⟩=some (.pointer (some ⟨P,0,none⟩))∧wd.cell? ⟨GI,0,none⟩=some (.int .i64 x.ln)∧wd.cell? ⟨GI,1,none⟩=some (.int .i64 x.ld)∧wd.cell? ⟨GI,2,none⟩=some (.int .i64 x.hn)∧wd.cell? ⟨GI,3,none⟩=some (.int .i64 x.hd)∧wd.cell? ⟨GI,4,none⟩=some (.bool x.lo)∧wd.cell? ⟨GI,5,none⟩=some (.bool x.ho)∧wd.cell? ⟨GI,6,none⟩=some (.bool x.li)∧wd.cell? ⟨GI,7,none⟩=some (.bool x.hi):=⟨hd.p4.cell 0,IC hd⟩
     have nJ:=ah hwd
     have HGI:=ah (And.intro hGI hw5)
     have HD:=ah hd
     have HK:=ah (And.intro hlt (And.intro htk (And.intro oV hbl)))
     clear hS hcell hx oV htk hbl hA hGI hw5 hd hwd hlt hk
     gi_upto_region 13 with (fail)
     rw[←HGI.out.1,←HGI.out.2]
     clear j0 j1 j2 j3 j4 j5 j6 j7
     refine y9 rfl (fun w'=>w'.cell? ⟨P+1,0,none⟩=some (.pointer (some ⟨P,0,none⟩))∧w'.cell? ⟨GI,0,none⟩=some (.int .i64 x.ln)∧w'.cell? ⟨GI,1,none⟩=some (.int .i64 x.ld)∧w'.cell? ⟨GI,2,none⟩=some (.int .i64 x.hn)∧w'.cell? ⟨GI,3,none⟩=some (.int .i64 x.hd)∧w'.cell? ⟨GI,4,none⟩=some (.bool x.lo)∧w'.cell? ⟨GI,5,none⟩=some (.bool x.ho)∧w'.cell? ⟨GI,6,none⟩=some (.bool x.li)∧w'.cell? ⟨GI,7,none⟩=some (.bool x.hi)) [(0,.s),(1,.p),(2,.p),(3,.s),(4,.p),(5,.p),(6,.s),(7,.p),(8,.p),(9,.s),(10,.p),(11,.p),(12,.s),(13,.p),(14,.t),(16,.p),(17,.s),(19,.p),(20,.s),(22,.p),(23,.s),(15,.e true),(18,.e true),(21,.e true),(24,.e true),(25,.e true),(26,.e false)] (by kernel_rfl) ?_ ?_
     ·exact fun ⟨_,_,h⟩=>h
     rw[←nJ.out]
     (repeat ((first|(refine iK (v:=?_) rfl rfl (fun w'=>?_) ?_;rotate_left;(go_simp;with_reducible rfl))|(refine iL (v:=?_) rfl rfl hS0 (fun w' hS=>?_) ?_;rotate_left;((try dsimp only at hS);go_simp;with_reducible rfl))|(refine iM (v:=?_) rfl rfl ?_ ?_;rotate_left;(go_simp;with_reducible rfl))|(refine dF rfl rfl ?_)|(refine dG rfl rfl hS0 ?_)|(refine dH rfl rfl ?_));simp only[Act.put,lsA,lsB,bV]))
     (refine jK rfl rfl (fun K hK=>?_);go_simp)
     refine (mZ _ _).mono ?_
     rintro e wn ⟨rfl,rfl⟩
     (refine hK _ _ (fun _=>hS0) ?_;clear hK K;(try simp only[Act.put,lsA,lsB,bV]))
     (refine jK rfl rfl (fun K hK=>?_);go_simp)
     refine (mZ _ _).mono ?_
     rintro e wn ⟨rfl,rfl⟩
     (refine hK _ _ (fun _=>hS0) ?_;clear hK K;(try simp only[Act.put,lsA,lsB,bV]))
     (refine jK rfl rfl (fun K hK=>?_);go_simp)
     refine (mZ _ _).mono ?_
     rintro e wn ⟨rfl,rfl⟩
     (refine hK _ _ (fun _=>hS0) ?_;clear hK K;(try simp only[Act.put,lsA,lsB,bV]))
     (refine jK rfl rfl (fun K hK=>?_);go_simp)
     refine (mZ _ _).mono ?_
     rintro e wn ⟨rfl,rfl⟩
     (refine hK _ _ (fun _=>hS0) ?_;clear hK K;(try simp only[Act.put,lsA,lsB,bV]))
     have hbs:=bs_i8y wd x.ln x.ld x.hn x.hd (kG x.lo) (kG x.ho) (kG x.li) (kG x.hi)
     have hA:=HD.out.alloc (.cells #[.int .i64 x.ln,.int .i64 x.ld,.int .i64 x.hn,.int .i64 x.hd,.int .i64 (kG x.lo),.int .i64 (kG x.ho),.int .i64 (kG x.li),.int .i64 (kG x.hi)] 3)
     obtain⟨GL,hGL⟩:=aC (wd.heap.size)
     obtain⟨we,hwe⟩:=aC (wd.alloc (.cells #[.int .i64 x.ln,.int .i64 x.ld,.int .i64 x.hn,.int .i64 x.hd,.int .i64 (kG x.lo),.int .i64 (kG x.ho),.int .i64 (kG x.li),.int .i64 (kG x.hi)] 3))
     rw[←hGL,←hwe] at hbs hA
     have hA2:Sat W we (sep (dh P (E3++dZ (yi.take k))) (sep (blk GL (.cells #[.int .i64 x.ln,.int .i64 x.ld,.int .i64 x.hn,.int .i64 x.hd,.int .i64 (kG x.lo),.int .i64 (kG x.ho),.int .i64 (kG x.li),.int .i64 (kG x.hi)] 3 (0,0))) (sep (blk GI (.cells #[.int .i64 x.ln,.int .i64 x.ld,.int .i64 x.hn,.int .i64 x.hd,.bool x.lo,.bool x.ho,.bool x.li,.bool x.hi] 159 (0,0))) (sep (kn I) (sep (blk g (.cells #[.int .i64 yo,.int .i64 yn,.slice (some ⟨b,o,none⟩) ni d1,.slice u2 nk d2] 34 (0,0))) (sep (blk (P+1) (.cells #[.pointer (some ⟨P,0,none⟩)] 140 (0,0))) X)))))):=by simpa only[au,ak,aj] using hA
     have hS1:we.cell? ⟨P+1,0,none⟩=some (.pointer (some ⟨P,0,none⟩))∧we.cell? ⟨GI,0,none⟩=some (.int .i64 x.ln)∧we.cell? ⟨GI,1,none⟩=some (.int .i64 x.ld)∧we.cell? ⟨GI,2,none⟩=some (.int .i64 x.hn)∧we.cell? ⟨GI,3,none⟩=some (.int .i64 x.hd)∧we.cell? ⟨GI,4,none⟩=some (.bool x.lo)∧we.cell? ⟨GI,5,none⟩=some (.bool x.ho)∧we.cell? ⟨GI,6,none⟩=some (.bool x.li)∧we.cell? ⟨GI,7,none⟩=some (.bool x.hi):=⟨hA2.p5.cell 0,IC hA2.p2⟩
     have hcall:=yB P (E3++dZ (yi.take k)) (some ⟨GL,0,none⟩) 8 8 (PA.gW x) rfl (by simp[PA.gW]) HK.out.2.2.1 (fun w' B' hs j r hr=>⟨GL,0,rfl,by
      have hc:=hs.p1.cell j
      rw[Nat.zero_add,hc]
      match j,hr with
      | 0,hr|1,hr|2,hr|3,hr|4,hr|5,hr|6,hr|7,hr=>simp[PA.gW] at hr;subst hr;rfl
      | j+8,hr=>simp[PA.gW] at hr⟩) hA2 (by have:=HK.out.2.2.2;omega)
     rw[List.append_assoc,←HK.out.2.1] at hcall
     have HC:=ah hcall
     clear hA hA2 hcall hGL hwe HD
     (refine jK rfl rfl (fun K hK=>?_);go_simp)
     (refine hK _ _ (fun _=>hS1) ?_;clear hK K;(try simp only[Act.put,lsA,lsB,bV]))
     (refine jK rfl rfl (fun K hK=>?_);go_simp)
     refine HC.out.mono ?_
     rintro e w6 ⟨rfl,h10⟩
     have PO:Hid (Sat W w6 (sep (dh P (E3++dZ (yi.take (k+1)))) (sep (kn I) (sep (blk g (.cells #[.int .i64 yo,.int .i64 yn,.slice (some ⟨b,o,none⟩) ni d1,.slice u2 nk d2] 34 (0,0))) (sep (blk (P+1) (.cells #[.pointer (some ⟨P,0,none⟩)] 140 (0,0))) X))))):=ah (by
      have h11:Sat W w6 (sep (blk GL (.cells #[.int .i64 x.ln,.int .i64 x.ld,.int .i64 x.hn,.int .i64 x.hd,.int .i64 (kG x.lo),.int .i64 (kG x.ho),.int .i64 (kG x.li),.int .i64 (kG x.hi)] 3 (0,0))) (sep (blk GI (.cells #[.int .i64 x.ln,.int .i64 x.ld,.int .i64 x.hn,.int .i64 x.hd,.bool x.lo,.bool x.ho,.bool x.li,.bool x.hi] 159 (0,0))) (sep (dh P (E3++dZ (yi.take (k+1)))) (sep (kn I) (sep (blk g (.cells #[.int .i64 yo,.int .i64 yn,.slice (some ⟨b,o,none⟩) ni d1,.slice u2 nk d2] 34 (0,0))) (sep (blk (P+1) (.cells #[.pointer (some ⟨P,0,none⟩)] 140 (0,0))) X)))))):=by simpa only[au,ak,aj] using h10
      exact h11.forget.forget)
     clear h10 HC hS0 hS1
     (refine hK _ _ (fun h=>by cases h) ?_;clear hK K;(try simp only[Act.put,lsA,lsB,bV]))
     (repeat ((first|(refine iK (v:=?_) rfl rfl (fun w'=>?_) ?_;rotate_left;(go_simp;with_reducible rfl))|(refine iL (v:=?_) rfl rfl hS0 (fun w' hS=>?_) ?_;rotate_left;((try dsimp only at hS);go_simp;with_reducible rfl))|(refine iM (v:=?_) rfl rfl ?_ ?_;rotate_left;(go_simp;with_reducible rfl))|(refine dF rfl rfl ?_)|(refine dG rfl rfl hS0 ?_)|(refine dH rfl rfl ?_));simp only[Act.put,lsA,lsB,bV]))
     refine eF ?_
     gi_wp2_with fail
     go_roundw
     case rel=>exact⟨k+1,by go_num,by have:=HK.out.1;omega,PO.out⟩
     case measure=>simp[intOf];have:=HK.out.1;omega
    ·obtain rfl:k=ni:=by omega
     have hS2:Sat W wr (sep (dh P (E3++dZ yi)) (sep (kn I) (sep (blk g (.cells #[.int .i64 yo,.int .i64 yn,.slice u1 k d1,.slice u2 nk d2] 34 (0,0))) (sep (blk (P+1) (.cells #[.pointer (some ⟨P,0,none⟩)] 140 (0,0))) X)))):=by
      rw[List.take_of_length_le (by have:=Xw.out.2.2.1;omega)] at hS
      exact hS
     obtain⟨k0,k1,k2,k3⟩:=kS hS2.p2
     have c0:wr.cell? ⟨P+1,0,none⟩=some (.pointer (some ⟨P,0,none⟩)):=hS2.p3.cell 0
     have H2:=ah hS2
     clear hS hS2 hlt hk
     gi_wp2_with fail
     refine⟨trivial,(callsIn_wide.2 (Iq.out _ _ H2.out)).mono ?_⟩
     rintro e w5 ⟨rfl,h10⟩
     have PO:Hid (Sat W w5 (sep (Dj I (P+1) P 140 dh (pre++[([.int .i64 yo,.int .i64 yn,.slice u1 k d1,.slice u2 nk d2],Fm.mk yo yn yi yk)])) X)):=ah (by
      unfold Dj
      rw[XR.out.1]
      have h11:Sat W w5 (sep (fact ((E0++oD (Fm.mk yo yn yi yk)).length≤3000*(pre++[(([.int .i64 yo,.int .i64 yn,.slice u1 k d1,.slice u2 nk d2],Fm.mk yo yn yi yk):FV)]).length)) (sep (kn I) (sep (blk (P+1) (.cells #[.pointer (some ⟨P,0,none⟩)] 140 (0,0))) (sep (dh P (E0++oD (Fm.mk yo yn yi yk))) X)))):=Sat.fact.2 ⟨XR.out.2,by
       have h12:Sat W w5 (sep (blk g (.cells #[.int .i64 yo,.int .i64 yn,.slice u1 k d1,.slice u2 nk d2] 34 (0,0))) (sep (kn I) (sep (blk (P+1) (.cells #[.pointer (some ⟨P,0,none⟩)] 140 (0,0))) (sep (dh P (E0++oD (Fm.mk yo yn yi yk))) X)))):=by simpa only[au,ak,aj] using h10
       exact h12.forget⟩
      simpa only[au,ak,aj] using h11)
     clear h10 H2 k0 k1 k2 k3 c0
     gi_wp2_with fail
     exact PO.out
  case done=>
   as_aux_lemma=>
   intro D xs w' hxs hS
   have hen:lU (xs.map (·.2))=E:=by rw[hxs,ZW.out.2.2,LM]
   unfold Dj at hS
   rw[hen] at hS
   have h7:Sat W w' (sep (fact (E.length≤3000*xs.length)) (sep (dh P E) (sep (blk D (.deferred (some []))) (sep (kn I) (sep (blk (P+1) (.cells #[.pointer (some ⟨P,0,none⟩)] 140 (0,0))) (sep (kn I) (sep (blk B (.cells #[.int .i64 p,.int .i64 q,.slice x1 n1 c1,.slice x2 n2 c2] 34 (0,0))) A))))))):=by simpa only[au,ak,aj] using hS
   obtain⟨hlb,h8⟩:=Sat.fact.1 h7
   have hxl:xs.length≤96:=by
    have h1:xs.length=f.nodes.length:=by rw[←hxs,List.length_map]
    rw[h1,Fm.sD];exact ZW.out.1
   have nJ:=ah (lV P E h8 (by omega))
   have c0:w'.cell? ⟨P+1,0,none⟩=some (.pointer (some ⟨P,0,none⟩)):=h8.p3.cell 0
   clear hS h7 h8 hlb hxl hen hxs h6 HR
   go_wp2_with fail
   refine nJ.out.mono ?_
   rintro e w5 ⟨a,c,rfl,h9⟩
   have h10:Sat W w5 (sep (blk D (.deferred (some []))) (sep (aY 5 1 a E.length c (E.map bv)) (sep (kn I) (sep (dh P E) (sep (kn I) (sep (blk (P+1) (.cells #[.pointer (some ⟨P,0,none⟩)] 140 (0,0))) (sep (blk B (.cells #[.int .i64 p,.int .i64 q,.slice x1 n1 c1,.slice x2 n2 c2] 34 (0,0))) A))))))):=by simpa only[au,ak,aj] using h9
   have hD:=h10.aK
   have h11:=(h10.putObj (.deferred none)).drop
   obtain⟨J,hle,hrb,h12⟩:=pW h11 rfl
   have HF:Hid (Mem.le I J∧gZ.rel J [.slice a E.length c] E∧Sat W (w5.putObj D (.deferred none)) (sep (kn J) A)):=ah ⟨hle,hrb,by
    have h13:Sat W (w5.putObj D (.deferred none)) (sep (dh P E) (sep (kn I) (sep (blk (P+1) (.cells #[.pointer (some ⟨P,0,none⟩)] 140 (0,0))) (sep (blk B (.cells #[.int .i64 p,.int .i64 q,.slice x1 n1 c1,.slice x2 n2 c2] 34 (0,0))) (sep (kn J) A))))):=by simpa only[au,ak,aj] using h12
    obtain⟨a',n',c',-,Ik⟩:=oG h13
    exact Ik.drop.drop.drop.drop.drop⟩
   clear h9 h10 h11 hle hrb h12 nJ c0
   go_wp2_with fail
   refine⟨by simp,.inl ⟨_,_,rfl,run_takeDeferred hD,?_⟩⟩
   refine⟨.tuple #[.slice a E.length c,.int .i64 0],?_,?_⟩
   ·simp[results,Tryz.results75,go_sem]
   ·rw[bP.out]
    exact⟨a,E.length,c,J,rfl,HF.out.1,HF.out.2.1,HF.out.2.2⟩
  case stop=>
   intro D c xs w' _ hS
   exact absurd (Sat.fact.1 (show Sat W w' (sep (fact False) _) from hS.p1)).1 (fun h=>h)
 ·have Xx:=ah (yj.out.1 hb0)
  have hb1:(rv !=0)=true:=by simpa using hb0
  have hb2:(rv==0)=false:=by simpa using hb0
  clear yj hb0 Xg
  refine (callsIn_wide (n:=5)).1 ?_
  refine callsIn_of_wp_marks Tryz.func75 rfl trivial ?_ rfl
  simp only[Tryz.ntmps75,List.size_toArray,List.length_cons,List.length_nil,Nat.reduceAdd,Nat.reduceSub,Array.replicate_succ,Array.replicate_zero,List.push_toArray,List.append_toArray,List.nil_append,List.cons_append]
  refine wpIn_wide.2 ?_
  go_upto_region 1 with (fail)
  rw[←HB.out.1,←HB.out.2]
  go_wp2_with fail
  refine (Ho.out _ _ H1.out.p1).mono ?_
  rintro e w2 ⟨rfl,h2⟩
  have HF:=ah h2.p1.drop
  clear h2 Ho k0 k1 k2 k3
  go_wp2_with fail
  refine⟨.tuple #[.slice none 0 0,.int .i64 rv],?_,?_⟩
  ·simp[results,Tryz.results75,go_sem]
  ·rw[bP.out]
   exact⟨none,0,0,I,rfl,Mem.le_refl I,by rw[Xx.out];exact pX I,HF.out⟩
end Go.Proofs.YthfmaclnccdcbaaGreatDoor
