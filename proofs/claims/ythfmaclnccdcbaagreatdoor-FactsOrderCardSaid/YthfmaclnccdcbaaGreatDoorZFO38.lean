/- Part of a proof. -/
import Derived.Test.YthfmaclnccdcbaaGreatDoorZFO37
namespace PA
open Go
theorem fH.mono {N M:Nat} (h:N≤M) {z:Int} (hz:fH N z):fH M z:=by
 obtain⟨j,h1,h2⟩:=hz;exact⟨j,by omega,h2⟩
theorem tq.up {I:Mem} {N M:Nat} (h:N≤M) {z:Ac} (hz:tq I N z):tq I M z:=⟨hz.1.mono h,hz.2⟩
theorem gU.snoc {α β:Type} {p:α→β→Prop} {l:List α} {m:List β} {a:α} {b:β} (h:gU p l m) (hab:p a b):gU p (l++[a]) (m++[b]):=h.append ⟨hab,trivial⟩
theorem TP (l:List Pa) (x:Pa):BI (l++[x])=BI l+if x.k=0 then 1 else 0:=by
 unfold BI;rw[List.filter_append,dM];by_cases h:x.k=0<;>simp[h]
theorem RF (l:List Pa):BI l≤l.length:=List.length_filter_le _ _
theorem Made.nil:Made []:=fun _ h=>absurd h (Nat.not_lt_zero _)
theorem Made.snoc {l:List Pa} {x:Pa} (h:Made l) (h1:KR (BI l) x) (h2:x.n=4*(l.length:Int)) (h3:l.length=0→x.k=0):Made (l++[x]):=by
 intro i hi;by_cases e:i<l.length
 ·rw[List.getElem_append_left e,List.take_append_of_le_length (by omega)]
  exact h i e
 ·have e2:i=l.length:=by simp at hi;omega
  subst e2;simp only[List.getElem_append_right (Nat.le_refl _),Nat.sub_self,List.getElem_singleton];rw[List.take_append_of_le_length (Nat.le_refl _),List.take_length];exact⟨h1,h2,h3⟩
theorem Made.first {l:List Pa} (h:Made l) (hl:0<l.length):1≤BI l:=by
 have h0:=(h 0 hl).2.2 rfl;unfold BI;refine List.length_pos_of_mem (a:=l[0]) (List.mem_filter.2 ⟨List.getElem_mem hl,?_⟩);simp[h0]
structure SInv (I J:Mem) (x pos:Nat) (day:Int) (zl:List Ac) (ps:List Pa) (zs:List Ac):Prop where
 len:zl.length=x
 all:gU (lT J) zl ps
 made:Made ps
 fil:zs.length=BI ps
 fat:∀z∈zs,tq J zs.length z
 le:Mem.le I J
 pos:pos≤200*x
 d1:36000≤day
 d2:day≤36000+119*(x:Int)
theorem lT.nums {I J:Mem} {z:Ac} {x:Pa} (h:lT I z x) (hl:Mem.le I J) (d n u:Int):lT J { z with d:=d,n:=n,u:=u } { x with d:=d,n:=n,u:=u }:=
 have h:=h.mono hl
 ⟨h.k,rfl,rfl,h.f,h.o,h.p,h.q,rfl,h.m,h.sn,h.sd,h.td,h.tc,h.cl,h.ea,h.fx⟩
theorem gen_u {N:Nat} {y:Pa} {kz:Int} (bk:Bool) (_:bk=true↔kz=0) (h1:bk=true→Df N y∧y.k=0) (h2:bk=false→Other N y∧y.k=kz):-1000000≤y.u∧y.u≤1000000:=by
 cases bk with
 | true=>
  obtain⟨o,p,q,td,tc,ea,e,-⟩:=(h1 rfl).1;rw[e];exact⟨by show (-1000000:Int)≤0;omega,by show (0:Int)≤1000000;omega⟩
 | false=>
  cases (h2 rfl).1<;>(constructor<;>(simp only[Pa.zero]<;>omega))
theorem Uw {I J J1:Mem} {x pos pos2:Nat} {day fJ:Int} {zl:List Ac} {ps:List Pa} {zs zs':List Ac} {bk bd:Bool} {kz dd xz:Int} {z z3:Ac} {y:Pa} (h:SInv I J x pos day zl ps zs) (hle:Mem.le J J1)
 (hbk:bk=true↔kz=0) (hA:lT J1 z y) (hF:bk=true→Df zs.length y∧y.k=0) (hO:bk=false→Other zs.length y∧y.k=kz) (hbd:bd=true↔kz=9∨kz=17∨kz=20) (hd1:35600≤dd) (hd2:dd≤38000)
 (hz3:z3={ z with d:=dd,n:=4*xz,u:=if bd=true then dd+z.u else z.u }) (hz1:bk=true→zs'=zs++[z3]) (hz2:bk=false→zs'=zs) (hx:xz=(x:Int)) (h0:x=0→kz=0)
 (hp:pos2≤200*(x+1)) (hy1:36000≤fJ) (hy2:fJ≤36000+119*((x+1:Nat):Int)):SInv I J1 (x+1) pos2 fJ (zl++[z3]) (ps++[bH y dd (4*xz)]) zs':=by
 have hyk:y.k=kz:=by
  cases bk with
  | true=>rw[(hF rfl).2,hbk.1 rfl]
  | false=>exact (hO rfl).2
 have hu:(if bd=true then dd+z.u else z.u)=(if y.k=9∨y.k=17∨y.k=20 then dd+y.u else y.u):=by
  rw[hyk,←hA.u];by_cases hb:bd=true
  ·rw[if_pos hb,if_pos (hbd.1 hb)]
  ·rw[if_neg hb,if_neg (fun hh=>hb (hbd.2 hh))]
 have hIs:lT J1 z3 (bH y dd (4*xz)):=by
  rw[hz3,hu];exact hA.nums (bW _) _ _ _
 have hlen:=gU.length h.all;have hl:=h.len;have hk3:(bH y dd (4*xz)).k=kz:=hyk;have hgood:KR (BI ps) (bH y dd (4*xz)):=by
  rw[←h.fil];refine⟨y,dd,4*xz,?_,hd1,hd2,rfl⟩;cases bk with
  | true=>exact .inl (hF rfl).1
  | false=>exact .inr (hO rfl).1
 refine⟨by simp[hl],(h.all.wk fun _ _ hh=>hh.mono hle).snoc hIs,h.made.snoc hgood (by show 4*xz=_;omega) (fun e=>by rw[hk3];exact h0 (by omega)),?_,?_,eG h.le hle,hp,hy1,hy2⟩
 ·rw[TP,←h.fil,hk3]
  cases bk with
  | true=>rw[hz1 rfl,if_pos (hbk.1 rfl)];simp
  | false=>
   have hne:¬kz=0:=fun e=>by have:=hbk.2 e;cases this
   rw[hz2 rfl,if_neg hne];rfl
 ·intro zz hzz
  cases bk with
  | false=>
   rw[hz2 rfl] at hzz ⊢;exact (h.fat zz hzz).mono hle
  | true=>
   rw[hz1 rfl] at hzz ⊢;rcases List.mem_append.1 hzz with hm|hm
   ·exact ((h.fat zz hm).mono hle).up (by simp)
   ·rw[vW hm,hz3]
    obtain⟨o,p,q,td,tc,ea,e,ho,hp',hq,hT,hE⟩:=(hF rfl).1;refine⟨⟨zs.length,by simp,?_⟩,?_,?_,hd1,hd2,td,tc,?_,?_,hT⟩
    ·show z.f=_;rw[hA.f,e]
    ·show z.o=0∨z.o=1;rw[hA.o,e];exact ho
    ·show z.p=1∨z.p=2;rw[hA.p,e];exact hp'
    ·have:=hA.td;rw[e] at this;exact this
    ·have:=hA.tc;rw[e] at this;exact this
end PA
namespace Go.Proofs.YthfmaclnccdcbaaGreatDoor
open Go.RowKit PA
theorem bsI40 (w:World):(LG 40 #[(0,.int .i64 0),(1,.int .i64 0),(2,.int .i64 0),(3,.int .i64 0),(4,.int .i64 0),(5,.int .i64 0),(6,.int .i64 1),(7,.int .i64 1),(8,.int .i64 1),(9,.int .i64 2),(10,.int .i64 3),(11,.int .i64 3),(12,.int .i64 4),(13,.int .i64 4),(14,.int .i64 4),(15,.int .i64 5),(16,.int .i64 6),(17,.int .i64 6),(18,.int .i64 7),(19,.int .i64 8),(20,.int .i64 9),(21,.int .i64 10),(22,.int .i64 10),(23,.int .i64 10),(24,.int .i64 10),(25,.int .i64 11),(26,.int .i64 12),(27,.int .i64 12),(28,.int .i64 13),(29,.int .i64 13),(30,.int .i64 14),(31,.int .i64 15),(32,.int .i64 16),(33,.int .i64 16),(34,.int .i64 17),(35,.int .i64 18),(36,.int .i64 19),(37,.int .i64 19),(38,.int .i64 20),(39,.int .i64 21)]).run Tryz.prog w=.ok (.slice (some ⟨w.heap.size,0,none⟩) 40 40) (w.alloc (.cells UK 3)):=by
 obtain⟨i,h1,h2,h3,h4⟩:=info_parts yM;exact run_buildSlice w 22 3 40 _ _ i _ Tryz.underlying22 h1 h2 (by rw[h3];omega) (by rw[h3];omega) (by rw[h3];kernel_rfl)
def bsAc (p:Array (Nat×Value)):Sem Value:=Instr.buildSlice 23 1 p
theorem ji (p:Array (Nat×Value)):Instr.buildSlice 23 1 p=bsAc p:=rfl
theorem Rl (z:Ac) (w:World):(bsAc #[(0,.agg z.cells.toArray)]).run Tryz.prog w=.ok (.slice (some ⟨w.heap.size,0,none⟩) 1 1) (w.alloc (.cells z.cells.toArray 36)):=by
 obtain⟨i,h1,h2,h3,h4⟩:=info_parts qw;exact run_buildSlice w 23 36 1 _ _ i _ Tryz.underlying23 h1 h2 (by rw[h3];omega) (by rw[h3];omega) (by rw[h3];kernel_rfl)
def uQ:List Int:=[0,0,0,0,0,0,1,1,1,2,3,3,4,4,4,5,6,6,7,8,9,10,10,10,10,11,12,12,13,13,14,15,16,16,17,18,19,19,20,21]
theorem Qb (r:Nat) (hr:r<40):∃k:Nat,uQ[r]?=some (k:Int)∧k≤21:=by
 have h:r<uQ.length:=hr;have hall:∀z∈uQ,0≤z∧z≤21:=by
  intro z hz;simp only[uQ,List.mem_cons,List.not_mem_nil,or_false] at hz;omega
 have h2:=hall _ (List.getElem_mem h);exact⟨uQ[r].toNat,by rw[iM h,show ((uQ[r].toNat:Nat):Int)=uQ[r] by omega],by omega⟩
attribute [local go_sem ↓] aY bI uF ji
attribute [local go_sem] XD bsI40 Rl
set_option maxRecDepth 100000 in
set_option maxHeartbeats 16000000 in
theorem JX {W w:World} {A:aB} {I:Mem} (va:Value) (l:List Int) (most:Nat) (hm:most≤14) (hv:OM I va l) (h:Sat W w (sep (kn I) A)):
 Calls Tryz.prog 14 #[va,.int .i64 most] w fun e w'=>∃(a:Option Addr) (n c:Nat) (zl:List Ac) (ps:List Pa) (J:Mem),e=.returned (.slice a n c)∧n=zl.length∧n≤most∧(n=0→a=none∧c=0)∧Mem.le I J∧gU (lT J) zl ps∧Made ps∧Sat W w' (sep (aT 36 19 a n c (bY zl)) (sep (kn J) A)):=by
 obtain⟨⟨a0,c0,rfl⟩,-⟩:=id hv;obtain⟨ll,hll⟩:=aC (l.length);have hlen:(ll:Int)≤9223372036854775807:=by
  obtain⟨a',c',e,hsw,-⟩:=ru.1 hv.2.1;have h1:=hsw.1;have h2:=hsw.2.1;unfold maxLen at h2;omega
 rw[←hll] at hv ⊢;obtain⟨B,hB⟩:=aC (w.heap.size);obtain⟨va,hva⟩:=aC (Value.slice a0 ll c0);have h1:=h.alloc (.cells #[.slice a0 ll c0,.int .i64 0,.int .i64 36000,.slice none 0 0] 86);obtain⟨w1,hw1⟩:=aC (w.alloc (.cells #[.slice a0 ll c0,.int .i64 0,.int .i64 36000,.slice none 0 0] 86));rw[←hB,←hw1,←hva] at h1;have h2:=h1.alloc (.cells UK 3);obtain⟨KB,hKB⟩:=aC (w1.heap.size);obtain⟨w2,hw2⟩:=aC (w1.alloc (.cells UK 3));rw[←hKB,←hw2] at h2;obtain⟨uo,abo⟩:=aC ((blk KB (.cells UK 3 (0,0))));rw[←abo] at h2
 have H2:Hid (Sat W w2 (sep (bM B va ((0:Nat):Int) 36000 (.slice none 0 0)) (sep (kn I) (sep uo A)))):=ah (by
  have h9:Sat W w2 (sep uo (sep (bM B va ((0:Nat):Int) 36000 (.slice none 0 0)) (sep (kn I) A))):=h2;simpa only[aA,au,aj] using h9)
 rw[←hva] at hv;have HV:=ah hv;have HW:=ah (aH hB (aH hw1 (aH hKB hw2)));have wK:=ah hva;have HKB:=ah abo;have HM:=ah hm;have hmz:(most:Int)≤14:=by omega
 clear h h1 h2 hB hw1 hKB hw2 hva abo hv hm hll;go_enter Tryz.func14,Tryz.ntmps14;go_upto_region 3 with fail;rw[←HW.out.1,←HW.out.2.1];go_upto_region 4 with fail;rw[←HW.out.2.2.1,←HW.out.2.2.2];go_wp2_with fail;go_loopw [6,8] (fun ov iv wr=>∃(x c pos fc:Nat) (xz:Int) (a fa:Option Addr) (day:Int) (zl:List Ac) (ps:List Pa) (zs:List Ac) (J:Mem),ov=.slice a x c∧iv=.int .i64 xz∧Hid (xz=(x:Int))∧Hid (x=0→a=none∧c=0)∧x≤most∧Hid (SInv I J x pos day zl ps zs∧Sat W wr (sep (aT 36 19 a x c (bY zl)) (sep (bM B va (pos:Int) day (.slice fa zs.length fc)) (sep (aT 36 19 fa zs.length fc (bY zs)) (sep (kn J) (sep uo A))))))) (fun _ iv _=>15-(intOf iv).toNat)
 case atStart=>
  exact⟨0,0,0,0,0,none,none,36000,[],[],[],I,rfl,rfl,ah rfl,ah (fun _=>⟨rfl,rfl⟩),Nat.zero_le _,ah ⟨⟨rfl,trivial,Made.nil,rfl,(fun z hz=>by cases hz),bW _,by omega,by omega,by omega⟩,by
   show Sat W w2 (sep (aT 36 19 none 0 0 []) (sep (bM B va ((0:Nat):Int) 36000 (.slice none 0 0)) (sep (aT 36 19 none 0 0 []) (sep (kn I) (sep uo A)))));have h9:=(H2.out.fV 36 19).fV 36 19;simpa only[aA,au,aj] using h9⟩⟩
 case round=>
  obtain⟨x,c,pos,fc,xz,a,fa,day,zl,ps,zs,J,rfl,rfl,HXZ,acK,hxm,HL⟩:=hrel;have HXM:=ah hxm;have cat:wr.cell? ⟨B,1,none⟩=some (.int .i64 pos):=(show Sat W wr (sep (blk B (.cells #[va,.int .i64 (pos:Int),.int .i64 day,(.slice fa zs.length fc)] 86 (0,0))) (sep (aT 36 19 a x c (bY zl)) (sep (aT 36 19 fa zs.length fc (bY zs)) (sep (kn J) (sep uo A))))) from HL.out.2.p1).cell 1;have bx1:0≤xz:=by have:=HXZ.out;omega
  have bx2:xz≤14:=by have:=HXZ.out;omega
  have bpz:(pos:Int)≤2800:=by have:=HL.out.1.pos;have:=HXM.out;omega
  by_cases hp:pos<ll
  ·by_cases hx:x<most
   ·have hpz:(pos:Int)<(ll:Int):=by omega
    have hxz:(x:Int)<(most:Int):=by omega
    have HX:=ah hx;clear hp hx hxm;have um:=HL.out.1;have hd:=HL.out.2.drew;have HMK:Hid (Sat W wr.drew (sep (bM B va (pos:Int) day (.slice fa zs.length fc)) (sep (kn J) (sep (aT 36 19 a x c (bY zl)) (sep (aT 36 19 fa zs.length fc (bY zs)) (sep uo A)))))):=ah (dI hd);have hS0:wr.drew.cell? ⟨B,2,none⟩=some (.int .i64 day):=(show Sat W wr.drew (sep (blk B (.cells #[va,.int .i64 (pos:Int),.int .i64 day,(.slice fa zs.length fc)] 86 (0,0))) _) from HMK.out).cell 2;have HVJ:Hid (OM J va l):=ah (HV.out.mono um.le);have hb1:=bF l pos 120 (by omega);have kM:=ah (aS va l pos 120 (by omega) (by omega) (by omega) HVJ.out HMK.out);obtain⟨v1,hv1⟩:=aC (dH l pos 120);rw[←hv1] at hb1 kM;obtain⟨xK,xM⟩:=hb1;have bd1:36000≤day:=um.d1;have bd2:day≤38000:=by have:=um.d2;have:=HXM.out;omega
    have hwd:IntKind.i64.wrap (day+v1)=day+v1:=IntWalk.i64_in _ (by omega);clear hd hv1 HMK;go_upto_region 7 with fail;refine aG rfl (fun w'=>w'.cell? ⟨B,2,none⟩=some (.int .i64 day)) [(0,.p),(1,.p),(2,.p),(3,.p),(4,.s),(5,.p),(6,.e true),(7,.p),(8,.p),(9,.p),(10,.e false)] (by kernel_rfl) ?_;refine bG ?_
    (refine jJ rfl rfl (fun K hK=>?_);go_simp)
    refine kM.out.mono ?_;rintro e w3 ⟨rfl,h3⟩;have h3b:Sat W w3 (sep (blk B (.cells #[va,.int .i64 ((pos+1:Nat):Int),.int .i64 day,(.slice fa zs.length fc)] 86 (0,0))) (sep (kn J) (sep (aT 36 19 a x c (bY zl)) (sep (aT 36 19 fa zs.length fc (bY zs)) (sep uo A))))):=h3;have hS1:w3.cell? ⟨B,2,none⟩=some (.int .i64 day):=h3b.cell 2;have fB2:=h3b.aI 2;have h4:=h3b.setCell 2 (.int .i64 (day+v1));obtain⟨w4,hw4⟩:=aC (w3.setCell ⟨B,2,none⟩ (.int .i64 (day+v1)));rw[←hw4] at h4;obtain⟨fJ,RH⟩:=aC (day+v1);rw[←RH] at hw4 h4;replace hwd:IntKind.i64.wrap (day+v1)=fJ:=by rw[hwd,RH]
    have H4:Hid (Sat W w4 (sep (bM B va ((pos+1:Nat):Int) fJ (.slice fa zs.length fc)) (sep (kn J) (sep (aT 36 19 a x c (bY zl)) (sep (aT 36 19 fa zs.length fc (bY zs)) (sep uo A)))))):=ah h4;have Yz:Hid (fJ=day+v1∧36000≤fJ∧fJ≤36000+119*((x+1:Nat):Int)):=ah ⟨RH,by omega,by have:=um.d2;omega⟩;have KW:=ah hw4;clear h3 h3b h4 hw4 RH kM cat hS0
    (refine hK _ _ (fun _=>hS1) ?_;clear hK K;(try simp only[Act.put,lsA,lsB,lq]))
    refine bG ?_
    (refine jJ rfl rfl (fun K hK=>?_);go_simp)
    rw[←KW.out];refine dY ?_;clear hK K;refine dJ ?_;clear hS1 fB2 hwd KW xK xM bd1 bd2;have bd1:36000≤fJ:=Yz.out.2.1;have bd2:fJ≤38000:=by have:=Yz.out.2.2;have:=HX.out;omega
    have hb2:=bF l (pos+1) 40 (by omega);have pJ:=ah (aS va l (pos+1) 40 (by omega) (by omega) (by omega) HVJ.out H4.out);obtain⟨v2,hv2⟩:=aC (dH l (pos+1) 40);rw[←hv2] at hb2 pJ;obtain⟨rr,rfl⟩:∃r:Nat,v2=(r:Int):=⟨v2.toNat,by omega⟩
    have hrr:rr<40:=by omega
    have afW:(rr:Int)<40:=by omega
    obtain⟨kk0,adE,aaC⟩:=Qb rr hrr;obtain⟨kz0,abv⟩:∃z:Int,z=(kk0:Int):=⟨_,rfl⟩
    clear hv2 hb2;go_upto_region 8 with fail;go_wp2_with fail;refine pJ.out.mono ?_;rintro e w5 ⟨rfl,h5⟩;have ck:w5.cell? ⟨KB,rr,none⟩=some (.int .i64 kz0):=by
     have h6:=h5;rw[HKB.out] at h6;have h7:Sat W w5 (sep (blk KB (.cells UK 3 (0,0))) (sep (bM B va ((pos+1+1:Nat):Int) fJ (.slice fa zs.length fc)) (sep (kn J) (sep (aT 36 19 a x c (bY zl)) (sep (aT 36 19 fa zs.length fc (bY zs)) A))))):=dI h6;rw[h7.cell rr,show (UK:Array Value)=(uQ.map PA.iv).toArray from rfl,List.getElem?_toArray,List.getElem?_map,adE,abv];rfl
    have H5:=ah h5;have HK0:=ah (aH abv aaC);clear h5 adE abv aaC pJ H4 hrr;obtain⟨t0,ht0⟩:∃b,(xz==0)=b:=⟨_,rfl⟩
    go_upto_if 48 with fail;go_cut [9] from 47 to 48 (fun kv wx=>∃kz:Int,kv=.int .i64 kz∧Hid (∃kk:Nat,kz=(kk:Int)∧kk≤21∧(x=0→kk=0))∧wx=w5)
    case first=>
     as_aux_lemma=>
      cases t0 with
      | true=>
       go_wp2;go_meet;case rel=>exact⟨0,rfl,ah ⟨0,rfl,by omega,fun _=>rfl⟩,rfl⟩
      | false=>
       have hx0:¬x=0:=fun e0=>by have h1:=HXZ.out;rw[e0] at h1;rw[h1] at ht0;cases ht0
       have HX0:=ah hx0;clear hx0;go_wp2;go_meet;case rel=>exact⟨kz0,rfl,ah ⟨kk0,HK0.out.1,HK0.out.2,fun h=>absurd h HX0.out⟩,rfl⟩
    obtain⟨kz,rfl,HKZ,hwc⟩:=hcut;rw[hwc];clear hwc ck HK0 ht0 afW;obtain⟨Q,hQ⟩:=aC (w5.heap.size);obtain⟨w6,hw6⟩:=aC (w5.alloc (.cells iW 36));have h6:=H5.out.alloc (.cells iW 36);rw[←hQ,←hw6] at h6;have H6:=ah h6;have HQ:=ah (aH hQ hw6);clear hQ hw6 h6 H5;go_upto_region 12 with fail;rw[←HQ.out.1]
    change Code.wp _ _ _ _ (w5.alloc (.cells iW 36))
    rw[←HQ.out.2];obtain⟨bk,hbk⟩:∃b,(kz==0)=b:=⟨_,rfl⟩
    have HBK:Hid (bk=true↔kz=0):=ah (by rw[←hbk];simp);clear HQ;go_upto_if 51 with fail;go_cut [] from 52 to 56 (fun wx=>∃(z:Ac) (y:Pa) (J1:Mem) (pos1:Nat),Hid (lT J1 z y∧(bk=true→Df zs.length y∧y.k=0)∧(bk=false→Other zs.length y∧y.k=kz)∧Mem.le J J1∧pos1≤pos+70∧Sat W wx (sep (blk Q (.cells (Ac.cells z).toArray 36 (0,0))) (sep (bM B va (pos1:Int) fJ (.slice fa zs.length fc)) (sep (kn J1) (sep (aT 36 19 a x c (bY zl)) (sep (aT 36 19 fa zs.length fc (bY zs)) (sep uo A))))))))
    case first=>
     as_aux_lemma=>
      have hFA:∀z∈zs,tq J zs.length z:=um.fat;have PW:zs.length≤20:=by have:=um.fil;have:=RF ps;have:=gU.length um.all;have:=um.len;have:=HXM.out;have:=HM.out;omega
      have hin:Sat W w6 (sep (bM B va ((pos+1+1:Nat):Int) fJ (.slice fa zs.length fc)) (sep (aT 36 19 fa zs.length fc (bY zs)) (sep (kn J) (sep (blk Q (.cells iW 36 (0,0))) (sep (aT 36 19 a x c (bY zl)) (sep uo A)))))):=dI H6.out;cases bk with
      | true=>
       have HC:=ah (V4 va l (pos+1+1) (by omega) HVJ.out PW hFA hin);clear hin hFA PW;go_wp2_with fail;refine HC.out.mono ?_;rintro e w7 ⟨z,y,J1,pos1,rfl,hA,hY,hle,hp1,hp2,h7⟩;have h8:Sat W w7 (sep (blk Q (.cells iW 36 (0,0))) (sep (bM B va (pos1:Int) fJ (.slice fa zs.length fc)) (sep (kn J1) (sep (aT 36 19 a x c (bY zl)) (sep (aT 36 19 fa zs.length fc (bY zs)) (sep uo A)))))):=dI h7;have hst:=cZ h8.aO rfl z;have h9:=h8.setRow z.cells.toArray;obtain⟨w8,hw8⟩:=aC (w7.setRow Q z.cells.toArray);rw[←hw8] at hst h9;have H9:=ah h9;have HY:=ah (aH hA (aH hY (aH hle (aH hp1 hp2))));clear h7 h8 h9 hw8 HC hA hY hle hp1 hp2;go_wp2;go_meet;case rel=>exact⟨z,y,J1,pos1,ah ⟨HY.out.1,(fun _=>⟨HY.out.2.1,by obtain⟨o,p,q,td,tc,ea,e,-⟩:=HY.out.2.1;rw[e];rfl⟩),(fun h=>by cases h),HY.out.2.2.1,by have:=HY.out.2.2.2.2;omega,H9.out⟩⟩
      | false=>
       obtain⟨kk,hkk,adD,hx0⟩:=HKZ.out;have hk1:1≤kk:=by
        rcases Nat.eq_zero_or_pos kk with h0|h0
        ·rw[h0] at hkk;rw[hkk] at hbk;cases hbk
        ·exact h0
       have hN1:1≤zs.length:=by
        rw[um.fil];refine um.made.first ?_
        have h1:=gU.length um.all;have h2:=um.len;rcases Nat.eq_zero_or_pos x with h0|h0
        ·have:=hx0 h0;omega
        ·omega
       have hcall:=Xm va l (pos+1+1) kk (by omega) hk1 adD HVJ.out PW hN1 hFA hin;rw[←hkk] at hcall;clear hx0 hk1 hN1 adD hkk;have HC:=ah (hcall);clear hin hFA PW;go_wp2_with fail;refine HC.out.mono ?_;rintro e w7 ⟨z,y,J1,pos1,rfl,hA,hY,hyk,hle,hp1,hp2,h7⟩;have h8:Sat W w7 (sep (blk Q (.cells iW 36 (0,0))) (sep (bM B va (pos1:Int) fJ (.slice fa zs.length fc)) (sep (kn J1) (sep (aT 36 19 a x c (bY zl)) (sep (aT 36 19 fa zs.length fc (bY zs)) (sep uo A)))))):=dI h7;have hst:=cZ h8.aO rfl z;have h9:=h8.setRow z.cells.toArray;obtain⟨w8,hw8⟩:=aC (w7.setRow Q z.cells.toArray);rw[←hw8] at hst h9;have H9:=ah h9;have HY:=ah (aH hA (aH hY (aH hle (aH hp1 (aH hp2 hyk)))));clear hyk h7 h8 h9 hw8 HC hA hY hle hp1 hp2;go_wp2;go_meet;case rel=>exact⟨z,y,J1,pos1,ah ⟨HY.out.1,(fun h=>by cases h),(fun _=>⟨HY.out.2.1,HY.out.2.2.2.2.2⟩),HY.out.2.2.1,by have:=HY.out.2.2.2.2.1;omega,H9.out⟩⟩
    obtain⟨z,y,J1,pos1,HY⟩:=hcut;have HV1:Hid (OM J1 va l):=ah (HVJ.out.mono HY.out.2.2.2.1);have ag8:pos1<10000:=by have:=HY.out.2.2.2.2.1;omega
    clear H6 hbk;have cB2:wc.cell? ⟨B,2,none⟩=some (.int .i64 fJ):=(show Sat W wc (sep (blk B (.cells #[va,.int .i64 (pos1:Int),.int .i64 fJ,(.slice fa zs.length fc)] 86 (0,0))) _) from HY.out.2.2.2.2.2.p1).cell 2;obtain⟨d1a,d1b⟩:=ay HY.out.2.2.2.2.2 1 (.int .i64 z.d) rfl;have h10:=HY.out.2.2.2.2.2.setCell 1 (.int .i64 fJ);have e9:z.cells.toArray.setIfInBounds 1 (.int .i64 fJ)=(Ac.cells { z with d:=fJ }).toArray:=by simp[Ac.cells]
    rw[e9] at h10;obtain⟨w10,abO⟩:=aC (wc.setCell ⟨Q,1,none⟩ (.int .i64 fJ));rw[←abO] at h10;have KD:=ah h10;have acX:=ah abO;clear h10 e9 abO;go_upto_region 16 with fail;rw[←acX.out];clear acX cB2 d1a d1b;have HN6:=ah (aS va l pos1 6 (by omega) (by omega) (by omega) HV1.out (show Sat W w10 (sep (bM B va (pos1:Int) fJ (.slice fa zs.length fc)) (sep (kn J1) (sep (blk Q (.cells (Ac.cells { z with d:=fJ }).toArray 36 (0,0))) (sep (aT 36 19 a x c (bY zl)) (sep (aT 36 19 fa zs.length fc (bY zs)) (sep uo A)))))) from dI KD.out));obtain⟨v6,hv6⟩:=aC (dH l pos1 6);rw[←hv6] at HN6;obtain⟨t6,ht6⟩:∃b,(v6==0)=b:=⟨_,rfl⟩
    clear hv6 KD;go_wp2_with fail;refine HN6.out.mono ?_;rintro e w11 ⟨rfl,h11⟩;have Yv:Hid (Sat W w11 (sep (blk Q (.cells (Ac.cells { z with d:=fJ }).toArray 36 (0,0))) (sep (bM B va ((pos1+1:Nat):Int) fJ (.slice fa zs.length fc)) (sep (kn J1) (sep (aT 36 19 a x c (bY zl)) (sep (aT 36 19 fa zs.length fc (bY zs)) (sep uo A))))))):=ah (dI h11);clear h11 HN6;go_upto_if 64 with fail;go_cut [] from 65 to 72 (fun wx=>∃(dd:Int) (pos2:Nat),Hid (35600≤dd∧dd≤38000∧pos2≤pos1+2∧Sat W wx (sep (blk Q (.cells (Ac.cells { z with d:=dd }).toArray 36 (0,0))) (sep (bM B va (pos2:Int) fJ (.slice fa zs.length fc)) (sep (kn J1) (sep (aT 36 19 a x c (bY zl)) (sep (aT 36 19 fa zs.length fc (bY zs)) (sep uo A))))))))
    case first=>
     as_aux_lemma=>
      cases t6 with
      | true=>
       have hd:=Yv.out.drew;have hmk:Sat W w11.drew (sep (bM B va ((pos1+1:Nat):Int) fJ (.slice fa zs.length fc)) (sep (kn J1) (sep (blk Q (.cells (Ac.cells { z with d:=fJ }).toArray 36 (0,0))) (sep (aT 36 19 a x c (bY zl)) (sep (aT 36 19 fa zs.length fc (bY zs)) (sep uo A)))))):=dI hd;have hS0:w11.drew.cell? ⟨B,2,none⟩=some (.int .i64 fJ):=(show Sat W w11.drew (sep (blk B (.cells #[va,.int .i64 ((pos1+1:Nat):Int),.int .i64 fJ,(.slice fa zs.length fc)] 86 (0,0))) _) from hmk).cell 2;have HN7:=ah (aS va l (pos1+1) 400 (by omega) (by omega) (by omega) HV1.out hmk);have hb7:=bF l (pos1+1) 400 (by omega);obtain⟨v7,hv7⟩:=aC (dH l (pos1+1) 400);rw[←hv7] at HN7 hb7;obtain⟨ai6,ai7⟩:=hb7;have hw7:IntKind.i64.wrap (fJ-v7)=fJ-v7:=IntWalk.i64_in _ (by omega);clear hd hmk hv7 Yv;go_upto_region 17 with fail;refine aG rfl (fun w'=>w'.cell? ⟨B,2,none⟩=some (.int .i64 fJ)) [(0,.p),(1,.p),(2,.p),(3,.s),(4,.p),(5,.e true),(6,.p),(7,.p),(8,.e false)] (by kernel_rfl) ?_;refine bG ?_
       (refine jJ rfl rfl (fun K hK=>?_);go_simp)
       refine HN7.out.mono ?_;rintro e w12 ⟨rfl,h12⟩;have hS1:w12.cell? ⟨B,2,none⟩=some (.int .i64 fJ):=(show Sat W w12 (sep (blk B (.cells #[va,.int .i64 ((pos1+1+1:Nat):Int),.int .i64 fJ,(.slice fa zs.length fc)] 86 (0,0))) _) from h12).cell 2;have h13:Sat W w12 (sep (blk Q (.cells (Ac.cells { z with d:=fJ }).toArray 36 (0,0))) (sep (bM B va ((pos1+1+1:Nat):Int) fJ (.slice fa zs.length fc)) (sep (kn J1) (sep (aT 36 19 a x c (bY zl)) (sep (aT 36 19 fa zs.length fc (bY zs)) (sep uo A)))))):=dI h12;obtain⟨d1a,d1b⟩:=ay h13 1 (.int .i64 fJ) rfl;have wG:=h13.setCell 1 (.int .i64 (fJ-v7));have e9:(Ac.cells { z with d:=fJ }).toArray.setIfInBounds 1 (.int .i64 (fJ-v7))=(Ac.cells { z with d:=fJ-v7 }).toArray:=by simp[Ac.cells]
       rw[e9] at wG;have H14:=ah wG;clear h12 h13 wG e9 HN7 hS0
       (refine hK _ _ (fun _=>hS1) ?_;clear hK K;(try simp only[Act.put,lsA,lsB,lq]))
       refine bG ?_
       (refine jJ rfl rfl (fun K hK=>?_);go_simp)
       refine dY ?_;clear hK K;refine dJ ?_;go_wp2;go_meet;case rel=>exact⟨fJ-v7,pos1+1+1,ah ⟨by omega,by omega,by omega,H14.out⟩⟩
      | false=>
       go_wp2;go_meet;case rel=>exact⟨fJ,pos1+1,ah ⟨by omega,by omega,by omega,Yv.out⟩⟩
    obtain⟨dd,pos2,HD⟩:=hcut;clear Yv ht6;obtain⟨n2a,n2b⟩:=ay HD.out.2.2.2 2 (.int .i64 z.n) rfl;have h15:=HD.out.2.2.2.setCell 2 (.int .i64 (4*xz));have e9:(Ac.cells { z with d:=dd }).toArray.setIfInBounds 2 (.int .i64 (4*xz))=(Ac.cells { z with d:=dd,n:=4*xz }).toArray:=by simp[Ac.cells]
    rw[e9] at h15;obtain⟨w15,abQ⟩:=aC (wc.setCell ⟨Q,2,none⟩ (.int .i64 (4*xz)));rw[←abQ] at h15;have H15:=ah h15;have ac0:=ah abQ;clear h15 e9 abQ;go_upto_region 19 with fail;rw[←ac0.out];clear ac0 n2a n2b;obtain⟨b9,hb9⟩:∃b,(kz==9)=b:=⟨_,rfl⟩
    obtain⟨b17,adu⟩:∃b,(kz==17)=b:=⟨_,rfl⟩
    obtain⟨b20,adv⟩:∃b,(kz==20)=b:=⟨_,rfl⟩
    have vk:Hid ((b9||b17||b20)=true↔kz=9∨kz=17∨kz=20):=ah (by rw[←hb9,←adu,←adv];simp[or_assoc]);obtain⟨bd,hbd⟩:∃b,(b9||b17||b20)=b:=⟨_,rfl⟩
    go_cut [85] from 76 to 84 (fun bv wx=>bv=.bool bd∧wx=w15)
    case first=>
     as_aux_lemma=>
      have vw:=ah hbd;clear hbd vk;cases b9 with
      | true=>
       go_wp2;go_meet;case rel=>exact⟨by rw[←vw.out];rfl,rfl⟩
      | false=>
       cases b17 with
       | true=>
        go_wp2;go_meet;case rel=>exact⟨by rw[←vw.out];rfl,rfl⟩
       | false=>
        cases b20 with
        | true=>
         go_wp2;go_meet;case rel=>exact⟨by rw[←vw.out];rfl,rfl⟩
        | false=>
         go_wp2;go_meet;case rel=>exact⟨by rw[←vw.out];rfl,rfl⟩
    obtain⟨rfl,hwc⟩:=hcut;rw[hwc];rw[hbd] at vk;clear hwc hb9 adu adv hbd;obtain⟨uz,huz⟩:=aC (z.u);have HUZ:Hid (uz=z.u∧-1000000≤uz∧uz≤1000000):=ah ⟨huz,by rw[huz,HY.out.1.u];exact gen_u bk HBK.out HY.out.2.1 HY.out.2.2.1⟩;have bu1:-1000000≤uz:=HUZ.out.2.1;have bu2:uz≤1000000:=HUZ.out.2.2;have aiK:35600≤dd:=HD.out.1;have aiL:dd≤38000:=HD.out.2.1;clear huz;go_upto_if 85 with fail;go_cut [] from 86 to 91 (fun wx=>∃u:Int,Hid (u=(if bd=true then dd+z.u else z.u)∧Sat W wx (sep (blk Q (.cells (Ac.cells { z with d:=dd,n:=4*xz,u:=u }).toArray 36 (0,0))) (sep (bM B va (pos2:Int) fJ (.slice fa zs.length fc)) (sep (kn J1) (sep (aT 36 19 a x c (bY zl)) (sep (aT 36 19 fa zs.length fc (bY zs)) (sep uo A))))))))
    case first=>
     as_aux_lemma=>
      cases bd with
      | true=>
       obtain⟨x1a,x1b⟩:=ay H15.out 1 (.int .i64 dd) rfl;have x7:=ay H15.out 7 (.int .i64 z.u) rfl;rw[←HUZ.out.1] at x7;obtain⟨x7a,x7b⟩:=x7;have h16:=H15.out.setCell 7 (.int .i64 (dd+uz));have e9:(Ac.cells { z with d:=dd,n:=4*xz }).toArray.setIfInBounds 7 (.int .i64 (dd+uz))=(Ac.cells { z with d:=dd,n:=4*xz,u:=dd+uz }).toArray:=by simp[Ac.cells]
       rw[e9] at h16;have SL:=ah h16;clear h16 e9;go_wp2;go_meet;case rel=>exact⟨dd+uz,ah ⟨by rw[HUZ.out.1];rfl,SL.out⟩⟩
      | false=>
       go_wp2;go_meet;case rel=>exact⟨z.u,ah ⟨rfl,H15.out⟩⟩
    obtain⟨u,HU⟩:=hcut;clear H15 bu1 bu2 HUZ uz;obtain⟨z3,hz3⟩:=aC (({ z with d:=dd,n:=4*xz,u:=u }:Ac));have SL:=HU.out.2;rw[←hz3] at SL;have HZ3:=ah hz3;have H17:=ah SL;clear SL hz3;have hbk2:(kz==0)=bk:=by
     have h0:=HBK.out;cases bk with
     | true=>simpa using h0.1 rfl
     | false=>simpa using h0
    go_upto_if 93 with fail;go_cut [] from 94 to 103 (fun wx=>∃(fa':Option Addr) (fc':Nat) (zs':List Ac),Hid ((bk=true→zs'=zs++[z3])∧(bk=false→zs'=zs)∧Sat W wx (sep (blk Q (.cells (Ac.cells z3).toArray 36 (0,0))) (sep (aT 36 19 a x c (bY zl)) (sep (bM B va (pos2:Int) fJ (.slice fa' zs'.length fc')) (sep (aT 36 19 fa' zs'.length fc' (bY zs')) (sep (kn J1) (sep uo A))))))))
    case first=>
     as_aux_lemma=>
      cases bk with
      | true=>
       have hd:=H17.out.drew;have hmk:Sat W wc.drew (sep (blk B (.cells #[va,.int .i64 (pos2:Int),.int .i64 fJ,(.slice fa zs.length fc)] 86 (0,0))) (sep (kn J1) (sep (blk Q (.cells (Ac.cells z3).toArray 36 (0,0))) (sep (aT 36 19 a x c (bY zl)) (sep (aT 36 19 fa zs.length fc (bY zs)) (sep uo A)))))):=by
        have h9:Sat W wc.drew (sep (blk Q (.cells (Ac.cells z3).toArray 36 (0,0))) (sep (bM B va (pos2:Int) fJ (.slice fa zs.length fc)) (sep (kn J1) (sep (aT 36 19 a x c (bY zl)) (sep (aT 36 19 fa zs.length fc (bY zs)) (sep uo A)))))):=hd;have h8:Sat W wc.drew (sep (bM B va (pos2:Int) fJ (.slice fa zs.length fc)) (sep (kn J1) (sep (blk Q (.cells (Ac.cells z3).toArray 36 (0,0))) (sep (aT 36 19 a x c (bY zl)) (sep (aT 36 19 fa zs.length fc (bY zs)) (sep uo A)))))):=dI h9;exact h8
       have hS0:wc.drew.cell? ⟨B,3,none⟩=some (.slice fa zs.length fc):=hmk.cell 3;have hld:Sem.run Tryz.prog (mg (.pointer (some ⟨Q,0,none⟩))) wc.drew=.ok (.agg z3.cells.toArray) wc.drew:=gB fun i v hv=>(ay hd i v hv).1
       have hal:=hmk.iy (.cells z3.cells.toArray 36);have hS2:(wc.drew.alloc (.cells z3.cells.toArray 36)).cell? ⟨B,3,none⟩=some (.slice fa zs.length fc):=hal.cell 3;have PW:zs.length≤20:=by have:=um.fil;have:=RF ps;have:=gU.length um.all;have:=um.len;have:=HXM.out;have:=HM.out;omega
       have ug:Hid (Sat W (wc.drew.alloc (.cells z3.cells.toArray 36)) (sep (aT 36 19 fa zs.length fc (bY zs)) (sep (bM B va (pos2:Int) fJ (.slice fa zs.length fc)) (sep (blk Q (.cells (Ac.cells z3).toArray 36 (0,0))) (sep (aT 36 19 a x c (bY zl)) (sep (kn J1) (sep uo A))))))):=ah (by
        have h9:Sat W _ (sep (bM B va (pos2:Int) fJ (.slice fa zs.length fc)) (sep (kn J1) (sep (blk Q (.cells (Ac.cells z3).toArray 36 (0,0))) (sep (aT 36 19 a x c (bY zl)) (sep (aT 36 19 fa zs.length fc (bY zs)) (sep uo A)))))):=hal;simpa only[aA,au,aj] using h9)
       have hbx:=jm wc.drew z3.cells 36;have Dj:=ah hbx;have acI:=ah PW;clear hd hmk hal hbx PW H17;go_upto_region 22 with fail;refine aG rfl (fun w'=>w'.cell? ⟨B,3,none⟩=some (.slice fa zs.length fc)) [(0,.p),(1,.p),(2,.p),(3,.p),(4,.s),(5,.t),(6,.e true),(7,.e false),(8,.p),(9,.p),(10,.e false)] (by kernel_rfl) ?_;refine bG ?_
       (refine jJ rfl rfl (fun K hK=>?_);go_simp)
       (refine hK _ _ (fun _=>hS2) ?_;clear hK K;(try simp only[Act.put,lsA,lsB,lq]))
       refine jJ rfl rfl (fun K hK=>?_);refine jS (.tmp 98) (.tmp 100) 23 rfl 36 19 248 _ Tryz.underlying23 qw rfl rfl ug.out rfl z3.cells rfl (by simp) (by intro b hb;cases hb;exact Dj.out) z3.one (by have:=acI.out;omega) (by unfold maxLen;have:=acI.out;omega) ?_;intro a2 c2 w18 h18;have h19:Sat W w18 (sep (blk B (.cells #[va,.int .i64 (pos2:Int),.int .i64 fJ,(.slice fa zs.length fc)] 86 (0,0))) (sep (aT 36 19 a2 (zs.length+1) c2 (bY zs++z3.cells)) (sep (blk Q (.cells (Ac.cells z3).toArray 36 (0,0))) (sep (aT 36 19 a x c (bY zl)) (sep (kn J1) (sep uo A)))))):=h18.p1;have fB3:=h19.aI 3;have cB3:=h19.cell 3;simp only[Ec,Ed,Ee] at cB3;have h20:=h19.setCell 3 (.slice a2 (zs.length+1) c2);have H20:Hid (Sat W (w18.setCell ⟨B,3,none⟩ (.slice a2 (zs.length+1) c2)) (sep (bM B va (pos2:Int) fJ (.slice a2 (zs.length+1) c2)) (sep (aT 36 19 a2 (zs.length+1) c2 (bY zs++z3.cells)) (sep (blk Q (.cells (Ac.cells z3).toArray 36 (0,0))) (sep (aT 36 19 a x c (bY zl)) (sep (kn J1) (sep uo A))))))):=ah h20;clear h18 h19 h20 ug Dj hS2 hld;refine dY ?_;clear hK K;refine bG ?_
       (refine jJ rfl rfl (fun K hK=>?_);go_simp)
       refine dY ?_;clear hK K;refine dJ ?_;go_wp2;go_meet;case rel=>
        refine⟨a2,c2,zs++[z3],ah ⟨(fun _=>rfl),(fun h=>by cases h),?_⟩⟩;have h8:=H20.out;have e8:bY zs++z3.cells=bY (zs++[z3]):=by rw[iZ];simp[bY]
        rw[e8] at h8;rw[show (zs++[z3]).length=zs.length+1 by simp];have h9:=h8;simpa only[aA,au,aj] using h9
      | false=>
       go_wp2;go_meet;case rel=>exact⟨fa,fc,zs,ah ⟨(fun h=>by cases h),(fun _=>rfl),by have h9:=H17.out;simpa only[aA,au,aj] using h9⟩⟩
    obtain⟨fa',fc',zs',Vt⟩:=hcut;clear H17;have hld:Sem.run Tryz.prog (mg (.pointer (some ⟨Q,0,none⟩))) wc=.ok (.agg z3.cells.toArray) wc:=gB fun i v hv=>(ay Vt.out.2.2 i v hv).1
    have hal:=Vt.out.2.2.p1.iy (.cells z3.cells.toArray 36);have ug:=ah hal;have Dj:=ah (jm wc z3.cells 36);clear hal;have bxm:x≤14:=by have:=HXM.out;have:=HM.out;omega
    go_upto_region 23 with fail;go_wp2_with (at_builtin;go_loud (refine aK rfl _ _ 23 rfl 36 19 248 _ Tryz.underlying23 qw rfl rfl ug.out rfl z3.cells rfl (by simp) (by intro b' hb;cases hb;exact Dj.out) z3.one (by omega) (by unfold maxLen;omega) ?_))
    intro a2 c2 w20 h20;have H20:=ah h20;clear h20 ug Dj hld;go_wp2;go_roundw;case rel=>
     obtain⟨hA,afp,afz,hle,hp1,-⟩:=HY.out;have hxe:=HXZ.out;have hxx:=HX.out;refine⟨x+1,c2,pos2,fc',xz+1,a2,fa',fJ,zl++[z3],ps++[bH y dd (4*xz)],zs',J1,rfl,rfl,ah (by omega),ah (fun h=>absurd h (Nat.succ_ne_zero x)),by omega,ah ⟨?_,?_⟩⟩
     ·exact Uw um hle (bk:=bk) (kz:=kz) HBK.out hA afp afz vk.out HD.out.1 HD.out.2.1 (by rw[HZ3.out,HU.out.1]) Vt.out.1 Vt.out.2.1 (by omega) (fun h0=>by obtain⟨kk,h1,-,h2⟩:=HKZ.out;rw[h1,h2 h0];rfl) (by have:=HD.out.2.2.1;have:=um.pos;omega) Yz.out.2.1 Yz.out.2.2
     ·have h8:=H20.out
      have e8:bY zl++z3.cells=bY (zl++[z3]):=by rw[iZ];simp[bY]
      rw[e8] at h8;have h7:Sat W w20 (sep (blk Q (.cells (Ac.cells z3).toArray 36 (0,0))) (sep (aT 36 19 a2 (x+1) c2 (bY (zl++[z3]))) (sep (bM B va (pos2:Int) fJ (.slice fa' zs'.length fc')) (sep (aT 36 19 fa' zs'.length fc' (bY zs')) (sep (kn J1) (sep uo A)))))):=h8.p1;exact h7.forget
    case measure=>simp[intOf];omega
   ·as_aux_lemma=>
    have hpz:(pos:Int)<(ll:Int):=by omega
    have hxz:¬(x:Int)<(most:Int):=by omega
    clear hp hx hxm;go_wp2;go_ret;obtain⟨hI,hS⟩:=HL.out;have h8:Sat W wr (sep (kn J) (sep uo (sep (aT 36 19 a x c (bY zl)) A))):=by
     have h7:Sat W wr (sep (aT 36 19 a x c (bY zl)) (sep (kn J) (sep uo A))):=by
      have h6:Sat W wr (sep (aT 36 19 fa zs.length fc (bY zs)) (sep (aT 36 19 a x c (bY zl)) (sep (kn J) (sep uo A)))):=hS.p1.forget.p1;exact h6.eu
     have h9:=h7;simpa only[aA,au,aj] using h9
    have h5:Sat W wr (sep (aT 36 19 a x c (bY zl)) (sep (kn J) A)):=by
     have h4:Sat W wr (sep uo (sep (aT 36 19 a x c (bY zl)) (sep (kn J) A))):=by
      have h9:=h8;simpa only[aA,au,aj] using h9
     exact h4.drop
    exact⟨a,x,c,rfl,zl,hI.len.symm,HXM.out,acK.out,ps,J,hI.le,hI.all,hI.made,h5⟩
  ·as_aux_lemma=>
    have hpz:¬(pos:Int)<(ll:Int):=by omega
    clear hp hxm;go_wp2;go_ret;obtain⟨hI,hS⟩:=HL.out;have h8:Sat W wr (sep (kn J) (sep uo (sep (aT 36 19 a x c (bY zl)) A))):=by
     have h7:Sat W wr (sep (aT 36 19 a x c (bY zl)) (sep (kn J) (sep uo A))):=by
      have h6:Sat W wr (sep (aT 36 19 fa zs.length fc (bY zs)) (sep (aT 36 19 a x c (bY zl)) (sep (kn J) (sep uo A)))):=hS.p1.forget.p1;exact h6.eu
     have h9:=h7;simpa only[aA,au,aj] using h9
    have h5:Sat W wr (sep (aT 36 19 a x c (bY zl)) (sep (kn J) A)):=by
     have h4:Sat W wr (sep uo (sep (aT 36 19 a x c (bY zl)) (sep (kn J) A))):=by
      have h9:=h8;simpa only[aA,au,aj] using h9
     exact h4.drop
    exact⟨a,x,c,rfl,zl,hI.len.symm,HXM.out,acK.out,ps,J,hI.le,hI.all,hI.made,h5⟩
end Go.Proofs.YthfmaclnccdcbaaGreatDoor
