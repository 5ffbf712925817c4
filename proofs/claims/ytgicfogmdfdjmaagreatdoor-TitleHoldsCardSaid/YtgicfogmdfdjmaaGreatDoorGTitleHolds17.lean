/- Part of a proof. -/
import Derived.Test.YtgicfogmdfdjmaaGreatDoorGTitleHolds16
namespace PA
open Go
theorem eP.mono {N M:Nat} (h:N≤M) {z:Int} (hz:eP N z):eP M z:=by
 obtain⟨j,h1,h2⟩:=hz
 exact⟨j,by omega,h2⟩
theorem qm.up {I:Mem} {N M:Nat} (h:N≤M) {z:Ac} (hz:qm I N z):qm I M z:=⟨hz.1.mono h,hz.2⟩
theorem dX.snoc {α β:Type} {p:α→β→Prop} {l:List α} {m:List β} {a:α} {b:β} (h:dX p l m) (hab:p a b):dX p (l++[a]) (m++[b]):=h.append ⟨hab,trivial⟩
theorem EN (l:List Pa) (x:Pa):qW (l++[x])=qW l+if x.k=0 then 1 else 0:=by
 unfold qW
 rw[List.filter_append,dI]
 by_cases h:x.k=0<;>simp[h]
theorem zT (l:List Pa):qW l≤l.length:=List.length_filter_le _ _
theorem Made.nil:Made []:=fun _ h=>absurd h (Nat.not_lt_zero _)
theorem Made.snoc {l:List Pa} {x:Pa} (h:Made l) (h1:EK (qW l) x) (h2:x.n=4*(l.length:Int)) (h3:l.length=0→x.k=0):Made (l++[x]):=by
 intro i hi
 by_cases e:i<l.length
 ·rw[List.getElem_append_left e,List.take_append_of_le_length (by omega)]
  exact h i e
 ·have e2:i=l.length:=by simp at hi;omega
  subst e2
  simp only[List.getElem_append_right (Nat.le_refl _),Nat.sub_self,List.getElem_singleton]
  rw[List.take_append_of_le_length (Nat.le_refl _),List.take_length]
  exact⟨h1,h2,h3⟩
theorem Made.first {l:List Pa} (h:Made l) (hl:0<l.length):1≤qW l:=by
 have h0:=(h 0 hl).2.2 rfl
 unfold qW
 refine List.length_pos_of_mem (a:=l[0]) (List.mem_filter.2 ⟨List.getElem_mem hl,?_⟩)
 simp[h0]
structure SInv (I J:Mem) (x pos:Nat) (day:Int) (zl:List Ac) (ps:List Pa) (zs:List Ac):Prop where
 len:zl.length=x
 all:dX (oM J) zl ps
 made:Made ps
 Zj:zs.length=qW ps
 fat:∀z∈zs,qm J zs.length z
 le:Mem.le I J
 pos:pos≤200*x
 d1:36000≤day
 d2:day≤36000+119*(x:Int)
theorem oM.nums {I J:Mem} {z:Ac} {x:Pa} (h:oM I z x) (hl:Mem.le I J) (d n u:Int):oM J { z with d:=d,n:=n,u:=u } { x with d:=d,n:=n,u:=u }:=
 have h:=h.mono hl
 ⟨h.k,rfl,rfl,h.f,h.o,h.p,h.q,rfl,h.m,h.sn,h.sd,h.td,h.tc,h.cl,h.ea,h.fx⟩
theorem gen_u {N:Nat} {y:Pa} {kz:Int} (bk:Bool) (_:bk=true↔kz=0) (h1:bk=true→AO N y∧y.k=0) (h2:bk=false→Other N y∧y.k=kz):-1000000≤y.u∧y.u≤1000000:=by
 cases bk with
 | true=>
  obtain⟨o,p,q,td,tc,ea,e,-⟩:=(h1 rfl).1
  rw[e];exact⟨by show (-1000000:Int)≤0;omega,by show (0:Int)≤1000000;omega⟩
 | false=>
  cases (h2 rfl).1<;>(constructor<;>(simp only[Pa.zero]<;>omega))
theorem Qa {I J J1:Mem} {x pos pos2:Nat} {day eU:Int} {zl:List Ac} {ps:List Pa} {zs zs':List Ac} {bk bd:Bool} {kz dd xz:Int} {z z3:Ac} {y:Pa} (h:SInv I J x pos day zl ps zs) (hle:Mem.le J J1)
 (hbk:bk=true↔kz=0) (hA:oM J1 z y) (hF:bk=true→AO zs.length y∧y.k=0) (hO:bk=false→Other zs.length y∧y.k=kz) (hbd:bd=true↔kz=9∨kz=17∨kz=20) (hd1:35600≤dd) (hd2:dd≤38000)
 (hz3:z3={ z with d:=dd,n:=4*xz,u:=if bd=true then dd+z.u else z.u }) (hz1:bk=true→zs'=zs++[z3]) (hz2:bk=false→zs'=zs) (hx:xz=(x:Int)) (h0:x=0→kz=0)
 (hp:pos2≤200*(x+1)) (hy1:36000≤eU) (hy2:eU≤36000+119*((x+1:Nat):Int)):SInv I J1 (x+1) pos2 eU (zl++[z3]) (ps++[bK y dd (4*xz)]) zs':=by
 have hyk:y.k=kz:=by
  cases bk with
  | true=>rw[(hF rfl).2,hbk.1 rfl]
  | false=>exact (hO rfl).2
 have hu:(if bd=true then dd+z.u else z.u)=(if y.k=9∨y.k=17∨y.k=20 then dd+y.u else y.u):=by
  rw[hyk,←hA.u]
  by_cases hb:bd=true
  ·rw[if_pos hb,if_pos (hbd.1 hb)]
  ·rw[if_neg hb,if_neg (fun hh=>hb (hbd.2 hh))]
 have hIs:oM J1 z3 (bK y dd (4*xz)):=by
  rw[hz3,hu]
  exact hA.nums (Mem.le_refl _) _ _ _
 have hlen:=dX.length h.all
 have hl:=h.len
 have hk3:(bK y dd (4*xz)).k=kz:=hyk
 have hgood:EK (qW ps) (bK y dd (4*xz)):=by
  rw[←h.Zj]
  refine⟨y,dd,4*xz,?_,hd1,hd2,rfl⟩
  cases bk with
  | true=>exact .inl (hF rfl).1
  | false=>exact .inr (hO rfl).1
 refine⟨by simp[hl],(h.all.wk fun _ _ hh=>hh.mono hle).snoc hIs,h.made.snoc hgood (by show 4*xz=_;omega) (fun e=>by rw[hk3];exact h0 (by omega)),?_,?_,Mem.le_trans h.le hle,hp,hy1,hy2⟩
 ·rw[EN,←h.Zj,hk3]
  cases bk with
  | true=>rw[hz1 rfl,if_pos (hbk.1 rfl)];simp
  | false=>
   have hne:¬kz=0:=fun e=>by have:=hbk.2 e;cases this
   rw[hz2 rfl,if_neg hne];rfl
 ·intro zz hzz
  cases bk with
  | false=>
   rw[hz2 rfl] at hzz ⊢
   exact (h.fat zz hzz).mono hle
  | true=>
   rw[hz1 rfl] at hzz ⊢
   rcases List.mem_append.1 hzz with hm|hm
   ·exact ((h.fat zz hm).mono hle).up (by simp)
   ·rw[List.mem_singleton.1 hm,hz3]
    obtain⟨o,p,q,td,tc,ea,e,ho,hp',hq,hT,hE⟩:=(hF rfl).1
    refine⟨⟨zs.length,by simp,?_⟩,?_,?_,hd1,hd2,td,tc,?_,?_,hT⟩
    ·show z.f=_;rw[hA.f,e]
    ·show z.o=0∨z.o=1;rw[hA.o,e];exact ho
    ·show z.p=1∨z.p=2;rw[hA.p,e];exact hp'
    ·have:=hA.td;rw[e] at this;exact this
    ·have:=hA.tc;rw[e] at this;exact this
end PA
namespace Go.Proofs.YtgicfogmdfdjmaaGreatDoor
open Go.RowKit PA
theorem bsI40 (w:World):(Jg 40 #[(0,.int .i64 0),(1,.int .i64 0),(2,.int .i64 0),(3,.int .i64 0),(4,.int .i64 0),(5,.int .i64 0),(6,.int .i64 1),(7,.int .i64 1),(8,.int .i64 1),(9,.int .i64 2),(10,.int .i64 3),(11,.int .i64 3),(12,.int .i64 4),(13,.int .i64 4),(14,.int .i64 4),(15,.int .i64 5),(16,.int .i64 6),(17,.int .i64 6),(18,.int .i64 7),(19,.int .i64 8),(20,.int .i64 9),(21,.int .i64 10),(22,.int .i64 10),(23,.int .i64 10),(24,.int .i64 10),(25,.int .i64 11),(26,.int .i64 12),(27,.int .i64 12),(28,.int .i64 13),(29,.int .i64 13),(30,.int .i64 14),(31,.int .i64 15),(32,.int .i64 16),(33,.int .i64 16),(34,.int .i64 17),(35,.int .i64 18),(36,.int .i64 19),(37,.int .i64 19),(38,.int .i64 20),(39,.int .i64 21)]).run Tryz.prog w=.ok (.slice (some ⟨w.heap.size,0,none⟩) 40 40) (w.alloc (.cells #[.int .i64 0,.int .i64 0,.int .i64 0,.int .i64 0,.int .i64 0,.int .i64 0,.int .i64 1,.int .i64 1,.int .i64 1,.int .i64 2,.int .i64 3,.int .i64 3,.int .i64 4,.int .i64 4,.int .i64 4,.int .i64 5,.int .i64 6,.int .i64 6,.int .i64 7,.int .i64 8,.int .i64 9,.int .i64 10,.int .i64 10,.int .i64 10,.int .i64 10,.int .i64 11,.int .i64 12,.int .i64 12,.int .i64 13,.int .i64 13,.int .i64 14,.int .i64 15,.int .i64 16,.int .i64 16,.int .i64 17,.int .i64 18,.int .i64 19,.int .i64 19,.int .i64 20,.int .i64 21] 3)):=by
 obtain⟨i,h1,h2,h3,h4⟩:=info_parts vZ
 exact run_buildSlice w 22 3 40 _ _ i _ Tryz.underlying22 h1 h2 (by rw[h3];omega) (by rw[h3];omega) (by rw[h3];kernel_rfl)
def bsAc (p:Array (Nat×Value)):Sem Value:=Instr.buildSlice 29 1 p
theorem uh (p:Array (Nat×Value)):Instr.buildSlice 29 1 p=bsAc p:=rfl
theorem Zk (z:Ac) (w:World):(bsAc #[(0,.agg z.cells.toArray)]).run Tryz.prog w=.ok (.slice (some ⟨w.heap.size,0,none⟩) 1 1) (w.alloc (.cells z.cells.toArray 67)):=by
 obtain⟨i,h1,h2,h3,h4⟩:=info_parts jR
 exact run_buildSlice w 29 67 1 _ _ i _ Tryz.underlying29 h1 h2 (by rw[h3];omega) (by rw[h3];omega) (by rw[h3];kernel_rfl)
def qZ:List Int:=[0,0,0,0,0,0,1,1,1,2,3,3,4,4,4,5,6,6,7,8,9,10,10,10,10,11,12,12,13,13,14,15,16,16,17,18,19,19,20,21]
theorem MK (r:Nat) (hr:r<40):∃k:Nat,qZ[r]?=some (k:Int)∧k≤21:=by
 have h:r<qZ.length:=hr
 have hall:∀z∈qZ,0≤z∧z≤21:=by
  intro z hz
  simp only[qZ,List.mem_cons,List.not_mem_nil,or_false] at hz
  omega
 have h2:=hall _ (List.getElem_mem h)
 exact⟨qZ[r].toNat,by rw[List.getElem?_eq_getElem h,show ((qZ[r].toNat:Nat):Int)=qZ[r] by omega],by omega⟩
attribute [local go_sem ↓] bQ bZ qY uh
attribute [local go_sem] Gu bsI40 Zk
set_option maxRecDepth 100000 in
set_option maxHeartbeats 16000000 in
theorem Gv {W w:World} {A:aG} {I:Mem} (va:Value) (l:List Int) (most:Nat) (hm:most≤14) (hv:OH I va l) (h:Sat W w (sep (kn I) A)):
 Calls Tryz.prog 22 #[va,.int .i64 most] w fun e w'=>∃(a:Option Addr) (n c:Nat) (zl:List Ac) (ps:List Pa) (J:Mem),e=.returned (.slice a n c)∧n=zl.length∧n≤most∧(n=0→a=none∧c=0)∧Mem.le I J∧dX (oM J) zl ps∧Made ps∧Sat W w' (sep (aK 67 19 a n c (bI zl)) (sep (kn J) A)):=by
 obtain⟨⟨a0,c0,rfl⟩,-⟩:=id hv
 obtain⟨ll,hll⟩:=aC (l.length)
 have hlen:(ll:Int)≤9223372036854775807:=by
  obtain⟨a',c',e,hsw,-⟩:=kX.1 hv.2.1
  have h1:=hsw.1;have h2:=hsw.2.1;unfold maxLen at h2;omega
 rw[←hll] at hv ⊢
 obtain⟨B,hB⟩:=aC (w.heap.size)
 obtain⟨va,hva⟩:=aC (Value.slice a0 ll c0)
 have h1:=h.alloc (.cells #[.slice a0 ll c0,.int .i64 0,.int .i64 36000,.slice none 0 0] 98)
 obtain⟨w1,hw1⟩:=aC (w.alloc (.cells #[.slice a0 ll c0,.int .i64 0,.int .i64 36000,.slice none 0 0] 98))
 rw[←hB,←hw1,←hva] at h1
 have h2:=h1.alloc (.cells #[.int .i64 0,.int .i64 0,.int .i64 0,.int .i64 0,.int .i64 0,.int .i64 0,.int .i64 1,.int .i64 1,.int .i64 1,.int .i64 2,.int .i64 3,.int .i64 3,.int .i64 4,.int .i64 4,.int .i64 4,.int .i64 5,.int .i64 6,.int .i64 6,.int .i64 7,.int .i64 8,.int .i64 9,.int .i64 10,.int .i64 10,.int .i64 10,.int .i64 10,.int .i64 11,.int .i64 12,.int .i64 12,.int .i64 13,.int .i64 13,.int .i64 14,.int .i64 15,.int .i64 16,.int .i64 16,.int .i64 17,.int .i64 18,.int .i64 19,.int .i64 19,.int .i64 20,.int .i64 21] 3)
 obtain⟨KB,hKB⟩:=aC (w1.heap.size)
 obtain⟨w2,hw2⟩:=aC (w1.alloc (.cells #[.int .i64 0,.int .i64 0,.int .i64 0,.int .i64 0,.int .i64 0,.int .i64 0,.int .i64 1,.int .i64 1,.int .i64 1,.int .i64 2,.int .i64 3,.int .i64 3,.int .i64 4,.int .i64 4,.int .i64 4,.int .i64 5,.int .i64 6,.int .i64 6,.int .i64 7,.int .i64 8,.int .i64 9,.int .i64 10,.int .i64 10,.int .i64 10,.int .i64 10,.int .i64 11,.int .i64 12,.int .i64 12,.int .i64 13,.int .i64 13,.int .i64 14,.int .i64 15,.int .i64 16,.int .i64 16,.int .i64 17,.int .i64 18,.int .i64 19,.int .i64 19,.int .i64 20,.int .i64 21] 3))
 rw[←hKB,←hw2] at h2
 obtain⟨ru,aaj⟩:=aC ((blk KB (.cells #[.int .i64 0,.int .i64 0,.int .i64 0,.int .i64 0,.int .i64 0,.int .i64 0,.int .i64 1,.int .i64 1,.int .i64 1,.int .i64 2,.int .i64 3,.int .i64 3,.int .i64 4,.int .i64 4,.int .i64 4,.int .i64 5,.int .i64 6,.int .i64 6,.int .i64 7,.int .i64 8,.int .i64 9,.int .i64 10,.int .i64 10,.int .i64 10,.int .i64 10,.int .i64 11,.int .i64 12,.int .i64 12,.int .i64 13,.int .i64 13,.int .i64 14,.int .i64 15,.int .i64 16,.int .i64 16,.int .i64 17,.int .i64 18,.int .i64 19,.int .i64 19,.int .i64 20,.int .i64 21] 3 (0,0))))
 rw[←aaj] at h2
 have H2:Hid (Sat W w2 (sep (bg B va ((0:Nat):Int) 36000 (.slice none 0 0)) (sep (kn I) (sep ru A)))):=ah (by
  have h9:Sat W w2 (sep ru (sep (bg B va ((0:Nat):Int) 36000 (.slice none 0 0)) (sep (kn I) A))):=h2
  simpa only[ay,au,aj] using h9)
 rw[←hva] at hv
 have HV:=ah hv
 have HW:=ah (And.intro hB (And.intro hw1 (And.intro hKB hw2)))
 have Zl:=ah hva
 have HKB:=ah aaj
 have HM:=ah hm
 have hmz:(most:Int)≤14:=by omega
 clear h h1 h2 hB hw1 hKB hw2 hva aaj hv hm hll
 go_enter Tryz.func22,Tryz.ntmps22
 go_upto_region 3 with (fail)
 rw[←HW.out.1,←HW.out.2.1]
 go_upto_region 4 with (fail)
 rw[←HW.out.2.2.1,←HW.out.2.2.2]
 go_wp2_with fail
 go_loopw [6,8] (fun ov iv wr=>∃(x c pos fc:Nat) (xz:Int) (a fa:Option Addr) (day:Int) (zl:List Ac) (ps:List Pa) (zs:List Ac) (J:Mem),ov=.slice a x c∧iv=.int .i64 xz∧Hid (xz=(x:Int))∧Hid (x=0→a=none∧c=0)∧x≤most∧Hid (SInv I J x pos day zl ps zs∧Sat W wr (sep (aK 67 19 a x c (bI zl)) (sep (bg B va (pos:Int) day (.slice fa zs.length fc)) (sep (aK 67 19 fa zs.length fc (bI zs)) (sep (kn J) (sep ru A))))))) (fun _ iv _=>15-(intOf iv).toNat)
 case atStart=>
  exact⟨0,0,0,0,0,none,none,36000,[],[],[],I,rfl,rfl,ah rfl,ah (fun _=>⟨rfl,rfl⟩),Nat.zero_le _,ah ⟨⟨rfl,trivial,Made.nil,rfl,(fun z hz=>by cases hz),Mem.le_refl _,by omega,by omega,by omega⟩,by
   show Sat W w2 (sep (aK 67 19 none 0 0 []) (sep (bg B va ((0:Nat):Int) 36000 (.slice none 0 0)) (sep (aK 67 19 none 0 0 []) (sep (kn I) (sep ru A)))))
   have h9:=(H2.out.cZ 67 19).cZ 67 19
   simpa only[ay,au,aj] using h9⟩⟩
 case round=>
  obtain⟨x,c,pos,fc,xz,a,fa,day,zl,ps,zs,J,rfl,rfl,HXZ,Xm,hxm,HL⟩:=hrel
  have TB:=ah hxm
  have cat:wr.cell? ⟨B,1,none⟩=some (.int .i64 pos):=(show Sat W wr (sep (blk B (.cells #[va,.int .i64 (pos:Int),.int .i64 day,(.slice fa zs.length fc)] 98 (0,0))) (sep (aK 67 19 a x c (bI zl)) (sep (aK 67 19 fa zs.length fc (bI zs)) (sep (kn J) (sep ru A))))) from HL.out.2.p1).cell 1
  have bx1:0≤xz:=by have:=HXZ.out;omega
  have bx2:xz≤14:=by have:=HXZ.out;omega
  have bpz:(pos:Int)≤2800:=by have:=HL.out.1.pos;have:=TB.out;omega
  by_cases hp:pos<ll
  ·by_cases hx:x<most
   ·have hpz:(pos:Int)<(ll:Int):=by omega
    have hxz:(x:Int)<(most:Int):=by omega
    have HX:=ah hx
    clear hp hx hxm
    have rE:=HL.out.1
    have hd:=HL.out.2.drew
    have HMK:Hid (Sat W wr.drew (sep (bg B va (pos:Int) day (.slice fa zs.length fc)) (sep (kn J) (sep (aK 67 19 a x c (bI zl)) (sep (aK 67 19 fa zs.length fc (bI zs)) (sep ru A)))))):=ah (by have h9:=hd;simpa only[ay,au,aj] using h9)
    have hS0:wr.drew.cell? ⟨B,2,none⟩=some (.int .i64 day):=(show Sat W wr.drew (sep (blk B (.cells #[va,.int .i64 (pos:Int),.int .i64 day,(.slice fa zs.length fc)] 98 (0,0))) _) from HMK.out).cell 2
    have HVJ:Hid (OH J va l):=ah (HV.out.mono rE.le)
    have hb1:=aW l pos 120 (by omega)
    have jq:=ah (aO va l pos 120 (by omega) (by omega) (by omega) HVJ.out HMK.out)
    obtain⟨v1,hv1⟩:=aC (bY l pos 120)
    rw[←hv1] at hb1 jq
    obtain⟨uO,uP⟩:=hb1
    have bd1:36000≤day:=rE.d1
    have bd2:day≤38000:=by have:=rE.d2;have:=TB.out;omega
    have hwd:IntKind.i64.wrap (day+v1)=day+v1:=IntWalk.i64_in _ (by omega)
    clear hd hv1 HMK
    go_upto_region 7 with (fail)
    refine aA rfl (fun w'=>w'.cell? ⟨B,2,none⟩=some (.int .i64 day)) [(0,.p),(1,.p),(2,.p),(3,.p),(4,.s),(5,.p),(6,.e true),(7,.p),(8,.p),(9,.p),(10,.e false)] (by kernel_rfl) ?_
    (repeat ((first|(refine eF (v:=?_) rfl rfl (fun w'=>?_) ?_;rotate_left;(go_simp;with_reducible rfl))|(refine eG (v:=?_) rfl rfl hS0 (fun w' hS=>?_) ?_;rotate_left;((try dsimp only at hS);go_simp;with_reducible rfl))|(refine eH (v:=?_) rfl rfl ?_ ?_;rotate_left;(go_simp;with_reducible rfl))|(refine bD rfl rfl ?_)|(refine bG rfl rfl hS0 ?_)|(refine bH rfl rfl ?_));simp only[Act.put,lsA,lsB,bC]))
    (refine iQ rfl rfl (fun K hK=>?_);go_simp)
    refine jq.out.mono ?_
    rintro e w3 ⟨rfl,h3⟩
    have h3b:Sat W w3 (sep (blk B (.cells #[va,.int .i64 ((pos+1:Nat):Int),.int .i64 day,(.slice fa zs.length fc)] 98 (0,0))) (sep (kn J) (sep (aK 67 19 a x c (bI zl)) (sep (aK 67 19 fa zs.length fc (bI zs)) (sep ru A))))):=h3
    have hS1:w3.cell? ⟨B,2,none⟩=some (.int .i64 day):=h3b.cell 2
    have fB2:=h3b.aI 2
    have h4:=h3b.setCell 2 (.int .i64 (day+v1))
    obtain⟨w4,hw4⟩:=aC (w3.setCell ⟨B,2,none⟩ (.int .i64 (day+v1)))
    rw[←hw4] at h4
    obtain⟨eU,OU⟩:=aC (day+v1)
    rw[←OU] at hw4 h4
    replace hwd:IntKind.i64.wrap (day+v1)=eU:=by rw[hwd,OU]
    have H4:Hid (Sat W w4 (sep (bg B va ((pos+1:Nat):Int) eU (.slice fa zs.length fc)) (sep (kn J) (sep (aK 67 19 a x c (bI zl)) (sep (aK 67 19 fa zs.length fc (bI zs)) (sep ru A)))))):=ah h4
    have Xn:Hid (eU=day+v1∧36000≤eU∧eU≤36000+119*((x+1:Nat):Int)):=ah ⟨OU,by omega,by have:=rE.d2;omega⟩
    have uQ:=ah hw4
    clear h3 h3b h4 hw4 OU jq cat hS0
    (refine hK _ _ (fun _=>hS1) ?_;clear hK K;(try simp only[Act.put,lsA,lsB,bC]))
    (repeat ((first|(refine eF (v:=?_) rfl rfl (fun w'=>?_) ?_;rotate_left;(go_simp;with_reducible rfl))|(refine eG (v:=?_) rfl rfl hS0 (fun w' hS=>?_) ?_;rotate_left;((try dsimp only at hS);go_simp;with_reducible rfl))|(refine eH (v:=?_) rfl rfl ?_ ?_;rotate_left;(go_simp;with_reducible rfl))|(refine bD rfl rfl ?_)|(refine bG rfl rfl hS0 ?_)|(refine bH rfl rfl ?_));simp only[Act.put,lsA,lsB,bC]))
    (refine iQ rfl rfl (fun K hK=>?_);go_simp)
    rw[←uQ.out]
    (refine hK _ _ (fun h=>by cases h) ?_;clear hK K;(try simp only[Act.put,lsA,lsB,bC]))
    refine bM ?_
    clear hS1 fB2 hwd uQ uO uP bd1 bd2
    have bd1:36000≤eU:=Xn.out.2.1
    have bd2:eU≤38000:=by have:=Xn.out.2.2;have:=HX.out;omega
    have hb2:=aW l (pos+1) 40 (by omega)
    have oD:=ah (aO va l (pos+1) 40 (by omega) (by omega) (by omega) HVJ.out H4.out)
    obtain⟨v2,hv2⟩:=aC (bY l (pos+1) 40)
    rw[←hv2] at hb2 oD
    obtain⟨rr,rfl⟩:∃r:Nat,v2=(r:Int):=⟨v2.toNat,by omega⟩
    have hrr:rr<40:=by omega
    have aej:(rr:Int)<40:=by omega
    obtain⟨kk0,abS,Zm⟩:=MK rr hrr
    obtain⟨kz0,aak⟩:∃z:Int,z=(kk0:Int):=⟨_,rfl⟩
    clear hv2 hb2
    go_upto_region 8 with (fail)
    go_wp2_with fail
    refine oD.out.mono ?_
    rintro e w5 ⟨rfl,h5⟩
    have ck:w5.cell? ⟨KB,rr,none⟩=some (.int .i64 kz0):=by
     have h6:=h5
     rw[HKB.out] at h6
     have h7:Sat W w5 (sep (blk KB (.cells #[.int .i64 0,.int .i64 0,.int .i64 0,.int .i64 0,.int .i64 0,.int .i64 0,.int .i64 1,.int .i64 1,.int .i64 1,.int .i64 2,.int .i64 3,.int .i64 3,.int .i64 4,.int .i64 4,.int .i64 4,.int .i64 5,.int .i64 6,.int .i64 6,.int .i64 7,.int .i64 8,.int .i64 9,.int .i64 10,.int .i64 10,.int .i64 10,.int .i64 10,.int .i64 11,.int .i64 12,.int .i64 12,.int .i64 13,.int .i64 13,.int .i64 14,.int .i64 15,.int .i64 16,.int .i64 16,.int .i64 17,.int .i64 18,.int .i64 19,.int .i64 19,.int .i64 20,.int .i64 21] 3 (0,0))) (sep (bg B va ((pos+1+1:Nat):Int) eU (.slice fa zs.length fc)) (sep (kn J) (sep (aK 67 19 a x c (bI zl)) (sep (aK 67 19 fa zs.length fc (bI zs)) A))))):=by have h9:=h6;simpa only[ay,au,aj] using h9
     rw[h7.cell rr,show (#[.int .i64 0,.int .i64 0,.int .i64 0,.int .i64 0,.int .i64 0,.int .i64 0,.int .i64 1,.int .i64 1,.int .i64 1,.int .i64 2,.int .i64 3,.int .i64 3,.int .i64 4,.int .i64 4,.int .i64 4,.int .i64 5,.int .i64 6,.int .i64 6,.int .i64 7,.int .i64 8,.int .i64 9,.int .i64 10,.int .i64 10,.int .i64 10,.int .i64 10,.int .i64 11,.int .i64 12,.int .i64 12,.int .i64 13,.int .i64 13,.int .i64 14,.int .i64 15,.int .i64 16,.int .i64 16,.int .i64 17,.int .i64 18,.int .i64 19,.int .i64 19,.int .i64 20,.int .i64 21]:Array Value)=(qZ.map PA.iv).toArray from rfl,List.getElem?_toArray,List.getElem?_map,abS,aak];rfl
    have H5:=ah h5
    have HK0:=ah (And.intro aak Zm)
    clear h5 abS aak Zm oD H4 hrr
    obtain⟨t0,ht0⟩:∃b,(xz==0)=b:=⟨_,rfl⟩
    go_upto_if 48 with (fail)
    go_cut [9] from 47 to 48 (fun kv wx=>∃kz:Int,kv=.int .i64 kz∧Hid (∃kk:Nat,kz=(kk:Int)∧kk≤21∧(x=0→kk=0))∧wx=w5)
    case first=>
     as_aux_lemma=>
      cases t0 with
      | true=>
       go_wp2
       go_meet
       case rel=>exact⟨0,rfl,ah ⟨0,rfl,by omega,fun _=>rfl⟩,rfl⟩
      | false=>
       have hx0:¬x=0:=fun e0=>by have h1:=HXZ.out;rw[e0] at h1;rw[h1] at ht0;cases ht0
       have HX0:=ah hx0
       clear hx0
       go_wp2
       go_meet
       case rel=>exact⟨kz0,rfl,ah ⟨kk0,HK0.out.1,HK0.out.2,fun h=>absurd h HX0.out⟩,rfl⟩
    obtain⟨kz,rfl,HKZ,hwc⟩:=hcut
    rw[hwc]
    clear hwc ck HK0 ht0 aej
    obtain⟨Q,hQ⟩:=aC (w5.heap.size)
    obtain⟨w6,hw6⟩:=aC (w5.alloc (.cells #[.int .i64 0,.int .i64 0,.int .i64 0,.int .i64 0,.int .i64 0,.int .i64 0,.int .i64 0,.int .i64 0,.int .i64 0,.int .i64 0,.int .i64 0,.slice none 0 0,.slice none 0 0,.slice none 0 0,.slice none 0 0,.int .i64 0,.int .i64 0,.slice none 0 0,.slice none 0 0] 67))
    have h6:=H5.out.alloc (.cells #[.int .i64 0,.int .i64 0,.int .i64 0,.int .i64 0,.int .i64 0,.int .i64 0,.int .i64 0,.int .i64 0,.int .i64 0,.int .i64 0,.int .i64 0,.slice none 0 0,.slice none 0 0,.slice none 0 0,.slice none 0 0,.int .i64 0,.int .i64 0,.slice none 0 0,.slice none 0 0] 67)
    rw[←hQ,←hw6] at h6
    have H6:=ah h6
    have HQ:=ah (And.intro hQ hw6)
    clear hQ hw6 h6 H5
    go_upto_region 12 with (fail)
    rw[←HQ.out.1]
    change Code.wp _ _ _ _ (w5.alloc (.cells #[.int .i64 0,.int .i64 0,.int .i64 0,.int .i64 0,.int .i64 0,.int .i64 0,.int .i64 0,.int .i64 0,.int .i64 0,.int .i64 0,.int .i64 0,.slice none 0 0,.slice none 0 0,.slice none 0 0,.slice none 0 0,.int .i64 0,.int .i64 0,.slice none 0 0,.slice none 0 0] 67))
    rw[←HQ.out.2]
    obtain⟨bk,hbk⟩:∃b,(kz==0)=b:=⟨_,rfl⟩
    have HBK:Hid (bk=true↔kz=0):=ah (by rw[←hbk];simp)
    clear HQ
    go_upto_if 51 with (fail)
    go_cut [] from 52 to 56 (fun wx=>∃(z:Ac) (y:Pa) (J1:Mem) (pos1:Nat),Hid (oM J1 z y∧(bk=true→AO zs.length y∧y.k=0)∧(bk=false→Other zs.length y∧y.k=kz)∧Mem.le J J1∧pos1≤pos+70∧Sat W wx (sep (blk Q (.cells (Ac.cells z).toArray 67 (0,0))) (sep (bg B va (pos1:Int) eU (.slice fa zs.length fc)) (sep (kn J1) (sep (aK 67 19 a x c (bI zl)) (sep (aK 67 19 fa zs.length fc (bI zs)) (sep ru A))))))))
    case first=>
     as_aux_lemma=>
      have hFA:∀z∈zs,qm J zs.length z:=rE.fat
      have ML:zs.length≤20:=by have:=rE.Zj;have:=zT ps;have:=dX.length rE.all;have:=rE.len;have:=TB.out;have:=HM.out;omega
      have hin:Sat W w6 (sep (bg B va ((pos+1+1:Nat):Int) eU (.slice fa zs.length fc)) (sep (aK 67 19 fa zs.length fc (bI zs)) (sep (kn J) (sep (blk Q (.cells #[.int .i64 0,.int .i64 0,.int .i64 0,.int .i64 0,.int .i64 0,.int .i64 0,.int .i64 0,.int .i64 0,.int .i64 0,.int .i64 0,.int .i64 0,.slice none 0 0,.slice none 0 0,.slice none 0 0,.slice none 0 0,.int .i64 0,.int .i64 0,.slice none 0 0,.slice none 0 0] 67 (0,0))) (sep (aK 67 19 a x c (bI zl)) (sep ru A)))))):=by have h9:=H6.out;simpa only[ay,au,aj] using h9
      cases bk with
      | true=>
       have HC:=ah (SS va l (pos+1+1) (by omega) HVJ.out ML hFA hin)
       clear hin hFA ML
       go_wp2_with fail
       refine HC.out.mono ?_
       rintro e w7 ⟨z,y,J1,pos1,rfl,hA,hY,hle,hp1,hp2,h7⟩
       have h8:Sat W w7 (sep (blk Q (.cells #[.int .i64 0,.int .i64 0,.int .i64 0,.int .i64 0,.int .i64 0,.int .i64 0,.int .i64 0,.int .i64 0,.int .i64 0,.int .i64 0,.int .i64 0,.slice none 0 0,.slice none 0 0,.slice none 0 0,.slice none 0 0,.int .i64 0,.int .i64 0,.slice none 0 0,.slice none 0 0] 67 (0,0))) (sep (bg B va (pos1:Int) eU (.slice fa zs.length fc)) (sep (kn J1) (sep (aK 67 19 a x c (bI zl)) (sep (aK 67 19 fa zs.length fc (bI zs)) (sep ru A)))))):=by have h9:=h7;simpa only[ay,au,aj] using h9
       have hst:=aY h8.aN rfl z
       have h9:=h8.setRow z.cells.toArray
       obtain⟨w8,hw8⟩:=aC (w7.setRow Q z.cells.toArray)
       rw[←hw8] at hst h9
       have H9:=ah h9
       have HY:=ah (And.intro hA (And.intro hY (And.intro hle (And.intro hp1 hp2))))
       clear h7 h8 h9 hw8 HC hA hY hle hp1 hp2
       go_wp2
       go_meet
       case rel=>exact⟨z,y,J1,pos1,ah ⟨HY.out.1,(fun _=>⟨HY.out.2.1,by obtain⟨o,p,q,td,tc,ea,e,-⟩:=HY.out.2.1;rw[e];rfl⟩),(fun h=>by cases h),HY.out.2.2.1,by have:=HY.out.2.2.2.2;omega,H9.out⟩⟩
      | false=>
       obtain⟨kk,hkk,abT,hx0⟩:=HKZ.out
       have hk1:1≤kk:=by
        rcases Nat.eq_zero_or_pos kk with h0|h0
        ·rw[h0] at hkk;rw[hkk] at hbk;cases hbk
        ·exact h0
       have hN1:1≤zs.length:=by
        rw[rE.Zj]
        refine rE.made.first ?_
        have h1:=dX.length rE.all
        have h2:=rE.len
        rcases Nat.eq_zero_or_pos x with h0|h0
        ·have:=hx0 h0;omega
        ·omega
       have hcall:=SY va l (pos+1+1) kk (by omega) hk1 abT HVJ.out ML hN1 hFA hin
       rw[←hkk] at hcall
       clear hx0 hk1 hN1 abT hkk
       have HC:=ah (hcall)
       clear hin hFA ML
       go_wp2_with fail
       refine HC.out.mono ?_
       rintro e w7 ⟨z,y,J1,pos1,rfl,hA,hY,hyk,hle,hp1,hp2,h7⟩
       have h8:Sat W w7 (sep (blk Q (.cells #[.int .i64 0,.int .i64 0,.int .i64 0,.int .i64 0,.int .i64 0,.int .i64 0,.int .i64 0,.int .i64 0,.int .i64 0,.int .i64 0,.int .i64 0,.slice none 0 0,.slice none 0 0,.slice none 0 0,.slice none 0 0,.int .i64 0,.int .i64 0,.slice none 0 0,.slice none 0 0] 67 (0,0))) (sep (bg B va (pos1:Int) eU (.slice fa zs.length fc)) (sep (kn J1) (sep (aK 67 19 a x c (bI zl)) (sep (aK 67 19 fa zs.length fc (bI zs)) (sep ru A)))))):=by have h9:=h7;simpa only[ay,au,aj] using h9
       have hst:=aY h8.aN rfl z
       have h9:=h8.setRow z.cells.toArray
       obtain⟨w8,hw8⟩:=aC (w7.setRow Q z.cells.toArray)
       rw[←hw8] at hst h9
       have H9:=ah h9
       have HY:=ah (And.intro hA (And.intro hY (And.intro hle (And.intro hp1 (And.intro hp2 hyk)))))
       clear hyk h7 h8 h9 hw8 HC hA hY hle hp1 hp2
       go_wp2
       go_meet
       case rel=>exact⟨z,y,J1,pos1,ah ⟨HY.out.1,(fun h=>by cases h),(fun _=>⟨HY.out.2.1,HY.out.2.2.2.2.2⟩),HY.out.2.2.1,by have:=HY.out.2.2.2.2.1;omega,H9.out⟩⟩
    obtain⟨z,y,J1,pos1,HY⟩:=hcut
    have HV1:Hid (OH J1 va l):=ah (HVJ.out.mono HY.out.2.2.2.1)
    have agh:pos1<10000:=by have:=HY.out.2.2.2.2.1;omega
    clear H6 hbk
    have cB2:wc.cell? ⟨B,2,none⟩=some (.int .i64 eU):=(show Sat W wc (sep (blk B (.cells #[va,.int .i64 (pos1:Int),.int .i64 eU,(.slice fa zs.length fc)] 98 (0,0))) _) from HY.out.2.2.2.2.2.p1).cell 2
    obtain⟨d1a,d1b⟩:=aB HY.out.2.2.2.2.2 1 (.int .i64 z.d) rfl
    have h10:=HY.out.2.2.2.2.2.setCell 1 (.int .i64 eU)
    have e9:z.cells.toArray.setIfInBounds 1 (.int .i64 eU)=(Ac.cells { z with d:=eU }).toArray:=by simp[Ac.cells]
    rw[e9] at h10
    obtain⟨w10,aam⟩:=aC (wc.setCell ⟨Q,1,none⟩ (.int .i64 eU))
    rw[←aam] at h10
    have nO:=ah h10
    have abU:=ah aam
    clear h10 e9 aam
    go_upto_region 16 with (fail)
    rw[←abU.out]
    clear abU cB2 d1a d1b
    have HN6:=ah (aO va l pos1 6 (by omega) (by omega) (by omega) HV1.out (show Sat W w10 (sep (bg B va (pos1:Int) eU (.slice fa zs.length fc)) (sep (kn J1) (sep (blk Q (.cells (Ac.cells { z with d:=eU }).toArray 67 (0,0))) (sep (aK 67 19 a x c (bI zl)) (sep (aK 67 19 fa zs.length fc (bI zs)) (sep ru A)))))) from by have h9:=nO.out;simpa only[ay,au,aj] using h9))
    obtain⟨v6,hv6⟩:=aC (bY l pos1 6)
    rw[←hv6] at HN6
    obtain⟨t6,ht6⟩:∃b,(v6==0)=b:=⟨_,rfl⟩
    clear hv6 nO
    go_wp2_with fail
    refine HN6.out.mono ?_
    rintro e LG ⟨rfl,h11⟩
    have vX:Hid (Sat W LG (sep (blk Q (.cells (Ac.cells { z with d:=eU }).toArray 67 (0,0))) (sep (bg B va ((pos1+1:Nat):Int) eU (.slice fa zs.length fc)) (sep (kn J1) (sep (aK 67 19 a x c (bI zl)) (sep (aK 67 19 fa zs.length fc (bI zs)) (sep ru A))))))):=ah (by have h9:=h11;simpa only[ay,au,aj] using h9)
    clear h11 HN6
    go_upto_if 64 with (fail)
    go_cut [] from 65 to 72 (fun wx=>∃(dd:Int) (pos2:Nat),Hid (35600≤dd∧dd≤38000∧pos2≤pos1+2∧Sat W wx (sep (blk Q (.cells (Ac.cells { z with d:=dd }).toArray 67 (0,0))) (sep (bg B va (pos2:Int) eU (.slice fa zs.length fc)) (sep (kn J1) (sep (aK 67 19 a x c (bI zl)) (sep (aK 67 19 fa zs.length fc (bI zs)) (sep ru A))))))))
    case first=>
     as_aux_lemma=>
      cases t6 with
      | true=>
       have hd:=vX.out.drew
       have hmk:Sat W LG.drew (sep (bg B va ((pos1+1:Nat):Int) eU (.slice fa zs.length fc)) (sep (kn J1) (sep (blk Q (.cells (Ac.cells { z with d:=eU }).toArray 67 (0,0))) (sep (aK 67 19 a x c (bI zl)) (sep (aK 67 19 fa zs.length fc (bI zs)) (sep ru A)))))):=by have h9:=hd;simpa only[ay,au,aj] using h9
       have hS0:LG.drew.cell? ⟨B,2,none⟩=some (.int .i64 eU):=(show Sat W LG.drew (sep (blk B (.cells #[va,.int .i64 ((pos1+1:Nat):Int),.int .i64 eU,(.slice fa zs.length fc)] 98 (0,0))) _) from hmk).cell 2
       have Z4:=ah (aO va l (pos1+1) 400 (by omega) (by omega) (by omega) HV1.out hmk)
       have hb7:=aW l (pos1+1) 400 (by omega)
       obtain⟨v7,hv7⟩:=aC (bY l (pos1+1) 400)
       rw[←hv7] at Z4 hb7
       obtain⟨aip,aiq⟩:=hb7
       have hw7:IntKind.i64.wrap (eU-v7)=eU-v7:=IntWalk.i64_in _ (by omega)
       clear hd hmk hv7 vX
       go_upto_region 17 with (fail)
       refine aA rfl (fun w'=>w'.cell? ⟨B,2,none⟩=some (.int .i64 eU)) [(0,.p),(1,.p),(2,.p),(3,.s),(4,.p),(5,.e true),(6,.p),(7,.p),(8,.e false)] (by kernel_rfl) ?_
       (repeat ((first|(refine eF (v:=?_) rfl rfl (fun w'=>?_) ?_;rotate_left;(go_simp;with_reducible rfl))|(refine eG (v:=?_) rfl rfl hS0 (fun w' hS=>?_) ?_;rotate_left;((try dsimp only at hS);go_simp;with_reducible rfl))|(refine eH (v:=?_) rfl rfl ?_ ?_;rotate_left;(go_simp;with_reducible rfl))|(refine bD rfl rfl ?_)|(refine bG rfl rfl hS0 ?_)|(refine bH rfl rfl ?_));simp only[Act.put,lsA,lsB,bC]))
       (refine iQ rfl rfl (fun K hK=>?_);go_simp)
       refine Z4.out.mono ?_
       rintro e w12 ⟨rfl,h12⟩
       have hS1:w12.cell? ⟨B,2,none⟩=some (.int .i64 eU):=(show Sat W w12 (sep (blk B (.cells #[va,.int .i64 ((pos1+1+1:Nat):Int),.int .i64 eU,(.slice fa zs.length fc)] 98 (0,0))) _) from h12).cell 2
       have h13:Sat W w12 (sep (blk Q (.cells (Ac.cells { z with d:=eU }).toArray 67 (0,0))) (sep (bg B va ((pos1+1+1:Nat):Int) eU (.slice fa zs.length fc)) (sep (kn J1) (sep (aK 67 19 a x c (bI zl)) (sep (aK 67 19 fa zs.length fc (bI zs)) (sep ru A)))))):=by have h9:=h12;simpa only[ay,au,aj] using h9
       obtain⟨d1a,d1b⟩:=aB h13 1 (.int .i64 eU) rfl
       have DR:=h13.setCell 1 (.int .i64 (eU-v7))
       have e9:(Ac.cells { z with d:=eU }).toArray.setIfInBounds 1 (.int .i64 (eU-v7))=(Ac.cells { z with d:=eU-v7 }).toArray:=by simp[Ac.cells]
       rw[e9] at DR
       have H14:=ah DR
       clear h12 h13 DR e9 Z4 hS0
       (refine hK _ _ (fun _=>hS1) ?_;clear hK K;(try simp only[Act.put,lsA,lsB,bC]))
       (repeat ((first|(refine eF (v:=?_) rfl rfl (fun w'=>?_) ?_;rotate_left;(go_simp;with_reducible rfl))|(refine eG (v:=?_) rfl rfl hS0 (fun w' hS=>?_) ?_;rotate_left;((try dsimp only at hS);go_simp;with_reducible rfl))|(refine eH (v:=?_) rfl rfl ?_ ?_;rotate_left;(go_simp;with_reducible rfl))|(refine bD rfl rfl ?_)|(refine bG rfl rfl hS0 ?_)|(refine bH rfl rfl ?_));simp only[Act.put,lsA,lsB,bC]))
       (refine iQ rfl rfl (fun K hK=>?_);go_simp)
       (refine hK _ _ (fun h=>by cases h) ?_;clear hK K;(try simp only[Act.put,lsA,lsB,bC]))
       refine bM ?_
       go_wp2
       go_meet
       case rel=>exact⟨eU-v7,pos1+1+1,ah ⟨by omega,by omega,by omega,H14.out⟩⟩
      | false=>
       go_wp2
       go_meet
       case rel=>exact⟨eU,pos1+1,ah ⟨by omega,by omega,by omega,vX.out⟩⟩
    obtain⟨dd,pos2,HD⟩:=hcut
    clear vX ht6
    obtain⟨n2a,n2b⟩:=aB HD.out.2.2.2 2 (.int .i64 z.n) rfl
    have h15:=HD.out.2.2.2.setCell 2 (.int .i64 (4*xz))
    have e9:(Ac.cells { z with d:=dd }).toArray.setIfInBounds 2 (.int .i64 (4*xz))=(Ac.cells { z with d:=dd,n:=4*xz }).toArray:=by simp[Ac.cells]
    rw[e9] at h15
    obtain⟨Z5,MN⟩:=aC (wc.setCell ⟨Q,2,none⟩ (.int .i64 (4*xz)))
    rw[←MN] at h15
    have H15:=ah h15
    have Xo:=ah MN
    clear h15 e9 MN
    go_upto_region 19 with (fail)
    rw[←Xo.out]
    clear Xo n2a n2b
    obtain⟨b9,hb9⟩:∃b,(kz==9)=b:=⟨_,rfl⟩
    obtain⟨b17,abV⟩:∃b,(kz==17)=b:=⟨_,rfl⟩
    obtain⟨b20,abW⟩:∃b,(kz==20)=b:=⟨_,rfl⟩
    have tX:Hid ((b9||b17||b20)=true↔kz=9∨kz=17∨kz=20):=ah (by rw[←hb9,←abV,←abW];simp[or_assoc])
    obtain⟨bd,hbd⟩:∃b,(b9||b17||b20)=b:=⟨_,rfl⟩
    go_cut [85] from 76 to 84 (fun bv wx=>bv=.bool bd∧wx=Z5)
    case first=>
     as_aux_lemma=>
      have qL:=ah hbd
      clear hbd tX
      cases b9 with
      | true=>
       go_wp2
       go_meet
       case rel=>exact⟨by rw[←qL.out];rfl,rfl⟩
      | false=>
       cases b17 with
       | true=>
        go_wp2
        go_meet
        case rel=>exact⟨by rw[←qL.out];rfl,rfl⟩
       | false=>
        cases b20 with
        | true=>
         go_wp2
         go_meet
         case rel=>exact⟨by rw[←qL.out];rfl,rfl⟩
        | false=>
         go_wp2
         go_meet
         case rel=>exact⟨by rw[←qL.out];rfl,rfl⟩
    obtain⟨rfl,hwc⟩:=hcut
    rw[hwc]
    rw[hbd] at tX
    clear hwc hb9 abV abW hbd
    obtain⟨uz,huz⟩:=aC (z.u)
    have HUZ:Hid (uz=z.u∧-1000000≤uz∧uz≤1000000):=ah ⟨huz,by rw[huz,HY.out.1.u];exact gen_u bk HBK.out HY.out.2.1 HY.out.2.2.1⟩
    have bu1:-1000000≤uz:=HUZ.out.2.1
    have bu2:uz≤1000000:=HUZ.out.2.2
    have aiv:35600≤dd:=HD.out.1
    have aiw:dd≤38000:=HD.out.2.1
    clear huz
    go_upto_if 85 with (fail)
    go_cut [] from 86 to 91 (fun wx=>∃u:Int,Hid (u=(if bd=true then dd+z.u else z.u)∧Sat W wx (sep (blk Q (.cells (Ac.cells { z with d:=dd,n:=4*xz,u:=u }).toArray 67 (0,0))) (sep (bg B va (pos2:Int) eU (.slice fa zs.length fc)) (sep (kn J1) (sep (aK 67 19 a x c (bI zl)) (sep (aK 67 19 fa zs.length fc (bI zs)) (sep ru A))))))))
    case first=>
     as_aux_lemma=>
      cases bd with
      | true=>
       obtain⟨x1a,x1b⟩:=aB H15.out 1 (.int .i64 dd) rfl
       have x7:=aB H15.out 7 (.int .i64 z.u) rfl
       rw[←HUZ.out.1] at x7
       obtain⟨x7a,x7b⟩:=x7
       have h16:=H15.out.setCell 7 (.int .i64 (dd+uz))
       have e9:(Ac.cells { z with d:=dd,n:=4*xz }).toArray.setIfInBounds 7 (.int .i64 (dd+uz))=(Ac.cells { z with d:=dd,n:=4*xz,u:=dd+uz }).toArray:=by simp[Ac.cells]
       rw[e9] at h16
       have WB:=ah h16
       clear h16 e9
       go_wp2
       go_meet
       case rel=>exact⟨dd+uz,ah ⟨by rw[HUZ.out.1];rfl,WB.out⟩⟩
      | false=>
       go_wp2
       go_meet
       case rel=>exact⟨z.u,ah ⟨rfl,H15.out⟩⟩
    obtain⟨u,HU⟩:=hcut
    clear H15 bu1 bu2 HUZ uz
    obtain⟨z3,hz3⟩:=aC (({ z with d:=dd,n:=4*xz,u:=u }:Ac))
    have WB:=HU.out.2
    rw[←hz3] at WB
    have HZ3:=ah hz3
    have TD:=ah WB
    clear WB hz3
    have hbk2:(kz==0)=bk:=by
     have h0:=HBK.out
     cases bk with
     | true=>simpa using h0.1 rfl
     | false=>simpa using h0
    go_upto_if 93 with (fail)
    go_cut [] from 94 to 103 (fun wx=>∃(fa':Option Addr) (fc':Nat) (zs':List Ac),Hid ((bk=true→zs'=zs++[z3])∧(bk=false→zs'=zs)∧Sat W wx (sep (blk Q (.cells (Ac.cells z3).toArray 67 (0,0))) (sep (aK 67 19 a x c (bI zl)) (sep (bg B va (pos2:Int) eU (.slice fa' zs'.length fc')) (sep (aK 67 19 fa' zs'.length fc' (bI zs')) (sep (kn J1) (sep ru A))))))))
    case first=>
     as_aux_lemma=>
      cases bk with
      | true=>
       have hd:=TD.out.drew
       have hmk:Sat W wc.drew (sep (blk B (.cells #[va,.int .i64 (pos2:Int),.int .i64 eU,(.slice fa zs.length fc)] 98 (0,0))) (sep (kn J1) (sep (blk Q (.cells (Ac.cells z3).toArray 67 (0,0))) (sep (aK 67 19 a x c (bI zl)) (sep (aK 67 19 fa zs.length fc (bI zs)) (sep ru A)))))):=by
        have h9:Sat W wc.drew (sep (blk Q (.cells (Ac.cells z3).toArray 67 (0,0))) (sep (bg B va (pos2:Int) eU (.slice fa zs.length fc)) (sep (kn J1) (sep (aK 67 19 a x c (bI zl)) (sep (aK 67 19 fa zs.length fc (bI zs)) (sep ru A)))))):=hd
        have h8:Sat W wc.drew (sep (bg B va (pos2:Int) eU (.slice fa zs.length fc)) (sep (kn J1) (sep (blk Q (.cells (Ac.cells z3).toArray 67 (0,0))) (sep (aK 67 19 a x c (bI zl)) (sep (aK 67 19 fa zs.length fc (bI zs)) (sep ru A)))))):=by simpa only[ay,au,aj] using h9
        exact h8
       have hS0:wc.drew.cell? ⟨B,3,none⟩=some (.slice fa zs.length fc):=hmk.cell 3
       have hld:Sem.run Tryz.prog (jo (.pointer (some ⟨Q,0,none⟩))) wc.drew=.ok (.agg z3.cells.toArray) wc.drew:=kF fun i v hv=>(aB hd i v hv).1
       have hal:=hmk.dD (.cells z3.cells.toArray 67)
       have hS2:(wc.drew.alloc (.cells z3.cells.toArray 67)).cell? ⟨B,3,none⟩=some (.slice fa zs.length fc):=hal.cell 3
       have ML:zs.length≤20:=by have:=rE.Zj;have:=zT ps;have:=dX.length rE.all;have:=rE.len;have:=TB.out;have:=HM.out;omega
       have EO:Hid (Sat W (wc.drew.alloc (.cells z3.cells.toArray 67)) (sep (aK 67 19 fa zs.length fc (bI zs)) (sep (bg B va (pos2:Int) eU (.slice fa zs.length fc)) (sep (blk Q (.cells (Ac.cells z3).toArray 67 (0,0))) (sep (aK 67 19 a x c (bI zl)) (sep (kn J1) (sep ru A))))))):=ah (by
        have h9:Sat W _ (sep (bg B va (pos2:Int) eU (.slice fa zs.length fc)) (sep (kn J1) (sep (blk Q (.cells (Ac.cells z3).toArray 67 (0,0))) (sep (aK 67 19 a x c (bI zl)) (sep (aK 67 19 fa zs.length fc (bI zs)) (sep ru A)))))):=hal
        simpa only[ay,au,aj] using h9)
       have hbx:=dS wc.drew z3.cells 67
       have pF:=ah hbx
       have abY:=ah ML
       clear hd hmk hal hbx ML TD
       go_upto_region 22 with (fail)
       refine aA rfl (fun w'=>w'.cell? ⟨B,3,none⟩=some (.slice fa zs.length fc)) [(0,.p),(1,.p),(2,.p),(3,.p),(4,.s),(5,.t),(6,.e true),(7,.e false),(8,.p),(9,.p),(10,.e false)] (by kernel_rfl) ?_
       (repeat ((first|(refine eF (v:=?_) rfl rfl (fun w'=>?_) ?_;rotate_left;(go_simp;with_reducible rfl))|(refine eG (v:=?_) rfl rfl hS0 (fun w' hS=>?_) ?_;rotate_left;((try dsimp only at hS);go_simp;with_reducible rfl))|(refine eH (v:=?_) rfl rfl ?_ ?_;rotate_left;(go_simp;with_reducible rfl))|(refine bD rfl rfl ?_)|(refine bG rfl rfl hS0 ?_)|(refine bH rfl rfl ?_));simp only[Act.put,lsA,lsB,bC]))
       (refine iQ rfl rfl (fun K hK=>?_);go_simp)
       (refine hK _ _ (fun _=>hS2) ?_;clear hK K;(try simp only[Act.put,lsA,lsB,bC]))
       refine iQ rfl rfl (fun K hK=>?_)
       refine fO (.tmp 98) (.tmp 100) 29 rfl 67 19 248 _ Tryz.underlying29 jR rfl rfl EO.out rfl z3.cells rfl (by simp) (by intro b hb;cases hb;exact pF.out) z3.one (by have:=abY.out;omega) (by unfold maxLen;have:=abY.out;omega) ?_
       intro a2 c2 w18 h18
       have h19:Sat W w18 (sep (blk B (.cells #[va,.int .i64 (pos2:Int),.int .i64 eU,(.slice fa zs.length fc)] 98 (0,0))) (sep (aK 67 19 a2 (zs.length+1) c2 (bI zs++z3.cells)) (sep (blk Q (.cells (Ac.cells z3).toArray 67 (0,0))) (sep (aK 67 19 a x c (bI zl)) (sep (kn J1) (sep ru A)))))):=h18.p1
       have fB3:=h19.aI 3
       have cB3:=h19.cell 3
       simp only[D6,D7,D8] at cB3
       have h20:=h19.setCell 3 (.slice a2 (zs.length+1) c2)
       have Z9:Hid (Sat W (w18.setCell ⟨B,3,none⟩ (.slice a2 (zs.length+1) c2)) (sep (bg B va (pos2:Int) eU (.slice a2 (zs.length+1) c2)) (sep (aK 67 19 a2 (zs.length+1) c2 (bI zs++z3.cells)) (sep (blk Q (.cells (Ac.cells z3).toArray 67 (0,0))) (sep (aK 67 19 a x c (bI zl)) (sep (kn J1) (sep ru A))))))):=ah h20
       clear h18 h19 h20 EO pF hS2 hld
       (refine hK _ _ (fun h=>by cases h) ?_;clear hK K;(try simp only[Act.put,lsA,lsB,bC]))
       (repeat ((first|(refine eF (v:=?_) rfl rfl (fun w'=>?_) ?_;rotate_left;(go_simp;with_reducible rfl))|(refine eG (v:=?_) rfl rfl hS0 (fun w' hS=>?_) ?_;rotate_left;((try dsimp only at hS);go_simp;with_reducible rfl))|(refine eH (v:=?_) rfl rfl ?_ ?_;rotate_left;(go_simp;with_reducible rfl))|(refine bD rfl rfl ?_)|(refine bG rfl rfl hS0 ?_)|(refine bH rfl rfl ?_));simp only[Act.put,lsA,lsB,bC]))
       (refine iQ rfl rfl (fun K hK=>?_);go_simp)
       (refine hK _ _ (fun h=>by cases h) ?_;clear hK K;(try simp only[Act.put,lsA,lsB,bC]))
       refine bM ?_
       go_wp2
       go_meet
       case rel=>
        refine⟨a2,c2,zs++[z3],ah ⟨(fun _=>rfl),(fun h=>by cases h),?_⟩⟩
        have h8:=Z9.out
        have e8:bI zs++z3.cells=bI (zs++[z3]):=by rw[gG];simp[bI]
        rw[e8] at h8
        rw[show (zs++[z3]).length=zs.length+1 by simp]
        have h9:=h8
        simpa only[ay,au,aj] using h9
      | false=>
       go_wp2
       go_meet
       case rel=>exact⟨fa,fc,zs,ah ⟨(fun h=>by cases h),(fun _=>rfl),by have h9:=TD.out;simpa only[ay,au,aj] using h9⟩⟩
    obtain⟨fa',fc',zs',HZS⟩:=hcut
    clear TD
    have hld:Sem.run Tryz.prog (jo (.pointer (some ⟨Q,0,none⟩))) wc=.ok (.agg z3.cells.toArray) wc:=kF fun i v hv=>(aB HZS.out.2.2 i v hv).1
    have hal:=HZS.out.2.2.p1.dD (.cells z3.cells.toArray 67)
    have EO:=ah hal
    have pF:=ah (dS wc z3.cells 67)
    clear hal
    have bxm:x≤14:=by have:=TB.out;have:=HM.out;omega
    go_upto_region 23 with (fail)
    go_wp2_with (at_builtin;go_loud (refine aJ rfl _ _ 29 rfl 67 19 248 _ Tryz.underlying29 jR rfl rfl EO.out rfl z3.cells rfl (by simp) (by intro b' hb;cases hb;exact pF.out) z3.one (by omega) (by unfold maxLen;omega) ?_))
    intro a2 c2 w20 h20
    have Z9:=ah h20
    clear h20 EO pF hld
    go_wp2
    go_roundw
    case rel=>
     obtain⟨hA,aen,aeo,hle,hp1,-⟩:=HY.out
     have hxe:=HXZ.out
     have hxx:=HX.out
     refine⟨x+1,c2,pos2,fc',xz+1,a2,fa',eU,zl++[z3],ps++[bK y dd (4*xz)],zs',J1,rfl,rfl,ah (by omega),ah (fun h=>absurd h (Nat.succ_ne_zero x)),by omega,ah ⟨?_,?_⟩⟩
     ·exact Qa rE hle (bk:=bk) (kz:=kz) HBK.out hA aen aeo tX.out HD.out.1 HD.out.2.1 (by rw[HZ3.out,HU.out.1]) HZS.out.1 HZS.out.2.1 (by omega) (fun h0=>by obtain⟨kk,h1,-,h2⟩:=HKZ.out;rw[h1,h2 h0];rfl) (by have:=HD.out.2.2.1;have:=rE.pos;omega) Xn.out.2.1 Xn.out.2.2
     ·have h8:=Z9.out
      have e8:bI zl++z3.cells=bI (zl++[z3]):=by rw[gG];simp[bI]
      rw[e8] at h8
      have h7:Sat W w20 (sep (blk Q (.cells (Ac.cells z3).toArray 67 (0,0))) (sep (aK 67 19 a2 (x+1) c2 (bI (zl++[z3]))) (sep (bg B va (pos2:Int) eU (.slice fa' zs'.length fc')) (sep (aK 67 19 fa' zs'.length fc' (bI zs')) (sep (kn J1) (sep ru A)))))):=h8.p1
      exact h7.forget
    case measure=>simp[intOf];omega
   ·as_aux_lemma=>
    have hpz:(pos:Int)<(ll:Int):=by omega
    have hxz:¬(x:Int)<(most:Int):=by omega
    clear hp hx hxm
    go_wp2
    go_ret
    obtain⟨hI,hS⟩:=HL.out
    have h8:Sat W wr (sep (kn J) (sep ru (sep (aK 67 19 a x c (bI zl)) A))):=by
     have h7:Sat W wr (sep (aK 67 19 a x c (bI zl)) (sep (kn J) (sep ru A))):=by
      have h6:Sat W wr (sep (aK 67 19 fa zs.length fc (bI zs)) (sep (aK 67 19 a x c (bI zl)) (sep (kn J) (sep ru A)))):=hS.p1.forget.p1
      exact h6.cO
     have h9:=h7
     simpa only[ay,au,aj] using h9
    have h5:Sat W wr (sep (aK 67 19 a x c (bI zl)) (sep (kn J) A)):=by
     have h4:Sat W wr (sep ru (sep (aK 67 19 a x c (bI zl)) (sep (kn J) A))):=by
      have h9:=h8
      simpa only[ay,au,aj] using h9
     exact h4.drop
    exact⟨a,x,c,rfl,zl,hI.len.symm,TB.out,Xm.out,ps,J,hI.le,hI.all,hI.made,h5⟩
  ·as_aux_lemma=>
    have hpz:¬(pos:Int)<(ll:Int):=by omega
    clear hp hxm
    go_wp2
    go_ret
    obtain⟨hI,hS⟩:=HL.out
    have h8:Sat W wr (sep (kn J) (sep ru (sep (aK 67 19 a x c (bI zl)) A))):=by
     have h7:Sat W wr (sep (aK 67 19 a x c (bI zl)) (sep (kn J) (sep ru A))):=by
      have h6:Sat W wr (sep (aK 67 19 fa zs.length fc (bI zs)) (sep (aK 67 19 a x c (bI zl)) (sep (kn J) (sep ru A)))):=hS.p1.forget.p1
      exact h6.cO
     have h9:=h7
     simpa only[ay,au,aj] using h9
    have h5:Sat W wr (sep (aK 67 19 a x c (bI zl)) (sep (kn J) A)):=by
     have h4:Sat W wr (sep ru (sep (aK 67 19 a x c (bI zl)) (sep (kn J) A))):=by
      have h9:=h8
      simpa only[ay,au,aj] using h9
     exact h4.drop
    exact⟨a,x,c,rfl,zl,hI.len.symm,TB.out,Xm.out,ps,J,hI.le,hI.all,hI.made,h5⟩
end Go.Proofs.YtgicfogmdfdjmaaGreatDoor
