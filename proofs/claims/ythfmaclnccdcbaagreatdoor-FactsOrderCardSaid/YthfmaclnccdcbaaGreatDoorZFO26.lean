/- Part of a proof. -/
import Derived.Test.YthfmaclnccdcbaaGreatDoorZFO22
namespace PA
open Go
def iO (z:Ac):Ac:=
 { z with
  f:=if bT z.k=true then 0 else z.f
  o:=if z.k=0∨z.k=20∨z.k=21 then 0 else z.o
  p:=if z.k=0∨z.k=4∨z.k=5∨z.k=12∨z.k=14∨z.k=16∨z.k=17 then 0 else z.p
  q:=if z.k=0∨z.k=4∨z.k=13∨z.k=16∨z.k=17 then 0 else z.q
  u:=if z.k=4∨z.k=5∨z.k=6∨z.k=7∨z.k=8∨z.k=9∨z.k=13∨z.k=17∨z.k=18∨z.k=20∨z.k=21 then 0 else z.u
  m:=if z.k=4∨z.k=8∨z.k=21 then 0 else z.m
  sn:=if z.k=16 then 0 else z.sn
  sd:=if z.k=16 then 0 else z.sd
  td:=if z.k=0 then ak else z.td
  tc:=if z.k=0 then ak else z.tc
  cl:=if z.k=3∨z.k=15∨(z.k=13∧z.u=2) then ak else z.cl
  ea:=if z.k=0 then ak else z.ea
  fo:=if z.k=19 then 0 else z.fo
  fn:=if z.k=19 then 0 else z.fn
  fi:=if z.k=19 then ak else z.fi
  fk:=if z.k=19 then ak else z.fk }
def xC (z:Ac):Bool:=
 (z.f==0)&&((z.o==0)&&((z.p==0)&&((z.q==0)&&((z.u==0)&&((z.m==0)&&(((z.sn==0)&&(z.sd==0)) &&
 (((z.fo==0)&&((z.fn==0)&&(((z.fi.n:Int)==0)&&((z.fk.n:Int)==0)))) &&
 (((z.td.n:Int)==0)&&(((z.tc.n:Int)==0)&&(((z.cl.n:Int)==0)&&((z.ea.n:Int)==0)))))))))))
end PA
namespace Go.Proofs.YthfmaclnccdcbaaGreatDoor
open Go.RowKit PA
theorem dZ (n lo hi:Int) (w:World):Calls Tryz.prog 66 #[.int .i64 n,.int .i64 lo,.int .i64 hi] w fun e w'=>e=.returned (.bool (aP n lo hi))∧w=w':=by
 obtain⟨r,hr⟩:=aC (aP n lo hi);rw[←hr];have HR:=ah hr;clear hr;rcases (show n<lo∨lo≤n by omega) with h1|h1
 ·go_enter Tryz.func66,Tryz.ntmps66
  go_wp2;go_ret;exact⟨by rw[HR.out];simp[aP];omega,rfl⟩
 ·go_enter Tryz.func66,Tryz.ntmps66
  go_wp2;go_ret;exact⟨by rw[HR.out];simp[aP,h1],rfl⟩
theorem Gy (k:Int) (w:World):Calls Tryz.prog 34 #[.int .i64 k] w fun e w'=>e=.returned (.bool (bT k))∧w=w':=by
 obtain⟨r,hr⟩:=aC (bT k);rw[←hr];have HR:=ah hr;clear hr;have hc:k=5∨k=19∨k=20∨k=21∨(k≠5∧k≠19∧k≠20∧k≠21):=by omega
 rcases hc with rfl|rfl|rfl|rfl|⟨h1,h2,h3,h4⟩
 all_goals
  go_enter Tryz.func34,Tryz.ntmps34;go_wp2;go_ret;exact⟨by rw[HR.out];first|rfl|simp[bT, *],rfl⟩
attribute [local go_sem ↓] aY bI aV
set_option maxRecDepth 100000 in
set_option maxHeartbeats 8000000 in
theorem Jc {W w:World} {A:aB} (z:Ac) (h:Sat W w A):
 Calls Tryz.prog 64 #[.agg z.cells.toArray] w fun e w'=>e=.returned (.bool (xC z))∧Sat W w' A:=by
 have h1:=h.alloc (.cells z.cells.toArray 36);obtain⟨B,hB⟩:=aC (w.heap.size);obtain⟨w1,hw1⟩:=aC (w.alloc (.cells z.cells.toArray 36));rw[←hB,←hw1] at h1;have HB:=ah (aH hB hw1);have H1:=ah h1.drop;have hq:∀w0,(binOp .eql 26 (.agg #[.int .i64 z.sn,.int .i64 z.sd]) (.agg #[.int .i64 0,.int .i64 0])).run Tryz.prog w0=.ok (.bool (z.sn==0&&z.sd==0)) w0:=fun w0=>JO w0 _ _ _ _
 have k3:=(ay h1 3 _ rfl).1;have k4:=(ay h1 4 _ rfl).1;have k5:=(ay h1 5 _ rfl).1;have k6:=(ay h1 6 _ rfl).1;have k7:=(ay h1 7 _ rfl).1;have k8:=(ay h1 8 _ rfl).1;have k9:=(ay h1 9 _ rfl).1;have k10:=(ay h1 10 _ rfl).1;have k11:=(ay h1 11 _ rfl).1;have k12:=(ay h1 12 _ rfl).1;have k13:=(ay h1 13 _ rfl).1;have k14:=(ay h1 14 _ rfl).1;have k15:=(ay h1 15 _ rfl).1;have k16:=(ay h1 16 _ rfl).1;have k17:=(ay h1 17 _ rfl).1;have k18:=(ay h1 18 _ rfl).1;obtain⟨r,hr⟩:=aC (xC z);rw[←hr];have HR:=ah hr;clear h h1 hB hw1 hr;go_enter Tryz.func64,Tryz.ntmps64;go_upto_region 1 with fail;rw[←HB.out.1,←HB.out.2];go_wp2
 all_goals
  go_ret;refine⟨?_,H1.out⟩;rw[HR.out];simp[xC, *]
set_option maxRecDepth 100000 in
set_option maxHeartbeats 16000000 in
theorem Lp {W w:World} {A:aB} (z:Ac) (h:Sat W w A):
 Calls Tryz.prog 65 #[.agg z.cells.toArray] w fun e w'=>e=.returned (.agg (iO z).cells.toArray)∧Sat W w' A:=by
 obtain⟨bz,hbz⟩:=aC (iO z);rw[←hbz];have GU:=ah hbz;have h1:=(h.alloc (.cells z.cells.toArray 36)).alloc (.cells iW 36);rw[World.size_alloc] at h1;obtain⟨B,hB⟩:=aC (w.heap.size);obtain⟨w1,hw1⟩:=aC ((w.alloc (.cells z.cells.toArray 36)).alloc (.cells iW 36));rw[←hB,←hw1] at h1;replace h1:Sat W w1 (sep (blk (B+1) (.cells Ac.zero.cells.toArray 36 (0,0))) (sep (blk B (.cells z.cells.toArray 36 (0,0))) A)):=h1;have HB:=ah (aH hB hw1);have k0:=(ay h1.p1 0 _ rfl).1;obtain⟨k3c,k3f⟩:=ay h1.p1 3 _ rfl;obtain⟨zk,hzk⟩:=aC (z.k);obtain⟨ob,hob⟩:=aC (bT zk);have k0':w1.cell? ⟨B,0,none⟩=some (.int .i64 zk):=by rw[hzk];exact k0
 have qO:=ah (aH hzk hob);have HOF:Hid (∀w',Calls Tryz.prog 34 #[.int .i64 zk] w' fun e w''=>e=.returned (.bool ob)∧w'=w''):=ah (fun w'=>by rw[hob];exact Gy zk w');obtain⟨z1,hz1⟩:∃y:Ac,y={ z with f:=if ob=true then 0 else z.f }:=⟨_,rfl⟩
 have HZ1:=ah hz1;have H1:=ah h1.p1;clear hbz h h1 hB hw1 k0 hzk hob hz1;go_enter Tryz.func65,Tryz.ntmps65;go_upto_region 1 with fail;simp only[←HB.out.1];rw[←HB.out.2];go_upto_if 5 with (first|(go_at_call 34;refine (HOF.out _).mono ?_;rintro e w2 ⟨rfl,rfl⟩)|fail)
 go_cut [5] from 3 to 6 (fun _ wx=>Sat W wx (sep (blk B (.cells z1.cells.toArray 36 (0,0))) (sep (blk (B+1) (.cells Ac.zero.cells.toArray 36 (0,0))) A)))
 case first=>
  cases ob with
  | true=>
   have h9:=H1.out.setCell 3 (.int .i64 0);have H9:Hid (Sat W (w1.setCell ⟨B,3,none⟩ (.int .i64 0)) (sep (blk B (.cells z1.cells.toArray 36 (0,0))) (sep (blk (B+1) (.cells Ac.zero.cells.toArray 36 (0,0))) A))):=ah (by rw[HZ1.out];exact h9);clear h9 H1;go_wp2;go_meet;case rel=>exact H9.out
  | false=>
   have H9:Hid (Sat W w1 (sep (blk B (.cells z1.cells.toArray 36 (0,0))) (sep (blk (B+1) (.cells Ac.zero.cells.toArray 36 (0,0))) A))):=ah (by rw[HZ1.out];exact H1.out);clear H1;go_wp2;go_meet;case rel=>exact H9.out
 case rest=>
  clear k0' k3c k3f H1 HB HOF;have H1:=ah hcut;have k0:wc.cell? ⟨B,0,none⟩=some (.int .i64 zk):=by
   have h9:=(ay hcut 0 _ rfl).1;rw[qO.out.1];rw[HZ1.out] at h9;exact h9
  clear hcut;by_cases e0:zk=0
  ·subst e0
   as_aux_lemma=>
   have hA:=H1.out;obtain⟨y2,hy2⟩:∃y:Ac,y={ z1 with o:=0 }:=⟨_,rfl⟩
   obtain⟨c2,f2⟩:=ay hA 4 _ rfl;have hB2:Sat W (wc.setCell ⟨B,4,none⟩ (.int .i64 0)) (sep (blk B (.cells y2.cells.toArray 36 (0,0))) (sep (blk (B+1) (.cells Ac.zero.cells.toArray 36 (0,0))) A)):=by rw[hy2];exact hA.setCell 4 (.int .i64 0)
   obtain⟨y3,hy3⟩:∃y:Ac,y={ y2 with p:=0 }:=⟨_,rfl⟩
   obtain⟨c3,f3⟩:=ay hB2 5 _ rfl;have hB3:Sat W ((wc.setCell ⟨B,4,none⟩ (.int .i64 0)).setCell ⟨B,5,none⟩ (.int .i64 0)) (sep (blk B (.cells y3.cells.toArray 36 (0,0))) (sep (blk (B+1) (.cells Ac.zero.cells.toArray 36 (0,0))) A)):=by rw[hy3];exact hB2.setCell 5 (.int .i64 0)
   obtain⟨y4,hy4⟩:∃y:Ac,y={ y3 with q:=0 }:=⟨_,rfl⟩
   obtain⟨c4,f4⟩:=ay hB3 6 _ rfl;have hB4:Sat W (((wc.setCell ⟨B,4,none⟩ (.int .i64 0)).setCell ⟨B,5,none⟩ (.int .i64 0)).setCell ⟨B,6,none⟩ (.int .i64 0)) (sep (blk B (.cells y4.cells.toArray 36 (0,0))) (sep (blk (B+1) (.cells Ac.zero.cells.toArray 36 (0,0))) A)):=by rw[hy4];exact hB3.setCell 6 (.int .i64 0)
   obtain⟨y5,P9⟩:∃y:Ac,y={ y4 with td:=ak }:=⟨_,rfl⟩
   obtain⟨c5,f5⟩:=ay hB4 11 _ rfl;have UY:Sat W ((((wc.setCell ⟨B,4,none⟩ (.int .i64 0)).setCell ⟨B,5,none⟩ (.int .i64 0)).setCell ⟨B,6,none⟩ (.int .i64 0)).setCell ⟨B,11,none⟩ (.slice none 0 0)) (sep (blk B (.cells y5.cells.toArray 36 (0,0))) (sep (blk (B+1) (.cells Ac.zero.cells.toArray 36 (0,0))) A)):=by rw[P9];exact hB4.setCell 11 (.slice none 0 0)
   obtain⟨y6,hy6⟩:∃y:Ac,y={ y5 with tc:=ak }:=⟨_,rfl⟩
   obtain⟨c6,f6⟩:=ay UY 12 _ rfl;have hB6:Sat W (((((wc.setCell ⟨B,4,none⟩ (.int .i64 0)).setCell ⟨B,5,none⟩ (.int .i64 0)).setCell ⟨B,6,none⟩ (.int .i64 0)).setCell ⟨B,11,none⟩ (.slice none 0 0)).setCell ⟨B,12,none⟩ (.slice none 0 0)) (sep (blk B (.cells y6.cells.toArray 36 (0,0))) (sep (blk (B+1) (.cells Ac.zero.cells.toArray 36 (0,0))) A)):=by rw[hy6];exact UY.setCell 12 (.slice none 0 0)
   obtain⟨y7,hy7⟩:∃y:Ac,y={ y6 with ea:=ak }:=⟨_,rfl⟩
   obtain⟨c7,f7⟩:=ay hB6 14 _ rfl;have hB7:Sat W ((((((wc.setCell ⟨B,4,none⟩ (.int .i64 0)).setCell ⟨B,5,none⟩ (.int .i64 0)).setCell ⟨B,6,none⟩ (.int .i64 0)).setCell ⟨B,11,none⟩ (.slice none 0 0)).setCell ⟨B,12,none⟩ (.slice none 0 0)).setCell ⟨B,14,none⟩ (.slice none 0 0)) (sep (blk B (.cells y7.cells.toArray 36 (0,0))) (sep (blk (B+1) (.cells Ac.zero.cells.toArray 36 (0,0))) A)):=by rw[hy7];exact hB6.setCell 14 (.slice none 0 0)
   have hE:=hB7;obtain⟨cs,hcs⟩:=aC (y7.cells.toArray);have hld:=iq hE;have hst:=cZ hE.p1.aO rfl y7;have hF:=hE.p1.setRow y7.cells.toArray;obtain⟨we,hwe⟩:=aC (((((((wc.setCell ⟨B,4,none⟩ (.int .i64 0)).setCell ⟨B,5,none⟩ (.int .i64 0)).setCell ⟨B,6,none⟩ (.int .i64 0)).setCell ⟨B,11,none⟩ (.slice none 0 0)).setCell ⟨B,12,none⟩ (.slice none 0 0)).setCell ⟨B,14,none⟩ (.slice none 0 0)).setRow (B+1) y7.cells.toArray);rw[←hwe] at hst hF;have hrd:=iw hF;rw[←hcs] at hld hst hrd;have HF:=ah hF.drop.drop;have pU:Hid (cs=bz.cells.toArray):=ah (by
    rw[hcs,GU.out];congr 2;rw[hy7,hy6,P9,hy4,hy3,hy2,HZ1.out,qO.out.2];have hk:=qO.out.1;obtain⟨a1,a2,a3,a4,a5,a6,a7,a8,a9,a10,a11,a12,GV,F5,IZ,a16,a17,I4,I5⟩:=z;simp only at hk;subst hk;simp[iO,bT, *])
   clear hE hF hcs hwe hA H1 hB2 hB3 hB4 UY hB6 hB7 hy2 hy3 hy4 P9 hy6 hy7;go_wp2;exact bodyPost_ret (v:=.agg cs) (by simp[results,Tryz.results65,go_sem,↓aV,hrd]) rfl ⟨by rw[pU.out],HF.out⟩
  by_cases e3:zk=3
  ·subst e3
   as_aux_lemma=>
   have hA:=H1.out;obtain⟨y2,hy2⟩:∃y:Ac,y={ z1 with cl:=ak }:=⟨_,rfl⟩
   obtain⟨c2,f2⟩:=ay hA 13 _ rfl;have hB2:Sat W (wc.setCell ⟨B,13,none⟩ (.slice none 0 0)) (sep (blk B (.cells y2.cells.toArray 36 (0,0))) (sep (blk (B+1) (.cells Ac.zero.cells.toArray 36 (0,0))) A)):=by rw[hy2];exact hA.setCell 13 (.slice none 0 0)
   have hE:=hB2;obtain⟨cs,hcs⟩:=aC (y2.cells.toArray);have hld:=iq hE;have hst:=cZ hE.p1.aO rfl y2;have hF:=hE.p1.setRow y2.cells.toArray;obtain⟨we,hwe⟩:=aC ((wc.setCell ⟨B,13,none⟩ (.slice none 0 0)).setRow (B+1) y2.cells.toArray);rw[←hwe] at hst hF;have hrd:=iw hF;rw[←hcs] at hld hst hrd;have HF:=ah hF.drop.drop;have pU:Hid (cs=bz.cells.toArray):=ah (by
    rw[hcs,GU.out];congr 2;rw[hy2,HZ1.out,qO.out.2];have hk:=qO.out.1;obtain⟨a1,a2,a3,a4,a5,a6,a7,a8,a9,a10,a11,a12,GV,F5,IZ,a16,a17,I4,I5⟩:=z;simp only at hk;subst hk;simp[iO,bT, *])
   clear hE hF hcs hwe hA H1 hB2 hy2;go_wp2;exact bodyPost_ret (v:=.agg cs) (by simp[results,Tryz.results65,go_sem,↓aV,hrd]) rfl ⟨by rw[pU.out],HF.out⟩
  by_cases e15:zk=15
  ·subst e15
   as_aux_lemma=>
   have hA:=H1.out;obtain⟨y2,hy2⟩:∃y:Ac,y={ z1 with cl:=ak }:=⟨_,rfl⟩
   obtain⟨c2,f2⟩:=ay hA 13 _ rfl;have hB2:Sat W (wc.setCell ⟨B,13,none⟩ (.slice none 0 0)) (sep (blk B (.cells y2.cells.toArray 36 (0,0))) (sep (blk (B+1) (.cells Ac.zero.cells.toArray 36 (0,0))) A)):=by rw[hy2];exact hA.setCell 13 (.slice none 0 0)
   have hE:=hB2;obtain⟨cs,hcs⟩:=aC (y2.cells.toArray);have hld:=iq hE;have hst:=cZ hE.p1.aO rfl y2;have hF:=hE.p1.setRow y2.cells.toArray;obtain⟨we,hwe⟩:=aC ((wc.setCell ⟨B,13,none⟩ (.slice none 0 0)).setRow (B+1) y2.cells.toArray);rw[←hwe] at hst hF;have hrd:=iw hF;rw[←hcs] at hld hst hrd;have HF:=ah hF.drop.drop;have pU:Hid (cs=bz.cells.toArray):=ah (by
    rw[hcs,GU.out];congr 2;rw[hy2,HZ1.out,qO.out.2];have hk:=qO.out.1;obtain⟨a1,a2,a3,a4,a5,a6,a7,a8,a9,a10,a11,a12,GV,F5,IZ,a16,a17,I4,I5⟩:=z;simp only at hk;subst hk;simp[iO,bT, *])
   clear hE hF hcs hwe hA H1 hB2 hy2;go_wp2;exact bodyPost_ret (v:=.agg cs) (by simp[results,Tryz.results65,go_sem,↓aV,hrd]) rfl ⟨by rw[pU.out],HF.out⟩
  by_cases e4:zk=4
  ·subst e4
   as_aux_lemma=>
   have hA:=H1.out;obtain⟨y2,hy2⟩:∃y:Ac,y={ z1 with p:=0 }:=⟨_,rfl⟩
   obtain⟨c2,f2⟩:=ay hA 5 _ rfl;have hB2:Sat W (wc.setCell ⟨B,5,none⟩ (.int .i64 0)) (sep (blk B (.cells y2.cells.toArray 36 (0,0))) (sep (blk (B+1) (.cells Ac.zero.cells.toArray 36 (0,0))) A)):=by rw[hy2];exact hA.setCell 5 (.int .i64 0)
   obtain⟨y3,hy3⟩:∃y:Ac,y={ y2 with q:=0 }:=⟨_,rfl⟩
   obtain⟨c3,f3⟩:=ay hB2 6 _ rfl;have hB3:Sat W ((wc.setCell ⟨B,5,none⟩ (.int .i64 0)).setCell ⟨B,6,none⟩ (.int .i64 0)) (sep (blk B (.cells y3.cells.toArray 36 (0,0))) (sep (blk (B+1) (.cells Ac.zero.cells.toArray 36 (0,0))) A)):=by rw[hy3];exact hB2.setCell 6 (.int .i64 0)
   obtain⟨y4,hy4⟩:∃y:Ac,y={ y3 with u:=0 }:=⟨_,rfl⟩
   obtain⟨c4,f4⟩:=ay hB3 7 _ rfl;have hB4:Sat W (((wc.setCell ⟨B,5,none⟩ (.int .i64 0)).setCell ⟨B,6,none⟩ (.int .i64 0)).setCell ⟨B,7,none⟩ (.int .i64 0)) (sep (blk B (.cells y4.cells.toArray 36 (0,0))) (sep (blk (B+1) (.cells Ac.zero.cells.toArray 36 (0,0))) A)):=by rw[hy4];exact hB3.setCell 7 (.int .i64 0)
   obtain⟨y5,P9⟩:∃y:Ac,y={ y4 with m:=0 }:=⟨_,rfl⟩
   obtain⟨c5,f5⟩:=ay hB4 8 _ rfl;have UY:Sat W ((((wc.setCell ⟨B,5,none⟩ (.int .i64 0)).setCell ⟨B,6,none⟩ (.int .i64 0)).setCell ⟨B,7,none⟩ (.int .i64 0)).setCell ⟨B,8,none⟩ (.int .i64 0)) (sep (blk B (.cells y5.cells.toArray 36 (0,0))) (sep (blk (B+1) (.cells Ac.zero.cells.toArray 36 (0,0))) A)):=by rw[P9];exact hB4.setCell 8 (.int .i64 0)
   have hE:=UY;obtain⟨cs,hcs⟩:=aC (y5.cells.toArray);have hld:=iq hE;have hst:=cZ hE.p1.aO rfl y5;have hF:=hE.p1.setRow y5.cells.toArray;obtain⟨we,hwe⟩:=aC (((((wc.setCell ⟨B,5,none⟩ (.int .i64 0)).setCell ⟨B,6,none⟩ (.int .i64 0)).setCell ⟨B,7,none⟩ (.int .i64 0)).setCell ⟨B,8,none⟩ (.int .i64 0)).setRow (B+1) y5.cells.toArray);rw[←hwe] at hst hF;have hrd:=iw hF;rw[←hcs] at hld hst hrd;have HF:=ah hF.drop.drop;have pU:Hid (cs=bz.cells.toArray):=ah (by
    rw[hcs,GU.out];congr 2;rw[P9,hy4,hy3,hy2,HZ1.out,qO.out.2];have hk:=qO.out.1;obtain⟨a1,a2,a3,a4,a5,a6,a7,a8,a9,a10,a11,a12,GV,F5,IZ,a16,a17,I4,I5⟩:=z;simp only at hk;subst hk;simp[iO,bT, *])
   clear hE hF hcs hwe hA H1 hB2 hB3 hB4 UY hy2 hy3 hy4 P9;go_wp2;exact bodyPost_ret (v:=.agg cs) (by simp[results,Tryz.results65,go_sem,↓aV,hrd]) rfl ⟨by rw[pU.out],HF.out⟩
  by_cases e5:zk=5
  ·subst e5
   as_aux_lemma=>
   have hA:=H1.out;obtain⟨y2,hy2⟩:∃y:Ac,y={ z1 with p:=0 }:=⟨_,rfl⟩
   obtain⟨c2,f2⟩:=ay hA 5 _ rfl;have hB2:Sat W (wc.setCell ⟨B,5,none⟩ (.int .i64 0)) (sep (blk B (.cells y2.cells.toArray 36 (0,0))) (sep (blk (B+1) (.cells Ac.zero.cells.toArray 36 (0,0))) A)):=by rw[hy2];exact hA.setCell 5 (.int .i64 0)
   obtain⟨y3,hy3⟩:∃y:Ac,y={ y2 with u:=0 }:=⟨_,rfl⟩
   obtain⟨c3,f3⟩:=ay hB2 7 _ rfl;have hB3:Sat W ((wc.setCell ⟨B,5,none⟩ (.int .i64 0)).setCell ⟨B,7,none⟩ (.int .i64 0)) (sep (blk B (.cells y3.cells.toArray 36 (0,0))) (sep (blk (B+1) (.cells Ac.zero.cells.toArray 36 (0,0))) A)):=by rw[hy3];exact hB2.setCell 7 (.int .i64 0)
   have hE:=hB3;obtain⟨cs,hcs⟩:=aC (y3.cells.toArray);have hld:=iq hE;have hst:=cZ hE.p1.aO rfl y3;have hF:=hE.p1.setRow y3.cells.toArray;obtain⟨we,hwe⟩:=aC (((wc.setCell ⟨B,5,none⟩ (.int .i64 0)).setCell ⟨B,7,none⟩ (.int .i64 0)).setRow (B+1) y3.cells.toArray);rw[←hwe] at hst hF;have hrd:=iw hF;rw[←hcs] at hld hst hrd;have HF:=ah hF.drop.drop;have pU:Hid (cs=bz.cells.toArray):=ah (by
    rw[hcs,GU.out];congr 2;rw[hy3,hy2,HZ1.out,qO.out.2];have hk:=qO.out.1;obtain⟨a1,a2,a3,a4,a5,a6,a7,a8,a9,a10,a11,a12,GV,F5,IZ,a16,a17,I4,I5⟩:=z;simp only at hk;subst hk;simp[iO,bT, *])
   clear hE hF hcs hwe hA H1 hB2 hB3 hy2 hy3;go_wp2;exact bodyPost_ret (v:=.agg cs) (by simp[results,Tryz.results65,go_sem,↓aV,hrd]) rfl ⟨by rw[pU.out],HF.out⟩
  by_cases e6:zk=6
  ·subst e6
   as_aux_lemma=>
   have hA:=H1.out;obtain⟨y2,hy2⟩:∃y:Ac,y={ z1 with u:=0 }:=⟨_,rfl⟩
   obtain⟨c2,f2⟩:=ay hA 7 _ rfl;have hB2:Sat W (wc.setCell ⟨B,7,none⟩ (.int .i64 0)) (sep (blk B (.cells y2.cells.toArray 36 (0,0))) (sep (blk (B+1) (.cells Ac.zero.cells.toArray 36 (0,0))) A)):=by rw[hy2];exact hA.setCell 7 (.int .i64 0)
   have hE:=hB2;obtain⟨cs,hcs⟩:=aC (y2.cells.toArray);have hld:=iq hE;have hst:=cZ hE.p1.aO rfl y2;have hF:=hE.p1.setRow y2.cells.toArray;obtain⟨we,hwe⟩:=aC ((wc.setCell ⟨B,7,none⟩ (.int .i64 0)).setRow (B+1) y2.cells.toArray);rw[←hwe] at hst hF;have hrd:=iw hF;rw[←hcs] at hld hst hrd;have HF:=ah hF.drop.drop;have pU:Hid (cs=bz.cells.toArray):=ah (by
    rw[hcs,GU.out];congr 2;rw[hy2,HZ1.out,qO.out.2];have hk:=qO.out.1;obtain⟨a1,a2,a3,a4,a5,a6,a7,a8,a9,a10,a11,a12,GV,F5,IZ,a16,a17,I4,I5⟩:=z;simp only at hk;subst hk;simp[iO,bT, *])
   clear hE hF hcs hwe hA H1 hB2 hy2;go_wp2;exact bodyPost_ret (v:=.agg cs) (by simp[results,Tryz.results65,go_sem,↓aV,hrd]) rfl ⟨by rw[pU.out],HF.out⟩
  by_cases e7:zk=7
  ·subst e7
   as_aux_lemma=>
   have hA:=H1.out;obtain⟨y2,hy2⟩:∃y:Ac,y={ z1 with u:=0 }:=⟨_,rfl⟩
   obtain⟨c2,f2⟩:=ay hA 7 _ rfl;have hB2:Sat W (wc.setCell ⟨B,7,none⟩ (.int .i64 0)) (sep (blk B (.cells y2.cells.toArray 36 (0,0))) (sep (blk (B+1) (.cells Ac.zero.cells.toArray 36 (0,0))) A)):=by rw[hy2];exact hA.setCell 7 (.int .i64 0)
   have hE:=hB2;obtain⟨cs,hcs⟩:=aC (y2.cells.toArray);have hld:=iq hE;have hst:=cZ hE.p1.aO rfl y2;have hF:=hE.p1.setRow y2.cells.toArray;obtain⟨we,hwe⟩:=aC ((wc.setCell ⟨B,7,none⟩ (.int .i64 0)).setRow (B+1) y2.cells.toArray);rw[←hwe] at hst hF;have hrd:=iw hF;rw[←hcs] at hld hst hrd;have HF:=ah hF.drop.drop;have pU:Hid (cs=bz.cells.toArray):=ah (by
    rw[hcs,GU.out];congr 2;rw[hy2,HZ1.out,qO.out.2];have hk:=qO.out.1;obtain⟨a1,a2,a3,a4,a5,a6,a7,a8,a9,a10,a11,a12,GV,F5,IZ,a16,a17,I4,I5⟩:=z;simp only at hk;subst hk;simp[iO,bT, *])
   clear hE hF hcs hwe hA H1 hB2 hy2;go_wp2;exact bodyPost_ret (v:=.agg cs) (by simp[results,Tryz.results65,go_sem,↓aV,hrd]) rfl ⟨by rw[pU.out],HF.out⟩
  by_cases e9:zk=9
  ·subst e9
   as_aux_lemma=>
   have hA:=H1.out;obtain⟨y2,hy2⟩:∃y:Ac,y={ z1 with u:=0 }:=⟨_,rfl⟩
   obtain⟨c2,f2⟩:=ay hA 7 _ rfl;have hB2:Sat W (wc.setCell ⟨B,7,none⟩ (.int .i64 0)) (sep (blk B (.cells y2.cells.toArray 36 (0,0))) (sep (blk (B+1) (.cells Ac.zero.cells.toArray 36 (0,0))) A)):=by rw[hy2];exact hA.setCell 7 (.int .i64 0)
   have hE:=hB2;obtain⟨cs,hcs⟩:=aC (y2.cells.toArray);have hld:=iq hE;have hst:=cZ hE.p1.aO rfl y2;have hF:=hE.p1.setRow y2.cells.toArray;obtain⟨we,hwe⟩:=aC ((wc.setCell ⟨B,7,none⟩ (.int .i64 0)).setRow (B+1) y2.cells.toArray);rw[←hwe] at hst hF;have hrd:=iw hF;rw[←hcs] at hld hst hrd;have HF:=ah hF.drop.drop;have pU:Hid (cs=bz.cells.toArray):=ah (by
    rw[hcs,GU.out];congr 2;rw[hy2,HZ1.out,qO.out.2];have hk:=qO.out.1;obtain⟨a1,a2,a3,a4,a5,a6,a7,a8,a9,a10,a11,a12,GV,F5,IZ,a16,a17,I4,I5⟩:=z;simp only at hk;subst hk;simp[iO,bT, *])
   clear hE hF hcs hwe hA H1 hB2 hy2;go_wp2;exact bodyPost_ret (v:=.agg cs) (by simp[results,Tryz.results65,go_sem,↓aV,hrd]) rfl ⟨by rw[pU.out],HF.out⟩
  by_cases e18:zk=18
  ·subst e18
   as_aux_lemma=>
   have hA:=H1.out;obtain⟨y2,hy2⟩:∃y:Ac,y={ z1 with u:=0 }:=⟨_,rfl⟩
   obtain⟨c2,f2⟩:=ay hA 7 _ rfl;have hB2:Sat W (wc.setCell ⟨B,7,none⟩ (.int .i64 0)) (sep (blk B (.cells y2.cells.toArray 36 (0,0))) (sep (blk (B+1) (.cells Ac.zero.cells.toArray 36 (0,0))) A)):=by rw[hy2];exact hA.setCell 7 (.int .i64 0)
   have hE:=hB2;obtain⟨cs,hcs⟩:=aC (y2.cells.toArray);have hld:=iq hE;have hst:=cZ hE.p1.aO rfl y2;have hF:=hE.p1.setRow y2.cells.toArray;obtain⟨we,hwe⟩:=aC ((wc.setCell ⟨B,7,none⟩ (.int .i64 0)).setRow (B+1) y2.cells.toArray);rw[←hwe] at hst hF;have hrd:=iw hF;rw[←hcs] at hld hst hrd;have HF:=ah hF.drop.drop;have pU:Hid (cs=bz.cells.toArray):=ah (by
    rw[hcs,GU.out];congr 2;rw[hy2,HZ1.out,qO.out.2];have hk:=qO.out.1;obtain⟨a1,a2,a3,a4,a5,a6,a7,a8,a9,a10,a11,a12,GV,F5,IZ,a16,a17,I4,I5⟩:=z;simp only at hk;subst hk;simp[iO,bT, *])
   clear hE hF hcs hwe hA H1 hB2 hy2;go_wp2;exact bodyPost_ret (v:=.agg cs) (by simp[results,Tryz.results65,go_sem,↓aV,hrd]) rfl ⟨by rw[pU.out],HF.out⟩
  by_cases e8:zk=8
  ·subst e8
   as_aux_lemma=>
   have hA:=H1.out;obtain⟨y2,hy2⟩:∃y:Ac,y={ z1 with u:=0 }:=⟨_,rfl⟩
   obtain⟨c2,f2⟩:=ay hA 7 _ rfl;have hB2:Sat W (wc.setCell ⟨B,7,none⟩ (.int .i64 0)) (sep (blk B (.cells y2.cells.toArray 36 (0,0))) (sep (blk (B+1) (.cells Ac.zero.cells.toArray 36 (0,0))) A)):=by rw[hy2];exact hA.setCell 7 (.int .i64 0)
   obtain⟨y3,hy3⟩:∃y:Ac,y={ y2 with m:=0 }:=⟨_,rfl⟩
   obtain⟨c3,f3⟩:=ay hB2 8 _ rfl;have hB3:Sat W ((wc.setCell ⟨B,7,none⟩ (.int .i64 0)).setCell ⟨B,8,none⟩ (.int .i64 0)) (sep (blk B (.cells y3.cells.toArray 36 (0,0))) (sep (blk (B+1) (.cells Ac.zero.cells.toArray 36 (0,0))) A)):=by rw[hy3];exact hB2.setCell 8 (.int .i64 0)
   have hE:=hB3;obtain⟨cs,hcs⟩:=aC (y3.cells.toArray);have hld:=iq hE;have hst:=cZ hE.p1.aO rfl y3;have hF:=hE.p1.setRow y3.cells.toArray;obtain⟨we,hwe⟩:=aC (((wc.setCell ⟨B,7,none⟩ (.int .i64 0)).setCell ⟨B,8,none⟩ (.int .i64 0)).setRow (B+1) y3.cells.toArray);rw[←hwe] at hst hF;have hrd:=iw hF;rw[←hcs] at hld hst hrd;have HF:=ah hF.drop.drop;have pU:Hid (cs=bz.cells.toArray):=ah (by
    rw[hcs,GU.out];congr 2;rw[hy3,hy2,HZ1.out,qO.out.2];have hk:=qO.out.1;obtain⟨a1,a2,a3,a4,a5,a6,a7,a8,a9,a10,a11,a12,GV,F5,IZ,a16,a17,I4,I5⟩:=z;simp only at hk;subst hk;simp[iO,bT, *])
   clear hE hF hcs hwe hA H1 hB2 hB3 hy2 hy3;go_wp2;exact bodyPost_ret (v:=.agg cs) (by simp[results,Tryz.results65,go_sem,↓aV,hrd]) rfl ⟨by rw[pU.out],HF.out⟩
  by_cases e12:zk=12
  ·subst e12
   as_aux_lemma=>
   have hA:=H1.out;obtain⟨y2,hy2⟩:∃y:Ac,y={ z1 with p:=0 }:=⟨_,rfl⟩
   obtain⟨c2,f2⟩:=ay hA 5 _ rfl;have hB2:Sat W (wc.setCell ⟨B,5,none⟩ (.int .i64 0)) (sep (blk B (.cells y2.cells.toArray 36 (0,0))) (sep (blk (B+1) (.cells Ac.zero.cells.toArray 36 (0,0))) A)):=by rw[hy2];exact hA.setCell 5 (.int .i64 0)
   have hE:=hB2;obtain⟨cs,hcs⟩:=aC (y2.cells.toArray);have hld:=iq hE;have hst:=cZ hE.p1.aO rfl y2;have hF:=hE.p1.setRow y2.cells.toArray;obtain⟨we,hwe⟩:=aC ((wc.setCell ⟨B,5,none⟩ (.int .i64 0)).setRow (B+1) y2.cells.toArray);rw[←hwe] at hst hF;have hrd:=iw hF;rw[←hcs] at hld hst hrd;have HF:=ah hF.drop.drop;have pU:Hid (cs=bz.cells.toArray):=ah (by
    rw[hcs,GU.out];congr 2;rw[hy2,HZ1.out,qO.out.2];have hk:=qO.out.1;obtain⟨a1,a2,a3,a4,a5,a6,a7,a8,a9,a10,a11,a12,GV,F5,IZ,a16,a17,I4,I5⟩:=z;simp only at hk;subst hk;simp[iO,bT, *])
   clear hE hF hcs hwe hA H1 hB2 hy2;go_wp2;exact bodyPost_ret (v:=.agg cs) (by simp[results,Tryz.results65,go_sem,↓aV,hrd]) rfl ⟨by rw[pU.out],HF.out⟩
  by_cases e14:zk=14
  ·subst e14
   as_aux_lemma=>
   have hA:=H1.out;obtain⟨y2,hy2⟩:∃y:Ac,y={ z1 with p:=0 }:=⟨_,rfl⟩
   obtain⟨c2,f2⟩:=ay hA 5 _ rfl;have hB2:Sat W (wc.setCell ⟨B,5,none⟩ (.int .i64 0)) (sep (blk B (.cells y2.cells.toArray 36 (0,0))) (sep (blk (B+1) (.cells Ac.zero.cells.toArray 36 (0,0))) A)):=by rw[hy2];exact hA.setCell 5 (.int .i64 0)
   have hE:=hB2;obtain⟨cs,hcs⟩:=aC (y2.cells.toArray);have hld:=iq hE;have hst:=cZ hE.p1.aO rfl y2;have hF:=hE.p1.setRow y2.cells.toArray;obtain⟨we,hwe⟩:=aC ((wc.setCell ⟨B,5,none⟩ (.int .i64 0)).setRow (B+1) y2.cells.toArray);rw[←hwe] at hst hF;have hrd:=iw hF;rw[←hcs] at hld hst hrd;have HF:=ah hF.drop.drop;have pU:Hid (cs=bz.cells.toArray):=ah (by
    rw[hcs,GU.out];congr 2;rw[hy2,HZ1.out,qO.out.2];have hk:=qO.out.1;obtain⟨a1,a2,a3,a4,a5,a6,a7,a8,a9,a10,a11,a12,GV,F5,IZ,a16,a17,I4,I5⟩:=z;simp only at hk;subst hk;simp[iO,bT, *])
   clear hE hF hcs hwe hA H1 hB2 hy2;go_wp2;exact bodyPost_ret (v:=.agg cs) (by simp[results,Tryz.results65,go_sem,↓aV,hrd]) rfl ⟨by rw[pU.out],HF.out⟩
  by_cases e13:zk=13
  ·subst e13
   obtain⟨zu,hzu⟩:=aC (z.u);by_cases u2:zu=2
   ·as_aux_lemma=>
    have hA:=H1.out;obtain⟨y2,hy2⟩:∃y:Ac,y={ z1 with q:=0 }:=⟨_,rfl⟩
    obtain⟨c2,f2⟩:=ay hA 6 _ rfl;have hB2:Sat W (wc.setCell ⟨B,6,none⟩ (.int .i64 0)) (sep (blk B (.cells y2.cells.toArray 36 (0,0))) (sep (blk (B+1) (.cells Ac.zero.cells.toArray 36 (0,0))) A)):=by rw[hy2];exact hA.setCell 6 (.int .i64 0)
    have cu:(wc.setCell ⟨B,6,none⟩ (.int .i64 0)).cell? ⟨B,7,none⟩=some (.int .i64 zu):=by rw[hzu];have h9:=(ay hB2 7 _ rfl).1;rw[hy2,HZ1.out] at h9;exact h9
    obtain⟨y3,hy3⟩:∃y:Ac,y={ y2 with cl:=ak }:=⟨_,rfl⟩
    obtain⟨c3,f3⟩:=ay hB2 13 _ rfl;have hB3:Sat W ((wc.setCell ⟨B,6,none⟩ (.int .i64 0)).setCell ⟨B,13,none⟩ (.slice none 0 0)) (sep (blk B (.cells y3.cells.toArray 36 (0,0))) (sep (blk (B+1) (.cells Ac.zero.cells.toArray 36 (0,0))) A)):=by rw[hy3];exact hB2.setCell 13 (.slice none 0 0)
    obtain⟨y4,hy4⟩:∃y:Ac,y={ y3 with u:=0 }:=⟨_,rfl⟩
    obtain⟨c4,f4⟩:=ay hB3 7 _ rfl;have hB4:Sat W (((wc.setCell ⟨B,6,none⟩ (.int .i64 0)).setCell ⟨B,13,none⟩ (.slice none 0 0)).setCell ⟨B,7,none⟩ (.int .i64 0)) (sep (blk B (.cells y4.cells.toArray 36 (0,0))) (sep (blk (B+1) (.cells Ac.zero.cells.toArray 36 (0,0))) A)):=by rw[hy4];exact hB3.setCell 7 (.int .i64 0)
    have hE:=hB4;obtain⟨cs,hcs⟩:=aC (y4.cells.toArray);have hld:=iq hE;have hst:=cZ hE.p1.aO rfl y4;have hF:=hE.p1.setRow y4.cells.toArray;obtain⟨we,hwe⟩:=aC ((((wc.setCell ⟨B,6,none⟩ (.int .i64 0)).setCell ⟨B,13,none⟩ (.slice none 0 0)).setCell ⟨B,7,none⟩ (.int .i64 0)).setRow (B+1) y4.cells.toArray);rw[←hwe] at hst hF;have hrd:=iw hF;rw[←hcs] at hld hst hrd;have HF:=ah hF.drop.drop;have pU:Hid (cs=bz.cells.toArray):=ah (by
     rw[hcs,GU.out];congr 2;rw[hy4,hy3,hy2,HZ1.out,qO.out.2];have hk:=qO.out.1;obtain⟨a1,a2,a3,a4,a5,a6,a7,a8,a9,a10,a11,a12,GV,F5,IZ,a16,a17,I4,I5⟩:=z;simp only at hk hzu;subst hk hzu;simp[iO,bT, *])
    clear hE hF hcs hwe hA H1 hB2 hB3 hB4 hy2 hy3 hy4;go_wp2;exact bodyPost_ret (v:=.agg cs) (by simp[results,Tryz.results65,go_sem,↓aV,hrd]) rfl ⟨by rw[pU.out],HF.out⟩
   ·as_aux_lemma=>
    have hA:=H1.out;obtain⟨y2,hy2⟩:∃y:Ac,y={ z1 with q:=0 }:=⟨_,rfl⟩
    obtain⟨c2,f2⟩:=ay hA 6 _ rfl;have hB2:Sat W (wc.setCell ⟨B,6,none⟩ (.int .i64 0)) (sep (blk B (.cells y2.cells.toArray 36 (0,0))) (sep (blk (B+1) (.cells Ac.zero.cells.toArray 36 (0,0))) A)):=by rw[hy2];exact hA.setCell 6 (.int .i64 0)
    have cu:(wc.setCell ⟨B,6,none⟩ (.int .i64 0)).cell? ⟨B,7,none⟩=some (.int .i64 zu):=by rw[hzu];have h9:=(ay hB2 7 _ rfl).1;rw[hy2,HZ1.out] at h9;exact h9
    obtain⟨y3,hy3⟩:∃y:Ac,y={ y2 with u:=0 }:=⟨_,rfl⟩
    obtain⟨c3,f3⟩:=ay hB2 7 _ rfl;have hB3:Sat W ((wc.setCell ⟨B,6,none⟩ (.int .i64 0)).setCell ⟨B,7,none⟩ (.int .i64 0)) (sep (blk B (.cells y3.cells.toArray 36 (0,0))) (sep (blk (B+1) (.cells Ac.zero.cells.toArray 36 (0,0))) A)):=by rw[hy3];exact hB2.setCell 7 (.int .i64 0)
    have hE:=hB3;obtain⟨cs,hcs⟩:=aC (y3.cells.toArray);have hld:=iq hE;have hst:=cZ hE.p1.aO rfl y3;have hF:=hE.p1.setRow y3.cells.toArray;obtain⟨we,hwe⟩:=aC (((wc.setCell ⟨B,6,none⟩ (.int .i64 0)).setCell ⟨B,7,none⟩ (.int .i64 0)).setRow (B+1) y3.cells.toArray);rw[←hwe] at hst hF;have hrd:=iw hF;rw[←hcs] at hld hst hrd;have HF:=ah hF.drop.drop;have pU:Hid (cs=bz.cells.toArray):=ah (by
     rw[hcs,GU.out];congr 2;rw[hy3,hy2,HZ1.out,qO.out.2];have hk:=qO.out.1;obtain⟨a1,a2,a3,a4,a5,a6,a7,a8,a9,a10,a11,a12,GV,F5,IZ,a16,a17,I4,I5⟩:=z;simp only at hk hzu;subst hk hzu;simp[iO,bT, *])
    clear hE hF hcs hwe hA H1 hB2 hB3 hy2 hy3;go_wp2;exact bodyPost_ret (v:=.agg cs) (by simp[results,Tryz.results65,go_sem,↓aV,hrd]) rfl ⟨by rw[pU.out],HF.out⟩
  by_cases e16:zk=16
  ·subst e16
   as_aux_lemma=>
   have hA:=H1.out;obtain⟨y2,hy2⟩:∃y:Ac,y={ z1 with p:=0 }:=⟨_,rfl⟩
   obtain⟨c2,f2⟩:=ay hA 5 _ rfl;have hB2:Sat W (wc.setCell ⟨B,5,none⟩ (.int .i64 0)) (sep (blk B (.cells y2.cells.toArray 36 (0,0))) (sep (blk (B+1) (.cells Ac.zero.cells.toArray 36 (0,0))) A)):=by rw[hy2];exact hA.setCell 5 (.int .i64 0)
   obtain⟨y3,hy3⟩:∃y:Ac,y={ y2 with q:=0 }:=⟨_,rfl⟩
   obtain⟨c3,f3⟩:=ay hB2 6 _ rfl;have hB3:Sat W ((wc.setCell ⟨B,5,none⟩ (.int .i64 0)).setCell ⟨B,6,none⟩ (.int .i64 0)) (sep (blk B (.cells y3.cells.toArray 36 (0,0))) (sep (blk (B+1) (.cells Ac.zero.cells.toArray 36 (0,0))) A)):=by rw[hy3];exact hB2.setCell 6 (.int .i64 0)
   obtain⟨y4,hy4⟩:∃y:Ac,y={ y3 with sn:=0 }:=⟨_,rfl⟩
   obtain⟨c4,f4⟩:=ay hB3 9 _ rfl;have hB4:Sat W (((wc.setCell ⟨B,5,none⟩ (.int .i64 0)).setCell ⟨B,6,none⟩ (.int .i64 0)).setCell ⟨B,9,none⟩ (.int .i64 0)) (sep (blk B (.cells y4.cells.toArray 36 (0,0))) (sep (blk (B+1) (.cells Ac.zero.cells.toArray 36 (0,0))) A)):=by rw[hy4];exact hB3.setCell 9 (.int .i64 0)
   obtain⟨y5,P9⟩:∃y:Ac,y={ y4 with sd:=0 }:=⟨_,rfl⟩
   obtain⟨c5,f5⟩:=ay hB4 10 _ rfl;have UY:Sat W ((((wc.setCell ⟨B,5,none⟩ (.int .i64 0)).setCell ⟨B,6,none⟩ (.int .i64 0)).setCell ⟨B,9,none⟩ (.int .i64 0)).setCell ⟨B,10,none⟩ (.int .i64 0)) (sep (blk B (.cells y5.cells.toArray 36 (0,0))) (sep (blk (B+1) (.cells Ac.zero.cells.toArray 36 (0,0))) A)):=by rw[P9];exact hB4.setCell 10 (.int .i64 0)
   have hE:=UY;obtain⟨cs,hcs⟩:=aC (y5.cells.toArray);have hld:=iq hE;have hst:=cZ hE.p1.aO rfl y5;have hF:=hE.p1.setRow y5.cells.toArray;obtain⟨we,hwe⟩:=aC (((((wc.setCell ⟨B,5,none⟩ (.int .i64 0)).setCell ⟨B,6,none⟩ (.int .i64 0)).setCell ⟨B,9,none⟩ (.int .i64 0)).setCell ⟨B,10,none⟩ (.int .i64 0)).setRow (B+1) y5.cells.toArray);rw[←hwe] at hst hF;have hrd:=iw hF;rw[←hcs] at hld hst hrd;have HF:=ah hF.drop.drop;have pU:Hid (cs=bz.cells.toArray):=ah (by
    rw[hcs,GU.out];congr 2;rw[P9,hy4,hy3,hy2,HZ1.out,qO.out.2];have hk:=qO.out.1;obtain⟨a1,a2,a3,a4,a5,a6,a7,a8,a9,a10,a11,a12,GV,F5,IZ,a16,a17,I4,I5⟩:=z;simp only at hk;subst hk;simp[iO,bT, *])
   clear hE hF hcs hwe hA H1 hB2 hB3 hB4 UY hy2 hy3 hy4 P9;go_wp2;exact bodyPost_ret (v:=.agg cs) (by simp[results,Tryz.results65,go_sem,↓aV,hrd]) rfl ⟨by rw[pU.out],HF.out⟩
  by_cases e17:zk=17
  ·subst e17
   as_aux_lemma=>
   have hA:=H1.out;obtain⟨y2,hy2⟩:∃y:Ac,y={ z1 with p:=0 }:=⟨_,rfl⟩
   obtain⟨c2,f2⟩:=ay hA 5 _ rfl;have hB2:Sat W (wc.setCell ⟨B,5,none⟩ (.int .i64 0)) (sep (blk B (.cells y2.cells.toArray 36 (0,0))) (sep (blk (B+1) (.cells Ac.zero.cells.toArray 36 (0,0))) A)):=by rw[hy2];exact hA.setCell 5 (.int .i64 0)
   obtain⟨y3,hy3⟩:∃y:Ac,y={ y2 with q:=0 }:=⟨_,rfl⟩
   obtain⟨c3,f3⟩:=ay hB2 6 _ rfl;have hB3:Sat W ((wc.setCell ⟨B,5,none⟩ (.int .i64 0)).setCell ⟨B,6,none⟩ (.int .i64 0)) (sep (blk B (.cells y3.cells.toArray 36 (0,0))) (sep (blk (B+1) (.cells Ac.zero.cells.toArray 36 (0,0))) A)):=by rw[hy3];exact hB2.setCell 6 (.int .i64 0)
   obtain⟨y4,hy4⟩:∃y:Ac,y={ y3 with u:=0 }:=⟨_,rfl⟩
   obtain⟨c4,f4⟩:=ay hB3 7 _ rfl;have hB4:Sat W (((wc.setCell ⟨B,5,none⟩ (.int .i64 0)).setCell ⟨B,6,none⟩ (.int .i64 0)).setCell ⟨B,7,none⟩ (.int .i64 0)) (sep (blk B (.cells y4.cells.toArray 36 (0,0))) (sep (blk (B+1) (.cells Ac.zero.cells.toArray 36 (0,0))) A)):=by rw[hy4];exact hB3.setCell 7 (.int .i64 0)
   have hE:=hB4;obtain⟨cs,hcs⟩:=aC (y4.cells.toArray);have hld:=iq hE;have hst:=cZ hE.p1.aO rfl y4;have hF:=hE.p1.setRow y4.cells.toArray;obtain⟨we,hwe⟩:=aC ((((wc.setCell ⟨B,5,none⟩ (.int .i64 0)).setCell ⟨B,6,none⟩ (.int .i64 0)).setCell ⟨B,7,none⟩ (.int .i64 0)).setRow (B+1) y4.cells.toArray);rw[←hwe] at hst hF;have hrd:=iw hF;rw[←hcs] at hld hst hrd;have HF:=ah hF.drop.drop;have pU:Hid (cs=bz.cells.toArray):=ah (by
    rw[hcs,GU.out];congr 2;rw[hy4,hy3,hy2,HZ1.out,qO.out.2];have hk:=qO.out.1;obtain⟨a1,a2,a3,a4,a5,a6,a7,a8,a9,a10,a11,a12,GV,F5,IZ,a16,a17,I4,I5⟩:=z;simp only at hk;subst hk;simp[iO,bT, *])
   clear hE hF hcs hwe hA H1 hB2 hB3 hB4 hy2 hy3 hy4;go_wp2;exact bodyPost_ret (v:=.agg cs) (by simp[results,Tryz.results65,go_sem,↓aV,hrd]) rfl ⟨by rw[pU.out],HF.out⟩
  by_cases e19:zk=19
  ·subst e19
   as_aux_lemma=>
   have hA:=H1.out;obtain⟨y2,hy2⟩:∃y:Ac,y={ z1 with fo:=0 }:=⟨_,rfl⟩
   obtain⟨c2,f2⟩:=ay hA 15 _ rfl;have hB2:Sat W (wc.setCell ⟨B,15,none⟩ (.int .i64 0)) (sep (blk B (.cells y2.cells.toArray 36 (0,0))) (sep (blk (B+1) (.cells Ac.zero.cells.toArray 36 (0,0))) A)):=by rw[hy2];exact hA.setCell 15 (.int .i64 0)
   obtain⟨y3,hy3⟩:∃y:Ac,y={ y2 with fn:=0 }:=⟨_,rfl⟩
   obtain⟨c3,f3⟩:=ay hB2 16 _ rfl;have hB3:Sat W ((wc.setCell ⟨B,15,none⟩ (.int .i64 0)).setCell ⟨B,16,none⟩ (.int .i64 0)) (sep (blk B (.cells y3.cells.toArray 36 (0,0))) (sep (blk (B+1) (.cells Ac.zero.cells.toArray 36 (0,0))) A)):=by rw[hy3];exact hB2.setCell 16 (.int .i64 0)
   obtain⟨y4,hy4⟩:∃y:Ac,y={ y3 with fi:=ak }:=⟨_,rfl⟩
   obtain⟨c4,f4⟩:=ay hB3 17 _ rfl;have hB4:Sat W (((wc.setCell ⟨B,15,none⟩ (.int .i64 0)).setCell ⟨B,16,none⟩ (.int .i64 0)).setCell ⟨B,17,none⟩ (.slice none 0 0)) (sep (blk B (.cells y4.cells.toArray 36 (0,0))) (sep (blk (B+1) (.cells Ac.zero.cells.toArray 36 (0,0))) A)):=by rw[hy4];exact hB3.setCell 17 (.slice none 0 0)
   obtain⟨y5,P9⟩:∃y:Ac,y={ y4 with fk:=ak }:=⟨_,rfl⟩
   obtain⟨c5,f5⟩:=ay hB4 18 _ rfl;have UY:Sat W ((((wc.setCell ⟨B,15,none⟩ (.int .i64 0)).setCell ⟨B,16,none⟩ (.int .i64 0)).setCell ⟨B,17,none⟩ (.slice none 0 0)).setCell ⟨B,18,none⟩ (.slice none 0 0)) (sep (blk B (.cells y5.cells.toArray 36 (0,0))) (sep (blk (B+1) (.cells Ac.zero.cells.toArray 36 (0,0))) A)):=by rw[P9];exact hB4.setCell 18 (.slice none 0 0)
   have hE:=UY;obtain⟨cs,hcs⟩:=aC (y5.cells.toArray);have hld:=iq hE;have hst:=cZ hE.p1.aO rfl y5;have hF:=hE.p1.setRow y5.cells.toArray;obtain⟨we,hwe⟩:=aC (((((wc.setCell ⟨B,15,none⟩ (.int .i64 0)).setCell ⟨B,16,none⟩ (.int .i64 0)).setCell ⟨B,17,none⟩ (.slice none 0 0)).setCell ⟨B,18,none⟩ (.slice none 0 0)).setRow (B+1) y5.cells.toArray);rw[←hwe] at hst hF;have hrd:=iw hF;rw[←hcs] at hld hst hrd;have HF:=ah hF.drop.drop;have pU:Hid (cs=bz.cells.toArray):=ah (by
    rw[hcs,GU.out];congr 2;rw[P9,hy4,hy3,hy2,HZ1.out,qO.out.2];have hk:=qO.out.1;obtain⟨a1,a2,a3,a4,a5,a6,a7,a8,a9,a10,a11,a12,GV,F5,IZ,a16,a17,I4,I5⟩:=z;simp only at hk;subst hk;simp[iO,bT, *])
   clear hE hF hcs hwe hA H1 hB2 hB3 hB4 UY hy2 hy3 hy4 P9;go_wp2;exact bodyPost_ret (v:=.agg cs) (by simp[results,Tryz.results65,go_sem,↓aV,hrd]) rfl ⟨by rw[pU.out],HF.out⟩
  by_cases e20:zk=20
  ·subst e20
   as_aux_lemma=>
   have hA:=H1.out;obtain⟨y2,hy2⟩:∃y:Ac,y={ z1 with o:=0 }:=⟨_,rfl⟩
   obtain⟨c2,f2⟩:=ay hA 4 _ rfl;have hB2:Sat W (wc.setCell ⟨B,4,none⟩ (.int .i64 0)) (sep (blk B (.cells y2.cells.toArray 36 (0,0))) (sep (blk (B+1) (.cells Ac.zero.cells.toArray 36 (0,0))) A)):=by rw[hy2];exact hA.setCell 4 (.int .i64 0)
   obtain⟨y3,hy3⟩:∃y:Ac,y={ y2 with u:=0 }:=⟨_,rfl⟩
   obtain⟨c3,f3⟩:=ay hB2 7 _ rfl;have hB3:Sat W ((wc.setCell ⟨B,4,none⟩ (.int .i64 0)).setCell ⟨B,7,none⟩ (.int .i64 0)) (sep (blk B (.cells y3.cells.toArray 36 (0,0))) (sep (blk (B+1) (.cells Ac.zero.cells.toArray 36 (0,0))) A)):=by rw[hy3];exact hB2.setCell 7 (.int .i64 0)
   have hE:=hB3;obtain⟨cs,hcs⟩:=aC (y3.cells.toArray);have hld:=iq hE;have hst:=cZ hE.p1.aO rfl y3;have hF:=hE.p1.setRow y3.cells.toArray;obtain⟨we,hwe⟩:=aC (((wc.setCell ⟨B,4,none⟩ (.int .i64 0)).setCell ⟨B,7,none⟩ (.int .i64 0)).setRow (B+1) y3.cells.toArray);rw[←hwe] at hst hF;have hrd:=iw hF;rw[←hcs] at hld hst hrd;have HF:=ah hF.drop.drop;have pU:Hid (cs=bz.cells.toArray):=ah (by
    rw[hcs,GU.out];congr 2;rw[hy3,hy2,HZ1.out,qO.out.2];have hk:=qO.out.1;obtain⟨a1,a2,a3,a4,a5,a6,a7,a8,a9,a10,a11,a12,GV,F5,IZ,a16,a17,I4,I5⟩:=z;simp only at hk;subst hk;simp[iO,bT, *])
   clear hE hF hcs hwe hA H1 hB2 hB3 hy2 hy3;go_wp2;exact bodyPost_ret (v:=.agg cs) (by simp[results,Tryz.results65,go_sem,↓aV,hrd]) rfl ⟨by rw[pU.out],HF.out⟩
  by_cases e21:zk=21
  ·subst e21
   as_aux_lemma=>
   have hA:=H1.out;obtain⟨y2,hy2⟩:∃y:Ac,y={ z1 with o:=0 }:=⟨_,rfl⟩
   obtain⟨c2,f2⟩:=ay hA 4 _ rfl;have hB2:Sat W (wc.setCell ⟨B,4,none⟩ (.int .i64 0)) (sep (blk B (.cells y2.cells.toArray 36 (0,0))) (sep (blk (B+1) (.cells Ac.zero.cells.toArray 36 (0,0))) A)):=by rw[hy2];exact hA.setCell 4 (.int .i64 0)
   obtain⟨y3,hy3⟩:∃y:Ac,y={ y2 with u:=0 }:=⟨_,rfl⟩
   obtain⟨c3,f3⟩:=ay hB2 7 _ rfl;have hB3:Sat W ((wc.setCell ⟨B,4,none⟩ (.int .i64 0)).setCell ⟨B,7,none⟩ (.int .i64 0)) (sep (blk B (.cells y3.cells.toArray 36 (0,0))) (sep (blk (B+1) (.cells Ac.zero.cells.toArray 36 (0,0))) A)):=by rw[hy3];exact hB2.setCell 7 (.int .i64 0)
   obtain⟨y4,hy4⟩:∃y:Ac,y={ y3 with m:=0 }:=⟨_,rfl⟩
   obtain⟨c4,f4⟩:=ay hB3 8 _ rfl;have hB4:Sat W (((wc.setCell ⟨B,4,none⟩ (.int .i64 0)).setCell ⟨B,7,none⟩ (.int .i64 0)).setCell ⟨B,8,none⟩ (.int .i64 0)) (sep (blk B (.cells y4.cells.toArray 36 (0,0))) (sep (blk (B+1) (.cells Ac.zero.cells.toArray 36 (0,0))) A)):=by rw[hy4];exact hB3.setCell 8 (.int .i64 0)
   have hE:=hB4;obtain⟨cs,hcs⟩:=aC (y4.cells.toArray);have hld:=iq hE;have hst:=cZ hE.p1.aO rfl y4;have hF:=hE.p1.setRow y4.cells.toArray;obtain⟨we,hwe⟩:=aC ((((wc.setCell ⟨B,4,none⟩ (.int .i64 0)).setCell ⟨B,7,none⟩ (.int .i64 0)).setCell ⟨B,8,none⟩ (.int .i64 0)).setRow (B+1) y4.cells.toArray);rw[←hwe] at hst hF;have hrd:=iw hF;rw[←hcs] at hld hst hrd;have HF:=ah hF.drop.drop;have pU:Hid (cs=bz.cells.toArray):=ah (by
    rw[hcs,GU.out];congr 2;rw[hy4,hy3,hy2,HZ1.out,qO.out.2];have hk:=qO.out.1;obtain⟨a1,a2,a3,a4,a5,a6,a7,a8,a9,a10,a11,a12,GV,F5,IZ,a16,a17,I4,I5⟩:=z;simp only at hk;subst hk;simp[iO,bT, *])
   clear hE hF hcs hwe hA H1 hB2 hB3 hB4 hy2 hy3 hy4;go_wp2;exact bodyPost_ret (v:=.agg cs) (by simp[results,Tryz.results65,go_sem,↓aV,hrd]) rfl ⟨by rw[pU.out],HF.out⟩
  as_aux_lemma=>
  have hA:=H1.out;have hE:=hA;obtain⟨cs,hcs⟩:=aC (z1.cells.toArray);have hld:=iq hE;have hst:=cZ hE.p1.aO rfl z1;have hF:=hE.p1.setRow z1.cells.toArray;obtain⟨we,hwe⟩:=aC (wc.setRow (B+1) z1.cells.toArray);rw[←hwe] at hst hF;have hrd:=iw hF;rw[←hcs] at hld hst hrd;have HF:=ah hF.drop.drop;have pU:Hid (cs=bz.cells.toArray):=ah (by
   rw[hcs,GU.out];congr 2;rw[HZ1.out,qO.out.2];have hk:=qO.out.1;obtain⟨a1,a2,a3,a4,a5,a6,a7,a8,a9,a10,a11,a12,GV,F5,IZ,a16,a17,I4,I5⟩:=z;simp only at hk;subst hk;simp[iO,bT, *])
  clear hE hF hcs hwe hA H1;go_wp2;exact bodyPost_ret (v:=.agg cs) (by simp[results,Tryz.results65,go_sem,↓aV,hrd]) rfl ⟨by rw[pU.out],HF.out⟩
end Go.Proofs.YthfmaclnccdcbaaGreatDoor
