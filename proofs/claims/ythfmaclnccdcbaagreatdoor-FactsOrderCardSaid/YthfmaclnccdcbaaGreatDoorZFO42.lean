/- Part of a proof. -/
import Derived.Test.YthfmaclnccdcbaaGreatDoorZFO24
import Derived.Test.YthfmaclnccdcbaaGreatDoorZFO38
namespace PA
open Go Go.RowKit
def jO (now:Int) (z:Ac) (x:Pa):Int:=if bC x=true then (if z.n<now then 13 else 0) else 1
end PA
namespace Go.Proofs.YthfmaclnccdcbaaGreatDoor
open Go.RowKit PA
section
def xQ (zl:List Ac) (z:Ac) (x:Pa):List Ac:=if jO (kP zl) z x=0 then zl++[z] else zl
attribute [local go_sem ↓] aY bI aV ji
theorem TD (w:World):(Instr.build 136 #[]).run Tryz.prog w=.ok (.agg #[.slice none 0 0]) w:=by kernel_rfl
theorem Hq {W w:World} {A:aB} (h:Sat W w A):
 Calls Tryz.prog 50 #[] w fun e w'=>∃q,e=.returned (.pointer (some ⟨q,0,none⟩))∧Sat W w' (sep (dR q none 0 0 []) A):=by
 have H2:Hid (Sat W (w.alloc (.cells #[.slice none 0 0] 136)) (sep (dR w.heap.size none 0 0 []) A)):=ah (by
  unfold dR;rw[aj];exact (h.fV 36 19).alloc _)
 have hb:=TD w;clear h;go_enter Tryz.func50,Tryz.ntmps50;go_wp2;go_ret;exact⟨_,rfl,H2.out⟩
theorem xR {z:Ac} {x:Pa} {zl:List Ac} (h:jO (kP zl) z x=0):xQ zl z x=zl++[z]:=by unfold xQ;rw[if_pos h]
theorem Qd {z:Ac} {x:Pa} {zl:List Ac} (h:jO (kP zl) z x≠0):xQ zl z x=zl:=by unfold xQ;rw[if_neg h]
set_option maxRecDepth 100000 in
set_option maxHeartbeats 8000000 in
theorem qo {W w:World} {A:aB} {I:Mem} (hW:fZ W) (p:Nat) (a:Option Addr) (n c:Nat) (zl:List Ac) (z:Ac) (x:Pa) (hn:n=zl.length) (UW:n<4096) (hA:lT I z x) (hz:YL x) (h:Sat W w (sep (dR p a n c zl) (sep (kn I) A))):
 Calls Tryz.prog 51 #[.pointer (some ⟨p,0,none⟩),.agg z.cells.toArray] w fun e w'=>∃(a':Option Addr) (n' c':Nat) (J:Mem),e=.returned (.int .i64 (jO (kP zl) z x))∧n'=(xQ zl z x).length∧Mem.le I J∧Sat W w' (sep (dR p a' n' c' (xQ zl z x)) (sep (kn J) A)):=by
 have hB:=jI hn h;have h1:=h.alloc (.cells z.cells.toArray 36);obtain⟨B,PV⟩:=aC (w.heap.size);obtain⟨w1,hw1⟩:=aC (w.alloc (.cells z.cells.toArray 36));rw[←PV,←hw1] at h1;have hld:=gB (fun i v hv=>(ay h1 i v hv).1);have h2:Sat W w1 (sep (kn I) (sep (blk B (.cells z.cells.toArray 36 (0,0))) (sep (dR p a n c zl) A))):=dI h1;have hv:=yS hW z x hA hz h2;obtain⟨vx,WI⟩:=aC (bC x);obtain⟨ev,hev⟩:∃e:Int,e=if bC x=true then 0 else 1:=⟨_,rfl⟩
 rw[←hev] at hv;rw[←WI] at hev;obtain⟨lE,hlE⟩:=aC (jO (kP zl) z x);obtain⟨lL,hlL⟩:=aC (xQ zl z x);have HLR:Hid (lE=(if vx=true then (if z.n<kP zl then 13 else 0) else 1)∧lL=if lE=0 then zl++[z] else zl):=ah ⟨by rw[hlE,WI];rfl,by rw[hlL,hlE];rfl⟩;rw[←hlE,←hlL];have HV:=ah hv;have HE:=ah hev;have HB:=ah (aH PV hw1);have HR:=ah (aH hB hn);obtain⟨Po,dS⟩:∃P:Ending→World→Prop,P=fun e w'=>∃(a':Option Addr) (n' c':Nat) (J:Mem),e=.returned (.int .i64 lE)∧n'=lL.length∧Mem.le I J∧Sat W w' (sep (dR p a' n' c' lL) (sep (kn J) A)):=⟨_,rfl⟩
 rw[←dS];have bK:=ah dS;clear hB h h1 h2 hv WI hev hlE hlL PV hw1 hA hz dS hn;go_enter Tryz.func51,Tryz.ntmps51;go_upto_region 1 with fail;rw[←HB.out.1,←HB.out.2];go_wp2_with fail;refine HV.out.mono ?_;rintro e w2 ⟨J,rfl,hle,h3⟩;have h4:Sat W w2 (sep (blk B (.cells z.cells.toArray 36 (0,0))) (sep (dR p a n c zl) (sep (kn J) A))):=dI h3;have HJ:=ah hle;clear hle h3 hld HV;cases vx with
 | false=>
  obtain rfl:ev=1:=HE.out;have FQ:Hid (lE=1∧lL=zl):=ah (by
   have h1:lE=1:=HLR.out.1;exact⟨h1,by rw[HLR.out.2,h1];rfl⟩)
  have H4:=ah h4.drop;clear h4;go_wp2;rw[bK.out,FQ.out.1];exact⟨a,n,c,J,rfl,by rw[FQ.out.2];exact HR.out.2,HJ.out,by rw[FQ.out.2];exact H4.out⟩
 | true=>
  obtain rfl:ev=0:=HE.out;have SQ:Hid (lE=(if z.n<kP zl then 13 else 0)∧lL=if lE=0 then zl++[z] else zl):=ah HLR.out;clear HLR HE;have hd:=h4.drew;obtain⟨wd,hwd⟩:=aC (w2.drew);rw[←hwd] at hd;have k2:=(ay hd 2 _ rfl).1;have abC:=nU HR.out.1 hd.p1;obtain⟨nw,hnw⟩:=aC (kP zl);rw[←hnw] at abC SQ;have UN:=ah abC;have jY:=ah hwd;clear h4 hd hwd abC hnw;go_upto_region 4 with fail;go_cut [11] from 12 to 16 (fun bv wx=>bv=.bool (decide (z.n<nw))∧Sat W wx (sep (dR p a n c zl) (sep (blk B (.cells z.cells.toArray 36 (0,0))) (sep (kn J) A))))
  case first=>
   as_aux_lemma=>
   refine aG rfl (fun w'=>w'.cell? ⟨B,2,none⟩=some (.int .i64 z.n)) [(0,.p),(1,.s),(2,.p),(3,.e true),(4,.p),(5,.p)] (by kernel_rfl) ?_;rw[←jY.out];have hS0:wd.cell? ⟨B,2,none⟩=some (.int .i64 z.n):=k2;clear k2;refine bG ?_
   (refine jJ rfl rfl (fun K hK=>?_);go_simp)
   refine UN.out.mono ?_;rintro e w3 ⟨rfl,h5⟩;have H5:=ah h5;have k3:=(ay h5.p1 2 _ rfl).1;clear h5 UN hS0
   (refine hK _ _ (fun _=>k3) ?_;clear hK K;(try simp only[Act.put,lsA,lsB,lq]))
   refine bG ?_;refine dJ ?_;go_wp2;go_meet;case rel=>exact⟨rfl,H5.out⟩
  obtain⟨rfl,h5⟩:=hcut;clear k2 UN jY;by_cases hlt:z.n<nw
  ·have FQ:Hid (lE=13∧lL=zl):=ah (by
    have h1:lE=13:=by rw[SQ.out.1,if_pos hlt]
    exact⟨h1,by rw[SQ.out.2,h1];rfl⟩)
   have H5:=ah h5.p1.drop;have hb:decide (z.n<nw)=true:=decide_eq_true hlt;clear h5 hlt;rw[hb];go_wp2;rw[bK.out,FQ.out.1];exact⟨a,n,c,J,rfl,by rw[FQ.out.2];exact HR.out.2,HJ.out,by rw[FQ.out.2];exact H5.out⟩
  ·have FQ:Hid (lE=0∧lL=zl++[z]):=ah (by
    have h1:lE=0:=by rw[SQ.out.1,if_neg hlt]
    exact⟨h1,by rw[SQ.out.2,h1];rfl⟩)
   have hb:decide (z.n<nw)=false:=decide_eq_false hlt;have k0:=HR.out.1.bk wc _ h5;have ai0:(n:Int)<4096:=by omega
   have H5:=ah h5;clear hlt SQ h5;rw[hb];go_upto_region 6 with fail;go_upto_region 8 with fail;clear hb k0;have hd:=H5.out.drew;obtain⟨wd2,hwd2⟩:=aC (wc.drew);rw[←hwd2] at hd;have hl5:=gB (fun i v hv=>(ay hd.p1 i v hv).1);have kb:=HR.out.1.bk wd2 _ hd;have hbs:=Rl z wd2;have h6:=hd.alloc (.cells z.cells.toArray 36);obtain⟨M,hM⟩:=aC (wd2.heap.size);obtain⟨w7,hw7⟩:=aC (wd2.alloc (.cells z.cells.toArray 36));rw[←hM,←hw7] at hbs h6;have hsrc:∀b',some (⟨M,0,none⟩:Addr)=some b'→∀j u,z.cells[j]?=some u→w7.cell? (b'.add j)=some u:=by
    intro b' hb j u hu;cases hb;rw[show (⟨M,0,none⟩:Addr).add j=⟨M,j,none⟩ by unfold Addr.add;split<;>simp_all];exact (ay h6 j u hu).1
   have h7:Sat W w7 (sep (dR p a n c zl) (sep (blk M (.cells z.cells.toArray 36 (0,0))) (sep (blk B (.cells z.cells.toArray 36 (0,0))) (sep (kn J) A)))):=dI h6;have k7:=HR.out.1.bk w7 _ h7;unfold dR at h7;rw[aj] at h7;have H7:=ah h7.p1;have oD:=ah hsrc;have ae9:=ah hwd2;clear hd hM hw7 hsrc h6 h7 hwd2 H5;refine aG rfl (fun w'=>w'.cell? ⟨p,0,none⟩=some (.slice a n c)) [(0,.p),(1,.p),(2,.p),(3,.p),(4,.s),(5,.t),(6,.e true),(7,.e false),(8,.p),(9,.p),(10,.e false)] (by kernel_rfl) ?_;rw[←ae9.out];have hS0:wd2.cell? ⟨p,0,none⟩=some (.slice a n c):=kb;clear kb;refine bG ?_
   (refine jJ rfl rfl (fun K hK=>?_);go_simp)
   (refine hK _ _ (fun _=>k7) ?_;clear hK K;(try simp only[Act.put,lsA,lsB,lq]))
   refine jJ rfl rfl (fun K hK=>?_);refine jS (.tmp 28) (.tmp 30) 23 rfl 36 19 248 _ Tryz.underlying23 qw rfl rfl H7.out rfl z.cells rfl (by simp) oD.out z.one (by omega) (by unfold maxLen;omega) ?_;intro a8 c8 w8 h8;have h9:=h8.p1;have hf:=h9.aI 0;have hc0:w8.cell? ⟨p,0,none⟩=some (.slice a n c):=h9.cell 0;have h10:Sat W (w8.setCell ⟨p,0,none⟩ (.slice a8 (n+1) c8)) (sep (blk p (.cells #[.slice a8 (n+1) c8] 136 (0,0))) (sep (aT 36 19 a8 (n+1) c8 (bY zl++z.cells)) (sep (blk M (.cells z.cells.toArray 36 (0,0))) (sep (blk B (.cells z.cells.toArray 36 (0,0))) (sep (kn J) A))))):=h9.setCell 0 (.slice a8 (n+1) c8);have HF:Hid (Sat W (w8.setCell ⟨p,0,none⟩ (.slice a8 (n+1) c8)) (sep (dR p a8 (n+1) c8 (zl++[z])) (sep (kn J) A))):=ah (by
    unfold dR;rw[aj,iZ,show bY [z]=z.cells by simp[bY]];exact h10.p2.drop.p2.drop)
   clear h8 h9 h10 H7 oD hS0 hbs hl5 k7;refine dY ?_;clear hK K;refine bG ?_
   (refine jJ rfl rfl (fun K hK=>?_);go_simp)
   refine dY ?_;clear hK K;refine dJ ?_;clear hc0 hf;go_wp2;rw[bK.out,FQ.out.1];exact⟨a8,n+1,c8,J,rfl,by rw[FQ.out.2,dM,List.length_singleton,←HR.out.2],HJ.out,by rw[FQ.out.2];exact HF.out⟩
end
section
def sH (Ls:List (Ac×Pa)):Prop:=∀(i:Nat) (p:Ac×Pa),Ls[i]?=some p→jO (kP ((Ls.take i).map (·.1))) p.1 p.2=0
attribute [local go_sem ↓] aY bI aV
set_option maxRecDepth 100000 in
set_option maxHeartbeats 8000000 in
theorem MC {W w:World} {A:aB} {I:Mem} (hW:fZ W) (a:Option Addr) (n c N:Nat) (Ls:List (Ac×Pa)) (hn:n=Ls.length) (UW:n≤1000) (hc:dF a (bY (Ls.map (·.1))) I) (hs:Q8 I N Ls) (h:Sat W w (sep (kn I) A)):
 Calls Tryz.prog 38 #[.slice a n c] w fun e w'=>∃J,Mem.le I J∧((sH Ls∧∃(p:Nat) (a':Option Addr) (c':Nat),e=.returned (.pointer (some ⟨p,0,none⟩))∧Sat W w' (sep (dR p a' n c' (Ls.map (·.1))) (sep (kn J) A)))∨(¬sH Ls∧e=.returned (.pointer none)∧Sat W w' (sep (kn J) A))):=by
 have UN:=ah (Hq h);have HN:=ah (aH hn (aH hc (aH hs hW)));have hn63:(n:Int)≤1000:=by omega
 obtain⟨Po,dS⟩:∃P:Ending→World→Prop,P=fun e w'=>∃J,Mem.le I J∧((sH Ls∧∃(p:Nat) (a':Option Addr) (c':Nat),e=.returned (.pointer (some ⟨p,0,none⟩))∧Sat W w' (sep (dR p a' n c' (Ls.map (·.1))) (sep (kn J) A)))∨(¬sH Ls∧e=.returned (.pointer none)∧Sat W w' (sep (kn J) A))):=⟨_,rfl⟩
 rw[←dS];have bK:=ah dS;clear hn UW hc hs h dS hW;go_enter Tryz.func38,Tryz.ntmps38;go_wp2_with fail;refine UN.out.mono ?_;rintro e w1 ⟨q,rfl,h1⟩;have H1:=ah h1;clear h1 UN;go_wp2_with fail;go_loopw [4] (fun kv wr=>∃(i:Nat) (a':Option Addr) (c':Nat) (K:Mem),kv=.int .i64 i∧i≤n∧Hid (Mem.le I K∧∀(j:Nat) (p:Ac×Pa),j<i→Ls[j]?=some p→jO (kP ((Ls.take j).map (·.1))) p.1 p.2=0)∧Sat W wr (sep (dR q a' i c' ((Ls.take i).map (·.1))) (sep (kn K) A))) (fun kv _=>n-(intOf kv).toNat)
 case atStart=>exact⟨0,none,0,I,rfl,by omega,ah ⟨bW I,fun j p hj _=>absurd hj (Nat.not_lt_zero _)⟩,H1.out⟩
 case round=>
  obtain⟨i,a',c',K,rfl,hi,HK,hS⟩:=hrel;clear H1;by_cases hlt:i<n
  ·have hltz:(i:Int)<(n:Int):=by omega
   obtain⟨p,hp⟩:∃p,Ls[i]?=some p:=⟨_,iM (by have:=HN.out.1;omega)⟩
   obtain⟨hA,hsp⟩:=HN.out.2.2.1 _ (mZ hp);obtain⟨b0,o0,hab,hld⟩:=Q9 (i:=i) (z:=p.1) HN.out.2.1 (by rw[List.getElem?_map,hp];rfl);have k1:=hld wr (fun g o hg=>hS.p1.ext g o (HK.out.1 g o hg));have htl:i=((Ls.take i).map (·.1)).length:=by rw[List.length_map,List.length_take,←HN.out.1];omega
   have hln:=qo HN.out.2.2.2 q a' i c' ((Ls.take i).map (·.1)) p.1 p.2 htl (by omega) (hA.mono HK.out.1) hsp.szM hS;obtain⟨lE,hlE⟩:=aC (jO (kP ((Ls.take i).map (·.1))) p.1 p.2);rw[←hlE] at hln;have iL:Hid (lE=jO (kP ((Ls.take i).map (·.1))) p.1 p.2∧Ls[i]?=some p∧i<n∧i=((Ls.take i).map (·.1)).length):=ah ⟨hlE,hp,hlt,htl⟩;have HLN:=ah hln;subst hab;clear hp hA hsp hld hln hlE htl hlt hi hS;go_upto_region 7 with fail;go_wp2_with fail;refine HLN.out.mono ?_;rintro e w2 ⟨a2,n2,c2,J,rfl,hn2,hle,h2⟩;have H2:=ah (aH hn2 (aH hle h2));clear hn2 hle h2 k1 HLN;by_cases h0:lE=0
   ·subst h0
    have HG:Hid (Sat W w2 (sep (dR q a2 (i+1) c2 ((Ls.take (i+1)).map (·.1))) (sep (kn J) A))):=ah (by
     have h3:=H2.out.2.2;have e2:=H2.out.1;rw[xR iL.out.1.symm] at h3 e2;rw[dM,List.length_singleton,←iL.out.2.2.2] at e2;rw[e2] at h3;rw[List.take_add_one,iL.out.2.1,qy];exact h3)
    go_wp2;go_roundw;case rel=>
     refine⟨i+1,a2,c2,J,by go_num,by have:=iL.out.2.2.1;omega,ah ⟨eG HK.out.1 H2.out.2.1,fun j r hj hr=>?_⟩,HG.out⟩;rcases Nat.lt_succ_iff_lt_or_eq.1 hj with hj|rfl
     ·exact HK.out.2 j r hj hr
     ·rw[iL.out.2.1] at hr;cases hr;exact iL.out.1.symm
    case measure=>simp[intOf];have:=iL.out.2.2.1;omega
   ·have hb:(lE !=0)=true:=by simpa using h0
    have HNO:Hid (¬sH Ls):=ah fun hok=>h0 (iL.out.1.trans (hok i p iL.out.2.1))
    have HG:=ah H2.out.2.2.drop;have HLJ:=ah (eG HK.out.1 H2.out.2.1);clear h0 H2;go_wp2;rw[bK.out];exact⟨J,HLJ.out,.inr ⟨HNO.out,rfl,HG.out⟩⟩
  ·obtain rfl:i=n:=by omega
   have mQ:Hid (sH Ls):=ah fun j p hj=>HK.out.2 j p (by have:=(qM hj).1;have:=HN.out.1;omega) hj
   have HS:Hid (Sat W wr (sep (dR q a' i c' (Ls.map (·.1))) (sep (kn K) A))):=ah (by
    have e:Ls.take i=Ls:=by rw[HN.out.1,List.take_length]
    rw[e] at hS;exact hS)
   clear hS hlt hi;go_wp2;rw[bK.out];exact⟨K,HK.out.1,.inl ⟨mQ.out,q,a',c',rfl,HS.out⟩⟩
theorem Ul {I:Mem} {N:Nat} {Ls:List (Ac×Pa)} (hv:∀p∈Ls,bC p.2=true) (h0:∀p∈Ls,0≤p.1.n) (hup:Ls.Pairwise fun p q=>p.1.n≤q.1.n) (_hs:Q8 I N Ls):sH Ls:=by
 intro i p hp;obtain⟨hi,rfl⟩:=qM hp;unfold jO;rw[if_pos (hv _ (List.getElem_mem hi)),if_neg];unfold kP;rw[List.getLast?_eq_getElem?,List.getElem?_map];cases i with
 | zero=>
  have:=h0 _ (List.getElem_mem hi);simp;omega
 | succ k=>
  have e:((Ls.take (k+1)).map (·.1)).length-1=k:=by rw[List.length_map,List.length_take];omega
  rw[e,List.getElem?_take_of_lt (by omega),iM (by omega)];have:=List.pairwise_iff_getElem.1 hup k (k+1) (by omega) hi (by omega);simp only[Option.map_some];omega
end
end Go.Proofs.YthfmaclnccdcbaaGreatDoor
