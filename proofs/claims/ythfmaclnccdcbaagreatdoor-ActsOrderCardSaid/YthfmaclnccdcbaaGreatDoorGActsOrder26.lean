/- Part of a proof. -/
import Derived.Test.YthfmaclnccdcbaaGreatDoorGActsOrder25
namespace PA
open Go
def offB (k:Int):Bool:=!(k==5||k==19||k==20||k==21)
end PA
namespace Go.Proofs.YthfmaclnccdcbaaGreatDoor
open Go.RowKit PA
theorem KR (k:Nat) (hk:k<22) (w:World):Calls Tryz.prog 34 #[.int .i64 k] w fun e w'=>e=.returned (.bool (offB k))∧w=w':=by
 have hc:k=0∨k=1∨k=2∨k=3∨k=4∨k=5∨k=6∨k=7∨k=8∨k=9∨k=10∨k=11∨k=12∨k=13∨k=14∨k=15∨k=16∨k=17∨k=18∨k=19∨k=20∨k=21:=by omega
 rcases hc with rfl|rfl|rfl|rfl|rfl|rfl|rfl|rfl|rfl|rfl|rfl|rfl|rfl|rfl|rfl|rfl|rfl|rfl|rfl|rfl|rfl|rfl
 all_goals
  go_enter Tryz.func34,Tryz.ntmps34
  go_wp2
  go_ret
  exact⟨rfl,rfl⟩
theorem NY:(Tryz.prog.info? 26).map (fun i=>(i.zero,i.size,i.bytes))=some (some (.agg #[.int .i64 0,.int .i64 0]),2,16):=by kernel_rfl
def bsRa (n:Nat) (p:Array (Nat×Value)):Sem Value:=Instr.buildSlice 143 n p
theorem EO (n:Nat) (p:Array (Nat×Value)):Instr.buildSlice 143 n p=bsRa n p:=rfl
theorem bs_sh4 (w:World):(bsRa 4 #[(0,.agg #[.int .i64 1,.int .i64 1]),(1,.agg #[.int .i64 1,.int .i64 2]),(2,.agg #[.int .i64 1,.int .i64 3]),(3,.agg #[.int .i64 2,.int .i64 3])]).run Tryz.prog w=.ok (.slice (some ⟨w.heap.size,0,none⟩) 4 4) (w.alloc (.cells #[.int .i64 1,.int .i64 1,.int .i64 1,.int .i64 2,.int .i64 1,.int .i64 3,.int .i64 2,.int .i64 3] 26)):=by
 obtain⟨i,h1,h2,h3,h4⟩:=info_parts NY;exact run_buildSlice w 143 26 4 _ _ i _ Tryz.underlying143 h1 h2 (by rw[h3];omega) (by rw[h3];omega) (by rw[h3];kernel_rfl)
theorem xM:(Tryz.prog.info? 3).map (fun i=>(i.zero,i.size,i.bytes))=some (some (.int .i64 0),1,8):=by kernel_rfl
def JC (n:Nat) (p:Array (Nat×Value)):Sem Value:=Instr.buildSlice 22 n p
theorem sU (n:Nat) (p:Array (Nat×Value)):Instr.buildSlice 22 n p=JC n p:=rfl
theorem bsI9 (w:World):(JC 9 #[(0,.int .i64 0),(1,.int .i64 1),(2,.int .i64 2),(3,.int .i64 3),(4,.int .i64 4),(5,.int .i64 5),(6,.int .i64 9),(7,.int .i64 10),(8,.int .i64 11)]).run Tryz.prog w=.ok (.slice (some ⟨w.heap.size,0,none⟩) 9 9) (w.alloc (.cells #[.int .i64 0,.int .i64 1,.int .i64 2,.int .i64 3,.int .i64 4,.int .i64 5,.int .i64 9,.int .i64 10,.int .i64 11] 3)):=by
 obtain⟨i,h1,h2,h3,h4⟩:=info_parts xM;exact run_buildSlice w 22 3 9 _ _ i _ Tryz.underlying22 h1 h2 (by rw[h3];omega) (by rw[h3];omega) (by rw[h3];kernel_rfl)
theorem bsI6 (w:World):(JC 6 #[(0,.int .i64 100),(1,.int .i64 50),(2,.int .i64 200),(3,.int .i64 150),(4,.int .i64 30),(5,.int .i64 1000)]).run Tryz.prog w=.ok (.slice (some ⟨w.heap.size,0,none⟩) 6 6) (w.alloc (.cells #[.int .i64 100,.int .i64 50,.int .i64 200,.int .i64 150,.int .i64 30,.int .i64 1000] 3)):=by
 obtain⟨i,h1,h2,h3,h4⟩:=info_parts xM;exact run_buildSlice w 22 3 6 _ _ i _ Tryz.underlying22 h1 h2 (by rw[h3];omega) (by rw[h3];omega) (by rw[h3];kernel_rfl)
theorem bsI8 (w:World):(JC 8 #[(0,.int .i64 1),(1,.int .i64 2),(2,.int .i64 3),(3,.int .i64 6),(4,.int .i64 12),(5,.int .i64 18),(6,.int .i64 20),(7,.int .i64 50)]).run Tryz.prog w=.ok (.slice (some ⟨w.heap.size,0,none⟩) 8 8) (w.alloc (.cells #[.int .i64 1,.int .i64 2,.int .i64 3,.int .i64 6,.int .i64 12,.int .i64 18,.int .i64 20,.int .i64 50] 3)):=by
 obtain⟨i,h1,h2,h3,h4⟩:=info_parts xM;exact run_buildSlice w 22 3 8 _ _ i _ Tryz.underlying22 h1 h2 (by rw[h3];omega) (by rw[h3];omega) (by rw[h3];kernel_rfl)
attribute [local go_sem ↓] bW dB EO sU
attribute [local go_sem] Ep bs_sh4 bsI9 bsI6 bsI8
set_option maxRecDepth 100000 in
set_option maxHeartbeats 16000000 in
theorem UF {W w:World} {A:aC} {I:Mem} {B:Nat} {day:Int} {fa:Option Addr} {fc:Nat} {zs:List Ac} (va:Value) (l:List Int) (i k:Nat) (hi:i<800000) (hk1:1≤k) (hk:k≤21) (hv:Qq I va l) (hN:zs.length≤20) (hN1:1≤zs.length) (hf:∀z∈zs,rJ I zs.length z)
 (h:Sat W w (sep (bH B va i day (.slice fa zs.length fc)) (sep (aT 36 19 fa zs.length fc (dA zs)) (sep (kn I) A)))):
 Calls Tryz.prog 59 #[.pointer (some ⟨B,0,none⟩),.int .i64 k] w fun e w'=>∃(z:Ac) (y:Pa) (J:Mem) (i':Nat),e=.returned (.agg z.cells.toArray)∧kX J z y∧Other zs.length y∧y.k=k∧Mem.le I J∧i≤i'∧i'≤i+60∧Sat W w' (sep (bH B va i' day (.slice fa zs.length fc)) (sep (aT 36 19 fa zs.length fc (dA zs)) (sep (kn J) A))):=by
 obtain⟨N,hNN⟩:=aB (zs.length);rw[←hNN] at hN hN1 h hf ⊢;obtain⟨g,rfl⟩:∃g,fa=some ⟨g,0,none⟩:=by
  rcases h.p1.gJ with ⟨-,h0,-⟩|⟨g,cur,rfl,-⟩
  ·omega
  ·exact⟨g,rfl⟩
 obtain⟨R,hR⟩:=aB (w.heap.size);obtain⟨w1,hw1⟩:=aB (w.alloc (.cells #[.int .i64 0,.int .i64 0,.int .i64 0,.int .i64 0,.int .i64 0,.int .i64 0,.int .i64 0,.int .i64 0,.int .i64 0,.int .i64 0,.int .i64 0,.slice none 0 0,.slice none 0 0,.slice none 0 0,.slice none 0 0,.int .i64 0,.int .i64 0,.slice none 0 0,.slice none 0 0] 36));have h1:=h.alloc (.cells #[.int .i64 0,.int .i64 0,.int .i64 0,.int .i64 0,.int .i64 0,.int .i64 0,.int .i64 0,.int .i64 0,.int .i64 0,.int .i64 0,.int .i64 0,.slice none 0 0,.slice none 0 0,.slice none 0 0,.slice none 0 0,.int .i64 0,.int .i64 0,.slice none 0 0,.slice none 0 0] 36);rw[←hR,←hw1] at h1;obtain⟨fr,hfr⟩:=aB (sep (aT 36 19 (some ⟨g,0,none⟩) N fc (dA zs)) (sep (blk R (.cells #[.int .i64 0,.int .i64 0,.int .i64 0,.int .i64 0,.int .i64 0,.int .i64 0,.int .i64 0,.int .i64 0,.int .i64 0,.int .i64 0,.int .i64 0,.slice none 0 0,.slice none 0 0,.slice none 0 0,.slice none 0 0,.int .i64 0,.int .i64 0,.slice none 0 0,.slice none 0 0] 36 (0,0))) A));have h2:=h1.alloc (.cells (Ac.cells (⟨k,0,0,0,0,0,0,0,0,0,0,ak,ak,ak,ak,0,0,ak,ak⟩:Ac)).toArray 36);obtain⟨q,hq⟩:=aB (w1.heap.size);obtain⟨w2,hw2⟩:=aB (w1.alloc (.cells (Ac.cells (⟨k,0,0,0,0,0,0,0,0,0,0,ak,ak,ak,ak,0,0,ak,ak⟩:Ac)).toArray 36));rw[←hq,←hw2] at h2;have H2:Hid (Sat W w2 (sep (blk q (.cells (Ac.cells (⟨k,0,0,0,0,0,0,0,0,0,0,ak,ak,ak,ak,0,0,ak,ak⟩:Ac)).toArray 36 (0,0))) (sep (bH B va (i:Int) day (.slice (some ⟨g,0,none⟩) N fc)) (sep (kn I) fr)))):=ah (by
  rw[hfr];have h9:=h2;simpa only[aA,ay,aj] using h9)
 have hmk:w2.cell? ⟨B,3,none⟩=some (.slice (some ⟨g,0,none⟩) N fc):=(show Sat W w2 (sep (blk B (.cells #[va,.int .i64 (i:Int),.int .i64 day,.slice (some ⟨g,0,none⟩) N fc] 86 (0,0))) (sep (blk q (.cells (Ac.cells (⟨k,0,0,0,0,0,0,0,0,0,0,ak,ak,ak,ak,0,0,ak,ak⟩:Ac)).toArray 36 (0,0))) (sep (kn I) fr))) from H2.out.p1).cell 3;have XI:=ah (fun w=>KR k (by omega) w);have HR:=ah (And.intro hR (And.intro hw1 (And.intro hq hw2)));have Jb:=ah hfr;have HV:=ah hv;have U8:=ah hf;have Vw:=ah hNN;have hNz:(0:Int)<(N:Int):=by omega
 have HK:=ah (And.intro hk1 (And.intro hk (And.intro hN1 (And.intro hN hi))));obtain⟨ob,hob⟩:∃b,offB k=b:=⟨_,rfl⟩
 rw[hob] at XI;have AB:=ah hob;clear h h1 h2 hR hw1 hq hw2 hfr hv hf hNN hk1 hk hN1 hN hi hob
 go_enter Tryz.func59,Tryz.ntmps59
 go_upto_region 1 with (fail)
 rw[←HR.out.1,←HR.out.2.1]
 go_upto_region 2 with (fail)
 rw[←HR.out.2.2.1]
 change Code.wp _ _ _ _ (w1.alloc (.cells (Ac.cells (⟨k,0,0,0,0,0,0,0,0,0,0,ak,ak,ak,ak,0,0,ak,ak⟩:Ac)).toArray 36))
 rw[←HR.out.2.2.2]
 go_cut [17] from 6 to 16 (fun bv wx=>bv=.bool ob∧wx=w2)
 case first=>
  as_aux_lemma=>
   go_wp2_with fail
   refine (XI.out _).mono ?_;rintro e w3 ⟨rfl,rfl⟩;cases ob with
   | true=>
    go_wp2
    go_meet
    case rel=>exact⟨by
     have:0<N:=by omega
     simp[this],rfl⟩
   | false=>
    go_wp2
    go_meet
    case rel=>exact⟨rfl,rfl⟩
 obtain⟨rfl,hwc⟩:=hcut;rw[hwc];clear hwc
 go_upto_if 17 with (fail)
 go_cut [] from 18 (fun wx=>∃(f:Int) (pos:Nat),Hid ((ob=true→fC N f)∧(ob=false→f=0)∧i≤pos∧pos≤i+1∧Sat W wx (sep (blk q (.cells (Ac.cells (⟨k,0,0,f,0,0,0,0,0,0,0,ak,ak,ak,ak,0,0,ak,ak⟩:Ac)).toArray 36 (0,0))) (sep (bH B va (pos:Int) day (.slice (some ⟨g,0,none⟩) N fc)) (sep (kn I) fr)))))
 case first=>
  as_aux_lemma=>
   cases ob with
   | false=>
    go_wp2
    go_meet
    case rel=>exact⟨0,i,ah ⟨(fun h=>by cases h),(fun _=>rfl),Nat.le_refl _,by omega,H2.out⟩⟩
   | true=>
    have hd:=H2.out.drew;rw[Jb.out] at hd;have VK:Hid (Sat W w2.drew (sep (bH B va (i:Int) day (.slice (some ⟨g,0,none⟩) N fc)) (sep (kn I) (sep (aT 36 19 (some ⟨g,0,none⟩) N fc (dA zs)) (sep (blk q (.cells (Ac.cells (⟨k,0,0,0,0,0,0,0,0,0,0,ak,ak,ak,ak,0,0,ak,ak⟩:Ac)).toArray 36 (0,0))) (sep (blk R (.cells #[.int .i64 0,.int .i64 0,.int .i64 0,.int .i64 0,.int .i64 0,.int .i64 0,.int .i64 0,.int .i64 0,.int .i64 0,.int .i64 0,.int .i64 0,.slice none 0 0,.slice none 0 0,.slice none 0 0,.slice none 0 0,.int .i64 0,.int .i64 0,.slice none 0 0,.slice none 0 0] 36 (0,0))) A)))))):=ah (by
     have h9:=hd;simpa only[aA,ay,aj] using h9)
    have HN:=ah (aQ va l i N (by omega) (by have:=HK.out.2.2.2.1;omega) (by have:=HK.out.2.2.2.2;omega) HV.out VK.out);have hb6:=bD l i N (by omega);obtain⟨r0,hr0⟩:=aB (dD l i N);rw[←hr0] at hb6 HN;obtain⟨r,rfl⟩:∃z:Nat,r0=(z:Int):=⟨r0.toNat,by omega⟩
    have hrz:(r:Int)<(N:Int):=by omega
    have hrl:r<zs.length:=by have:=Vw.out;omega
    have hS0:w2.drew.cell? ⟨B,3,none⟩=some (.slice (some ⟨g,0,none⟩) N fc):=(show Sat W w2.drew (sep (blk B (.cells #[va,.int .i64 (i:Int),.int .i64 day,.slice (some ⟨g,0,none⟩) N fc] 86 (0,0))) _) from VK.out).cell 3;clear hd hr0 hb6 H2
    go_upto_region 3 with (fail)
    refine aG rfl (fun w'=>w'.cell? ⟨B,3,none⟩=some (.slice (some ⟨g,0,none⟩) N fc)) [(0,.p),(1,.p),(2,.p),(3,.s),(4,.p),(5,.p),(6,.p),(7,.p),(8,.t),(9,.p),(10,.e true),(11,.p),(12,.p),(13,.t),(14,.p),(15,.e false)] (by kernel_rfl) ?_;refine bF ?_
    (refine jH rfl rfl (fun K hK=>?_);go_simp)
    refine HN.out.mono ?_;rintro e w3 ⟨rfl,h3⟩;have hcf:w3.cell? ⟨g,r*19+3,none⟩=some (.int .i64 zs[r].f):=Iu h3.p2 r hrl 3 _ rfl;obtain⟨fz,hfz⟩:=aB (zs[r].f);have HFZ:Hid (fC N fz):=ah (by rw[hfz];exact (U8.out _ (List.getElem_mem hrl)).1);rw[←hfz] at hcf;have h4:Sat W w3 (sep (blk q (.cells (Ac.cells (⟨k,0,0,0,0,0,0,0,0,0,0,ak,ak,ak,ak,0,0,ak,ak⟩:Ac)).toArray 36 (0,0))) (sep (bH B va ((i+1:Nat):Int) day (.slice (some ⟨g,0,none⟩) N fc)) (sep (kn I) fr))):=by
     rw[Jb.out];have h9:=h3;simpa only[aA,ay,aj] using h9
    obtain⟨q3a,q3b⟩:=au h4 3 (.int .i64 0) rfl;have h5:=h4.setCell 3 (.int .i64 fz);have e9:(Ac.cells (⟨k,0,0,0,0,0,0,0,0,0,0,ak,ak,ak,ak,0,0,ak,ak⟩:Ac)).toArray.setIfInBounds 3 (.int .i64 fz)=(Ac.cells (⟨k,0,0,fz,0,0,0,0,0,0,0,ak,ak,ak,ak,0,0,ak,ak⟩:Ac)).toArray:=by simp[Ac.cells]
    rw[e9] at h5;have H5:=ah h5;have hS1:w3.cell? ⟨B,3,none⟩=some (.slice (some ⟨g,0,none⟩) N fc):=(show Sat W w3 (sep (blk B (.cells #[va,.int .i64 ((i+1:Nat):Int),.int .i64 day,.slice (some ⟨g,0,none⟩) N fc] 86 (0,0))) _) from h3).cell 3;clear h3 h4 h5 e9 hfz VK HN hS0
    (refine hK _ _ (fun _=>hS1) ?_;clear hK K;(try simp only[Act.put,lsA,lsB,kJ]))
    refine bF ?_
    (refine jH rfl rfl (fun K hK=>?_);go_simp)
    refine dQ ?_;clear hK K;refine dN ?_
    go_wp2
    go_meet
    case rel=>exact⟨fz,i+1,ah ⟨(fun _=>HFZ.out),(fun h=>by cases h),by omega,Nat.le_refl _,H5.out⟩⟩
 case rest=>
  as_aux_lemma=>
   obtain⟨f,pos,lV⟩:=hcut;have qH:pos<850000:=by have:=lV.out.2.2.2.1;have:=HK.out.2.2.2.2;omega
   have oz:=lV.out.2.2.1;have HP2:=lV.out.2.2.2.1;clear hmk H2 XI
   go_upto_block 0 with (fail)
   go_cut [] from 33 (fun wx=>∃(z:Ac) (y:Pa) (J:Mem) (pos':Nat),Hid (kX J z y∧Other N y∧y.k=k∧Mem.le I J∧i≤pos'∧pos'≤i+40∧Sat W wx (sep (blk q (.cells z.cells.toArray 36 (0,0))) (sep (bH B va (pos':Int) day (.slice (some ⟨g,0,none⟩) N fc)) (sep (kn J) fr)))))
   case first=>
    as_aux_lemma=>
     obtain⟨Zj,adR⟩:=aB ((some ⟨g,0,none⟩:Option Addr));have hkc:k=1∨k=2∨k=3∨k=4∨k=5∨k=6∨k=7∨k=8∨k=9∨k=10∨k=11∨k=12∨k=13∨k=14∨k=15∨k=16∨k=17∨k=18∨k=19∨k=20∨k=21:=by have:=HK.out.1;have:=HK.out.2.1;omega
     clear hNz Jb HR adR;rcases hkc with rfl|rfl|rfl|rfl|rfl|rfl|rfl|rfl|rfl|rfl|rfl|rfl|rfl|rfl|rfl|rfl|rfl|rfl|rfl|rfl|rfl
     ·as_aux_lemma=>
       obtain⟨hF1,hF2,-,-,jP⟩:=lV.out;have hob:ob=true:=by rw[←AB.out];rfl
       have hF:fC N f:=hF1 hob;have HC:Hid (Sat W wc (sep (blk q (.cells (Ac.cells (⟨1,0,0,f,0,0,0,0,0,0,0,ak,ak,ak,ak,0,0,ak,ak⟩:Ac)).toArray 36 (0,0))) (sep (bH B va (pos:Int) day (.slice (some ⟨g,0,none⟩) N fc)) (sep (kn I) fr)))):=ah jP;clear hF1 hF2 jP hob lV
       go_wp2
       go_meet
       case rel=>exact⟨(⟨1,0,0,f,0,0,0,0,0,0,0,ak,ak,ak,ak,0,0,ak,ak⟩:Ac),{ Pa.zero with k:=1,f:=f },I,(pos:Nat),ah ⟨⟨rfl,rfl,rfl,rfl,rfl,rfl,rfl,rfl,rfl,rfl,rfl,aF _ _ _,aF _ _ _,aF _ _ _,aF _ _ _,dS _⟩,.plain (by omega) hF,rfl,(Mem.le_refl I),by have:=oz;omega,by have:=HP2;omega,HC.out⟩⟩
     ·as_aux_lemma=>
       obtain⟨hF1,hF2,-,-,jP⟩:=lV.out;have hob:ob=true:=by rw[←AB.out];rfl
       have hF:fC N f:=hF1 hob;have HC:Hid (Sat W wc (sep (blk q (.cells (Ac.cells (⟨2,0,0,f,0,0,0,0,0,0,0,ak,ak,ak,ak,0,0,ak,ak⟩:Ac)).toArray 36 (0,0))) (sep (bH B va (pos:Int) day (.slice (some ⟨g,0,none⟩) N fc)) (sep (kn I) fr)))):=ah jP;clear hF1 hF2 jP hob lV
       go_wp2
       go_meet
       case rel=>exact⟨(⟨2,0,0,f,0,0,0,0,0,0,0,ak,ak,ak,ak,0,0,ak,ak⟩:Ac),{ Pa.zero with k:=2,f:=f },I,(pos:Nat),ah ⟨⟨rfl,rfl,rfl,rfl,rfl,rfl,rfl,rfl,rfl,rfl,rfl,aF _ _ _,aF _ _ _,aF _ _ _,aF _ _ _,dS _⟩,.plain (by omega) hF,rfl,(Mem.le_refl I),by have:=oz;omega,by have:=HP2;omega,HC.out⟩⟩
     ·as_aux_lemma=>
       obtain⟨hF1,hF2,-,-,jP⟩:=lV.out;have hob:ob=true:=by rw[←AB.out];rfl
       have hF:fC N f:=hF1 hob;have HC:Hid (Sat W wc (sep (blk q (.cells (Ac.cells (⟨3,0,0,f,0,0,0,0,0,0,0,ak,ak,ak,ak,0,0,ak,ak⟩:Ac)).toArray 36 (0,0))) (sep (bH B va (pos:Int) day (.slice (some ⟨g,0,none⟩) N fc)) (sep (kn I) fr)))):=ah jP;clear hF1 hF2 jP hob lV;have EC:=ah (uJ va l (pos:Nat) (by have:=qH;omega) (HV.out.mono (Mem.le_refl I)) (show Sat W wc (sep (bH B va ((pos:Nat):Int) day (.slice (some ⟨g,0,none⟩) N fc)) (sep (kn I) (sep (blk q (.cells (Ac.cells (⟨3,0,0,f,0,0,0,0,0,0,0,ak,ak,ak,ak,0,0,ak,ak⟩:Ac)).toArray 36 (0,0))) fr))) from dJ HC.out))
       go_wp2_with fail
       refine EC.out.mono ?_;rintro e YT ⟨cl,ca,cn,cc,J2,pos2,rfl,hgc,hle2,hrc,hp1,hp2,hcl⟩;have HQ:Hid (Sat W YT (sep (blk q (.cells (Ac.cells (⟨3,0,0,f,0,0,0,0,0,0,0,ak,ak,ak,ak,0,0,ak,ak⟩:Ac)).toArray 36 (0,0))) (sep (bH B va (pos2:Int) day (.slice (some ⟨g,0,none⟩) N fc)) (sep (kn J2) fr)))):=ah (dJ hcl);obtain⟨sca,scb⟩:=au HQ.out 13 (.slice none 0 0) rfl;obtain⟨cs,hcs⟩:∃z:Sv,z=⟨ca,cn,cc⟩:=⟨_,rfl⟩
       have HR:Hid (Sat W (YT.setCell ⟨q,13,none⟩ (.slice ca cn cc)) (sep (blk q (.cells (Ac.cells (⟨3,0,0,f,0,0,0,0,0,0,0,ak,ak,⟨ca,cn,cc⟩,ak,0,0,ak,ak⟩:Ac)).toArray 36 (0,0))) (sep (bH B va (pos2:Int) day (.slice (some ⟨g,0,none⟩) N fc)) (sep (kn J2) fr)))):=ah (by
        have h9:=HQ.out.setCell 13 (.slice ca cn cc);have e9:(Ac.cells (⟨3,0,0,f,0,0,0,0,0,0,0,ak,ak,ak,ak,0,0,ak,ak⟩:Ac)).toArray.setIfInBounds 13 (.slice ca cn cc)=(Ac.cells (⟨3,0,0,f,0,0,0,0,0,0,0,ak,ak,⟨ca,cn,cc⟩,ak,0,0,ak,ak⟩:Ac)).toArray:=by simp[Ac.cells]
        rw[e9] at h9;exact h9)
       have HL2:=ah (And.intro hgc (And.intro hle2 (And.intro hrc (And.intro hp1 hp2))));clear hcl hgc hle2 hrc hp1 hp2 EC HQ hcs
       go_wp2
       go_meet
       case rel=>exact⟨(⟨3,0,0,f,0,0,0,0,0,0,0,ak,ak,⟨ca,cn,cc⟩,ak,0,0,ak,ak⟩:Ac),{ Pa.zero with k:=3,f:=f,cl:=cl },J2,pos2,ah ⟨⟨rfl,rfl,rfl,rfl,rfl,rfl,rfl,rfl,rfl,rfl,rfl,aF _ _ _,aF _ _ _,HL2.out.2.2.1,aF _ _ _,dS _⟩,.list (by omega) hF HL2.out.1,rfl,HL2.out.2.1,by have:=oz;have:=HL2.out.2.2.2.1;omega,by have:=HP2;have:=HL2.out.2.2.2.2;omega,HR.out⟩⟩
     ·as_aux_lemma=>
       obtain⟨hF1,hF2,-,-,jP⟩:=lV.out;have hob:ob=true:=by rw[←AB.out];rfl
       have hF:fC N f:=hF1 hob;have HC:Hid (Sat W wc (sep (blk q (.cells (Ac.cells (⟨4,0,0,f,0,0,0,0,0,0,0,ak,ak,ak,ak,0,0,ak,ak⟩:Ac)).toArray 36 (0,0))) (sep (bH B va (pos:Int) day (.slice (some ⟨g,0,none⟩) N fc)) (sep (kn I) fr)))):=ah jP;clear hF1 hF2 jP hob lV;have hb1:=bD l (pos:Nat) 2 (by omega);have jU:=ah (aQ va l (pos:Nat) 2 (by omega) (by omega) (by have:=qH;omega) (HV.out.mono (Mem.le_refl I)) (show Sat W wc (sep (bH B va ((pos:Nat):Int) day (.slice (some ⟨g,0,none⟩) N fc)) (sep (kn I) (sep (blk q (.cells (Ac.cells (⟨4,0,0,f,0,0,0,0,0,0,0,ak,ak,ak,ak,0,0,ak,ak⟩:Ac)).toArray 36 (0,0))) fr))) from dJ HC.out));obtain⟨v1,hv1⟩:=aB (dD l (pos:Nat) 2);rw[←hv1] at jU hb1;clear hv1;obtain⟨wJ,wK⟩:=hb1
       go_wp2_with fail
       refine jU.out.mono ?_;rintro e lI ⟨rfl,hn1⟩;have pG:Hid (Sat W lI (sep (blk q (.cells (Ac.cells (⟨4,0,0,f,0,0,0,0,0,0,0,ak,ak,ak,ak,0,0,ak,ak⟩:Ac)).toArray 36 (0,0))) (sep (bH B va ((pos+1:Nat):Int) day (.slice (some ⟨g,0,none⟩) N fc)) (sep (kn I) fr)))):=ah (dJ hn1);clear hn1 jU;obtain⟨UO,UQ⟩:=au pG.out 5 (.int .i64 (0)) rfl;have yE:Hid (Sat W (lI.setCell ⟨q,5,none⟩ (.int .i64 (1+v1))) (sep (blk q (.cells (Ac.cells (⟨4,0,0,f,0,1+v1,0,0,0,0,0,ak,ak,ak,ak,0,0,ak,ak⟩:Ac)).toArray 36 (0,0))) (sep (bH B va ((pos+1:Nat):Int) day (.slice (some ⟨g,0,none⟩) N fc)) (sep (kn I) fr)))):=ah (by
        have h9:=pG.out.setCell 5 (.int .i64 (1+v1));have e9:(Ac.cells (⟨4,0,0,f,0,0,0,0,0,0,0,ak,ak,ak,ak,0,0,ak,ak⟩:Ac)).toArray.setIfInBounds 5 (.int .i64 (1+v1))=(Ac.cells (⟨4,0,0,f,0,1+v1,0,0,0,0,0,ak,ak,ak,ak,0,0,ak,ak⟩:Ac)).toArray:=by simp[Ac.cells]
        rw[e9] at h9;exact h9)
       have hal2:=yE.out.alloc (.cells #[.int .i64 0,.int .i64 1,.int .i64 2,.int .i64 3,.int .i64 4,.int .i64 5,.int .i64 9,.int .i64 10,.int .i64 11] 3)
       try simp only[World.size_setCell] at hal2
       have HA2:=ah hal2;clear hal2;have hb2:=bD l (pos+1:Nat) 9 (by omega);have oZ:=ah (aQ va l (pos+1:Nat) 9 (by omega) (by omega) (by have:=qH;omega) (HV.out.mono (Mem.le_refl I)) (show Sat W ((lI.setCell ⟨q,5,none⟩ (.int .i64 (1+v1))).alloc (.cells #[.int .i64 0,.int .i64 1,.int .i64 2,.int .i64 3,.int .i64 4,.int .i64 5,.int .i64 9,.int .i64 10,.int .i64 11] 3)) (sep (bH B va ((pos+1:Nat):Int) day (.slice (some ⟨g,0,none⟩) N fc)) (sep (kn I) (sep (blk lI.heap.size (.cells #[.int .i64 0,.int .i64 1,.int .i64 2,.int .i64 3,.int .i64 4,.int .i64 5,.int .i64 9,.int .i64 10,.int .i64 11] 3 (0,0))) (sep (blk q (.cells (Ac.cells (⟨4,0,0,f,0,1+v1,0,0,0,0,0,ak,ak,ak,ak,0,0,ak,ak⟩:Ac)).toArray 36 (0,0))) fr)))) from dJ HA2.out));obtain⟨v2,hv2⟩:=aB (dD l (pos+1:Nat) 9);rw[←hv2] at oZ hb2;clear hv2;obtain⟨NM,NP⟩:=hb2
       go_wp2_with fail
       refine oZ.out.mono ?_;rintro e wn2 ⟨rfl,hn2⟩;have HG2:Hid (Sat W wn2 (sep (blk lI.heap.size (.cells #[.int .i64 0,.int .i64 1,.int .i64 2,.int .i64 3,.int .i64 4,.int .i64 5,.int .i64 9,.int .i64 10,.int .i64 11] 3 (0,0))) (sep (blk q (.cells (Ac.cells (⟨4,0,0,f,0,1+v1,0,0,0,0,0,ak,ak,ak,ak,0,0,ak,ak⟩:Ac)).toArray 36 (0,0))) (sep (bH B va ((pos+1+1:Nat):Int) day (.slice (some ⟨g,0,none⟩) N fc)) (sep (kn I) fr))))):=ah (dJ hn2);clear hn2 oZ;obtain⟨r2,rfl⟩:∃r:Nat,v2=(r:Int):=⟨v2.toNat,by omega⟩
       obtain⟨y2,hy2,ahI⟩:∃y:Int,([0,1,2,3,4,5,9,10,11]:List Int)[r2]?=some y∧(0≤y∧y≤11∧(y≤5∨9≤y)):=by
        have hlt:r2<([0,1,2,3,4,5,9,10,11]:List Int).length:=by show r2<9;omega
        refine⟨([0,1,2,3,4,5,9,10,11]:List Int)[r2],List.getElem?_eq_getElem hlt,?_⟩;have hm:=List.getElem_mem hlt
        revert hm
        generalize ([0,1,2,3,4,5,9,10,11]:List Int)[r2]=y;intro hm;simp only[List.mem_cons,List.not_mem_nil,or_false] at hm;omega
       have cl2:wn2.cell? ⟨lI.heap.size,r2,none⟩=some (.int .i64 y2):=by
        rw[HG2.out.cell r2,show (#[.int .i64 0,.int .i64 1,.int .i64 2,.int .i64 3,.int .i64 4,.int .i64 5,.int .i64 9,.int .i64 10,.int .i64 11]:Array Value)=(([0,1,2,3,4,5,9,10,11]:List Int).map PA.iv).toArray from rfl,List.getElem?_toArray,List.getElem?_map,hy2];rfl
       have ahu:(r2:Int)<9:=by omega
       have HF2:=ah HG2.out.forget;clear hy2 HG2 HA2;obtain⟨ZV,ZW⟩:=au HF2.out 7 (.int .i64 (0)) rfl;have MO:Hid (Sat W (wn2.setCell ⟨q,7,none⟩ (.int .i64 (y2))) (sep (blk q (.cells (Ac.cells (⟨4,0,0,f,0,1+v1,0,y2,0,0,0,ak,ak,ak,ak,0,0,ak,ak⟩:Ac)).toArray 36 (0,0))) (sep (bH B va ((pos+1+1:Nat):Int) day (.slice (some ⟨g,0,none⟩) N fc)) (sep (kn I) fr)))):=ah (by
        have h9:=HF2.out.setCell 7 (.int .i64 (y2));have e9:(Ac.cells (⟨4,0,0,f,0,1+v1,0,0,0,0,0,ak,ak,ak,ak,0,0,ak,ak⟩:Ac)).toArray.setIfInBounds 7 (.int .i64 (y2))=(Ac.cells (⟨4,0,0,f,0,1+v1,0,y2,0,0,0,ak,ak,ak,ak,0,0,ak,ak⟩:Ac)).toArray:=by simp[Ac.cells]
        rw[e9] at h9;exact h9)
       have hal3:=MO.out.alloc (.cells #[.int .i64 100,.int .i64 50,.int .i64 200,.int .i64 150,.int .i64 30,.int .i64 1000] 3)
       try simp only[World.size_setCell] at hal3
       have Sj:=ah hal3;clear hal3;have hb3:=bD l (pos+1+1:Nat) 6 (by omega);have yD:=ah (aQ va l (pos+1+1:Nat) 6 (by omega) (by omega) (by have:=qH;omega) (HV.out.mono (Mem.le_refl I)) (show Sat W ((wn2.setCell ⟨q,7,none⟩ (.int .i64 (y2))).alloc (.cells #[.int .i64 100,.int .i64 50,.int .i64 200,.int .i64 150,.int .i64 30,.int .i64 1000] 3)) (sep (bH B va ((pos+1+1:Nat):Int) day (.slice (some ⟨g,0,none⟩) N fc)) (sep (kn I) (sep (blk wn2.heap.size (.cells #[.int .i64 100,.int .i64 50,.int .i64 200,.int .i64 150,.int .i64 30,.int .i64 1000] 3 (0,0))) (sep (blk q (.cells (Ac.cells (⟨4,0,0,f,0,1+v1,0,y2,0,0,0,ak,ak,ak,ak,0,0,ak,ak⟩:Ac)).toArray 36 (0,0))) fr)))) from dJ Sj.out));obtain⟨v3,hv3⟩:=aB (dD l (pos+1+1:Nat) 6);rw[←hv3] at yD hb3;clear hv3;obtain⟨Zr,Zt⟩:=hb3
       go_wp2_with fail
       refine yD.out.mono ?_;rintro e L6 ⟨rfl,hn3⟩;have MC:Hid (Sat W L6 (sep (blk wn2.heap.size (.cells #[.int .i64 100,.int .i64 50,.int .i64 200,.int .i64 150,.int .i64 30,.int .i64 1000] 3 (0,0))) (sep (blk q (.cells (Ac.cells (⟨4,0,0,f,0,1+v1,0,y2,0,0,0,ak,ak,ak,ak,0,0,ak,ak⟩:Ac)).toArray 36 (0,0))) (sep (bH B va ((pos+1+1+1:Nat):Int) day (.slice (some ⟨g,0,none⟩) N fc)) (sep (kn I) fr))))):=ah (dJ hn3);clear hn3 yD;obtain⟨r3,rfl⟩:∃r:Nat,v3=(r:Int):=⟨v3.toNat,by omega⟩
       obtain⟨y3,hy3,aem⟩:∃y:Int,([100,50,200,150,30,1000]:List Int)[r3]?=some y∧(1≤y∧y≤1000):=by
        have hlt:r3<([100,50,200,150,30,1000]:List Int).length:=by show r3<6;omega
        refine⟨([100,50,200,150,30,1000]:List Int)[r3],List.getElem?_eq_getElem hlt,?_⟩;have hm:=List.getElem_mem hlt
        revert hm
        generalize ([100,50,200,150,30,1000]:List Int)[r3]=y;intro hm;simp only[List.mem_cons,List.not_mem_nil,or_false] at hm;omega
       have cl3:L6.cell? ⟨wn2.heap.size,r3,none⟩=some (.int .i64 y3):=by
        rw[MC.out.cell r3,show (#[.int .i64 100,.int .i64 50,.int .i64 200,.int .i64 150,.int .i64 30,.int .i64 1000]:Array Value)=(([100,50,200,150,30,1000]:List Int).map PA.iv).toArray from rfl,List.getElem?_toArray,List.getElem?_map,hy3];rfl
       have abR:(r3:Int)<6:=by omega
       have HF3:=ah MC.out.forget;clear hy3 MC Sj;obtain⟨aey,aez⟩:=au HF3.out 8 (.int .i64 (0)) rfl;have Za:Hid (Sat W (L6.setCell ⟨q,8,none⟩ (.int .i64 (y3))) (sep (blk q (.cells (Ac.cells (⟨4,0,0,f,0,1+v1,0,y2,y3,0,0,ak,ak,ak,ak,0,0,ak,ak⟩:Ac)).toArray 36 (0,0))) (sep (bH B va ((pos+1+1+1:Nat):Int) day (.slice (some ⟨g,0,none⟩) N fc)) (sep (kn I) fr)))):=ah (by
        have h9:=HF3.out.setCell 8 (.int .i64 (y3));have e9:(Ac.cells (⟨4,0,0,f,0,1+v1,0,y2,0,0,0,ak,ak,ak,ak,0,0,ak,ak⟩:Ac)).toArray.setIfInBounds 8 (.int .i64 (y3))=(Ac.cells (⟨4,0,0,f,0,1+v1,0,y2,y3,0,0,ak,ak,ak,ak,0,0,ak,ak⟩:Ac)).toArray:=by simp[Ac.cells]
        rw[e9] at h9;exact h9)
       have hb4:=bD l (pos+1+1+1:Nat) 9 (by omega);have Y6:=ah (aQ va l (pos+1+1+1:Nat) 9 (by omega) (by omega) (by have:=qH;omega) (HV.out.mono (Mem.le_refl I)) (show Sat W (L6.setCell ⟨q,8,none⟩ (.int .i64 (y3))) (sep (bH B va ((pos+1+1+1:Nat):Int) day (.slice (some ⟨g,0,none⟩) N fc)) (sep (kn I) (sep (blk q (.cells (Ac.cells (⟨4,0,0,f,0,1+v1,0,y2,y3,0,0,ak,ak,ak,ak,0,0,ak,ak⟩:Ac)).toArray 36 (0,0))) fr))) from dJ Za.out));obtain⟨v4,hv4⟩:=aB (dD l (pos+1+1+1:Nat) 9);rw[←hv4] at Y6 hb4;clear hv4;obtain⟨ahe,ahf⟩:=hb4
       go_wp2_with fail
       refine Y6.out.mono ?_;rintro e wn4 ⟨rfl,hn4⟩;have Y0:Hid (Sat W wn4 (sep (blk q (.cells (Ac.cells (⟨4,0,0,f,0,1+v1,0,y2,y3,0,0,ak,ak,ak,ak,0,0,ak,ak⟩:Ac)).toArray 36 (0,0))) (sep (bH B va ((pos+1+1+1+1:Nat):Int) day (.slice (some ⟨g,0,none⟩) N fc)) (sep (kn I) fr)))):=ah (dJ hn4);clear hn4 Y6;obtain⟨t4,ht4⟩:∃b,(v4==0)=b:=⟨_,rfl⟩
       obtain⟨sqa,sqb⟩:=au Y0.out 6 (.int .i64 (0)) rfl;cases t4 with
       | true=>
        obtain⟨ahW,ahX⟩:=au Y0.out 6 (.int .i64 (0)) rfl;have adi:Hid (Sat W (wn4.setCell ⟨q,6,none⟩ (.int .i64 (1))) (sep (blk q (.cells (Ac.cells (⟨4,0,0,f,0,1+v1,1,y2,y3,0,0,ak,ak,ak,ak,0,0,ak,ak⟩:Ac)).toArray 36 (0,0))) (sep (bH B va ((pos+1+1+1+1:Nat):Int) day (.slice (some ⟨g,0,none⟩) N fc)) (sep (kn I) fr)))):=ah (by
         have h9:=Y0.out.setCell 6 (.int .i64 (1));have e9:(Ac.cells (⟨4,0,0,f,0,1+v1,0,y2,y3,0,0,ak,ak,ak,ak,0,0,ak,ak⟩:Ac)).toArray.setIfInBounds 6 (.int .i64 (1))=(Ac.cells (⟨4,0,0,f,0,1+v1,1,y2,y3,0,0,ak,ak,ak,ak,0,0,ak,ak⟩:Ac)).toArray:=by simp[Ac.cells]
         rw[e9] at h9;exact h9)
        go_wp2
        go_meet
        case rel=>exact⟨(⟨4,0,0,f,0,1+v1,1,y2,y3,0,0,ak,ak,ak,ak,0,0,ak,ak⟩:Ac),{ Pa.zero with k:=4,f:=f,p:=1+v1,q:=1,u:=y2,m:=y3 },I,(pos+1+1+1+1:Nat),ah ⟨⟨rfl,rfl,rfl,rfl,rfl,rfl,rfl,rfl,rfl,rfl,rfl,aF _ _ _,aF _ _ _,aF _ _ _,aF _ _ _,dS _⟩,.pay hF (by omega) (by omega) (by omega) (by omega) (by omega),rfl,(Mem.le_refl I),by have:=oz;omega,by have:=HP2;omega,adi.out⟩⟩
       | false=>
        go_wp2
        go_meet
        case rel=>exact⟨(⟨4,0,0,f,0,1+v1,0,y2,y3,0,0,ak,ak,ak,ak,0,0,ak,ak⟩:Ac),{ Pa.zero with k:=4,f:=f,p:=1+v1,q:=0,u:=y2,m:=y3 },I,(pos+1+1+1+1:Nat),ah ⟨⟨rfl,rfl,rfl,rfl,rfl,rfl,rfl,rfl,rfl,rfl,rfl,aF _ _ _,aF _ _ _,aF _ _ _,aF _ _ _,dS _⟩,.pay hF (by omega) (by omega) (by omega) (by omega) (by omega),rfl,(Mem.le_refl I),by have:=oz;omega,by have:=HP2;omega,Y0.out⟩⟩
     ·as_aux_lemma=>
       obtain⟨hF1,hF2,-,-,jP⟩:=lV.out;have hob:ob=false:=by rw[←AB.out];rfl
       obtain rfl:f=0:=hF2 hob;have HC:Hid (Sat W wc (sep (blk q (.cells (Ac.cells (⟨5,0,0,0,0,0,0,0,0,0,0,ak,ak,ak,ak,0,0,ak,ak⟩:Ac)).toArray 36 (0,0))) (sep (bH B va (pos:Int) day (.slice (some ⟨g,0,none⟩) N fc)) (sep (kn I) fr)))):=ah jP;clear hF1 hF2 jP hob lV;have hb1:=bD l (pos:Nat) 2 (by omega);have jU:=ah (aQ va l (pos:Nat) 2 (by omega) (by omega) (by have:=qH;omega) (HV.out.mono (Mem.le_refl I)) (show Sat W wc (sep (bH B va ((pos:Nat):Int) day (.slice (some ⟨g,0,none⟩) N fc)) (sep (kn I) (sep (blk q (.cells (Ac.cells (⟨5,0,0,0,0,0,0,0,0,0,0,ak,ak,ak,ak,0,0,ak,ak⟩:Ac)).toArray 36 (0,0))) fr))) from dJ HC.out));obtain⟨v1,hv1⟩:=aB (dD l (pos:Nat) 2);rw[←hv1] at jU hb1;clear hv1;obtain⟨wJ,wK⟩:=hb1
       go_wp2_with fail
       refine jU.out.mono ?_;rintro e lI ⟨rfl,hn1⟩;have pG:Hid (Sat W lI (sep (blk q (.cells (Ac.cells (⟨5,0,0,0,0,0,0,0,0,0,0,ak,ak,ak,ak,0,0,ak,ak⟩:Ac)).toArray 36 (0,0))) (sep (bH B va ((pos+1:Nat):Int) day (.slice (some ⟨g,0,none⟩) N fc)) (sep (kn I) fr)))):=ah (dJ hn1);clear hn1 jU;obtain⟨UO,UQ⟩:=au pG.out 5 (.int .i64 (0)) rfl;have yE:Hid (Sat W (lI.setCell ⟨q,5,none⟩ (.int .i64 (1+v1))) (sep (blk q (.cells (Ac.cells (⟨5,0,0,0,0,1+v1,0,0,0,0,0,ak,ak,ak,ak,0,0,ak,ak⟩:Ac)).toArray 36 (0,0))) (sep (bH B va ((pos+1:Nat):Int) day (.slice (some ⟨g,0,none⟩) N fc)) (sep (kn I) fr)))):=ah (by
        have h9:=pG.out.setCell 5 (.int .i64 (1+v1));have e9:(Ac.cells (⟨5,0,0,0,0,0,0,0,0,0,0,ak,ak,ak,ak,0,0,ak,ak⟩:Ac)).toArray.setIfInBounds 5 (.int .i64 (1+v1))=(Ac.cells (⟨5,0,0,0,0,1+v1,0,0,0,0,0,ak,ak,ak,ak,0,0,ak,ak⟩:Ac)).toArray:=by simp[Ac.cells]
        rw[e9] at h9;exact h9)
       have hb2:=bD l (pos+1:Nat) 2 (by omega);have oZ:=ah (aQ va l (pos+1:Nat) 2 (by omega) (by omega) (by have:=qH;omega) (HV.out.mono (Mem.le_refl I)) (show Sat W (lI.setCell ⟨q,5,none⟩ (.int .i64 (1+v1))) (sep (bH B va ((pos+1:Nat):Int) day (.slice (some ⟨g,0,none⟩) N fc)) (sep (kn I) (sep (blk q (.cells (Ac.cells (⟨5,0,0,0,0,1+v1,0,0,0,0,0,ak,ak,ak,ak,0,0,ak,ak⟩:Ac)).toArray 36 (0,0))) fr))) from dJ yE.out));obtain⟨v2,hv2⟩:=aB (dD l (pos+1:Nat) 2);rw[←hv2] at oZ hb2;clear hv2;obtain⟨NM,NP⟩:=hb2
       go_wp2_with fail
       refine oZ.out.mono ?_;rintro e wn2 ⟨rfl,hn2⟩;have HG2:Hid (Sat W wn2 (sep (blk q (.cells (Ac.cells (⟨5,0,0,0,0,1+v1,0,0,0,0,0,ak,ak,ak,ak,0,0,ak,ak⟩:Ac)).toArray 36 (0,0))) (sep (bH B va ((pos+1+1:Nat):Int) day (.slice (some ⟨g,0,none⟩) N fc)) (sep (kn I) fr)))):=ah (dJ hn2);clear hn2 oZ;obtain⟨ZV,ZW⟩:=au HG2.out 7 (.int .i64 (0)) rfl;have MO:Hid (Sat W (wn2.setCell ⟨q,7,none⟩ (.int .i64 (v2))) (sep (blk q (.cells (Ac.cells (⟨5,0,0,0,0,1+v1,0,v2,0,0,0,ak,ak,ak,ak,0,0,ak,ak⟩:Ac)).toArray 36 (0,0))) (sep (bH B va ((pos+1+1:Nat):Int) day (.slice (some ⟨g,0,none⟩) N fc)) (sep (kn I) fr)))):=ah (by
        have h9:=HG2.out.setCell 7 (.int .i64 (v2));have e9:(Ac.cells (⟨5,0,0,0,0,1+v1,0,0,0,0,0,ak,ak,ak,ak,0,0,ak,ak⟩:Ac)).toArray.setIfInBounds 7 (.int .i64 (v2))=(Ac.cells (⟨5,0,0,0,0,1+v1,0,v2,0,0,0,ak,ak,ak,ak,0,0,ak,ak⟩:Ac)).toArray:=by simp[Ac.cells]
        rw[e9] at h9;exact h9)
       go_wp2
       go_meet
       case rel=>exact⟨(⟨5,0,0,0,0,1+v1,0,v2,0,0,0,ak,ak,ak,ak,0,0,ak,ak⟩:Ac),{ Pa.zero with k:=5,p:=1+v1,u:=v2 },I,(pos+1+1:Nat),ah ⟨⟨rfl,rfl,rfl,rfl,rfl,rfl,rfl,rfl,rfl,rfl,rfl,aF _ _ _,aF _ _ _,aF _ _ _,aF _ _ _,dS _⟩,.small (by omega) (by omega),rfl,(Mem.le_refl I),by have:=oz;omega,by have:=HP2;omega,MO.out⟩⟩
     ·as_aux_lemma=>
       obtain⟨hF1,hF2,-,-,jP⟩:=lV.out;have hob:ob=true:=by rw[←AB.out];rfl
       have hF:fC N f:=hF1 hob;have HC:Hid (Sat W wc (sep (blk q (.cells (Ac.cells (⟨6,0,0,f,0,0,0,0,0,0,0,ak,ak,ak,ak,0,0,ak,ak⟩:Ac)).toArray 36 (0,0))) (sep (bH B va (pos:Int) day (.slice (some ⟨g,0,none⟩) N fc)) (sep (kn I) fr)))):=ah jP;clear hF1 hF2 jP hob lV;have hb1:=bD l (pos:Nat) 3 (by omega);have jU:=ah (aQ va l (pos:Nat) 3 (by omega) (by omega) (by have:=qH;omega) (HV.out.mono (Mem.le_refl I)) (show Sat W wc (sep (bH B va ((pos:Nat):Int) day (.slice (some ⟨g,0,none⟩) N fc)) (sep (kn I) (sep (blk q (.cells (Ac.cells (⟨6,0,0,f,0,0,0,0,0,0,0,ak,ak,ak,ak,0,0,ak,ak⟩:Ac)).toArray 36 (0,0))) fr))) from dJ HC.out));obtain⟨v1,hv1⟩:=aB (dD l (pos:Nat) 3);rw[←hv1] at jU hb1;clear hv1;obtain⟨wJ,wK⟩:=hb1
       go_wp2_with fail
       refine jU.out.mono ?_;rintro e lI ⟨rfl,hn1⟩;have pG:Hid (Sat W lI (sep (blk q (.cells (Ac.cells (⟨6,0,0,f,0,0,0,0,0,0,0,ak,ak,ak,ak,0,0,ak,ak⟩:Ac)).toArray 36 (0,0))) (sep (bH B va ((pos+1:Nat):Int) day (.slice (some ⟨g,0,none⟩) N fc)) (sep (kn I) fr)))):=ah (dJ hn1);clear hn1 jU;obtain⟨UR,UU⟩:=au pG.out 7 (.int .i64 (0)) rfl;have Bg:Hid (Sat W (lI.setCell ⟨q,7,none⟩ (.int .i64 (v1))) (sep (blk q (.cells (Ac.cells (⟨6,0,0,f,0,0,0,v1,0,0,0,ak,ak,ak,ak,0,0,ak,ak⟩:Ac)).toArray 36 (0,0))) (sep (bH B va ((pos+1:Nat):Int) day (.slice (some ⟨g,0,none⟩) N fc)) (sep (kn I) fr)))):=ah (by
        have h9:=pG.out.setCell 7 (.int .i64 (v1));have e9:(Ac.cells (⟨6,0,0,f,0,0,0,0,0,0,0,ak,ak,ak,ak,0,0,ak,ak⟩:Ac)).toArray.setIfInBounds 7 (.int .i64 (v1))=(Ac.cells (⟨6,0,0,f,0,0,0,v1,0,0,0,ak,ak,ak,ak,0,0,ak,ak⟩:Ac)).toArray:=by simp[Ac.cells]
        rw[e9] at h9;exact h9)
       go_wp2
       go_meet
       case rel=>exact⟨(⟨6,0,0,f,0,0,0,v1,0,0,0,ak,ak,ak,ak,0,0,ak,ak⟩:Ac),{ Pa.zero with k:=6,f:=f,u:=v1 },I,(pos+1:Nat),ah ⟨⟨rfl,rfl,rfl,rfl,rfl,rfl,rfl,rfl,rfl,rfl,rfl,aF _ _ _,aF _ _ _,aF _ _ _,aF _ _ _,dS _⟩,.order (by omega) hF (by omega) (by omega) (by omega),rfl,(Mem.le_refl I),by have:=oz;omega,by have:=HP2;omega,Bg.out⟩⟩
     ·as_aux_lemma=>
       obtain⟨hF1,hF2,-,-,jP⟩:=lV.out;have hob:ob=true:=by rw[←AB.out];rfl
       have hF:fC N f:=hF1 hob;have HC:Hid (Sat W wc (sep (blk q (.cells (Ac.cells (⟨7,0,0,f,0,0,0,0,0,0,0,ak,ak,ak,ak,0,0,ak,ak⟩:Ac)).toArray 36 (0,0))) (sep (bH B va (pos:Int) day (.slice (some ⟨g,0,none⟩) N fc)) (sep (kn I) fr)))):=ah jP;clear hF1 hF2 jP hob lV;have hb1:=bD l (pos:Nat) 3 (by omega);have jU:=ah (aQ va l (pos:Nat) 3 (by omega) (by omega) (by have:=qH;omega) (HV.out.mono (Mem.le_refl I)) (show Sat W wc (sep (bH B va ((pos:Nat):Int) day (.slice (some ⟨g,0,none⟩) N fc)) (sep (kn I) (sep (blk q (.cells (Ac.cells (⟨7,0,0,f,0,0,0,0,0,0,0,ak,ak,ak,ak,0,0,ak,ak⟩:Ac)).toArray 36 (0,0))) fr))) from dJ HC.out));obtain⟨v1,hv1⟩:=aB (dD l (pos:Nat) 3);rw[←hv1] at jU hb1;clear hv1;obtain⟨wJ,wK⟩:=hb1
       go_wp2_with fail
       refine jU.out.mono ?_;rintro e lI ⟨rfl,hn1⟩;have pG:Hid (Sat W lI (sep (blk q (.cells (Ac.cells (⟨7,0,0,f,0,0,0,0,0,0,0,ak,ak,ak,ak,0,0,ak,ak⟩:Ac)).toArray 36 (0,0))) (sep (bH B va ((pos+1:Nat):Int) day (.slice (some ⟨g,0,none⟩) N fc)) (sep (kn I) fr)))):=ah (dJ hn1);clear hn1 jU;obtain⟨UR,UU⟩:=au pG.out 7 (.int .i64 (0)) rfl;have Bg:Hid (Sat W (lI.setCell ⟨q,7,none⟩ (.int .i64 (v1))) (sep (blk q (.cells (Ac.cells (⟨7,0,0,f,0,0,0,v1,0,0,0,ak,ak,ak,ak,0,0,ak,ak⟩:Ac)).toArray 36 (0,0))) (sep (bH B va ((pos+1:Nat):Int) day (.slice (some ⟨g,0,none⟩) N fc)) (sep (kn I) fr)))):=ah (by
        have h9:=pG.out.setCell 7 (.int .i64 (v1));have e9:(Ac.cells (⟨7,0,0,f,0,0,0,0,0,0,0,ak,ak,ak,ak,0,0,ak,ak⟩:Ac)).toArray.setIfInBounds 7 (.int .i64 (v1))=(Ac.cells (⟨7,0,0,f,0,0,0,v1,0,0,0,ak,ak,ak,ak,0,0,ak,ak⟩:Ac)).toArray:=by simp[Ac.cells]
        rw[e9] at h9;exact h9)
       go_wp2
       go_meet
       case rel=>exact⟨(⟨7,0,0,f,0,0,0,v1,0,0,0,ak,ak,ak,ak,0,0,ak,ak⟩:Ac),{ Pa.zero with k:=7,f:=f,u:=v1 },I,(pos+1:Nat),ah ⟨⟨rfl,rfl,rfl,rfl,rfl,rfl,rfl,rfl,rfl,rfl,rfl,aF _ _ _,aF _ _ _,aF _ _ _,aF _ _ _,dS _⟩,.order (by omega) hF (by omega) (by omega) (by omega),rfl,(Mem.le_refl I),by have:=oz;omega,by have:=HP2;omega,Bg.out⟩⟩
     ·as_aux_lemma=>
       obtain⟨hF1,hF2,-,-,jP⟩:=lV.out;have hob:ob=true:=by rw[←AB.out];rfl
       have hF:fC N f:=hF1 hob;have HC:Hid (Sat W wc (sep (blk q (.cells (Ac.cells (⟨8,0,0,f,0,0,0,0,0,0,0,ak,ak,ak,ak,0,0,ak,ak⟩:Ac)).toArray 36 (0,0))) (sep (bH B va (pos:Int) day (.slice (some ⟨g,0,none⟩) N fc)) (sep (kn I) fr)))):=ah jP;clear hF1 hF2 jP hob lV;have hb1:=bD l (pos:Nat) 3 (by omega);have jU:=ah (aQ va l (pos:Nat) 3 (by omega) (by omega) (by have:=qH;omega) (HV.out.mono (Mem.le_refl I)) (show Sat W wc (sep (bH B va ((pos:Nat):Int) day (.slice (some ⟨g,0,none⟩) N fc)) (sep (kn I) (sep (blk q (.cells (Ac.cells (⟨8,0,0,f,0,0,0,0,0,0,0,ak,ak,ak,ak,0,0,ak,ak⟩:Ac)).toArray 36 (0,0))) fr))) from dJ HC.out));obtain⟨v1,hv1⟩:=aB (dD l (pos:Nat) 3);rw[←hv1] at jU hb1;clear hv1;obtain⟨wJ,wK⟩:=hb1
       go_wp2_with fail
       refine jU.out.mono ?_;rintro e lI ⟨rfl,hn1⟩;have pG:Hid (Sat W lI (sep (blk q (.cells (Ac.cells (⟨8,0,0,f,0,0,0,0,0,0,0,ak,ak,ak,ak,0,0,ak,ak⟩:Ac)).toArray 36 (0,0))) (sep (bH B va ((pos+1:Nat):Int) day (.slice (some ⟨g,0,none⟩) N fc)) (sep (kn I) fr)))):=ah (dJ hn1);clear hn1 jU;obtain⟨UR,UU⟩:=au pG.out 7 (.int .i64 (0)) rfl;have Bg:Hid (Sat W (lI.setCell ⟨q,7,none⟩ (.int .i64 (v1))) (sep (blk q (.cells (Ac.cells (⟨8,0,0,f,0,0,0,v1,0,0,0,ak,ak,ak,ak,0,0,ak,ak⟩:Ac)).toArray 36 (0,0))) (sep (bH B va ((pos+1:Nat):Int) day (.slice (some ⟨g,0,none⟩) N fc)) (sep (kn I) fr)))):=ah (by
        have h9:=pG.out.setCell 7 (.int .i64 (v1));have e9:(Ac.cells (⟨8,0,0,f,0,0,0,0,0,0,0,ak,ak,ak,ak,0,0,ak,ak⟩:Ac)).toArray.setIfInBounds 7 (.int .i64 (v1))=(Ac.cells (⟨8,0,0,f,0,0,0,v1,0,0,0,ak,ak,ak,ak,0,0,ak,ak⟩:Ac)).toArray:=by simp[Ac.cells]
        rw[e9] at h9;exact h9)
       have hb2:=bD l (pos+1:Nat) 4 (by omega);have oZ:=ah (aQ va l (pos+1:Nat) 4 (by omega) (by omega) (by have:=qH;omega) (HV.out.mono (Mem.le_refl I)) (show Sat W (lI.setCell ⟨q,7,none⟩ (.int .i64 (v1))) (sep (bH B va ((pos+1:Nat):Int) day (.slice (some ⟨g,0,none⟩) N fc)) (sep (kn I) (sep (blk q (.cells (Ac.cells (⟨8,0,0,f,0,0,0,v1,0,0,0,ak,ak,ak,ak,0,0,ak,ak⟩:Ac)).toArray 36 (0,0))) fr))) from dJ Bg.out));obtain⟨v2,hv2⟩:=aB (dD l (pos+1:Nat) 4);rw[←hv2] at oZ hb2;clear hv2;obtain⟨NM,NP⟩:=hb2
       go_wp2_with fail
       refine oZ.out.mono ?_;rintro e wn2 ⟨rfl,hn2⟩;have HG2:Hid (Sat W wn2 (sep (blk q (.cells (Ac.cells (⟨8,0,0,f,0,0,0,v1,0,0,0,ak,ak,ak,ak,0,0,ak,ak⟩:Ac)).toArray 36 (0,0))) (sep (bH B va ((pos+1+1:Nat):Int) day (.slice (some ⟨g,0,none⟩) N fc)) (sep (kn I) fr)))):=ah (dJ hn2);clear hn2 oZ;obtain⟨ahS,ahT⟩:=au HG2.out 8 (.int .i64 (0)) rfl;have adg:Hid (Sat W (wn2.setCell ⟨q,8,none⟩ (.int .i64 (1+v2))) (sep (blk q (.cells (Ac.cells (⟨8,0,0,f,0,0,0,v1,1+v2,0,0,ak,ak,ak,ak,0,0,ak,ak⟩:Ac)).toArray 36 (0,0))) (sep (bH B va ((pos+1+1:Nat):Int) day (.slice (some ⟨g,0,none⟩) N fc)) (sep (kn I) fr)))):=ah (by
        have h9:=HG2.out.setCell 8 (.int .i64 (1+v2));have e9:(Ac.cells (⟨8,0,0,f,0,0,0,v1,0,0,0,ak,ak,ak,ak,0,0,ak,ak⟩:Ac)).toArray.setIfInBounds 8 (.int .i64 (1+v2))=(Ac.cells (⟨8,0,0,f,0,0,0,v1,1+v2,0,0,ak,ak,ak,ak,0,0,ak,ak⟩:Ac)).toArray:=by simp[Ac.cells]
        rw[e9] at h9;exact h9)
       go_wp2
       go_meet
       case rel=>exact⟨(⟨8,0,0,f,0,0,0,v1,1+v2,0,0,ak,ak,ak,ak,0,0,ak,ak⟩:Ac),{ Pa.zero with k:=8,f:=f,u:=v1,m:=1+v2 },I,(pos+1+1:Nat),ah ⟨⟨rfl,rfl,rfl,rfl,rfl,rfl,rfl,rfl,rfl,rfl,rfl,aF _ _ _,aF _ _ _,aF _ _ _,aF _ _ _,dS _⟩,.extend hF (by omega) (by omega) (by omega) (by omega),rfl,(Mem.le_refl I),by have:=oz;omega,by have:=HP2;omega,adg.out⟩⟩
     ·as_aux_lemma=>
       obtain⟨hF1,hF2,-,-,jP⟩:=lV.out;have hob:ob=true:=by rw[←AB.out];rfl
       have hF:fC N f:=hF1 hob;have HC:Hid (Sat W wc (sep (blk q (.cells (Ac.cells (⟨9,0,0,f,0,0,0,0,0,0,0,ak,ak,ak,ak,0,0,ak,ak⟩:Ac)).toArray 36 (0,0))) (sep (bH B va (pos:Int) day (.slice (some ⟨g,0,none⟩) N fc)) (sep (kn I) fr)))):=ah jP;clear hF1 hF2 jP hob lV;have hb1:=bD l (pos:Nat) 60 (by omega);have jU:=ah (aQ va l (pos:Nat) 60 (by omega) (by omega) (by have:=qH;omega) (HV.out.mono (Mem.le_refl I)) (show Sat W wc (sep (bH B va ((pos:Nat):Int) day (.slice (some ⟨g,0,none⟩) N fc)) (sep (kn I) (sep (blk q (.cells (Ac.cells (⟨9,0,0,f,0,0,0,0,0,0,0,ak,ak,ak,ak,0,0,ak,ak⟩:Ac)).toArray 36 (0,0))) fr))) from dJ HC.out));obtain⟨v1,hv1⟩:=aB (dD l (pos:Nat) 60);rw[←hv1] at jU hb1;clear hv1;obtain⟨wJ,wK⟩:=hb1
       go_wp2_with fail
       refine jU.out.mono ?_;rintro e lI ⟨rfl,hn1⟩;have pG:Hid (Sat W lI (sep (blk q (.cells (Ac.cells (⟨9,0,0,f,0,0,0,0,0,0,0,ak,ak,ak,ak,0,0,ak,ak⟩:Ac)).toArray 36 (0,0))) (sep (bH B va ((pos+1:Nat):Int) day (.slice (some ⟨g,0,none⟩) N fc)) (sep (kn I) fr)))):=ah (dJ hn1);clear hn1 jU;obtain⟨UR,UU⟩:=au pG.out 7 (.int .i64 (0)) rfl;have Bg:Hid (Sat W (lI.setCell ⟨q,7,none⟩ (.int .i64 (v1))) (sep (blk q (.cells (Ac.cells (⟨9,0,0,f,0,0,0,v1,0,0,0,ak,ak,ak,ak,0,0,ak,ak⟩:Ac)).toArray 36 (0,0))) (sep (bH B va ((pos+1:Nat):Int) day (.slice (some ⟨g,0,none⟩) N fc)) (sep (kn I) fr)))):=ah (by
        have h9:=pG.out.setCell 7 (.int .i64 (v1));have e9:(Ac.cells (⟨9,0,0,f,0,0,0,0,0,0,0,ak,ak,ak,ak,0,0,ak,ak⟩:Ac)).toArray.setIfInBounds 7 (.int .i64 (v1))=(Ac.cells (⟨9,0,0,f,0,0,0,v1,0,0,0,ak,ak,ak,ak,0,0,ak,ak⟩:Ac)).toArray:=by simp[Ac.cells]
        rw[e9] at h9;exact h9)
       go_wp2
       go_meet
       case rel=>exact⟨(⟨9,0,0,f,0,0,0,v1,0,0,0,ak,ak,ak,ak,0,0,ak,ak⟩:Ac),{ Pa.zero with k:=9,f:=f,u:=v1 },I,(pos+1:Nat),ah ⟨⟨rfl,rfl,rfl,rfl,rfl,rfl,rfl,rfl,rfl,rfl,rfl,aF _ _ _,aF _ _ _,aF _ _ _,aF _ _ _,dS _⟩,.order (by omega) hF (by omega) (by omega) (by omega),rfl,(Mem.le_refl I),by have:=oz;omega,by have:=HP2;omega,Bg.out⟩⟩
     ·as_aux_lemma=>
       obtain⟨hF1,hF2,-,-,jP⟩:=lV.out;have hob:ob=true:=by rw[←AB.out];rfl
       have hF:fC N f:=hF1 hob;have HC:Hid (Sat W wc (sep (blk q (.cells (Ac.cells (⟨10,0,0,f,0,0,0,0,0,0,0,ak,ak,ak,ak,0,0,ak,ak⟩:Ac)).toArray 36 (0,0))) (sep (bH B va (pos:Int) day (.slice (some ⟨g,0,none⟩) N fc)) (sep (kn I) fr)))):=ah jP;clear hF1 hF2 jP hob lV
       go_wp2
       go_meet
       case rel=>exact⟨(⟨10,0,0,f,0,0,0,0,0,0,0,ak,ak,ak,ak,0,0,ak,ak⟩:Ac),{ Pa.zero with k:=10,f:=f },I,(pos:Nat),ah ⟨⟨rfl,rfl,rfl,rfl,rfl,rfl,rfl,rfl,rfl,rfl,rfl,aF _ _ _,aF _ _ _,aF _ _ _,aF _ _ _,dS _⟩,.plain (by omega) hF,rfl,(Mem.le_refl I),by have:=oz;omega,by have:=HP2;omega,HC.out⟩⟩
     ·as_aux_lemma=>
       obtain⟨hF1,hF2,-,-,jP⟩:=lV.out;have hob:ob=true:=by rw[←AB.out];rfl
       have hF:fC N f:=hF1 hob;have HC:Hid (Sat W wc (sep (blk q (.cells (Ac.cells (⟨11,0,0,f,0,0,0,0,0,0,0,ak,ak,ak,ak,0,0,ak,ak⟩:Ac)).toArray 36 (0,0))) (sep (bH B va (pos:Int) day (.slice (some ⟨g,0,none⟩) N fc)) (sep (kn I) fr)))):=ah jP;clear hF1 hF2 jP hob lV
       go_wp2
       go_meet
       case rel=>exact⟨(⟨11,0,0,f,0,0,0,0,0,0,0,ak,ak,ak,ak,0,0,ak,ak⟩:Ac),{ Pa.zero with k:=11,f:=f },I,(pos:Nat),ah ⟨⟨rfl,rfl,rfl,rfl,rfl,rfl,rfl,rfl,rfl,rfl,rfl,aF _ _ _,aF _ _ _,aF _ _ _,aF _ _ _,dS _⟩,.plain (by omega) hF,rfl,(Mem.le_refl I),by have:=oz;omega,by have:=HP2;omega,HC.out⟩⟩
     ·as_aux_lemma=>
       obtain⟨hF1,hF2,-,-,jP⟩:=lV.out;have hob:ob=true:=by rw[←AB.out];rfl
       have hF:fC N f:=hF1 hob;have HC:Hid (Sat W wc (sep (blk q (.cells (Ac.cells (⟨12,0,0,f,0,0,0,0,0,0,0,ak,ak,ak,ak,0,0,ak,ak⟩:Ac)).toArray 36 (0,0))) (sep (bH B va (pos:Int) day (.slice (some ⟨g,0,none⟩) N fc)) (sep (kn I) fr)))):=ah jP;clear hF1 hF2 jP hob lV;have hb1:=bD l (pos:Nat) 4 (by omega);have jU:=ah (aQ va l (pos:Nat) 4 (by omega) (by omega) (by have:=qH;omega) (HV.out.mono (Mem.le_refl I)) (show Sat W wc (sep (bH B va ((pos:Nat):Int) day (.slice (some ⟨g,0,none⟩) N fc)) (sep (kn I) (sep (blk q (.cells (Ac.cells (⟨12,0,0,f,0,0,0,0,0,0,0,ak,ak,ak,ak,0,0,ak,ak⟩:Ac)).toArray 36 (0,0))) fr))) from dJ HC.out));obtain⟨v1,hv1⟩:=aB (dD l (pos:Nat) 4);rw[←hv1] at jU hb1;clear hv1;obtain⟨wJ,wK⟩:=hb1
       go_wp2_with fail
       refine jU.out.mono ?_;rintro e lI ⟨rfl,hn1⟩;have pG:Hid (Sat W lI (sep (blk q (.cells (Ac.cells (⟨12,0,0,f,0,0,0,0,0,0,0,ak,ak,ak,ak,0,0,ak,ak⟩:Ac)).toArray 36 (0,0))) (sep (bH B va ((pos+1:Nat):Int) day (.slice (some ⟨g,0,none⟩) N fc)) (sep (kn I) fr)))):=ah (dJ hn1);clear hn1 jU;obtain⟨UO,UQ⟩:=au pG.out 5 (.int .i64 (0)) rfl;have yE:Hid (Sat W (lI.setCell ⟨q,5,none⟩ (.int .i64 (1+v1))) (sep (blk q (.cells (Ac.cells (⟨12,0,0,f,0,1+v1,0,0,0,0,0,ak,ak,ak,ak,0,0,ak,ak⟩:Ac)).toArray 36 (0,0))) (sep (bH B va ((pos+1:Nat):Int) day (.slice (some ⟨g,0,none⟩) N fc)) (sep (kn I) fr)))):=ah (by
        have h9:=pG.out.setCell 5 (.int .i64 (1+v1));have e9:(Ac.cells (⟨12,0,0,f,0,0,0,0,0,0,0,ak,ak,ak,ak,0,0,ak,ak⟩:Ac)).toArray.setIfInBounds 5 (.int .i64 (1+v1))=(Ac.cells (⟨12,0,0,f,0,1+v1,0,0,0,0,0,ak,ak,ak,ak,0,0,ak,ak⟩:Ac)).toArray:=by simp[Ac.cells]
        rw[e9] at h9;exact h9)
       go_wp2
       go_meet
       case rel=>exact⟨(⟨12,0,0,f,0,1+v1,0,0,0,0,0,ak,ak,ak,ak,0,0,ak,ak⟩:Ac),{ Pa.zero with k:=12,f:=f,p:=1+v1 },I,(pos+1:Nat),ah ⟨⟨rfl,rfl,rfl,rfl,rfl,rfl,rfl,rfl,rfl,rfl,rfl,aF _ _ _,aF _ _ _,aF _ _ _,aF _ _ _,dS _⟩,.Ir (by omega) hF (by omega) (by omega),rfl,(Mem.le_refl I),by have:=oz;omega,by have:=HP2;omega,yE.out⟩⟩
     ·as_aux_lemma=>
       obtain⟨hF1,hF2,-,-,jP⟩:=lV.out;have hob:ob=true:=by rw[←AB.out];rfl
       have hF:fC N f:=hF1 hob;have HC:Hid (Sat W wc (sep (blk q (.cells (Ac.cells (⟨13,0,0,f,0,0,0,0,0,0,0,ak,ak,ak,ak,0,0,ak,ak⟩:Ac)).toArray 36 (0,0))) (sep (bH B va (pos:Int) day (.slice (some ⟨g,0,none⟩) N fc)) (sep (kn I) fr)))):=ah jP;clear hF1 hF2 jP hob lV;have hb1:=bD l (pos:Nat) 3 (by omega);have jU:=ah (aQ va l (pos:Nat) 3 (by omega) (by omega) (by have:=qH;omega) (HV.out.mono (Mem.le_refl I)) (show Sat W wc (sep (bH B va ((pos:Nat):Int) day (.slice (some ⟨g,0,none⟩) N fc)) (sep (kn I) (sep (blk q (.cells (Ac.cells (⟨13,0,0,f,0,0,0,0,0,0,0,ak,ak,ak,ak,0,0,ak,ak⟩:Ac)).toArray 36 (0,0))) fr))) from dJ HC.out));obtain⟨v1,hv1⟩:=aB (dD l (pos:Nat) 3);rw[←hv1] at jU hb1;clear hv1;obtain⟨wJ,wK⟩:=hb1
       go_wp2_with fail
       refine jU.out.mono ?_;rintro e lI ⟨rfl,hn1⟩;have pG:Hid (Sat W lI (sep (blk q (.cells (Ac.cells (⟨13,0,0,f,0,0,0,0,0,0,0,ak,ak,ak,ak,0,0,ak,ak⟩:Ac)).toArray 36 (0,0))) (sep (bH B va ((pos+1:Nat):Int) day (.slice (some ⟨g,0,none⟩) N fc)) (sep (kn I) fr)))):=ah (dJ hn1);clear hn1 jU;obtain⟨UR,UU⟩:=au pG.out 7 (.int .i64 (0)) rfl;have Bg:Hid (Sat W (lI.setCell ⟨q,7,none⟩ (.int .i64 (v1))) (sep (blk q (.cells (Ac.cells (⟨13,0,0,f,0,0,0,v1,0,0,0,ak,ak,ak,ak,0,0,ak,ak⟩:Ac)).toArray 36 (0,0))) (sep (bH B va ((pos+1:Nat):Int) day (.slice (some ⟨g,0,none⟩) N fc)) (sep (kn I) fr)))):=ah (by
        have h9:=pG.out.setCell 7 (.int .i64 (v1));have e9:(Ac.cells (⟨13,0,0,f,0,0,0,0,0,0,0,ak,ak,ak,ak,0,0,ak,ak⟩:Ac)).toArray.setIfInBounds 7 (.int .i64 (v1))=(Ac.cells (⟨13,0,0,f,0,0,0,v1,0,0,0,ak,ak,ak,ak,0,0,ak,ak⟩:Ac)).toArray:=by simp[Ac.cells]
        rw[e9] at h9;exact h9)
       have hb2:=bD l (pos+1:Nat) 2 (by omega);have oZ:=ah (aQ va l (pos+1:Nat) 2 (by omega) (by omega) (by have:=qH;omega) (HV.out.mono (Mem.le_refl I)) (show Sat W (lI.setCell ⟨q,7,none⟩ (.int .i64 (v1))) (sep (bH B va ((pos+1:Nat):Int) day (.slice (some ⟨g,0,none⟩) N fc)) (sep (kn I) (sep (blk q (.cells (Ac.cells (⟨13,0,0,f,0,0,0,v1,0,0,0,ak,ak,ak,ak,0,0,ak,ak⟩:Ac)).toArray 36 (0,0))) fr))) from dJ Bg.out));obtain⟨v2,hv2⟩:=aB (dD l (pos+1:Nat) 2);rw[←hv2] at oZ hb2;clear hv2;obtain⟨NM,NP⟩:=hb2
       go_wp2_with fail
       refine oZ.out.mono ?_;rintro e wn2 ⟨rfl,hn2⟩;have HG2:Hid (Sat W wn2 (sep (blk q (.cells (Ac.cells (⟨13,0,0,f,0,0,0,v1,0,0,0,ak,ak,ak,ak,0,0,ak,ak⟩:Ac)).toArray 36 (0,0))) (sep (bH B va ((pos+1+1:Nat):Int) day (.slice (some ⟨g,0,none⟩) N fc)) (sep (kn I) fr)))):=ah (dJ hn2);clear hn2 oZ;obtain⟨acd,ace⟩:=au HG2.out 6 (.int .i64 (0)) rfl;have MN:Hid (Sat W (wn2.setCell ⟨q,6,none⟩ (.int .i64 (v2))) (sep (blk q (.cells (Ac.cells (⟨13,0,0,f,0,0,v2,v1,0,0,0,ak,ak,ak,ak,0,0,ak,ak⟩:Ac)).toArray 36 (0,0))) (sep (bH B va ((pos+1+1:Nat):Int) day (.slice (some ⟨g,0,none⟩) N fc)) (sep (kn I) fr)))):=ah (by
        have h9:=HG2.out.setCell 6 (.int .i64 (v2));have e9:(Ac.cells (⟨13,0,0,f,0,0,0,v1,0,0,0,ak,ak,ak,ak,0,0,ak,ak⟩:Ac)).toArray.setIfInBounds 6 (.int .i64 (v2))=(Ac.cells (⟨13,0,0,f,0,0,v2,v1,0,0,0,ak,ak,ak,ak,0,0,ak,ak⟩:Ac)).toArray:=by simp[Ac.cells]
        rw[e9] at h9;exact h9)
       obtain⟨sua,sub⟩:=au MN.out 7 (.int .i64 (v1)) rfl;obtain⟨t3,ht3⟩:∃b,(v1==2)=b:=⟨_,rfl⟩
       cases t3 with
       | true=>
        have hv1:v1=2:=by simpa using ht3
        have EC:=ah (uJ va l (pos+1+1:Nat) (by have:=qH;omega) (HV.out.mono (Mem.le_refl I)) (show Sat W (wn2.setCell ⟨q,6,none⟩ (.int .i64 (v2))) (sep (bH B va ((pos+1+1:Nat):Int) day (.slice (some ⟨g,0,none⟩) N fc)) (sep (kn I) (sep (blk q (.cells (Ac.cells (⟨13,0,0,f,0,0,v2,v1,0,0,0,ak,ak,ak,ak,0,0,ak,ak⟩:Ac)).toArray 36 (0,0))) fr))) from dJ MN.out))
        go_wp2_with fail
        refine EC.out.mono ?_;rintro e YT ⟨cl,ca,cn,cc,J2,pos2,rfl,hgc,hle2,hrc,hp1,hp2,hcl⟩;have HQ:Hid (Sat W YT (sep (blk q (.cells (Ac.cells (⟨13,0,0,f,0,0,v2,v1,0,0,0,ak,ak,ak,ak,0,0,ak,ak⟩:Ac)).toArray 36 (0,0))) (sep (bH B va (pos2:Int) day (.slice (some ⟨g,0,none⟩) N fc)) (sep (kn J2) fr)))):=ah (dJ hcl);obtain⟨sca,scb⟩:=au HQ.out 13 (.slice none 0 0) rfl;obtain⟨cs,hcs⟩:∃z:Sv,z=⟨ca,cn,cc⟩:=⟨_,rfl⟩
        have HR:Hid (Sat W (YT.setCell ⟨q,13,none⟩ (.slice ca cn cc)) (sep (blk q (.cells (Ac.cells (⟨13,0,0,f,0,0,v2,v1,0,0,0,ak,ak,⟨ca,cn,cc⟩,ak,0,0,ak,ak⟩:Ac)).toArray 36 (0,0))) (sep (bH B va (pos2:Int) day (.slice (some ⟨g,0,none⟩) N fc)) (sep (kn J2) fr)))):=ah (by
         have h9:=HQ.out.setCell 13 (.slice ca cn cc);have e9:(Ac.cells (⟨13,0,0,f,0,0,v2,v1,0,0,0,ak,ak,ak,ak,0,0,ak,ak⟩:Ac)).toArray.setIfInBounds 13 (.slice ca cn cc)=(Ac.cells (⟨13,0,0,f,0,0,v2,v1,0,0,0,ak,ak,⟨ca,cn,cc⟩,ak,0,0,ak,ak⟩:Ac)).toArray:=by simp[Ac.cells]
         rw[e9] at h9;exact h9)
        have HL2:=ah (And.intro hgc (And.intro hle2 (And.intro hrc (And.intro hp1 hp2))));clear hcl hgc hle2 hrc hp1 hp2 EC HQ hcs
        go_wp2
        go_meet
        case rel=>exact⟨(⟨13,0,0,f,0,0,v2,v1,0,0,0,ak,ak,⟨ca,cn,cc⟩,ak,0,0,ak,ak⟩:Ac),{ Pa.zero with k:=13,f:=f,q:=v2,u:=v1,cl:=cl },J2,pos2,ah ⟨⟨rfl,rfl,rfl,rfl,rfl,rfl,rfl,rfl,rfl,rfl,rfl,aF _ _ _,aF _ _ _,HL2.out.2.2.1,aF _ _ _,dS _⟩,.decide hF (by omega) (.inr ⟨hv1,HL2.out.1⟩),rfl,HL2.out.2.1,by have:=oz;have:=HL2.out.2.2.2.1;omega,by have:=HP2;have:=HL2.out.2.2.2.2;omega,HR.out⟩⟩
       | false=>
        have hv1:v1≠2:=by simpa using ht3
        go_wp2
        go_meet
        case rel=>exact⟨(⟨13,0,0,f,0,0,v2,v1,0,0,0,ak,ak,ak,ak,0,0,ak,ak⟩:Ac),{ Pa.zero with k:=13,f:=f,q:=v2,u:=v1 },I,(pos+1+1:Nat),ah ⟨⟨rfl,rfl,rfl,rfl,rfl,rfl,rfl,rfl,rfl,rfl,rfl,aF _ _ _,aF _ _ _,aF _ _ _,aF _ _ _,dS _⟩,.decide hF (by omega) (.inl ⟨by omega,rfl⟩),rfl,(Mem.le_refl I),by have:=oz;omega,by have:=HP2;omega,MN.out⟩⟩
     ·as_aux_lemma=>
       obtain⟨hF1,hF2,-,-,jP⟩:=lV.out;have hob:ob=true:=by rw[←AB.out];rfl
       have hF:fC N f:=hF1 hob;have HC:Hid (Sat W wc (sep (blk q (.cells (Ac.cells (⟨14,0,0,f,0,0,0,0,0,0,0,ak,ak,ak,ak,0,0,ak,ak⟩:Ac)).toArray 36 (0,0))) (sep (bH B va (pos:Int) day (.slice (some ⟨g,0,none⟩) N fc)) (sep (kn I) fr)))):=ah jP;clear hF1 hF2 jP hob lV;have hb1:=bD l (pos:Nat) 4 (by omega);have jU:=ah (aQ va l (pos:Nat) 4 (by omega) (by omega) (by have:=qH;omega) (HV.out.mono (Mem.le_refl I)) (show Sat W wc (sep (bH B va ((pos:Nat):Int) day (.slice (some ⟨g,0,none⟩) N fc)) (sep (kn I) (sep (blk q (.cells (Ac.cells (⟨14,0,0,f,0,0,0,0,0,0,0,ak,ak,ak,ak,0,0,ak,ak⟩:Ac)).toArray 36 (0,0))) fr))) from dJ HC.out));obtain⟨v1,hv1⟩:=aB (dD l (pos:Nat) 4);rw[←hv1] at jU hb1;clear hv1;obtain⟨wJ,wK⟩:=hb1
       go_wp2_with fail
       refine jU.out.mono ?_;rintro e lI ⟨rfl,hn1⟩;have pG:Hid (Sat W lI (sep (blk q (.cells (Ac.cells (⟨14,0,0,f,0,0,0,0,0,0,0,ak,ak,ak,ak,0,0,ak,ak⟩:Ac)).toArray 36 (0,0))) (sep (bH B va ((pos+1:Nat):Int) day (.slice (some ⟨g,0,none⟩) N fc)) (sep (kn I) fr)))):=ah (dJ hn1);clear hn1 jU;obtain⟨UO,UQ⟩:=au pG.out 5 (.int .i64 (0)) rfl;have yE:Hid (Sat W (lI.setCell ⟨q,5,none⟩ (.int .i64 (1+v1))) (sep (blk q (.cells (Ac.cells (⟨14,0,0,f,0,1+v1,0,0,0,0,0,ak,ak,ak,ak,0,0,ak,ak⟩:Ac)).toArray 36 (0,0))) (sep (bH B va ((pos+1:Nat):Int) day (.slice (some ⟨g,0,none⟩) N fc)) (sep (kn I) fr)))):=ah (by
        have h9:=pG.out.setCell 5 (.int .i64 (1+v1));have e9:(Ac.cells (⟨14,0,0,f,0,0,0,0,0,0,0,ak,ak,ak,ak,0,0,ak,ak⟩:Ac)).toArray.setIfInBounds 5 (.int .i64 (1+v1))=(Ac.cells (⟨14,0,0,f,0,1+v1,0,0,0,0,0,ak,ak,ak,ak,0,0,ak,ak⟩:Ac)).toArray:=by simp[Ac.cells]
        rw[e9] at h9;exact h9)
       go_wp2
       go_meet
       case rel=>exact⟨(⟨14,0,0,f,0,1+v1,0,0,0,0,0,ak,ak,ak,ak,0,0,ak,ak⟩:Ac),{ Pa.zero with k:=14,f:=f,p:=1+v1 },I,(pos+1:Nat),ah ⟨⟨rfl,rfl,rfl,rfl,rfl,rfl,rfl,rfl,rfl,rfl,rfl,aF _ _ _,aF _ _ _,aF _ _ _,aF _ _ _,dS _⟩,.Ir (by omega) hF (by omega) (by omega),rfl,(Mem.le_refl I),by have:=oz;omega,by have:=HP2;omega,yE.out⟩⟩
     ·as_aux_lemma=>
       obtain⟨hF1,hF2,-,-,jP⟩:=lV.out;have hob:ob=true:=by rw[←AB.out];rfl
       have hF:fC N f:=hF1 hob;have HC:Hid (Sat W wc (sep (blk q (.cells (Ac.cells (⟨15,0,0,f,0,0,0,0,0,0,0,ak,ak,ak,ak,0,0,ak,ak⟩:Ac)).toArray 36 (0,0))) (sep (bH B va (pos:Int) day (.slice (some ⟨g,0,none⟩) N fc)) (sep (kn I) fr)))):=ah jP;clear hF1 hF2 jP hob lV;have EC:=ah (uJ va l (pos:Nat) (by have:=qH;omega) (HV.out.mono (Mem.le_refl I)) (show Sat W wc (sep (bH B va ((pos:Nat):Int) day (.slice (some ⟨g,0,none⟩) N fc)) (sep (kn I) (sep (blk q (.cells (Ac.cells (⟨15,0,0,f,0,0,0,0,0,0,0,ak,ak,ak,ak,0,0,ak,ak⟩:Ac)).toArray 36 (0,0))) fr))) from dJ HC.out))
       go_wp2_with fail
       refine EC.out.mono ?_;rintro e YT ⟨cl,ca,cn,cc,J2,pos2,rfl,hgc,hle2,hrc,hp1,hp2,hcl⟩;have HQ:Hid (Sat W YT (sep (blk q (.cells (Ac.cells (⟨15,0,0,f,0,0,0,0,0,0,0,ak,ak,ak,ak,0,0,ak,ak⟩:Ac)).toArray 36 (0,0))) (sep (bH B va (pos2:Int) day (.slice (some ⟨g,0,none⟩) N fc)) (sep (kn J2) fr)))):=ah (dJ hcl);obtain⟨sca,scb⟩:=au HQ.out 13 (.slice none 0 0) rfl;obtain⟨cs,hcs⟩:∃z:Sv,z=⟨ca,cn,cc⟩:=⟨_,rfl⟩
       have HR:Hid (Sat W (YT.setCell ⟨q,13,none⟩ (.slice ca cn cc)) (sep (blk q (.cells (Ac.cells (⟨15,0,0,f,0,0,0,0,0,0,0,ak,ak,⟨ca,cn,cc⟩,ak,0,0,ak,ak⟩:Ac)).toArray 36 (0,0))) (sep (bH B va (pos2:Int) day (.slice (some ⟨g,0,none⟩) N fc)) (sep (kn J2) fr)))):=ah (by
        have h9:=HQ.out.setCell 13 (.slice ca cn cc);have e9:(Ac.cells (⟨15,0,0,f,0,0,0,0,0,0,0,ak,ak,ak,ak,0,0,ak,ak⟩:Ac)).toArray.setIfInBounds 13 (.slice ca cn cc)=(Ac.cells (⟨15,0,0,f,0,0,0,0,0,0,0,ak,ak,⟨ca,cn,cc⟩,ak,0,0,ak,ak⟩:Ac)).toArray:=by simp[Ac.cells]
        rw[e9] at h9;exact h9)
       have HL2:=ah (And.intro hgc (And.intro hle2 (And.intro hrc (And.intro hp1 hp2))));clear hcl hgc hle2 hrc hp1 hp2 EC HQ hcs
       go_wp2
       go_meet
       case rel=>exact⟨(⟨15,0,0,f,0,0,0,0,0,0,0,ak,ak,⟨ca,cn,cc⟩,ak,0,0,ak,ak⟩:Ac),{ Pa.zero with k:=15,f:=f,cl:=cl },J2,pos2,ah ⟨⟨rfl,rfl,rfl,rfl,rfl,rfl,rfl,rfl,rfl,rfl,rfl,aF _ _ _,aF _ _ _,HL2.out.2.2.1,aF _ _ _,dS _⟩,.list (by omega) hF HL2.out.1,rfl,HL2.out.2.1,by have:=oz;have:=HL2.out.2.2.2.1;omega,by have:=HP2;have:=HL2.out.2.2.2.2;omega,HR.out⟩⟩
     ·as_aux_lemma=>
       obtain⟨hF1,hF2,-,-,jP⟩:=lV.out;have hob:ob=true:=by rw[←AB.out];rfl
       have hF:fC N f:=hF1 hob;have HC:Hid (Sat W wc (sep (blk q (.cells (Ac.cells (⟨16,0,0,f,0,0,0,0,0,0,0,ak,ak,ak,ak,0,0,ak,ak⟩:Ac)).toArray 36 (0,0))) (sep (bH B va (pos:Int) day (.slice (some ⟨g,0,none⟩) N fc)) (sep (kn I) fr)))):=ah jP;clear hF1 hF2 jP hob lV;have hb1:=bD l (pos:Nat) 3 (by omega);have jU:=ah (aQ va l (pos:Nat) 3 (by omega) (by omega) (by have:=qH;omega) (HV.out.mono (Mem.le_refl I)) (show Sat W wc (sep (bH B va ((pos:Nat):Int) day (.slice (some ⟨g,0,none⟩) N fc)) (sep (kn I) (sep (blk q (.cells (Ac.cells (⟨16,0,0,f,0,0,0,0,0,0,0,ak,ak,ak,ak,0,0,ak,ak⟩:Ac)).toArray 36 (0,0))) fr))) from dJ HC.out));obtain⟨v1,hv1⟩:=aB (dD l (pos:Nat) 3);rw[←hv1] at jU hb1;clear hv1;obtain⟨wJ,wK⟩:=hb1
       go_wp2_with fail
       refine jU.out.mono ?_;rintro e lI ⟨rfl,hn1⟩;have pG:Hid (Sat W lI (sep (blk q (.cells (Ac.cells (⟨16,0,0,f,0,0,0,0,0,0,0,ak,ak,ak,ak,0,0,ak,ak⟩:Ac)).toArray 36 (0,0))) (sep (bH B va ((pos+1:Nat):Int) day (.slice (some ⟨g,0,none⟩) N fc)) (sep (kn I) fr)))):=ah (dJ hn1);clear hn1 jU;obtain⟨UO,UQ⟩:=au pG.out 5 (.int .i64 (0)) rfl;have yE:Hid (Sat W (lI.setCell ⟨q,5,none⟩ (.int .i64 (1+v1))) (sep (blk q (.cells (Ac.cells (⟨16,0,0,f,0,1+v1,0,0,0,0,0,ak,ak,ak,ak,0,0,ak,ak⟩:Ac)).toArray 36 (0,0))) (sep (bH B va ((pos+1:Nat):Int) day (.slice (some ⟨g,0,none⟩) N fc)) (sep (kn I) fr)))):=ah (by
        have h9:=pG.out.setCell 5 (.int .i64 (1+v1));have e9:(Ac.cells (⟨16,0,0,f,0,0,0,0,0,0,0,ak,ak,ak,ak,0,0,ak,ak⟩:Ac)).toArray.setIfInBounds 5 (.int .i64 (1+v1))=(Ac.cells (⟨16,0,0,f,0,1+v1,0,0,0,0,0,ak,ak,ak,ak,0,0,ak,ak⟩:Ac)).toArray:=by simp[Ac.cells]
        rw[e9] at h9;exact h9)
       have hb2:=bD l (pos+1:Nat) 2 (by omega);obtain⟨v2,hv2⟩:=aB (dD l (pos+1:Nat) 2);rw[←hv2] at hb2;obtain⟨NM,NP⟩:=hb2
       go_upto_region 35 with (fail)
       have hd:=yE.out.drew;obtain⟨wd,hwd⟩:=aB (((lI.setCell ⟨q,5,none⟩ (.int .i64 (1+v1)))).drew);rw[←hwd] at hd;have oD:=ah hwd;have oZ:=ah (aQ va l (pos+1:Nat) 2 (by omega) (by omega) (by have:=qH;omega) (HV.out.mono (Mem.le_refl I)) (show Sat W wd (sep (bH B va ((pos+1:Nat):Int) day (.slice (some ⟨g,0,none⟩) N fc)) (sep (kn I) (sep (blk q (.cells (Ac.cells (⟨16,0,0,f,0,1+v1,0,0,0,0,0,ak,ak,ak,ak,0,0,ak,ak⟩:Ac)).toArray 36 (0,0))) fr))) from dJ hd));rw[←hv2] at oZ;have hS0:wd.cell? ⟨q,5,none⟩=some (.int .i64 (1+v1)):=(au hd 5 _ rfl).1;clear hv2 hd hwd yE;have hw1:IntKind.i64.wrap (1+v1+1)=1+v1+1:=IntWalk.i64_in _ (by omega);have hw2:IntKind.i64.wrap (1+v1+1+v2)=1+v1+1+v2:=IntWalk.i64_in _ (by omega);refine aG rfl (fun w'=>w'.cell? ⟨q,5,none⟩=some (.int .i64 (1+v1))) [(0,.p),(1,.s),(2,.p),(3,.p),(4,.e true),(5,.p),(6,.p),(7,.e false)] (by kernel_rfl) ?_;rw[←oD.out];refine bF ?_
       (refine jH rfl rfl (fun K hK=>?_);go_simp)
       refine oZ.out.mono ?_;rintro e wn2 ⟨rfl,hn2⟩;have HG2:Hid (Sat W wn2 (sep (blk q (.cells (Ac.cells (⟨16,0,0,f,0,1+v1,0,0,0,0,0,ak,ak,ak,ak,0,0,ak,ak⟩:Ac)).toArray 36 (0,0))) (sep (bH B va ((pos+1+1:Nat):Int) day (.slice (some ⟨g,0,none⟩) N fc)) (sep (kn I) fr)))):=ah (dJ hn2);clear hn2 oZ
       (refine hK _ _ (fun _=>(au HG2.out 5 _ rfl).1) ?_;clear hK K;(try simp only[Act.put,lsA,lsB,kJ]))
       refine bF ?_;obtain⟨acd,ace⟩:=au HG2.out 6 (.int .i64 (0)) rfl;have MN:Hid (Sat W (wn2.setCell ⟨q,6,none⟩ (.int .i64 (1+v1+1+v2))) (sep (blk q (.cells (Ac.cells (⟨16,0,0,f,0,1+v1,1+v1+1+v2,0,0,0,0,ak,ak,ak,ak,0,0,ak,ak⟩:Ac)).toArray 36 (0,0))) (sep (bH B va ((pos+1+1:Nat):Int) day (.slice (some ⟨g,0,none⟩) N fc)) (sep (kn I) fr)))):=ah (by
        have h9:=HG2.out.setCell 6 (.int .i64 (1+v1+1+v2));have e9:(Ac.cells (⟨16,0,0,f,0,1+v1,0,0,0,0,0,ak,ak,ak,ak,0,0,ak,ak⟩:Ac)).toArray.setIfInBounds 6 (.int .i64 (1+v1+1+v2))=(Ac.cells (⟨16,0,0,f,0,1+v1,1+v1+1+v2,0,0,0,0,ak,ak,ak,ak,0,0,ak,ak⟩:Ac)).toArray:=by simp[Ac.cells]
        rw[e9] at h9;exact h9)
       (refine jH rfl rfl (fun K hK=>?_);go_simp)
       refine dQ ?_;clear hK K;refine dN ?_;clear hS0 hw1 hw2;have hal3:=MN.out.alloc (.cells #[.int .i64 1,.int .i64 1,.int .i64 1,.int .i64 2,.int .i64 1,.int .i64 3,.int .i64 2,.int .i64 3] 26)
       try simp only[World.size_setCell] at hal3
       have Sj:=ah hal3;clear hal3;have hb3:=bD l (pos+1+1:Nat) 4 (by omega);have yD:=ah (aQ va l (pos+1+1:Nat) 4 (by omega) (by omega) (by have:=qH;omega) (HV.out.mono (Mem.le_refl I)) (show Sat W ((wn2.setCell ⟨q,6,none⟩ (.int .i64 (1+v1+1+v2))).alloc (.cells #[.int .i64 1,.int .i64 1,.int .i64 1,.int .i64 2,.int .i64 1,.int .i64 3,.int .i64 2,.int .i64 3] 26)) (sep (bH B va ((pos+1+1:Nat):Int) day (.slice (some ⟨g,0,none⟩) N fc)) (sep (kn I) (sep (blk wn2.heap.size (.cells #[.int .i64 1,.int .i64 1,.int .i64 1,.int .i64 2,.int .i64 1,.int .i64 3,.int .i64 2,.int .i64 3] 26 (0,0))) (sep (blk q (.cells (Ac.cells (⟨16,0,0,f,0,1+v1,1+v1+1+v2,0,0,0,0,ak,ak,ak,ak,0,0,ak,ak⟩:Ac)).toArray 36 (0,0))) fr)))) from dJ Sj.out));obtain⟨v3,hv3⟩:=aB (dD l (pos+1+1:Nat) 4);rw[←hv3] at yD hb3;clear hv3;obtain⟨Zr,Zt⟩:=hb3
       go_wp2_with fail
       refine yD.out.mono ?_;rintro e L6 ⟨rfl,hn3⟩;have MC:Hid (Sat W L6 (sep (blk wn2.heap.size (.cells #[.int .i64 1,.int .i64 1,.int .i64 1,.int .i64 2,.int .i64 1,.int .i64 3,.int .i64 2,.int .i64 3] 26 (0,0))) (sep (blk q (.cells (Ac.cells (⟨16,0,0,f,0,1+v1,1+v1+1+v2,0,0,0,0,ak,ak,ak,ak,0,0,ak,ak⟩:Ac)).toArray 36 (0,0))) (sep (bH B va ((pos+1+1+1:Nat):Int) day (.slice (some ⟨g,0,none⟩) N fc)) (sep (kn I) fr))))):=ah (dJ hn3);clear hn3 yD;obtain⟨r3,rfl⟩:∃r:Nat,v3=(r:Int):=⟨v3.toNat,by omega⟩
       obtain⟨sn,sd,hc1,hc2,hsh⟩:∃sn sd:Int,L6.cell? ⟨wn2.heap.size,r3*2,none⟩=some (.int .i64 sn)∧L6.cell? ⟨wn2.heap.size,r3*2+1,none⟩=some (.int .i64 sd)∧MK sn sd:=by
        have h9:=MC.out;rcases (show r3=0∨r3=1∨r3=2∨r3=3 by omega) with rfl|rfl|rfl|rfl
        ·exact⟨1,1,h9.cell 0,h9.cell 1,.inl ⟨rfl,rfl⟩⟩
        ·exact⟨1,2,h9.cell 2,h9.cell 3,.inr (.inl ⟨rfl,rfl⟩)⟩
        ·exact⟨1,3,h9.cell 4,h9.cell 5,.inr (.inr (.inl ⟨rfl,rfl⟩))⟩
        ·exact⟨2,3,h9.cell 6,h9.cell 7,.inr (.inr (.inr ⟨rfl,rfl⟩))⟩
       have abR:(r3:Int)<4:=by omega
       have HF3:=ah MC.out.forget;clear MC Sj;obtain⟨aga,agb⟩:=au HF3.out 9 (.int .i64 (0)) rfl;have XJ:Hid (Sat W (L6.setCell ⟨q,9,none⟩ (.int .i64 (sn))) (sep (blk q (.cells (Ac.cells (⟨16,0,0,f,0,1+v1,1+v1+1+v2,0,0,sn,0,ak,ak,ak,ak,0,0,ak,ak⟩:Ac)).toArray 36 (0,0))) (sep (bH B va ((pos+1+1+1:Nat):Int) day (.slice (some ⟨g,0,none⟩) N fc)) (sep (kn I) fr)))):=ah (by
        have h9:=HF3.out.setCell 9 (.int .i64 (sn));have e9:(Ac.cells (⟨16,0,0,f,0,1+v1,1+v1+1+v2,0,0,0,0,ak,ak,ak,ak,0,0,ak,ak⟩:Ac)).toArray.setIfInBounds 9 (.int .i64 (sn))=(Ac.cells (⟨16,0,0,f,0,1+v1,1+v1+1+v2,0,0,sn,0,ak,ak,ak,ak,0,0,ak,ak⟩:Ac)).toArray:=by simp[Ac.cells]
        rw[e9] at h9;exact h9)
       obtain⟨sda,sdb⟩:=au HF3.out 10 (.int .i64 0) rfl;obtain⟨af8,af9⟩:=au XJ.out 10 (.int .i64 (0)) rfl;have aaR:Hid (Sat W ((L6.setCell ⟨q,9,none⟩ (.int .i64 (sn))).setCell ⟨q,10,none⟩ (.int .i64 (sd))) (sep (blk q (.cells (Ac.cells (⟨16,0,0,f,0,1+v1,1+v1+1+v2,0,0,sn,sd,ak,ak,ak,ak,0,0,ak,ak⟩:Ac)).toArray 36 (0,0))) (sep (bH B va ((pos+1+1+1:Nat):Int) day (.slice (some ⟨g,0,none⟩) N fc)) (sep (kn I) fr)))):=ah (by
        have h9:=XJ.out.setCell 10 (.int .i64 (sd));have e9:(Ac.cells (⟨16,0,0,f,0,1+v1,1+v1+1+v2,0,0,sn,0,ak,ak,ak,ak,0,0,ak,ak⟩:Ac)).toArray.setIfInBounds 10 (.int .i64 (sd))=(Ac.cells (⟨16,0,0,f,0,1+v1,1+v1+1+v2,0,0,sn,sd,ak,ak,ak,ak,0,0,ak,ak⟩:Ac)).toArray:=by simp[Ac.cells]
        rw[e9] at h9;exact h9)
       go_wp2
       go_meet
       case rel=>exact⟨(⟨16,0,0,f,0,1+v1,1+v1+1+v2,0,0,sn,sd,ak,ak,ak,ak,0,0,ak,ak⟩:Ac),{ Pa.zero with k:=16,f:=f,p:=1+v1,q:=1+v1+1+v2,sn:=sn,sd:=sd },I,(pos+1+1+1:Nat),ah ⟨⟨rfl,rfl,rfl,rfl,rfl,rfl,rfl,rfl,rfl,rfl,rfl,aF _ _ _,aF _ _ _,aF _ _ _,aF _ _ _,dS _⟩,.transfer hF (by omega) (by omega) (by omega) (by omega) hsh,rfl,(Mem.le_refl I),by have:=oz;omega,by have:=HP2;omega,aaR.out⟩⟩
     ·as_aux_lemma=>
       obtain⟨hF1,hF2,-,-,jP⟩:=lV.out;have hob:ob=true:=by rw[←AB.out];rfl
       have hF:fC N f:=hF1 hob;have HC:Hid (Sat W wc (sep (blk q (.cells (Ac.cells (⟨17,0,0,f,0,0,0,0,0,0,0,ak,ak,ak,ak,0,0,ak,ak⟩:Ac)).toArray 36 (0,0))) (sep (bH B va (pos:Int) day (.slice (some ⟨g,0,none⟩) N fc)) (sep (kn I) fr)))):=ah jP;clear hF1 hF2 jP hob lV;have hb1:=bD l (pos:Nat) 3 (by omega);have jU:=ah (aQ va l (pos:Nat) 3 (by omega) (by omega) (by have:=qH;omega) (HV.out.mono (Mem.le_refl I)) (show Sat W wc (sep (bH B va ((pos:Nat):Int) day (.slice (some ⟨g,0,none⟩) N fc)) (sep (kn I) (sep (blk q (.cells (Ac.cells (⟨17,0,0,f,0,0,0,0,0,0,0,ak,ak,ak,ak,0,0,ak,ak⟩:Ac)).toArray 36 (0,0))) fr))) from dJ HC.out));obtain⟨v1,hv1⟩:=aB (dD l (pos:Nat) 3);rw[←hv1] at jU hb1;clear hv1;obtain⟨wJ,wK⟩:=hb1
       go_wp2_with fail
       refine jU.out.mono ?_;rintro e lI ⟨rfl,hn1⟩;have pG:Hid (Sat W lI (sep (blk q (.cells (Ac.cells (⟨17,0,0,f,0,0,0,0,0,0,0,ak,ak,ak,ak,0,0,ak,ak⟩:Ac)).toArray 36 (0,0))) (sep (bH B va ((pos+1:Nat):Int) day (.slice (some ⟨g,0,none⟩) N fc)) (sep (kn I) fr)))):=ah (dJ hn1);clear hn1 jU;obtain⟨UO,UQ⟩:=au pG.out 5 (.int .i64 (0)) rfl;have yE:Hid (Sat W (lI.setCell ⟨q,5,none⟩ (.int .i64 (1+v1))) (sep (blk q (.cells (Ac.cells (⟨17,0,0,f,0,1+v1,0,0,0,0,0,ak,ak,ak,ak,0,0,ak,ak⟩:Ac)).toArray 36 (0,0))) (sep (bH B va ((pos+1:Nat):Int) day (.slice (some ⟨g,0,none⟩) N fc)) (sep (kn I) fr)))):=ah (by
        have h9:=pG.out.setCell 5 (.int .i64 (1+v1));have e9:(Ac.cells (⟨17,0,0,f,0,0,0,0,0,0,0,ak,ak,ak,ak,0,0,ak,ak⟩:Ac)).toArray.setIfInBounds 5 (.int .i64 (1+v1))=(Ac.cells (⟨17,0,0,f,0,1+v1,0,0,0,0,0,ak,ak,ak,ak,0,0,ak,ak⟩:Ac)).toArray:=by simp[Ac.cells]
        rw[e9] at h9;exact h9)
       have hb2:=bD l (pos+1:Nat) 2 (by omega);obtain⟨v2,hv2⟩:=aB (dD l (pos+1:Nat) 2);rw[←hv2] at hb2;obtain⟨NM,NP⟩:=hb2
       go_upto_region 39 with (fail)
       have hd:=yE.out.drew;obtain⟨wd,hwd⟩:=aB (((lI.setCell ⟨q,5,none⟩ (.int .i64 (1+v1)))).drew);rw[←hwd] at hd;have oD:=ah hwd;have oZ:=ah (aQ va l (pos+1:Nat) 2 (by omega) (by omega) (by have:=qH;omega) (HV.out.mono (Mem.le_refl I)) (show Sat W wd (sep (bH B va ((pos+1:Nat):Int) day (.slice (some ⟨g,0,none⟩) N fc)) (sep (kn I) (sep (blk q (.cells (Ac.cells (⟨17,0,0,f,0,1+v1,0,0,0,0,0,ak,ak,ak,ak,0,0,ak,ak⟩:Ac)).toArray 36 (0,0))) fr))) from dJ hd));rw[←hv2] at oZ;have hS0:wd.cell? ⟨q,5,none⟩=some (.int .i64 (1+v1)):=(au hd 5 _ rfl).1;clear hv2 hd hwd yE;have hw1:IntKind.i64.wrap (1+v1+1)=1+v1+1:=IntWalk.i64_in _ (by omega);have hw2:IntKind.i64.wrap (1+v1+1+v2)=1+v1+1+v2:=IntWalk.i64_in _ (by omega);refine aG rfl (fun w'=>w'.cell? ⟨q,5,none⟩=some (.int .i64 (1+v1))) [(0,.p),(1,.s),(2,.p),(3,.p),(4,.e true),(5,.p),(6,.p),(7,.e false)] (by kernel_rfl) ?_;rw[←oD.out];refine bF ?_
       (refine jH rfl rfl (fun K hK=>?_);go_simp)
       refine oZ.out.mono ?_;rintro e wn2 ⟨rfl,hn2⟩;have HG2:Hid (Sat W wn2 (sep (blk q (.cells (Ac.cells (⟨17,0,0,f,0,1+v1,0,0,0,0,0,ak,ak,ak,ak,0,0,ak,ak⟩:Ac)).toArray 36 (0,0))) (sep (bH B va ((pos+1+1:Nat):Int) day (.slice (some ⟨g,0,none⟩) N fc)) (sep (kn I) fr)))):=ah (dJ hn2);clear hn2 oZ
       (refine hK _ _ (fun _=>(au HG2.out 5 _ rfl).1) ?_;clear hK K;(try simp only[Act.put,lsA,lsB,kJ]))
       refine bF ?_;obtain⟨acd,ace⟩:=au HG2.out 6 (.int .i64 (0)) rfl;have MN:Hid (Sat W (wn2.setCell ⟨q,6,none⟩ (.int .i64 (1+v1+1+v2))) (sep (blk q (.cells (Ac.cells (⟨17,0,0,f,0,1+v1,1+v1+1+v2,0,0,0,0,ak,ak,ak,ak,0,0,ak,ak⟩:Ac)).toArray 36 (0,0))) (sep (bH B va ((pos+1+1:Nat):Int) day (.slice (some ⟨g,0,none⟩) N fc)) (sep (kn I) fr)))):=ah (by
        have h9:=HG2.out.setCell 6 (.int .i64 (1+v1+1+v2));have e9:(Ac.cells (⟨17,0,0,f,0,1+v1,0,0,0,0,0,ak,ak,ak,ak,0,0,ak,ak⟩:Ac)).toArray.setIfInBounds 6 (.int .i64 (1+v1+1+v2))=(Ac.cells (⟨17,0,0,f,0,1+v1,1+v1+1+v2,0,0,0,0,ak,ak,ak,ak,0,0,ak,ak⟩:Ac)).toArray:=by simp[Ac.cells]
        rw[e9] at h9;exact h9)
       (refine jH rfl rfl (fun K hK=>?_);go_simp)
       refine dQ ?_;clear hK K;refine dN ?_;clear hS0 hw1 hw2;have hb3:=bD l (pos+1+1:Nat) 2000 (by omega);have yD:=ah (aQ va l (pos+1+1:Nat) 2000 (by omega) (by omega) (by have:=qH;omega) (HV.out.mono (Mem.le_refl I)) (show Sat W (wn2.setCell ⟨q,6,none⟩ (.int .i64 (1+v1+1+v2))) (sep (bH B va ((pos+1+1:Nat):Int) day (.slice (some ⟨g,0,none⟩) N fc)) (sep (kn I) (sep (blk q (.cells (Ac.cells (⟨17,0,0,f,0,1+v1,1+v1+1+v2,0,0,0,0,ak,ak,ak,ak,0,0,ak,ak⟩:Ac)).toArray 36 (0,0))) fr))) from dJ MN.out));obtain⟨v3,hv3⟩:=aB (dD l (pos+1+1:Nat) 2000);rw[←hv3] at yD hb3;clear hv3;obtain⟨Zr,Zt⟩:=hb3
       go_wp2_with fail
       refine yD.out.mono ?_;rintro e L6 ⟨rfl,hn3⟩;have MC:Hid (Sat W L6 (sep (blk q (.cells (Ac.cells (⟨17,0,0,f,0,1+v1,1+v1+1+v2,0,0,0,0,ak,ak,ak,ak,0,0,ak,ak⟩:Ac)).toArray 36 (0,0))) (sep (bH B va ((pos+1+1+1:Nat):Int) day (.slice (some ⟨g,0,none⟩) N fc)) (sep (kn I) fr)))):=ah (dJ hn3);clear hn3 yD;obtain⟨ahU,ahV⟩:=au MC.out 7 (.int .i64 (0)) rfl;have adh:Hid (Sat W (L6.setCell ⟨q,7,none⟩ (.int .i64 (v3))) (sep (blk q (.cells (Ac.cells (⟨17,0,0,f,0,1+v1,1+v1+1+v2,v3,0,0,0,ak,ak,ak,ak,0,0,ak,ak⟩:Ac)).toArray 36 (0,0))) (sep (bH B va ((pos+1+1+1:Nat):Int) day (.slice (some ⟨g,0,none⟩) N fc)) (sep (kn I) fr)))):=ah (by
        have h9:=MC.out.setCell 7 (.int .i64 (v3));have e9:(Ac.cells (⟨17,0,0,f,0,1+v1,1+v1+1+v2,0,0,0,0,ak,ak,ak,ak,0,0,ak,ak⟩:Ac)).toArray.setIfInBounds 7 (.int .i64 (v3))=(Ac.cells (⟨17,0,0,f,0,1+v1,1+v1+1+v2,v3,0,0,0,ak,ak,ak,ak,0,0,ak,ak⟩:Ac)).toArray:=by simp[Ac.cells]
        rw[e9] at h9;exact h9)
       go_wp2
       go_meet
       case rel=>exact⟨(⟨17,0,0,f,0,1+v1,1+v1+1+v2,v3,0,0,0,ak,ak,ak,ak,0,0,ak,ak⟩:Ac),{ Pa.zero with k:=17,f:=f,p:=1+v1,q:=1+v1+1+v2,u:=v3 },I,(pos+1+1+1:Nat),ah ⟨⟨rfl,rfl,rfl,rfl,rfl,rfl,rfl,rfl,rfl,rfl,rfl,aF _ _ _,aF _ _ _,aF _ _ _,aF _ _ _,dS _⟩,.Ii hF (by omega) (by omega) (by omega) (by omega) (by omega) (by omega),rfl,(Mem.le_refl I),by have:=oz;omega,by have:=HP2;omega,adh.out⟩⟩
     ·as_aux_lemma=>
       obtain⟨hF1,hF2,-,-,jP⟩:=lV.out;have hob:ob=true:=by rw[←AB.out];rfl
       have hF:fC N f:=hF1 hob;have HC:Hid (Sat W wc (sep (blk q (.cells (Ac.cells (⟨18,0,0,f,0,0,0,0,0,0,0,ak,ak,ak,ak,0,0,ak,ak⟩:Ac)).toArray 36 (0,0))) (sep (bH B va (pos:Int) day (.slice (some ⟨g,0,none⟩) N fc)) (sep (kn I) fr)))):=ah jP;clear hF1 hF2 jP hob lV;have hb1:=bD l (pos:Nat) 2 (by omega);have jU:=ah (aQ va l (pos:Nat) 2 (by omega) (by omega) (by have:=qH;omega) (HV.out.mono (Mem.le_refl I)) (show Sat W wc (sep (bH B va ((pos:Nat):Int) day (.slice (some ⟨g,0,none⟩) N fc)) (sep (kn I) (sep (blk q (.cells (Ac.cells (⟨18,0,0,f,0,0,0,0,0,0,0,ak,ak,ak,ak,0,0,ak,ak⟩:Ac)).toArray 36 (0,0))) fr))) from dJ HC.out));obtain⟨v1,hv1⟩:=aB (dD l (pos:Nat) 2);rw[←hv1] at jU hb1;clear hv1;obtain⟨wJ,wK⟩:=hb1
       go_wp2_with fail
       refine jU.out.mono ?_;rintro e lI ⟨rfl,hn1⟩;have pG:Hid (Sat W lI (sep (blk q (.cells (Ac.cells (⟨18,0,0,f,0,0,0,0,0,0,0,ak,ak,ak,ak,0,0,ak,ak⟩:Ac)).toArray 36 (0,0))) (sep (bH B va ((pos+1:Nat):Int) day (.slice (some ⟨g,0,none⟩) N fc)) (sep (kn I) fr)))):=ah (dJ hn1);clear hn1 jU;obtain⟨UR,UU⟩:=au pG.out 7 (.int .i64 (0)) rfl;have Bg:Hid (Sat W (lI.setCell ⟨q,7,none⟩ (.int .i64 (v1))) (sep (blk q (.cells (Ac.cells (⟨18,0,0,f,0,0,0,v1,0,0,0,ak,ak,ak,ak,0,0,ak,ak⟩:Ac)).toArray 36 (0,0))) (sep (bH B va ((pos+1:Nat):Int) day (.slice (some ⟨g,0,none⟩) N fc)) (sep (kn I) fr)))):=ah (by
        have h9:=pG.out.setCell 7 (.int .i64 (v1));have e9:(Ac.cells (⟨18,0,0,f,0,0,0,0,0,0,0,ak,ak,ak,ak,0,0,ak,ak⟩:Ac)).toArray.setIfInBounds 7 (.int .i64 (v1))=(Ac.cells (⟨18,0,0,f,0,0,0,v1,0,0,0,ak,ak,ak,ak,0,0,ak,ak⟩:Ac)).toArray:=by simp[Ac.cells]
        rw[e9] at h9;exact h9)
       go_wp2
       go_meet
       case rel=>exact⟨(⟨18,0,0,f,0,0,0,v1,0,0,0,ak,ak,ak,ak,0,0,ak,ak⟩:Ac),{ Pa.zero with k:=18,f:=f,u:=v1 },I,(pos+1:Nat),ah ⟨⟨rfl,rfl,rfl,rfl,rfl,rfl,rfl,rfl,rfl,rfl,rfl,aF _ _ _,aF _ _ _,aF _ _ _,aF _ _ _,dS _⟩,.order (by omega) hF (by omega) (by omega) (by omega),rfl,(Mem.le_refl I),by have:=oz;omega,by have:=HP2;omega,Bg.out⟩⟩
     ·as_aux_lemma=>
       obtain⟨hF1,hF2,-,-,jP⟩:=lV.out;have hob:ob=false:=by rw[←AB.out];rfl
       obtain rfl:f=0:=hF2 hob;have HC:Hid (Sat W wc (sep (blk q (.cells (Ac.cells (⟨19,0,0,0,0,0,0,0,0,0,0,ak,ak,ak,ak,0,0,ak,ak⟩:Ac)).toArray 36 (0,0))) (sep (bH B va (pos:Int) day (.slice (some ⟨g,0,none⟩) N fc)) (sep (kn I) fr)))):=ah jP;clear hF1 hF2 jP hob lV;have vY:=ah (wG va l (pos:Nat) (by have:=qH;omega) (HV.out.mono (Mem.le_refl I)) (show Sat W wc (sep (bH B va ((pos:Nat):Int) day (.slice (some ⟨g,0,none⟩) N fc)) (sep (kn I) (sep (blk q (.cells (Ac.cells (⟨19,0,0,0,0,0,0,0,0,0,0,ak,ak,ak,ak,0,0,ak,ak⟩:Ac)).toArray 36 (0,0))) fr))) from dJ HC.out))
       go_wp2_with fail
       refine vY.out.mono ?_;rintro e wf ⟨gf,fo,fn,fi,fk,J2,rfl,hgf,hle2,PK,hf⟩;have HQ:Hid (Sat W wf (sep (blk q (.cells (Ac.cells (⟨19,0,0,0,0,0,0,0,0,0,0,ak,ak,ak,ak,0,0,ak,ak⟩:Ac)).toArray 36 (0,0))) (sep (bH B va ((pos+1:Nat):Int) day (.slice (some ⟨g,0,none⟩) N fc)) (sep (kn J2) fr)))):=ah (dJ hf);obtain⟨ah7,ah8⟩:=au HQ.out 15 (.int .i64 0) rfl;obtain⟨ah9,x16b⟩:=au HQ.out 16 (.int .i64 0) rfl;obtain⟨aia,aib⟩:=au HQ.out 17 (.slice none 0 0) rfl;obtain⟨aic,aie⟩:=au HQ.out 18 (.slice none 0 0) rfl;have HR:Hid (Sat W ((((wf.setCell ⟨q,15,none⟩ (.int .i64 fo)).setCell ⟨q,16,none⟩ (.int .i64 fn)).setCell ⟨q,17,none⟩ (.slice fi.a fi.n fi.c)).setCell ⟨q,18,none⟩ (.slice fk.a fk.n fk.c)) (sep (blk q (.cells (Ac.cells (⟨19,0,0,0,0,0,0,0,0,0,0,ak,ak,ak,ak,fo,fn,fi,fk⟩:Ac)).toArray 36 (0,0))) (sep (bH B va ((pos+1:Nat):Int) day (.slice (some ⟨g,0,none⟩) N fc)) (sep (kn J2) fr)))):=ah (by
        have h9:=(((HQ.out.setCell 15 (.int .i64 fo)).setCell 16 (.int .i64 fn)).setCell 17 (.slice fi.a fi.n fi.c)).setCell 18 (.slice fk.a fk.n fk.c);have e9:((((Ac.cells (⟨19,0,0,0,0,0,0,0,0,0,0,ak,ak,ak,ak,0,0,ak,ak⟩:Ac)).toArray.setIfInBounds 15 (.int .i64 fo)).setIfInBounds 16 (.int .i64 fn)).setIfInBounds 17 (.slice fi.a fi.n fi.c)).setIfInBounds 18 (.slice fk.a fk.n fk.c)=(Ac.cells (⟨19,0,0,0,0,0,0,0,0,0,0,ak,ak,ak,ak,fo,fn,fi,fk⟩:Ac)).toArray:=by simp[Ac.cells]
        rw[e9] at h9;exact h9)
       have HL2:=ah (And.intro hgf (And.intro hle2 PK));clear hf hgf hle2 PK vY HQ
       go_wp2
       go_meet
       case rel=>exact⟨(⟨19,0,0,0,0,0,0,0,0,0,0,ak,ak,ak,ak,fo,fn,fi,fk⟩:Ac),{ Pa.zero with k:=19,fx:=gf },J2,pos+1,ah ⟨⟨rfl,rfl,rfl,rfl,rfl,rfl,rfl,rfl,rfl,rfl,rfl,aF _ _ _,aF _ _ _,aF _ _ _,aF _ _ _,HL2.out.2.2⟩,.art HL2.out.1,rfl,HL2.out.2.1,by have:=oz;omega,by have:=HP2;omega,HR.out⟩⟩
     ·as_aux_lemma=>
       obtain⟨hF1,hF2,-,-,jP⟩:=lV.out;have hob:ob=false:=by rw[←AB.out];rfl
       obtain rfl:f=0:=hF2 hob;have HC:Hid (Sat W wc (sep (blk q (.cells (Ac.cells (⟨20,0,0,0,0,0,0,0,0,0,0,ak,ak,ak,ak,0,0,ak,ak⟩:Ac)).toArray 36 (0,0))) (sep (bH B va (pos:Int) day (.slice (some ⟨g,0,none⟩) N fc)) (sep (kn I) fr)))):=ah jP;clear hF1 hF2 jP hob lV;have hb1:=bD l (pos:Nat) 2 (by omega);have jU:=ah (aQ va l (pos:Nat) 2 (by omega) (by omega) (by have:=qH;omega) (HV.out.mono (Mem.le_refl I)) (show Sat W wc (sep (bH B va ((pos:Nat):Int) day (.slice (some ⟨g,0,none⟩) N fc)) (sep (kn I) (sep (blk q (.cells (Ac.cells (⟨20,0,0,0,0,0,0,0,0,0,0,ak,ak,ak,ak,0,0,ak,ak⟩:Ac)).toArray 36 (0,0))) fr))) from dJ HC.out));obtain⟨v1,hv1⟩:=aB (dD l (pos:Nat) 2);rw[←hv1] at jU hb1;clear hv1;obtain⟨wJ,wK⟩:=hb1
       go_wp2_with fail
       refine jU.out.mono ?_;rintro e lI ⟨rfl,hn1⟩;have pG:Hid (Sat W lI (sep (blk q (.cells (Ac.cells (⟨20,0,0,0,0,0,0,0,0,0,0,ak,ak,ak,ak,0,0,ak,ak⟩:Ac)).toArray 36 (0,0))) (sep (bH B va ((pos+1:Nat):Int) day (.slice (some ⟨g,0,none⟩) N fc)) (sep (kn I) fr)))):=ah (dJ hn1);clear hn1 jU;obtain⟨aew,aex⟩:=au pG.out 4 (.int .i64 (0)) rfl;have Y9:Hid (Sat W (lI.setCell ⟨q,4,none⟩ (.int .i64 (v1))) (sep (blk q (.cells (Ac.cells (⟨20,0,0,0,v1,0,0,0,0,0,0,ak,ak,ak,ak,0,0,ak,ak⟩:Ac)).toArray 36 (0,0))) (sep (bH B va ((pos+1:Nat):Int) day (.slice (some ⟨g,0,none⟩) N fc)) (sep (kn I) fr)))):=ah (by
        have h9:=pG.out.setCell 4 (.int .i64 (v1));have e9:(Ac.cells (⟨20,0,0,0,0,0,0,0,0,0,0,ak,ak,ak,ak,0,0,ak,ak⟩:Ac)).toArray.setIfInBounds 4 (.int .i64 (v1))=(Ac.cells (⟨20,0,0,0,v1,0,0,0,0,0,0,ak,ak,ak,ak,0,0,ak,ak⟩:Ac)).toArray:=by simp[Ac.cells]
        rw[e9] at h9;exact h9)
       have hb2:=bD l (pos+1:Nat) 20 (by omega);have oZ:=ah (aQ va l (pos+1:Nat) 20 (by omega) (by omega) (by have:=qH;omega) (HV.out.mono (Mem.le_refl I)) (show Sat W (lI.setCell ⟨q,4,none⟩ (.int .i64 (v1))) (sep (bH B va ((pos+1:Nat):Int) day (.slice (some ⟨g,0,none⟩) N fc)) (sep (kn I) (sep (blk q (.cells (Ac.cells (⟨20,0,0,0,v1,0,0,0,0,0,0,ak,ak,ak,ak,0,0,ak,ak⟩:Ac)).toArray 36 (0,0))) fr))) from dJ Y9.out));obtain⟨v2,hv2⟩:=aB (dD l (pos+1:Nat) 20);rw[←hv2] at oZ hb2;clear hv2;obtain⟨NM,NP⟩:=hb2
       go_wp2_with fail
       refine oZ.out.mono ?_;rintro e wn2 ⟨rfl,hn2⟩;have HG2:Hid (Sat W wn2 (sep (blk q (.cells (Ac.cells (⟨20,0,0,0,v1,0,0,0,0,0,0,ak,ak,ak,ak,0,0,ak,ak⟩:Ac)).toArray 36 (0,0))) (sep (bH B va ((pos+1+1:Nat):Int) day (.slice (some ⟨g,0,none⟩) N fc)) (sep (kn I) fr)))):=ah (dJ hn2);clear hn2 oZ;obtain⟨ZV,ZW⟩:=au HG2.out 7 (.int .i64 (0)) rfl;have MO:Hid (Sat W (wn2.setCell ⟨q,7,none⟩ (.int .i64 (v2))) (sep (blk q (.cells (Ac.cells (⟨20,0,0,0,v1,0,0,v2,0,0,0,ak,ak,ak,ak,0,0,ak,ak⟩:Ac)).toArray 36 (0,0))) (sep (bH B va ((pos+1+1:Nat):Int) day (.slice (some ⟨g,0,none⟩) N fc)) (sep (kn I) fr)))):=ah (by
        have h9:=HG2.out.setCell 7 (.int .i64 (v2));have e9:(Ac.cells (⟨20,0,0,0,v1,0,0,0,0,0,0,ak,ak,ak,ak,0,0,ak,ak⟩:Ac)).toArray.setIfInBounds 7 (.int .i64 (v2))=(Ac.cells (⟨20,0,0,0,v1,0,0,v2,0,0,0,ak,ak,ak,ak,0,0,ak,ak⟩:Ac)).toArray:=by simp[Ac.cells]
        rw[e9] at h9;exact h9)
       go_wp2
       go_meet
       case rel=>exact⟨(⟨20,0,0,0,v1,0,0,v2,0,0,0,ak,ak,ak,ak,0,0,ak,ak⟩:Ac),{ Pa.zero with k:=20,o:=v1,u:=v2 },I,(pos+1+1:Nat),ah ⟨⟨rfl,rfl,rfl,rfl,rfl,rfl,rfl,rfl,rfl,rfl,rfl,aF _ _ _,aF _ _ _,aF _ _ _,aF _ _ _,dS _⟩,.closure (by omega) (by omega) (by omega),rfl,(Mem.le_refl I),by have:=oz;omega,by have:=HP2;omega,MO.out⟩⟩
     ·as_aux_lemma=>
       obtain⟨hF1,hF2,-,-,jP⟩:=lV.out;have hob:ob=false:=by rw[←AB.out];rfl
       obtain rfl:f=0:=hF2 hob;have HC:Hid (Sat W wc (sep (blk q (.cells (Ac.cells (⟨21,0,0,0,0,0,0,0,0,0,0,ak,ak,ak,ak,0,0,ak,ak⟩:Ac)).toArray 36 (0,0))) (sep (bH B va (pos:Int) day (.slice (some ⟨g,0,none⟩) N fc)) (sep (kn I) fr)))):=ah jP;clear hF1 hF2 jP hob lV;have hb1:=bD l (pos:Nat) 2 (by omega);have jU:=ah (aQ va l (pos:Nat) 2 (by omega) (by omega) (by have:=qH;omega) (HV.out.mono (Mem.le_refl I)) (show Sat W wc (sep (bH B va ((pos:Nat):Int) day (.slice (some ⟨g,0,none⟩) N fc)) (sep (kn I) (sep (blk q (.cells (Ac.cells (⟨21,0,0,0,0,0,0,0,0,0,0,ak,ak,ak,ak,0,0,ak,ak⟩:Ac)).toArray 36 (0,0))) fr))) from dJ HC.out));obtain⟨v1,hv1⟩:=aB (dD l (pos:Nat) 2);rw[←hv1] at jU hb1;clear hv1;obtain⟨wJ,wK⟩:=hb1
       go_wp2_with fail
       refine jU.out.mono ?_;rintro e lI ⟨rfl,hn1⟩;have pG:Hid (Sat W lI (sep (blk q (.cells (Ac.cells (⟨21,0,0,0,0,0,0,0,0,0,0,ak,ak,ak,ak,0,0,ak,ak⟩:Ac)).toArray 36 (0,0))) (sep (bH B va ((pos+1:Nat):Int) day (.slice (some ⟨g,0,none⟩) N fc)) (sep (kn I) fr)))):=ah (dJ hn1);clear hn1 jU;obtain⟨aew,aex⟩:=au pG.out 4 (.int .i64 (0)) rfl;have Y9:Hid (Sat W (lI.setCell ⟨q,4,none⟩ (.int .i64 (v1))) (sep (blk q (.cells (Ac.cells (⟨21,0,0,0,v1,0,0,0,0,0,0,ak,ak,ak,ak,0,0,ak,ak⟩:Ac)).toArray 36 (0,0))) (sep (bH B va ((pos+1:Nat):Int) day (.slice (some ⟨g,0,none⟩) N fc)) (sep (kn I) fr)))):=ah (by
        have h9:=pG.out.setCell 4 (.int .i64 (v1));have e9:(Ac.cells (⟨21,0,0,0,0,0,0,0,0,0,0,ak,ak,ak,ak,0,0,ak,ak⟩:Ac)).toArray.setIfInBounds 4 (.int .i64 (v1))=(Ac.cells (⟨21,0,0,0,v1,0,0,0,0,0,0,ak,ak,ak,ak,0,0,ak,ak⟩:Ac)).toArray:=by simp[Ac.cells]
        rw[e9] at h9;exact h9)
       have hb2:=bD l (pos+1:Nat) 19 (by omega);have oZ:=ah (aQ va l (pos+1:Nat) 19 (by omega) (by omega) (by have:=qH;omega) (HV.out.mono (Mem.le_refl I)) (show Sat W (lI.setCell ⟨q,4,none⟩ (.int .i64 (v1))) (sep (bH B va ((pos+1:Nat):Int) day (.slice (some ⟨g,0,none⟩) N fc)) (sep (kn I) (sep (blk q (.cells (Ac.cells (⟨21,0,0,0,v1,0,0,0,0,0,0,ak,ak,ak,ak,0,0,ak,ak⟩:Ac)).toArray 36 (0,0))) fr))) from dJ Y9.out));obtain⟨v2,hv2⟩:=aB (dD l (pos+1:Nat) 19);rw[←hv2] at oZ hb2;clear hv2;obtain⟨NM,NP⟩:=hb2
       go_wp2_with fail
       refine oZ.out.mono ?_;rintro e wn2 ⟨rfl,hn2⟩;have HG2:Hid (Sat W wn2 (sep (blk q (.cells (Ac.cells (⟨21,0,0,0,v1,0,0,0,0,0,0,ak,ak,ak,ak,0,0,ak,ak⟩:Ac)).toArray 36 (0,0))) (sep (bH B va ((pos+1+1:Nat):Int) day (.slice (some ⟨g,0,none⟩) N fc)) (sep (kn I) fr)))):=ah (dJ hn2);clear hn2 oZ;obtain⟨ZV,ZW⟩:=au HG2.out 7 (.int .i64 (0)) rfl;have MO:Hid (Sat W (wn2.setCell ⟨q,7,none⟩ (.int .i64 (v2))) (sep (blk q (.cells (Ac.cells (⟨21,0,0,0,v1,0,0,v2,0,0,0,ak,ak,ak,ak,0,0,ak,ak⟩:Ac)).toArray 36 (0,0))) (sep (bH B va ((pos+1+1:Nat):Int) day (.slice (some ⟨g,0,none⟩) N fc)) (sep (kn I) fr)))):=ah (by
        have h9:=HG2.out.setCell 7 (.int .i64 (v2));have e9:(Ac.cells (⟨21,0,0,0,v1,0,0,0,0,0,0,ak,ak,ak,ak,0,0,ak,ak⟩:Ac)).toArray.setIfInBounds 7 (.int .i64 (v2))=(Ac.cells (⟨21,0,0,0,v1,0,0,v2,0,0,0,ak,ak,ak,ak,0,0,ak,ak⟩:Ac)).toArray:=by simp[Ac.cells]
        rw[e9] at h9;exact h9)
       have hal3:=MO.out.alloc (.cells #[.int .i64 1,.int .i64 2,.int .i64 3,.int .i64 6,.int .i64 12,.int .i64 18,.int .i64 20,.int .i64 50] 3)
       try simp only[World.size_setCell] at hal3
       have Sj:=ah hal3;clear hal3;have hb3:=bD l (pos+1+1:Nat) 8 (by omega);have yD:=ah (aQ va l (pos+1+1:Nat) 8 (by omega) (by omega) (by have:=qH;omega) (HV.out.mono (Mem.le_refl I)) (show Sat W ((wn2.setCell ⟨q,7,none⟩ (.int .i64 (v2))).alloc (.cells #[.int .i64 1,.int .i64 2,.int .i64 3,.int .i64 6,.int .i64 12,.int .i64 18,.int .i64 20,.int .i64 50] 3)) (sep (bH B va ((pos+1+1:Nat):Int) day (.slice (some ⟨g,0,none⟩) N fc)) (sep (kn I) (sep (blk wn2.heap.size (.cells #[.int .i64 1,.int .i64 2,.int .i64 3,.int .i64 6,.int .i64 12,.int .i64 18,.int .i64 20,.int .i64 50] 3 (0,0))) (sep (blk q (.cells (Ac.cells (⟨21,0,0,0,v1,0,0,v2,0,0,0,ak,ak,ak,ak,0,0,ak,ak⟩:Ac)).toArray 36 (0,0))) fr)))) from dJ Sj.out));obtain⟨v3,hv3⟩:=aB (dD l (pos+1+1:Nat) 8);rw[←hv3] at yD hb3;clear hv3;obtain⟨Zr,Zt⟩:=hb3
       go_wp2_with fail
       refine yD.out.mono ?_;rintro e L6 ⟨rfl,hn3⟩;have MC:Hid (Sat W L6 (sep (blk wn2.heap.size (.cells #[.int .i64 1,.int .i64 2,.int .i64 3,.int .i64 6,.int .i64 12,.int .i64 18,.int .i64 20,.int .i64 50] 3 (0,0))) (sep (blk q (.cells (Ac.cells (⟨21,0,0,0,v1,0,0,v2,0,0,0,ak,ak,ak,ak,0,0,ak,ak⟩:Ac)).toArray 36 (0,0))) (sep (bH B va ((pos+1+1+1:Nat):Int) day (.slice (some ⟨g,0,none⟩) N fc)) (sep (kn I) fr))))):=ah (dJ hn3);clear hn3 yD;obtain⟨r3,rfl⟩:∃r:Nat,v3=(r:Int):=⟨v3.toNat,by omega⟩
       obtain⟨y3,hy3,aem⟩:∃y:Int,([1,2,3,6,12,18,20,50]:List Int)[r3]?=some y∧(1≤y∧y≤50):=by
        have hlt:r3<([1,2,3,6,12,18,20,50]:List Int).length:=by show r3<8;omega
        refine⟨([1,2,3,6,12,18,20,50]:List Int)[r3],List.getElem?_eq_getElem hlt,?_⟩;have hm:=List.getElem_mem hlt
        revert hm
        generalize ([1,2,3,6,12,18,20,50]:List Int)[r3]=y;intro hm;simp only[List.mem_cons,List.not_mem_nil,or_false] at hm;omega
       have cl3:L6.cell? ⟨wn2.heap.size,r3,none⟩=some (.int .i64 y3):=by
        rw[MC.out.cell r3,show (#[.int .i64 1,.int .i64 2,.int .i64 3,.int .i64 6,.int .i64 12,.int .i64 18,.int .i64 20,.int .i64 50]:Array Value)=(([1,2,3,6,12,18,20,50]:List Int).map PA.iv).toArray from rfl,List.getElem?_toArray,List.getElem?_map,hy3];rfl
       have abR:(r3:Int)<8:=by omega
       have HF3:=ah MC.out.forget;clear hy3 MC Sj;obtain⟨aey,aez⟩:=au HF3.out 8 (.int .i64 (0)) rfl;have Za:Hid (Sat W (L6.setCell ⟨q,8,none⟩ (.int .i64 (y3))) (sep (blk q (.cells (Ac.cells (⟨21,0,0,0,v1,0,0,v2,y3,0,0,ak,ak,ak,ak,0,0,ak,ak⟩:Ac)).toArray 36 (0,0))) (sep (bH B va ((pos+1+1+1:Nat):Int) day (.slice (some ⟨g,0,none⟩) N fc)) (sep (kn I) fr)))):=ah (by
        have h9:=HF3.out.setCell 8 (.int .i64 (y3));have e9:(Ac.cells (⟨21,0,0,0,v1,0,0,v2,0,0,0,ak,ak,ak,ak,0,0,ak,ak⟩:Ac)).toArray.setIfInBounds 8 (.int .i64 (y3))=(Ac.cells (⟨21,0,0,0,v1,0,0,v2,y3,0,0,ak,ak,ak,ak,0,0,ak,ak⟩:Ac)).toArray:=by simp[Ac.cells]
        rw[e9] at h9;exact h9)
       go_wp2
       go_meet
       case rel=>exact⟨(⟨21,0,0,0,v1,0,0,v2,y3,0,0,ak,ak,ak,ak,0,0,ak,ak⟩:Ac),{ Pa.zero with k:=21,o:=v1,u:=v2,m:=y3 },I,(pos+1+1+1:Nat),ah ⟨⟨rfl,rfl,rfl,rfl,rfl,rfl,rfl,rfl,rfl,rfl,rfl,aF _ _ _,aF _ _ _,aF _ _ _,aF _ _ _,dS _⟩,.rule (by omega) (by omega) (by omega) (by omega) (by omega),rfl,(Mem.le_refl I),by have:=oz;omega,by have:=HP2;omega,Za.out⟩⟩
   case rest=>
    as_aux_lemma=>
     obtain⟨z,y,J,pos',HL⟩:=hcut;have hF:=HL.out.2.2.2.2.2.2;rw[Jb.out] at hF;have hR2:Sat W wc (sep (blk R (.cells #[.int .i64 0,.int .i64 0,.int .i64 0,.int .i64 0,.int .i64 0,.int .i64 0,.int .i64 0,.int .i64 0,.int .i64 0,.int .i64 0,.int .i64 0,.slice none 0 0,.slice none 0 0,.slice none 0 0,.slice none 0 0,.int .i64 0,.int .i64 0,.slice none 0 0,.slice none 0 0] 36 (0,0))) (sep (bH B va (pos':Int) day (.slice (some ⟨g,0,none⟩) N fc)) (sep (aT 36 19 (some ⟨g,0,none⟩) N fc (dA zs)) (sep (kn J) A)))):=by
      have h9:=hF.forget;simpa only[aA,ay,aj] using h9
     have hld:Sem.run Tryz.prog (jA (.pointer (some ⟨q,0,none⟩))) wc=.ok (.agg z.cells.toArray) wc:=jo fun i v hv=>(au hF i v hv).1
     have hst:=bU hR2.aO rfl z;have WQ:=hR2.setRow z.cells.toArray;obtain⟨w20,Uk⟩:=aB (wc.setRow R z.cells.toArray);rw[←Uk] at hst WQ;have hres:=gK WQ;have YV:=ah WQ;clear hF hR2 WQ Uk
     go_wp2
     exact bodyPost_ret (v:=.agg z.cells.toArray) (by simp[results,Tryz.results59,go_sem,↓aY,hres]) rfl ⟨z,y,J,pos',rfl,HL.out.1,HL.out.2.1,HL.out.2.2.1,HL.out.2.2.2.1,HL.out.2.2.2.2.1,by have:=HL.out.2.2.2.2.2.1;omega,YV.out.forget⟩
end Go.Proofs.YthfmaclnccdcbaaGreatDoor
