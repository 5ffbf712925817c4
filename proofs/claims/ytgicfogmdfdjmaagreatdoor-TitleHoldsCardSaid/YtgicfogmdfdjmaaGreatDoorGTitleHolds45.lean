/- Part of a proof. -/
import Derived.Test.YtgicfogmdfdjmaaGreatDoorGTitleHolds43
import Derived.Test.YtgicfogmdfdjmaaGreatDoorGTitleHolds44
namespace PA
open Go Go.RowKit
theorem Sat.osl_sh {W w:World} {A:aG} {E N c:Nat} {a:Option Addr} {f:Nat→Rt} (h:Sat W w (sep (aK E 2 a N c (Ef N f)) A)) (h0:0<N):∃g,a=some ⟨g,0,none⟩∧Sat W w (sep (Ah E g N f) A):=by
 rcases h.dL with ⟨-,e,-⟩|⟨g,cur,rfl,h1,h2,h3,h4,h5,h6⟩
 ·omega
 ·refine⟨g,rfl,Sat.ZJ (fun i hi=>?_) h6⟩
  have key:∀(j:Nat) (v:Value),j<N*2→(Ef N f)[j]?=some v→cur[j]?=some v:=fun j v hj hv=>by
   rw[←h5,List.getElem?_take_of_lt hj] at hv
   rw[←Array.getElem?_toList];exact hv
  have:=O4 N f i hi
  exact⟨key _ _ (by omega) this.1,key _ _ (by omega) this.2⟩
def fdO:Option Ac→Int|none=>-1|some f=>f.d
def apO:Option Ac→Int|none=>0|some f=>f.p
theorem JX {α:Type} (p:α→Bool) (x:α):List.find? p [x]=if p x=true then some x else none:=by
 cases h:p x<;>simp[List.find?,h]
theorem RD (file day:Int) (l:List Ac) (x:Ac):oJ file day (l++[x])=match oJ file day l with|some f=>some f|none=>if (gu x.k&&(decide (x.f=file)&&(decide (x.d≤day)&&decide (x.k=0))))=true then some x else none:=by
 unfold oJ
 rw[List.find?_append]
 cases List.find? (fun x=>gu x.k&&(decide (x.f=file)&&(decide (x.d≤day)&&decide (x.k=0)))) l with
 | some f=>rfl
 | none=>
  rw[Option.none_or]
  exact JX _ x
theorem RF {file day:Int} {ys:List Ac} {i:Nat} {x:Ac} (hx:ys[i]?=some x):oJ file day (ys.take (i+1))=match oJ file day (ys.take i) with|some f=>some f|none=>if (gu x.k&&(decide (x.f=file)&&(decide (x.d≤day)&&decide (x.k=0))))=true then some x else none:=by
 rw[List.take_add_one,hx];exact RD file day _ x
end PA
namespace Go.Proofs.YtgicfogmdfdjmaaGreatDoor
open Go.RowKit PA
def RG (p:Nat) (vA:Value) (app:Int) (g c:Nat) (f:Nat→Rt) (s:WV):aG:=ex fun u:(Option Addr×Nat)×(Option Addr×Nat)×(Option Addr×Nat)=>
 sep (Dx p vA app g c (.slice u.1.1 s.fl.length u.1.2) (.slice u.2.1.1 s.dn.length u.2.1.2) (.slice u.2.2.1 s.li.length u.2.2.2) f)
  (sep (aK 3 1 u.1.1 s.fl.length u.1.2 (s.fl.map PA.iv)) (sep (aK 3 1 u.2.1.1 s.dn.length u.2.1.2 (s.dn.map fun t=>PA.iv (t.1:Int))) (aK 84 4 u.2.2.1 s.li.length u.2.2.2 (jG s.li))))
theorem xw {W w:World} {A:aG} {p g c:Nat} {vA:Value} {app:Int} {f:Nat→Rt} {s:WV} (h:Sat W w (sep (RG p vA app g c f s) A)):∃aF cF aD cD aL cL,
 Sat W w (sep (blk p (.cells #[vA,.int .i64 app,.slice (some ⟨g,0,none⟩) 4096 c,.slice aF s.fl.length cF,.slice aD s.dn.length cD,.slice aL s.li.length cL] 74 (0,0))) (sep (Ah 57 g 4096 f)
  (sep (aK 3 1 aF s.fl.length cF (s.fl.map PA.iv)) (sep (aK 3 1 aD s.dn.length cD (s.dn.map fun t=>PA.iv (t.1:Int))) (sep (aK 84 4 aL s.li.length cL (jG s.li)) A))))):=by
 rw[RG,dA,Sat.ex] at h
 obtain⟨⟨⟨aF,cF⟩,⟨aD,cD⟩,aL,cL⟩,h⟩:=h
 unfold Dx at h
 simp only[aj] at h
 exact⟨aF,cF,aD,cD,aL,cL,h⟩
theorem IJ {W w:World} {A:aG} {p g c:Nat} {vA:Value} {app:Int} {f:Nat→Rt} {s:WV} {aF aD aL:Option Addr} {cF cD cL:Nat}
 (h:Sat W w (sep (blk p (.cells #[vA,.int .i64 app,.slice (some ⟨g,0,none⟩) 4096 c,.slice aF s.fl.length cF,.slice aD s.dn.length cD,.slice aL s.li.length cL] 74 (0,0))) (sep (Ah 57 g 4096 f)
  (sep (aK 3 1 aF s.fl.length cF (s.fl.map PA.iv)) (sep (aK 3 1 aD s.dn.length cD (s.dn.map fun t=>PA.iv (t.1:Int))) (sep (aK 84 4 aL s.li.length cL (jG s.li)) A)))))):Sat W w (sep (RG p vA app g c f s) A):=by
 rw[RG,dA,Sat.ex]
 refine⟨⟨⟨aF,cF⟩,⟨aD,cD⟩,aL,cL⟩,?_⟩
 unfold Dx
 simp only[aj]
 exact h
theorem RH {W w:World} {A:aG} {I:Mem} (v:Value) (xs:List Ac) (hD:xs.Pairwise fD) (lM:xs.length<40) (hE:xu I xs) (hv:lW I v xs) (h:Sat W w (sep (kn I) A)):
 Calls Tryz.prog 40 #[v] w fun e w'=>∃(b:Option Addr) (d:Nat) (J:Mem),e=.returned (.slice b xs.length d)∧Mem.le I J∧zB b xs.length d∧bP b (bI (sortK xs)) J∧Sat W w' (sep (kn J) A):=by
 obtain⟨a,n,c,rfl,hn,hsw,hc⟩:=hv
 obtain⟨Ls,hm,hA⟩:=hE.pairs
 have hl:n=Ls.length:=by rw[hn,←hm,List.length_map]
 refine (La a n c Ls hl (by omega) (by rw[hm];exact hc) hA h).mono ?_
 rintro e w' ⟨b,d,J,rfl,h1,h2,h3,h4⟩
 have hs:=Ru (fun p hp=>(hA p hp).1) (by rw[hm];exact hD)
 rw[hm] at hs
 have e:=BF hs.2 hs.1 hD
 rw[e] at h3
 exact⟨b,d,J,by rw[hn],h1,by rw[←hn];exact h2,h3,h4⟩
theorem RI (k:Int):dB k=gu k:=by
 unfold dB gu
 by_cases q1:k=5<;>by_cases q2:k=19<;>by_cases q3:k=20<;>by_cases q4:k=21<;>simp[q1,q2,q3,q4]
theorem Oz:(Tryz.prog.info? 57).map (fun i=>(i.zero,i.size,i.bytes))=some (some (.agg #[.int .i64 0,.int .i64 0]),2,16):=by kernel_rfl
theorem F9:(Tryz.prog.info? 84).map (fun i=>(i.zero,i.size,i.bytes))=some (some (.agg #[.int .i64 0,.int .i64 0,.int .i64 0,.int .i64 0]),4,32):=by kernel_rfl
attribute [local go_sem ↓] bQ bZ aT
set_option maxRecDepth 100000 in
set_option maxHeartbeats 8000000 in
theorem Dy {W w:World} {A:aG} {I:Mem} (file day:Int) (v:Value) (xs:List Ac) (hx:TL xs) (hx2:∀x∈xs,TA2 x) (lM:xs.length<40) (hE:xu I xs) (hv:lW I v xs) (h:Sat W w (sep (kn I) A)):
 Calls Tryz.prog 25 #[.int .i64 file,.int .i64 day,v] w fun e w'=>
  (aP file day (sortK xs)≠0∧e=.returned (.tuple #[.pointer none,.int .i64 (aP file day (sortK xs))])∧∃J,Mem.le I J∧Sat W w' (sep (kn J) A)) ∨
  (aP file day (sortK xs)=0∧∃p b d app g c f fo J,e=.returned (.tuple #[.pointer (some ⟨p,0,none⟩),.int .i64 0])∧dF file (sortK xs)=some fo∧Mem.le I J∧bP b (bI (sortK xs)) J∧(∀k:Nat,f k=aQ (kH file day fo xs) k) ∧
   Sat W w' (sep (RG p (.slice b xs.length d) app g c f (o9 file day fo xs)) (sep (kn J) A))):=by
 obtain⟨Po,iU⟩:∃P:Ending→World→Prop,P=fun e w'=>(aP file day (sortK xs)≠0∧e=.returned (.tuple #[.pointer none,.int .i64 (aP file day (sortK xs))])∧∃J,Mem.le I J∧Sat W w' (sep (kn J) A)) ∨
  (aP file day (sortK xs)=0∧∃p b d app g c f fo J,e=.returned (.tuple #[.pointer (some ⟨p,0,none⟩),.int .i64 0])∧dF file (sortK xs)=some fo∧Mem.le I J∧bP b (bI (sortK xs)) J∧(∀k:Nat,f k=aQ (kH file day fo xs) k) ∧
   Sat W w' (sep (RG p (.slice b xs.length d) app g c f (o9 file day fo xs)) (sep (kn J) A))):=⟨_,rfl⟩
 rw[←iU]
 have dZ:=ah iU
 have PV:=ah (RH v xs hx.key lM hE hv h)
 have H:=ah h
 by_cases hr:file<0∨4095<file∨day<0∨131072<day
 ·have he:aP file day (sortK xs)=5:=by unfold aP;rw[if_pos hr]
  have HE:Hid (∀w',Sat W w' (sep (kn I) A)→Po (.returned (.tuple #[.pointer none,.int .i64 5])) w'):=ah fun w' h'=>by rw[iU,he];exact .inl ⟨by omega,rfl,I,Mem.le_refl I,h'⟩
  clear hx hx2 lM hE hv h he iU dZ PV
  by_cases c1:file<0
  ·clear hr
   go_enter Tryz.func25,Tryz.ntmps25
   go_wp2
   exact (HE.out _ H.out)
  by_cases c2:4095<file
  ·clear hr
   go_enter Tryz.func25,Tryz.ntmps25
   go_wp2
   exact (HE.out _ H.out)
  by_cases c3:day<0
  ·clear hr
   go_enter Tryz.func25,Tryz.ntmps25
   go_wp2
   exact (HE.out _ H.out)
  ·have c4:131072<day:=by omega
   clear hr
   go_enter Tryz.func25,Tryz.ntmps25
   go_wp2
   exact (HE.out _ H.out)
 ·have c1:¬file<0:=by omega
  have c2:¬4095<file:=by omega
  have c3:¬day<0:=by omega
  have c4:¬131072<day:=by omega
  have HR:=ah hr
  obtain⟨ys,hys⟩:=aC (sortK xs)
  obtain⟨n,hn⟩:=aC (xs.length)
  have hyl:ys.length=n:=by rw[hys,iL,hn]
  have hyT:∀x∈ys,TA x∧TA2 x:=fun x hm=>by
   have hm2:x∈xs:=(iG xs).subset (by rw[hys] at hm;exact hm)
   exact⟨hx.all x hm2,hx2 x hm2⟩
  have hasc:Asc cmpK ys:=by rw[hys];exact EZ xs
  rw[←hys,←hn] at PV
  have zY:=ah (And.intro hys (And.intro hyl (And.intro hyT hasc)))
  have HN:=ah hn
  have XG:n<40:=by omega
  have ahG:(n:Int)<40:=by omega
  clear hx hx2 lM hE hv h iU hr hys hn hyl hyT hasc
  go_enter Tryz.func25,Tryz.ntmps25
  go_wp2_with fail
  refine PV.out.mono ?_
  rintro e w2 ⟨b,d,J,rfl,hle,hsw,hcj,h2⟩
  have hbl:=h2.alloc (.cells #[.slice b n d,.int .i64 0,.slice none 0 0,.slice none 0 0,.slice none 0 0,.slice none 0 0] 74)
  obtain⟨p,hp⟩:=aC (w2.heap.size)
  obtain⟨w3,hw3⟩:=aC (w2.alloc (.cells #[.slice b n d,.int .i64 0,.slice none 0 0,.slice none 0 0,.slice none 0 0,.slice none 0 0] 74))
  rw[←hp,←hw3] at hbl
  have H3:=ah hbl
  have HP:=ah (And.intro hp hw3)
  have gQ:=ah hle
  have Uz:=ah hcj
  clear hbl hp hw3 hle hcj h2 PV H hsw
  go_upto_region 4 with (fail)
  rw[←HP.out.1,←HP.out.2]
  go_wp2_with fail
  go_loopw [9,10] (fun fv iv wr=>∃(i:Nat) (fd ap:Int) (fo:Option Ac),fv=.int .i64 fd∧iv=.int .i64 i∧i≤n∧Hid (oJ file day (ys.take i)=fo∧fd=fdO fo∧ap=apO fo∧(∀f,fo=some f→0≤f.d))∧Sat W wr (sep (blk p (.cells #[.slice b n d,.int .i64 ap,.slice none 0 0,.slice none 0 0,.slice none 0 0,.slice none 0 0] 74 (0,0))) (sep (kn J) A))) (fun _ iv _=>n-(intOf iv).toNat)
  case atStart=>exact⟨0,-1,0,none,rfl,rfl,by omega,ah ⟨by simp[oJ],rfl,rfl,fun f hf=>by cases hf⟩,H3.out⟩
  case round=>
   obtain⟨i,fd,ap,fo,rfl,rfl,hi,HF,hS⟩:=hrel
   clear H3 HP
   have q0:wr.cell? ⟨p,0,none⟩=some (.slice b n d):=hS.cell 0
   by_cases hlt:i<n
   ·as_aux_lemma=>
    have hltz:(i:Int)<(n:Int):=by omega
    have hiI:(i:Int)<40:=by omega
    have hil:i<ys.length:=by rw[zY.out.2.1];exact hlt
    obtain⟨bb,oo,rfl,hld⟩:=wY Uz.out (fun e=>by rw[e] at hil;simp at hil)
    obtain⟨x,hx⟩:∃x,ys[i]?=some x:=⟨_,List.getElem?_eq_getElem hil⟩
    have hmem:x∈ys:=List.mem_of_getElem? hx
    have l1:Sem.run Tryz.prog (jo (.pointer (some ⟨bb,oo+i*19,none⟩))) (wr.alloc (.cells #[.int .i64 0,.int .i64 0,.int .i64 0,.int .i64 0,.int .i64 0,.int .i64 0,.int .i64 0,.int .i64 0,.int .i64 0,.int .i64 0,.int .i64 0,.slice none 0 0,.slice none 0 0,.slice none 0 0,.slice none 0 0,.int .i64 0,.int .i64 0,.slice none 0 0,.slice none 0 0] 67))=.ok (.agg x.cells.toArray) (wr.alloc (.cells #[.int .i64 0,.int .i64 0,.int .i64 0,.int .i64 0,.int .i64 0,.int .i64 0,.int .i64 0,.int .i64 0,.int .i64 0,.int .i64 0,.int .i64 0,.slice none 0 0,.slice none 0 0,.slice none 0 0,.slice none 0 0,.int .i64 0,.int .i64 0,.slice none 0 0,.slice none 0 0] 67)):=by
     have:=hld (wr.alloc (.cells #[.int .i64 0,.int .i64 0,.int .i64 0,.int .i64 0,.int .i64 0,.int .i64 0,.int .i64 0,.int .i64 0,.int .i64 0,.int .i64 0,.int .i64 0,.slice none 0 0,.slice none 0 0,.slice none 0 0,.slice none 0 0,.int .i64 0,.int .i64 0,.slice none 0 0,.slice none 0 0] 67)) (hS.alloc _).p2.ext i hil
     rwa [(List.getElem?_eq_some_iff.1 hx).2] at this
    have l0:Sem.run Tryz.prog (jo (.pointer (some ⟨bb,oo+i*19,none⟩))) wr=.ok (.agg x.cells.toArray) wr:=by
     have:=hld wr hS.p1.ext i hil
     rwa [(List.getElem?_eq_some_iff.1 hx).2] at this
    have ha:=hS.alloc (.cells #[.int .i64 0,.int .i64 0,.int .i64 0,.int .i64 0,.int .i64 0,.int .i64 0,.int .i64 0,.int .i64 0,.int .i64 0,.int .i64 0,.int .i64 0,.slice none 0 0,.slice none 0 0,.slice none 0 0,.slice none 0 0,.int .i64 0,.int .i64 0,.slice none 0 0,.slice none 0 0] 67)
    have s1:=aY ha.aN rfl x
    have ha2:=ha.setRow x.cells.toArray
    obtain⟨w4,hw4⟩:=aC ((wr.alloc (.cells #[.int .i64 0,.int .i64 0,.int .i64 0,.int .i64 0,.int .i64 0,.int .i64 0,.int .i64 0,.int .i64 0,.int .i64 0,.int .i64 0,.int .i64 0,.slice none 0 0,.slice none 0 0,.slice none 0 0,.slice none 0 0,.int .i64 0,.int .i64 0,.slice none 0 0,.slice none 0 0] 67)).setRow wr.heap.size x.cells.toArray)
    rw[←hw4] at s1 ha2
    obtain⟨G,hG⟩:=aC (wr.heap.size)
    rw[←hG] at ha2
    obtain⟨J3,hle3,hJ3,h9⟩:=(show Sat W w4 (sep (Y0 G (.cells x.cells.toArray 67 (0,0))) (sep (kn J) (sep (blk p (.cells #[.slice (some ⟨bb,oo,none⟩) n d,.int .i64 ap,.slice none 0 0,.slice none 0 0,.slice none 0 0,.slice none 0 0] 74 (0,0))) A))) from ha2.settle.p2.p1).learn
    have LM:Hid (∀w',Ext J3 w'→w'.cell? ⟨G,0,none⟩=some (.int .i64 x.k)∧w'.cell? ⟨G,1,none⟩=some (.int .i64 x.d)∧w'.cell? ⟨G,3,none⟩=some (.int .i64 x.f)∧w'.cell? ⟨G,5,none⟩=some (.int .i64 x.p)):=
     ah fun w' he=>⟨bJ hJ3 he 0,bJ hJ3 he 1,bJ hJ3 he 3,bJ hJ3 he 5⟩
    have hst:=RF (file:=file) (day:=day) hx
    rw[HF.out.1] at hst
    have HST:=ah hst
    obtain⟨pr,hpr⟩:=aC ((gu x.k&&(decide (x.f=file)&&(decide (x.d≤day)&&decide (x.k=0)))))
    rw[←hpr] at hst
    have hkeep:pr=false∨fo≠none→oJ file day (ys.take (i+1))=fo:=fun e=>by
     rw[hst]
     cases fo with
     | some f=>rfl
     | none=>
      rcases e with e|e
      ·rw[e];rfl
      ·exact absurd rfl e
    have hset:pr=true→fo=none→oJ file day (ys.take (i+1))=some x:=fun e1 e2=>by rw[hst,e2,e1];rfl
    obtain⟨ob,hob⟩:=aC (gu x.k)
    have zS:Hid (∀w',Calls Tryz.prog 41 #[.int .i64 x.k] w' fun e w''=>e=.returned (.bool ob)∧w'=w''):=ah fun w'=>by rw[hob,←RI];exact uG x.k w'
    rw[←hob] at hpr
    have Sr:=ah (And.intro hpr (And.intro hkeep hset))
    have HXD:=ah (zY.out.2.2.1 x hmem).1.d1
    have HG:=ah hG
    have H9:=ah (And.intro h9 hle3)
    have nN:=ah hlt
    clear hst hkeep hset hob hpr hmem hx hld l1 ha ha2 hw4 hJ3 h9 hle3 hG hS hil hlt hi
    go_upto_region 9 with (fail)
    rw[←HG.out]
    clear l0 s1 q0
    obtain⟨c0,c1',c3',c5⟩:=LM.out w4 H9.out.1.ext
    go_wp2_with fail
    refine (zS.out _).mono ?_
    rintro e w5 ⟨rfl,rfl⟩
    have hkp:Hid (∀z:Bool,z=pr→z=false→oJ file day (ys.take (i+1))=fo):=ah fun z e1 e2=>Sr.out.2.1 (.inl (e1 ▸ e2))
    cases ob with
    | false=>
     have HK:Hid (oJ file day (ys.take (i+1))=fo):=ah (Sr.out.2.1 (.inl (by rw[Sr.out.1];rfl)))
     go_wp2
     go_roundw
     case rel=>exact⟨i+1,fd,ap,fo,rfl,by go_num,by have:=nN.out;omega,ah ⟨HK.out,HF.out.2⟩,(H9.out.1.dO H9.out.2).p1⟩
     case measure=>simp[intOf];have:=nN.out;omega
    | true=>
     by_cases d1:x.f=file
     ·have z1:(x.f !=file)=false:=by simp[d1]
      by_cases d2:day<x.d
      ·have HK:Hid (oJ file day (ys.take (i+1))=fo):=ah (Sr.out.2.1 (.inl (by rw[Sr.out.1,decide_eq_false (show ¬x.d≤day by omega)];simp)))
       go_wp2
       go_roundw
       case rel=>exact⟨i+1,fd,ap,fo,rfl,by go_num,by have:=nN.out;omega,ah ⟨HK.out,HF.out.2⟩,(H9.out.1.dO H9.out.2).p1⟩
       case measure=>simp[intOf];have:=nN.out;omega
      ·by_cases d3:fd<0
       ·have hfo:fo=none:=by
         cases fo with
         | none=>rfl
         | some f=>have h1:=HF.out.2.1;have h2:=HF.out.2.2.2 f rfl;unfold fdO at h1;simp only at h1;omega
        by_cases d4:x.k=0
        ·have z4:(x.k==0)=true:=by simp[d4]
         have HK:Hid (oJ file day (ys.take (i+1))=some x):=ah (Sr.out.2.2 (by rw[Sr.out.1,d1,d4];simp;omega) hfo)
         have h6:=H9.out.1.p1
         have u1:=h6.aI 1
         have v1:w4.cell? ⟨p,1,none⟩=some (.int .i64 ap):=h6.cell 1
         have h7:=h6.setCell 1 (.int .i64 x.p)
         obtain⟨w6,hw6⟩:=aC (w4.setCell ⟨p,1,none⟩ (.int .i64 x.p))
         rw[←hw6] at h7
         have HW6:=ah hw6
         have H7:=ah h7
         clear h6 h7 hw6 hfo d4 hkp
         go_wp2
         rw[←HW6.out]
         go_roundw
         case rel=>exact⟨i+1,x.d,x.p,some x,rfl,by go_num,by have:=nN.out;omega,ah ⟨HK.out,rfl,rfl,fun f hf=>by cases hf;exact HXD.out⟩,(H7.out.p1.dO H9.out.2).p1⟩
         case measure=>simp[intOf];have:=nN.out;omega
        ·have z4:(x.k==0)=false:=by simp[d4]
         have HK:Hid (oJ file day (ys.take (i+1))=fo):=ah (Sr.out.2.1 (.inl (by rw[Sr.out.1,decide_eq_false d4];simp)))
         clear hfo d4 hkp
         go_wp2
         go_roundw
         case rel=>exact⟨i+1,fd,ap,fo,rfl,by go_num,by have:=nN.out;omega,ah ⟨HK.out,HF.out.2⟩,(H9.out.1.dO H9.out.2).p1⟩
         case measure=>simp[intOf];have:=nN.out;omega
       ·have HK:Hid (oJ file day (ys.take (i+1))=fo):=ah (Sr.out.2.1 (.inr (by rintro rfl;have h1:=HF.out.2.1;unfold fdO at h1;simp only at h1;omega)))
        go_wp2
        go_roundw
        case rel=>exact⟨i+1,fd,ap,fo,rfl,by go_num,by have:=nN.out;omega,ah ⟨HK.out,HF.out.2⟩,(H9.out.1.dO H9.out.2).p1⟩
        case measure=>simp[intOf];have:=nN.out;omega
     ·have z1:(x.f !=file)=true:=by simp[d1]
      have HK:Hid (oJ file day (ys.take (i+1))=fo):=ah (Sr.out.2.1 (.inl (by rw[Sr.out.1,decide_eq_false d1];simp)))
      go_wp2
      go_roundw
      case rel=>exact⟨i+1,fd,ap,fo,rfl,by go_num,by have:=nN.out;omega,ah ⟨HK.out,HF.out.2⟩,(H9.out.1.dO H9.out.2).p1⟩
      case measure=>simp[intOf];have:=nN.out;omega
   ·obtain rfl:i=n:=by omega
    as_aux_lemma=>
    have hfin:oJ file day ys=fo:=by rw[←HF.out.1,List.take_of_length_le (by rw[zY.out.2.1];exact Nat.le_refl _)]
    rcases IG zY.out.2.2.2 HR.out with ⟨he,hf⟩|⟨he,f1,hf1,hf⟩
    ·rw[hfin] at hf
     subst hf
     have hfd:fd=-1:=HF.out.2.1
     subst hfd
     have iR:Hid (Po (.returned (.tuple #[.pointer none,.int .i64 7])) wr):=ah (by rw[dZ.out,←zY.out.1,he];exact .inl ⟨by omega,rfl,J,gQ.out,hS.drop⟩)
     clear hfin he hS hi hlt
     go_wp2
     exact iR.out
    ·rw[hfin] at hf
     subst hf
     have hfm:f1∈ys:=List.mem_of_find?_eq_some hf1
     have hf0:0≤f1.d:=HF.out.2.2.2 f1 rfl
     have hfk:f1.k=0:=by
      have:=List.find?_some hf1
      unfold eY at this
      simp only[Bool.and_eq_true,decide_eq_true_eq] at this
      exact this.1
     have hpb:=((zY.out.2.2.1 f1 hfm).1.fi hfk).1
     have e1:fd=f1.d:=HF.out.2.1
     have e2:ap=f1.p:=HF.out.2.2.1
     obtain⟨P,hP⟩:∃P:Nat,f1.p=P:=⟨f1.p.toNat,by omega⟩
     rw[hP] at e2 hpb
     subst e1 e2
     obtain⟨fd,hfd⟩:=aC (f1.d)
     rw[←hfd] at hf0 ⊢
     have hfz:¬fd<0:=by omega
     have IL:=ah (And.intro hf1 (And.intro hP (And.intro he hfd)))
     have ajK:(P:Int)<4096:=by omega
     have HS:=ah hS
     clear hfin he hS hi hlt hf1 hfm hfk hP hfd HF
     go_wp2_with fail
     clear q0
     go_loopw [12] (fun kv wr=>∃(k:Nat) (a:Option Addr) (c:Nat),kv=.int .i64 k∧k≤4096∧Sat W wr (sep (blk p (.cells #[.slice b i d,.int .i64 (P:Nat),.slice a k c,.slice none 0 0,.slice none 0 0,.slice none 0 0] 74 (0,0))) (sep (aK 57 2 a k c (Ef k (fun _=>⟨0,1⟩))) (sep (kn J) A)))) (fun kv _=>4096-(intOf kv).toNat)
     case atStart=>exact⟨0,none,0,rfl,by omega,(by have:=(HS.out.p1.cZ 57 2);rw[show Ef 0 (fun _=>(⟨0,1⟩:Rt))=[] from rfl];simpa only[ay,au,aj] using this)⟩
     case round=>
      obtain⟨k,a,c,rfl,hk,hS⟩:=hrel
      clear HS
      by_cases hkl:k<4096
      ·as_aux_lemma=>
       have hkz:(k:Int)<4096:=by omega
       have v2:wr.cell? ⟨p,2,none⟩=some (.slice a k c):=hS.cell 2
       have hB:=(hS.dD (.cells #[.int .i64 0,.int .i64 1] 57)).p1
       have hsrc:=dS wr [.int .i64 0,.int .i64 1] 57
       have gI:=ah hsrc
       have HKL:=ah hkl
       clear hS hsrc hkl hk
       go_wp2_with (at_builtin;refine aJ rfl _ _ 72 rfl 57 2 16 _ Tryz.underlying72 Oz rfl rfl hB rfl [.int .i64 0,.int .i64 1] rfl (by simp) (by intro b' hb;cases hb;exact gI.out) (by simp[Value.oneCell']) (by omega) (by unfold maxLen;omega) ?_)
       intro a2 c2 w5 h5
       have h6:=h5.p1
       have u2:=h6.aI 2
       have v3:w5.cell? ⟨p,2,none⟩=some (.slice a k c):=h6.cell 2
       have H7:=ah (h6.setCell 2 (.slice a2 (k+1) c2))
       obtain⟨w6,hw6⟩:=aC (w5.setCell ⟨p,2,none⟩ (.slice a2 (k+1) c2))
       rw[←hw6] at H7
       have HW6:=ah hw6
       clear h5 h6 hB v2 hw6
       go_wp2
       rw[←HW6.out]
       go_roundw
       case rel=>exact⟨k+1,a2,c2,by go_num,by have:=HKL.out;omega,by have:=H7.out;rw[xW];exact this⟩
       case measure=>simp[intOf];have:=HKL.out;omega
      ·as_aux_lemma=>
       obtain rfl:k=4096:=by omega
       clear hkl hk
       obtain⟨g,rfl,hsh⟩:=hS.p1.osl_sh (by omega)
       have hsd:=hsh.drew
       go_wp2_with fail
       obtain⟨w12,Oy⟩:=aC (wr.drew)
       rw[←Oy] at hsd
       have V7:=ah Oy
       have cx:w12.cell? ⟨p,1,none⟩=some (.int .i64 (P:Nat)):=hsd.p1.cell 1
       have cp:w12.cell? ⟨p,2,none⟩=some (.slice (some ⟨g,0,none⟩) 4096 c):=hsd.p1.cell 2
       obtain⟨v0,v1⟩:=hsd.zA P (by omega)
       have f0:=hsd.F8 (P*2)
       have f1':=hsd.F8 (P*2+1)
       have hs2:=hsd.Ov P (by omega) ⟨1,1⟩
       obtain⟨Je,xH⟩:=aC ((w12.setCell ⟨g,P*2,none⟩ (.int .i64 1)).setCell ⟨g,P*2+1,none⟩ (.int .i64 1))
       have V8:=ah xH
       have HS2:Hid (Sat W Je _):=ah (by rw[xH];exact hs2)
       have hS0:True:=trivial
       clear hsh hsd hs2 Oy xH hS
       refine aA rfl (fun _=>True) [(0,.p),(1,.p),(2,.p),(3,.t),(4,.p),(5,.p),(6,.p),(7,.t),(8,.p),(9,.p),(10,.e false)] (by kernel_rfl) ?_
       rw[←V7.out]
       (repeat ((first|(refine eF (v:=?_) rfl rfl (fun w'=>?_) ?_;rotate_left;(go_simp;with_reducible rfl))|(refine eG (v:=?_) rfl rfl hS0 (fun w' hS=>?_) ?_;rotate_left;((try dsimp only at hS);go_simp;with_reducible rfl))|(refine eH (v:=?_) rfl rfl ?_ ?_;rotate_left;(go_simp;with_reducible rfl))|(refine bD rfl rfl ?_)|(refine bG rfl rfl hS0 ?_)|(refine bH rfl rfl ?_));simp only[Act.put,lsA,lsB,bC]))
       (refine iQ rfl rfl (fun K hK=>?_);go_simp)
       rw[←V8.out]
       (refine hK _ _ (fun h=>by cases h) ?_;clear hK K;(try simp only[Act.put,lsA,lsB,bC]))
       refine bM ?_
       clear cx cp v0 v1 f0 f1' V7 V8
       have HT0:Hid (Sat W Je (sep (RG p (.slice b i d) (P:Nat) g c (rJ (fun _=>⟨0,1⟩) P ⟨1,1⟩) ⟨[],[],[]⟩) (sep (kn J) A))):=ah (IJ (aF:=none) (cF:=0) (aD:=none) (cD:=0) (aL:=none) (cL:=0) (by
        have h8:=((HS2.out.cZ 3 1).cZ 3 1).cZ 84 4
        show Sat W Je (sep (blk p (.cells #[.slice b i d,.int .i64 (P:Nat),.slice (some ⟨g,0,none⟩) 4096 c,.slice none 0 0,.slice none 0 0,.slice none 0 0] 74 (0,0))) (sep (Ah 57 g 4096 (rJ (fun _=>⟨0,1⟩) P ⟨1,1⟩)) (sep (aK 3 1 none 0 0 []) (sep (aK 3 1 none 0 0 []) (sep (aK 84 4 none 0 0 []) (sep (kn J) A))))))
        simpa only[ay,au,aj] using h8))
       obtain⟨R,hR⟩:=aC (walkT file fd day qH 0 ys (bW P) ⟨[],[],[]⟩)
       have HRR:=ah hR
       clear HS2 hR
       go_wp2_with fail
       go_loopw [13] (fun kv wr=>∃(k:Nat) (S:l7) (s:WV) (f:Nat→Rt),kv=.int .i64 k∧k≤i∧Hid (walkT file fd day qH k (ys.drop k) S s=R∧(∀j:Nat,f j=aQ S j)∧s.dn.length+s.fl.length+s.li.length≤k)∧Sat W wr (sep (RG p (.slice b i d) (P:Nat) g c f s) (sep (kn J) A))) (fun kv _=>i-(intOf kv).toNat)
       case atStart=>exact⟨0,bW P,⟨[],[],[]⟩,_,rfl,by omega,ah ⟨by rw[List.drop_zero,HRR.out],fun j=>by
        unfold rJ aQ bW jd
        by_cases e:j=P
        ·simp[e]
        ·have e2:¬(j:Int)=P:=by omega
         simp[e,e2],by simp⟩,HT0.out⟩
       case round=>
        obtain⟨k,S,s,f,rfl,hk,HK,hS⟩:=hrel
        clear HT0
        obtain⟨aF,cF,aD,cD,aL,cL,hO⟩:=xw hS
        have q0:wr.cell? ⟨p,0,none⟩=some (.slice b i d):=hO.cell 0
        by_cases hlt:k<i
        ·as_aux_lemma=>
         have hltz:(k:Int)<(i:Int):=by omega
         have XC:(k:Int)<40:=by omega
         have hkl:k<ys.length:=by rw[zY.out.2.1];exact hlt
         obtain⟨bb,oo,rfl,hld⟩:=wY Uz.out (fun e=>by rw[e] at hkl;simp at hkl)
         obtain⟨x,hx⟩:=aC (ys[k])
         have hmem:x∈ys:=by rw[hx];exact List.getElem_mem hkl
         have hdrop:ys.drop k=x::ys.drop (k+1):=by rw[hx];exact List.drop_eq_getElem_cons hkl
         have l0:Sem.run Tryz.prog (jo (.pointer (some ⟨bb,oo+k*19,none⟩))) wr=.ok (.agg x.cells.toArray) wr:=by
          have:=hld wr hS.p1.ext k hkl
          rwa [←hx] at this
         have hmiss:aX file fd day x=false→walkT file fd day qH (k+1) (ys.drop (k+1)) S s=R:=fun e=>by
          have:=HK.out.1
          rwa [hdrop,vg e] at this
         have hhit:aX file fd day x=true→walkT file fd day qH (k+1) (ys.drop (k+1)) (PA.stepT S x).1 (qH s k x (PA.stepT S x).2)=R:=fun e=>by
          have:=HK.out.1
          rwa [hdrop,xX e] at this
         have ha:=hS.alloc (.cells #[.int .i64 0,.int .i64 0,.int .i64 0,.int .i64 0,.int .i64 0,.int .i64 0,.int .i64 0,.int .i64 0,.int .i64 0,.int .i64 0,.int .i64 0,.slice none 0 0,.slice none 0 0,.slice none 0 0,.slice none 0 0,.int .i64 0,.int .i64 0,.slice none 0 0,.slice none 0 0] 67)
         have s1:=aY ha.aN rfl x
         have ha2:=ha.setRow x.cells.toArray
         obtain⟨w4,hw4⟩:=aC ((wr.alloc (.cells #[.int .i64 0,.int .i64 0,.int .i64 0,.int .i64 0,.int .i64 0,.int .i64 0,.int .i64 0,.int .i64 0,.int .i64 0,.int .i64 0,.int .i64 0,.slice none 0 0,.slice none 0 0,.slice none 0 0,.slice none 0 0,.int .i64 0,.int .i64 0,.slice none 0 0,.slice none 0 0] 67)).setRow wr.heap.size x.cells.toArray)
         rw[←hw4] at s1 ha2
         obtain⟨G,hG⟩:=aC (wr.heap.size)
         rw[←hG] at ha2
         obtain⟨J3,hle3,hJ3,h9⟩:=(show Sat W w4 (sep (Y0 G (.cells x.cells.toArray 67 (0,0))) (sep (kn J) (sep (RG p (.slice (some ⟨bb,oo,none⟩) i d) (P:Nat) g c f s) A))) from ha2.settle.p2.p1).learn
         have LM:Hid (∀w',Ext J3 w'→(w'.cell? ⟨G,0,none⟩=some (.int .i64 x.k)∧w'.cell? ⟨G,1,none⟩=some (.int .i64 x.d)∧w'.cell? ⟨G,3,none⟩=some (.int .i64 x.f)∧w'.cell? ⟨G,5,none⟩=some (.int .i64 x.p)∧w'.cell? ⟨G,6,none⟩=some (.int .i64 x.q)∧w'.cell? ⟨G,7,none⟩=some (.int .i64 x.u))∧Sem.run Tryz.prog (jo (.pointer (some ⟨G,0,none⟩))) w'=.ok (.agg x.cells.toArray) w'):=
          ah fun w' he=>⟨⟨bJ hJ3 he 0,bJ hJ3 he 1,bJ hJ3 he 3,bJ hJ3 he 5,bJ hJ3 he 6,bJ hJ3 he 7⟩,kF fun j v hj=>by rw[bJ hJ3 he j];exact hj⟩
         have lQ:=ah hmiss
         have Qq:=ah hhit
         have HXT:=ah (zY.out.2.2.1 x hmem)
         have HG:=ah hG
         have H9:=ah (And.intro h9 hle3)
         have nN:=ah hlt
         obtain⟨aF,cF,aD,cD,aL,cL,hO⟩:=xw h9.p1
         have HO:=ah hO
         clear hmiss hhit hx hmem hdrop hld ha ha2 hw4 hJ3 h9 hle3 hG hS hkl hlt hk hO
         go_upto_region 24 with (fail)
         rw[←HG.out]
         clear l0 s1 q0
         obtain⟨⟨c0,cx1,cx3,cx5,cx6,cx7⟩,lx⟩:=LM.out w4 H9.out.1.ext
         by_cases d1:x.f=file
         ·have z1:(x.f !=file)=false:=by simp[d1]
          by_cases d2:day<x.d
          ·have z2:¬x.d≤day:=by omega
           have Nk:Hid (walkT file fd day qH (k+1) (ys.drop (k+1)) S s=R):=ah (lQ.out (by unfold aX;rw[decide_eq_false z2];simp))
           clear HO
           go_wp2
           go_roundw
           case rel=>exact⟨k+1,S,s,f,by go_num,by have:=nN.out;omega,ah ⟨Nk.out,HK.out.2.1,by have:=HK.out.2.2;omega⟩,(H9.out.1.dO H9.out.2).p1⟩
           case measure=>simp[intOf];have:=nN.out;omega
          ·by_cases d3:x.d<fd
           ·have z3:¬fd≤x.d:=by omega
            have Nk:Hid (walkT file fd day qH (k+1) (ys.drop (k+1)) S s=R):=ah (lQ.out (by unfold aX;rw[decide_eq_false z3];simp))
            clear HO
            go_wp2
            go_roundw
            case rel=>exact⟨k+1,S,s,f,by go_num,by have:=nN.out;omega,ah ⟨Nk.out,HK.out.2.1,by have:=HK.out.2.2;omega⟩,(H9.out.1.dO H9.out.2).p1⟩
            case measure=>simp[intOf];have:=nN.out;omega
           ·by_cases Sz:x.k=16
            ·have hcb:aX file fd day x=true:=by unfold aX;rw[d1,Sz];simp[gu];omega
             have ZK:=ah (Qq.out hcb)
             have hst:PA.stepT S x=lN S x:=by unfold PA.stepT;rw[if_pos Sz]
             obtain⟨hok,hsn,hpb,hqb,hpq⟩:=HXT.out.1.tr Sz
             obtain⟨P1,hP1⟩:∃P1:Nat,x.p=P1:=⟨x.p.toNat,by omega⟩
             obtain⟨Q1,WU⟩:∃Q1:Nat,x.q=Q1:=⟨x.q.toNat,by omega⟩
             have hmp:=YV HK.out.2.1 x hP1 WU
             have hO2:Sat W w4 (sep (Dx p (.slice (some ⟨bb,oo,none⟩) i d) (P:Nat) g c (.slice aF s.fl.length cF) (.slice aD s.dn.length cD) (.slice aL s.li.length cL) f) (sep (aK 3 1 aF s.fl.length cF (s.fl.map PA.iv)) (sep (aK 3 1 aD s.dn.length cD (s.dn.map fun t=>PA.iv (t.1:Int))) (sep (aK 84 4 aL s.li.length cL (jG s.li)) (sep (kn J3) A))))):=by
              unfold Dx;rw[aj];exact HO.out
             have hmv:=Ox x P1 Q1 hP1 WU (by omega) (by omega) hok hO2
             obtain⟨⟨f',mb⟩,hmb⟩:∃z,z=Dw f P1 Q1 x.sh:=⟨_,rfl⟩
             rw[←hmb] at hmv hmp
             have PW:=ah (And.intro hmp (And.intro hst Sz))
             have Zt:=ah hmv
             have z16:(x.k==16)=true:=by simp[Sz]
             have z17:(x.k==17)=false:=by simp[Sz]
             clear hcb hst hok hsn hpb hqb hpq hP1 WU hmp hO2 hmv hmb Sz HO
             go_wp2_with fail
             refine Zt.out.mono ?_
             rintro e w5 ⟨rfl,h5⟩
             clear Zt c0 cx1 cx3 cx5 cx6 cx7 lx
             obtain⟨nF,hnF⟩:=aC (s.fl.length)
             obtain⟨nD,hnD⟩:=aC (s.dn.length)
             obtain⟨nL,hnL⟩:=aC (s.li.length)
             have D9:=ah (And.intro hnF (And.intro hnD hnL))
             have hnb:nD+nF+nL≤40:=by have:=HK.out.2.2;have:=nN.out;omega
             rw[←hnF,←hnD,←hnL] at h5
             unfold Dx at h5
             rw[aj] at h5
             have c0:=(LM.out w5 h5.p5.ext).1.1
             clear hnF hnD hnL
             cases mb with
             | true=>
              as_aux_lemma=>
              have v4:w5.cell? ⟨p,4,none⟩=some (.slice aD nD cD):=h5.cell 4
              have hB:=(h5.dD (.cells #[.int .i64 (k:Nat)] 3)).p3
              have hsrc:=dS w5 [.int .i64 (k:Nat)] 3
              have gI:=ah hsrc
              clear h5 hsrc
              go_wp2_with (at_builtin;refine aJ rfl _ _ 22 rfl 3 1 8 _ Tryz.underlying22 wG rfl rfl hB rfl [.int .i64 (k:Nat)] rfl (by simp) (by intro b' hb;cases hb;exact gI.out) (by simp[Value.oneCell']) (by omega) (by unfold maxLen;omega) ?_)
              intro a6 c6 w6 h6
              have h7:=h6.p1
              have u4:=h7.aI 4
              have v5:w6.cell? ⟨p,4,none⟩=some (.slice aD nD cD):=h7.cell 4
              have h8:=h7.setCell 4 (.slice a6 (nD+1) c6)
              simp only[lsA,lsB,bC] at h8
              obtain⟨w7,hw7⟩:=aC (w6.setCell ⟨p,4,none⟩ (.slice a6 (nD+1) c6))
              rw[←hw7] at h8
              have UA:=ah hw7
              have hd8:=h8.drew
              obtain⟨w8,hw8⟩:=aC (w7.drew)
              rw[←hw8] at hd8
              have JJ:=ah hw8
              have c8:=(LM.out w8 hd8.p5.ext).1.1
              have Xt:Hid (Sat W w8 (sep (RG p (.slice (some ⟨bb,oo,none⟩) i d) (P:Nat) g c f' (qH s k x true)) (sep (kn J) A))):=ah (by
               have e:qH s k x true={ s with dn:=s.dn++[(k,x)] }:=by unfold qH;rw[if_pos PW.out.2.2,if_pos rfl]
               rw[e]
               refine IJ (aF:=aF) (cF:=cF) (aD:=a6) (cD:=c6) (aL:=aL) (cL:=cL) ?_
               simp only[dI,List.length_singleton,lS,List.map_cons,List.map_nil,←D9.out.1,←D9.out.2.1,←D9.out.2.2]
               have h10:Sat W w8 (sep (kn J3) (sep (blk p (.cells #[.slice (some ⟨bb,oo,none⟩) i d,.int .i64 (P:Nat),.slice (some ⟨g,0,none⟩) 4096 c,.slice aF nF cF,.slice a6 (nD+1) c6,.slice aL nL cL] 74 (0,0))) (sep (Ah 57 g 4096 f') (sep (aK 3 1 aF nF cF (s.fl.map PA.iv)) (sep (aK 3 1 a6 (nD+1) c6 (s.dn.map (fun t=>PA.iv (t.1:Int))++[.int .i64 (k:Nat)])) (sep (aK 84 4 aL nL cL (jG s.li)) A)))))):=by
                simpa only[ay,au,aj] using hd8
               have h11:=h10.dO H9.out.2
               simpa only[ay,au,aj,PA.iv] using h11)
              clear h6 h7 h8 hB v4 hw7 hw8 hd8 c0
              go_upto_region 30 with (fail)
              rw[←UA.out]
              refine aA rfl (fun _=>True) [(0,.p),(1,.t),(2,.p),(3,.p),(4,.p),(5,.p),(6,.p),(7,.t),(8,.p),(9,.t),(10,.p),(11,.p),(12,.t),(13,.p),(14,.p)] (by kernel_rfl) ?_
              have hS0:True:=trivial
              rw[←JJ.out]
              clear u4 v5 UA JJ
              (repeat ((first|(refine eF (v:=?_) rfl rfl (fun w'=>?_) ?_;rotate_left;(go_simp;with_reducible rfl))|(refine eG (v:=?_) rfl rfl hS0 (fun w' hS=>?_) ?_;rotate_left;((try dsimp only at hS);go_simp;with_reducible rfl))|(refine eH (v:=?_) rfl rfl ?_ ?_;rotate_left;(go_simp;with_reducible rfl))|(refine bD rfl rfl ?_)|(refine bG rfl rfl hS0 ?_)|(refine bH rfl rfl ?_));simp only[Act.put,lsA,lsB,bC]))
              refine bM ?_
              go_wp2
              go_roundw
              case rel=>exact⟨k+1,(PA.stepT S x).1,qH s k x true,f',by go_num,by have:=nN.out;omega,ah ⟨by have h1:=ZK.out;rw[PW.out.2.1,←PW.out.1.1] at h1;rw[PW.out.2.1];exact h1,by rw[PW.out.2.1];exact PW.out.1.2,by have h1:=HK.out.2.2;unfold qH;rw[if_pos PW.out.2.2,if_pos rfl];simp only[dI,List.length_singleton];omega⟩,Xt.out⟩
              case measure=>simp[intOf];have:=nN.out;omega
             | false=>
              as_aux_lemma=>
              have v4:w5.cell? ⟨p,3,none⟩=some (.slice aF nF cF):=h5.cell 3
              have hB:=(h5.dD (.cells #[.int .i64 (k:Nat)] 3)).p2
              have hsrc:=dS w5 [.int .i64 (k:Nat)] 3
              have gI:=ah hsrc
              clear h5 hsrc
              go_wp2_with (at_builtin;refine aJ rfl _ _ 22 rfl 3 1 8 _ Tryz.underlying22 wG rfl rfl hB rfl [.int .i64 (k:Nat)] rfl (by simp) (by intro b' hb;cases hb;exact gI.out) (by simp[Value.oneCell']) (by omega) (by unfold maxLen;omega) ?_)
              intro a6 c6 w6 h6
              have h7:=h6.p1
              have u4:=h7.aI 3
              have v5:w6.cell? ⟨p,3,none⟩=some (.slice aF nF cF):=h7.cell 3
              have h8:=h7.setCell 3 (.slice a6 (nF+1) c6)
              simp only[lsA,lsB,bC] at h8
              obtain⟨w7,hw7⟩:=aC (w6.setCell ⟨p,3,none⟩ (.slice a6 (nF+1) c6))
              rw[←hw7] at h8
              have UA:=ah hw7
              have hd8:=h8.drew
              obtain⟨w8,hw8⟩:=aC (w7.drew)
              rw[←hw8] at hd8
              have JJ:=ah hw8
              have c8:=(LM.out w8 hd8.p5.ext).1.1
              have Xt:Hid (Sat W w8 (sep (RG p (.slice (some ⟨bb,oo,none⟩) i d) (P:Nat) g c f' (qH s k x false)) (sep (kn J) A))):=ah (by
               have e:qH s k x false={ s with fl:=s.fl++[(k:Int)] }:=by unfold qH;rw[if_pos PW.out.2.2,if_neg (by simp)]
               rw[e]
               refine IJ (aF:=a6) (cF:=c6) (aD:=aD) (cD:=cD) (aL:=aL) (cL:=cL) ?_
               simp only[dI,List.length_singleton,lS,List.map_cons,List.map_nil,←D9.out.1,←D9.out.2.1,←D9.out.2.2]
               have h10:Sat W w8 (sep (kn J3) (sep (blk p (.cells #[.slice (some ⟨bb,oo,none⟩) i d,.int .i64 (P:Nat),.slice (some ⟨g,0,none⟩) 4096 c,.slice a6 (nF+1) c6,.slice aD nD cD,.slice aL nL cL] 74 (0,0))) (sep (Ah 57 g 4096 f') (sep (aK 3 1 a6 (nF+1) c6 (s.fl.map PA.iv++[.int .i64 (k:Nat)])) (sep (aK 3 1 aD nD cD (s.dn.map (fun t=>PA.iv (t.1:Int)))) (sep (aK 84 4 aL nL cL (jG s.li)) A)))))):=by
                simpa only[ay,au,aj] using hd8
               have h11:=h10.dO H9.out.2
               simpa only[ay,au,aj,PA.iv] using h11)
              clear h6 h7 h8 hB v4 hw7 hw8 hd8 c0
              go_upto_region 30 with (fail)
              rw[←UA.out]
              refine aA rfl (fun _=>True) [(0,.p),(1,.t),(2,.p),(3,.p),(4,.p),(5,.p),(6,.p),(7,.t),(8,.p),(9,.t),(10,.p),(11,.p),(12,.t),(13,.p),(14,.p)] (by kernel_rfl) ?_
              have hS0:True:=trivial
              rw[←JJ.out]
              clear u4 v5 UA JJ
              (repeat ((first|(refine eF (v:=?_) rfl rfl (fun w'=>?_) ?_;rotate_left;(go_simp;with_reducible rfl))|(refine eG (v:=?_) rfl rfl hS0 (fun w' hS=>?_) ?_;rotate_left;((try dsimp only at hS);go_simp;with_reducible rfl))|(refine eH (v:=?_) rfl rfl ?_ ?_;rotate_left;(go_simp;with_reducible rfl))|(refine bD rfl rfl ?_)|(refine bG rfl rfl hS0 ?_)|(refine bH rfl rfl ?_));simp only[Act.put,lsA,lsB,bC]))
              refine bM ?_
              go_wp2
              go_roundw
              case rel=>exact⟨k+1,(PA.stepT S x).1,qH s k x false,f',by go_num,by have:=nN.out;omega,ah ⟨by have h1:=ZK.out;rw[PW.out.2.1,←PW.out.1.1] at h1;rw[PW.out.2.1];exact h1,by rw[PW.out.2.1];exact PW.out.1.2,by have h1:=HK.out.2.2;unfold qH;rw[if_pos PW.out.2.2,if_neg (by simp)];simp only[dI,List.length_singleton];omega⟩,Xt.out⟩
              case measure=>simp[intOf];have:=nN.out;omega
            ·have z16:(x.k==16)=false:=by simp[Sz]
             have hd8:=HO.out.drew
             obtain⟨w8,hw8⟩:=aC (w4.drew)
             rw[←hw8] at hd8
             have JJ:=ah hw8
             obtain⟨nF,hnF⟩:=aC (s.fl.length)
             obtain⟨nD,hnD⟩:=aC (s.dn.length)
             obtain⟨nL,hnL⟩:=aC (s.li.length)
             have D9:=ah (And.intro hnF (And.intro hnD hnL))
             have hnb:nD+nF+nL≤40:=by have:=HK.out.2.2;have:=nN.out;omega
             rw[←hnF,←hnD,←hnL] at hd8
             have v2:w8.cell? ⟨p,2,none⟩=some (.slice (some ⟨g,0,none⟩) 4096 c):=hd8.cell 2
             obtain⟨⟨c8,e1,e3,e5,e6,e7⟩,-⟩:=LM.out w8 hd8.p5.ext
             have HD8:=ah hd8
             have HFS:Hid (Sat W w8 (sep (RG p (.slice (some ⟨bb,oo,none⟩) i d) (P:Nat) g c f s) (sep (kn J) A))):=ah (by rw[hw8];exact (H9.out.1.dO H9.out.2).p1.drew)
             clear hw8 hnF hnD hnL HO
             by_cases d17:x.k=17
             ·have z17:(x.k==17)=true:=by simp[d17]
              have hcb:aX file fd day x=true:=by unfold aX;rw[d1,d17];simp[gu];omega
              have hst:PA.stepT S x=(S,decide (0<(aQ S x.p).n)):=by unfold PA.stepT;rw[if_neg Sz]
              have hpb:=HXT.out.2.li d17
              obtain⟨P1,hP1⟩:∃P1:Nat,x.p=P1:=⟨x.p.toNat,by omega⟩
              have hfp:=HK.out.2.1 P1
              rw[←hP1] at hfp
              rw[hP1] at e5 hpb
              have hPz:(P1:Int)<4096:=by omega
              obtain⟨s0,-⟩:=hd8.p1.zA P1 (by omega)
              have h17:=Qq.out hcb
              rw[hst] at h17
              rw[←hfp] at h17
              obtain⟨fn,hfn⟩:=aC ((f P1).n)
              rw[←hfn] at h17 s0
              have TD:=ah (And.intro h17 (And.intro Sz hP1))
              clear hcb hst hfp h17 hfn d17 Sz hpb hd8 hP1
              by_cases hpos:0<fn
              ·as_aux_lemma=>
               go_upto_region 30 with (fail)
               refine aA rfl (fun _=>True) [(0,.p),(1,.t),(2,.p),(3,.p),(4,.p),(5,.p),(6,.p),(7,.t),(8,.p),(9,.t),(10,.p),(11,.p),(12,.t),(13,.p),(14,.p)] (by kernel_rfl) ?_
               have hS0:True:=trivial
               rw[←JJ.out]
               (repeat ((first|(refine eF (v:=?_) rfl rfl (fun w'=>?_) ?_;rotate_left;(go_simp;with_reducible rfl))|(refine eG (v:=?_) rfl rfl hS0 (fun w' hS=>?_) ?_;rotate_left;((try dsimp only at hS);go_simp;with_reducible rfl))|(refine eH (v:=?_) rfl rfl ?_ ?_;rotate_left;(go_simp;with_reducible rfl))|(refine bD rfl rfl ?_)|(refine bG rfl rfl hS0 ?_)|(refine bH rfl rfl ?_));simp only[Act.put,lsA,lsB,bC]))
               refine bM ?_
               have HP:=ah hpos
               clear hS0 v2 s0 c8 e1 e3 e5 e6 e7 JJ c0 cx1 cx3 cx5 cx6 cx7 lx
               go_wp2
               have hd9:=HD8.out.drew
               obtain⟨w9,Uu⟩:=aC (w8.drew)
               rw[←Uu] at hd9
               have HW9:=ah Uu
               obtain⟨⟨c8,e1,e3,e5,e6,e7⟩,-⟩:=LM.out w9 hd9.p5.ext
               have hS0:w9.cell? ⟨p,5,none⟩=some (.slice aL nL cL):=hd9.cell 5
               have hal:=hd9.dD (.cells #[.int .i64 x.p,.int .i64 x.q,.int .i64 x.d,.int .i64 x.u] 84)
               have hB:=hal.p4
               have hS1:=hal.cell 5
               have hsrc:=dS w9 [.int .i64 x.p,.int .i64 x.q,.int .i64 x.d,.int .i64 x.u] 84
               have gI:=ah hsrc
               have HB:=ah hB
               have OM:Hid ((w9.alloc (.cells #[.int .i64 x.p,.int .i64 x.q,.int .i64 x.d,.int .i64 x.u] 84)).cell? ⟨p,5,none⟩=some (.slice aL nL cL)):=ah hS1
               clear hd9 Uu hal hB hS1 hsrc
               refine aA rfl (fun w'=>w'.cell? ⟨p,5,none⟩=some (.slice aL nL cL)) [(0,.p),(1,.p),(2,.p),(3,.p),(4,.s),(5,.p),(6,.t),(7,.p),(8,.t),(9,.p),(10,.t),(11,.p),(12,.t),(13,.p),(14,.e true),(15,.e false),(16,.p),(17,.p),(18,.e false)] (by kernel_rfl) ?_
               rw[←HW9.out]
               (repeat ((first|(refine eF (v:=?_) rfl rfl (fun w'=>?_) ?_;rotate_left;(go_simp;with_reducible rfl))|(refine eG (v:=?_) rfl rfl hS0 (fun w' hS=>?_) ?_;rotate_left;((try dsimp only at hS);go_simp;with_reducible rfl))|(refine eH (v:=?_) rfl rfl ?_ ?_;rotate_left;(go_simp;with_reducible rfl))|(refine bD rfl rfl ?_)|(refine bG rfl rfl hS0 ?_)|(refine bH rfl rfl ?_));simp only[Act.put,lsA,lsB,bC]))
               clear c8 e1 e3 e5 e6 e7
               (refine iQ rfl rfl (fun K hK=>?_);go_simp)
               (refine hK _ _ (fun _=>OM.out) ?_;clear hK K;(try simp only[Act.put,lsA,lsB,bC]))
               clear hS0
               refine iQ rfl rfl (fun K hK=>?_)
               refine fO (.tmp 184) (.tmp 194) 44 rfl 84 4 32 _ Tryz.underlying44 F9 rfl rfl HB.out rfl [.int .i64 x.p,.int .i64 x.q,.int .i64 x.d,.int .i64 x.u] rfl (by simp) (by intro b' hb;cases hb;exact gI.out) (by simp[Value.oneCell']) (by omega) (by unfold maxLen;omega) ?_
               intro a6 c6 w6 h6
               have h7:=h6.p1
               have u4:=h7.aI 5
               have v5:w6.cell? ⟨p,5,none⟩=some (.slice aL nL cL):=h7.cell 5
               have h8:=h7.setCell 5 (.slice a6 (nL+1) c6)
               simp only[lsA,lsB,bC] at h8
               obtain⟨w7,hw7⟩:=aC (w6.setCell ⟨p,5,none⟩ (.slice a6 (nL+1) c6))
               rw[←hw7] at h8
               have UA:=ah hw7
               have Xt:Hid (Sat W w7 (sep (RG p (.slice (some ⟨bb,oo,none⟩) i d) (P:Nat) g c f (qH s k x true)) (sep (kn J) A))):=ah (by
                have e:qH s k x true={ s with li:=s.li++[⟨x.p,x.q,x.d,x.u⟩] }:=by unfold qH;rw[if_neg TD.out.2.1,if_pos rfl]
                rw[e]
                refine IJ (aF:=aF) (cF:=cF) (aD:=aD) (cD:=cD) (aL:=a6) (cL:=c6) ?_
                simp only[dI,List.length_singleton,pR,←D9.out.1,←D9.out.2.1,←D9.out.2.2]
                rw[show jG [⟨x.p,x.q,x.d,x.u⟩]=[.int .i64 x.p,.int .i64 x.q,.int .i64 x.d,.int .i64 x.u] from rfl]
                have h10:Sat W w7 (sep (kn J3) (sep (blk p (.cells #[.slice (some ⟨bb,oo,none⟩) i d,.int .i64 (P:Nat),.slice (some ⟨g,0,none⟩) 4096 c,.slice aF nF cF,.slice aD nD cD,.slice a6 (nL+1) c6] 74 (0,0))) (sep (Ah 57 g 4096 f) (sep (aK 3 1 aF nF cF (s.fl.map PA.iv)) (sep (aK 3 1 aD nD cD (s.dn.map (fun t=>PA.iv (t.1:Int)))) (sep (aK 84 4 a6 (nL+1) c6 (jG s.li++[.int .i64 x.p,.int .i64 x.q,.int .i64 x.d,.int .i64 x.u])) A)))))):=by
                 simpa only[ay,au,aj] using h8
                have h11:=h10.dO H9.out.2
                simpa only[ay,au,aj] using h11)
               clear h6 h7 h8 hw7 HB gI HD8 HFS
               (refine hK _ _ (fun h=>by cases h) ?_;clear hK K;(try simp only[Act.put,lsA,lsB,bC]))
               (repeat ((first|(refine eF (v:=?_) rfl rfl (fun w'=>?_) ?_;rotate_left;(go_simp;with_reducible rfl))|(refine eG (v:=?_) rfl rfl hS0 (fun w' hS=>?_) ?_;rotate_left;((try dsimp only at hS);go_simp;with_reducible rfl))|(refine eH (v:=?_) rfl rfl ?_ ?_;rotate_left;(go_simp;with_reducible rfl))|(refine bD rfl rfl ?_)|(refine bG rfl rfl hS0 ?_)|(refine bH rfl rfl ?_));simp only[Act.put,lsA,lsB,bC]))
               (refine iQ rfl rfl (fun K hK=>?_);go_simp)
               rw[←UA.out]
               (refine hK _ _ (fun h=>by cases h) ?_;clear hK K;(try simp only[Act.put,lsA,lsB,bC]))
               refine bM ?_
               go_wp2
               go_roundw
               case rel=>exact⟨k+1,S,qH s k x true,f,by go_num,by have:=nN.out;omega,ah ⟨by have h1:=TD.out.1;rw[decide_eq_true HP.out] at h1;exact h1,HK.out.2.1,by have h1:=HK.out.2.2;unfold qH;rw[if_neg TD.out.2.1,if_pos rfl];simp only[dI,List.length_singleton];omega⟩,Xt.out⟩
               case measure=>simp[intOf];have:=nN.out;omega
              ·as_aux_lemma=>
               go_upto_region 30 with (fail)
               refine aA rfl (fun _=>True) [(0,.p),(1,.t),(2,.p),(3,.p),(4,.p),(5,.p),(6,.p),(7,.t),(8,.p),(9,.t),(10,.p),(11,.p),(12,.t),(13,.p),(14,.p)] (by kernel_rfl) ?_
               have hS0:True:=trivial
               rw[←JJ.out]
               (repeat ((first|(refine eF (v:=?_) rfl rfl (fun w'=>?_) ?_;rotate_left;(go_simp;with_reducible rfl))|(refine eG (v:=?_) rfl rfl hS0 (fun w' hS=>?_) ?_;rotate_left;((try dsimp only at hS);go_simp;with_reducible rfl))|(refine eH (v:=?_) rfl rfl ?_ ?_;rotate_left;(go_simp;with_reducible rfl))|(refine bD rfl rfl ?_)|(refine bG rfl rfl hS0 ?_)|(refine bH rfl rfl ?_));simp only[Act.put,lsA,lsB,bC]))
               refine bM ?_
               have HP:=ah hpos
               clear hS0 v2 s0 c8 e1 e3 e5 e6 e7 JJ c0 cx1 cx3 cx5 cx6 cx7 lx
               go_wp2
               go_roundw
               case rel=>exact⟨k+1,S,qH s k x false,f,by go_num,by have:=nN.out;omega,ah ⟨by have h1:=TD.out.1;rw[decide_eq_false HP.out] at h1;exact h1,HK.out.2.1,by have h1:=HK.out.2.2;unfold qH;rw[if_neg TD.out.2.1,if_neg (by simp)];omega⟩,(by have h1:=HFS.out;unfold qH;rw[if_neg TD.out.2.1,if_neg (by simp)];exact h1)⟩
               case measure=>simp[intOf];have:=nN.out;omega
             ·as_aux_lemma=>
              have z17:(x.k==17)=false:=by simp[d17]
              have Nk:Hid (walkT file fd day qH (k+1) (ys.drop (k+1)) S s=R):=ah (lQ.out (by unfold aX;simp[Sz,d17]))
              go_upto_region 30 with (fail)
              refine aA rfl (fun _=>True) [(0,.p),(1,.t),(2,.p),(3,.p),(4,.p),(5,.p),(6,.p),(7,.t),(8,.p),(9,.t),(10,.p),(11,.p),(12,.t),(13,.p),(14,.p)] (by kernel_rfl) ?_
              have hS0:True:=trivial
              rw[←JJ.out]
              (repeat ((first|(refine eF (v:=?_) rfl rfl (fun w'=>?_) ?_;rotate_left;(go_simp;with_reducible rfl))|(refine eG (v:=?_) rfl rfl hS0 (fun w' hS=>?_) ?_;rotate_left;((try dsimp only at hS);go_simp;with_reducible rfl))|(refine eH (v:=?_) rfl rfl ?_ ?_;rotate_left;(go_simp;with_reducible rfl))|(refine bD rfl rfl ?_)|(refine bG rfl rfl hS0 ?_)|(refine bH rfl rfl ?_));simp only[Act.put,lsA,lsB,bC]))
              refine bM ?_
              go_wp2
              go_roundw
              case rel=>exact⟨k+1,S,s,f,by go_num,by have:=nN.out;omega,ah ⟨Nk.out,HK.out.2.1,by have:=HK.out.2.2;omega⟩,HFS.out⟩
              case measure=>simp[intOf];have:=nN.out;omega
         ·have z1:(x.f !=file)=true:=by simp[d1]
          have Nk:Hid (walkT file fd day qH (k+1) (ys.drop (k+1)) S s=R):=ah (lQ.out (by unfold aX;rw[decide_eq_false d1];simp))
          clear HO
          go_wp2
          go_roundw
          case rel=>exact⟨k+1,S,s,f,by go_num,by have:=nN.out;omega,ah ⟨Nk.out,HK.out.2.1,by have:=HK.out.2.2;omega⟩,(H9.out.1.dO H9.out.2).p1⟩
          case measure=>simp[intOf];have:=nN.out;omega
        ·obtain rfl:k=i:=by omega
         have hRe:R=(S,s):=by rw[←HK.out.1,List.drop_of_length_le (by rw[zY.out.2.1];exact Nat.le_refl _)];rfl
         have iR:Hid (Po (.returned (.tuple #[.pointer (some ⟨p,0,none⟩),.int .i64 0])) wr):=ah (by
          rw[dZ.out,←zY.out.1,IL.out.2.2.1]
          refine .inr ⟨rfl,p,b,d,(P:Nat),g,c,f,f1,J,rfl,IL.out.1,gQ.out,Uz.out,fun j=>?_,?_⟩
          ·rw[HK.out.2.1 j]
           have e:(walkT file f1.d day (fun (s:Unit) _ _ _=>s) 0 ys (bW f1.p) ()).1=S:=by
            rw[oW file f1.d day (fun (s:Unit) _ _ _=>s) qH ys 0 0 (bW f1.p) () ⟨[],[],[]⟩,IL.out.2.1,←IL.out.2.2.2,←HRR.out,hRe]
           unfold kH
           rw[←zY.out.1,e]
          ·have e:o9 file day f1 xs=s:=by
            unfold o9
            rw[←zY.out.1,IL.out.2.1,←IL.out.2.2.2,←HRR.out,hRe]
           rw[e,←HN.out];exact hS)
         clear hRe hO hS hlt hk HK
         go_wp2
         exact iR.out
end Go.Proofs.YtgicfogmdfdjmaaGreatDoor
