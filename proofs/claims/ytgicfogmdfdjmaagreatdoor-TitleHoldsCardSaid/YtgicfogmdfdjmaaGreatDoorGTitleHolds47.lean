/- Part of a proof. -/
import Derived.Test.YtgicfogmdfdjmaaGreatDoorGTitleHolds46
namespace PA
open Go Go.RowKit Go.Proofs.YtgicfogmdfdjmaaGreatDoor
def zM (f:Nat→Bool):List Value:=(List.range 4096).map fun i=>Value.bool (f i)
theorem DC (f:Nat→Bool):(zM f).length=4096:=by unfold zM;rw[List.length_map,List.length_range]
theorem Ai (f:Nat→Bool) {i:Nat} (h:i<4096):(zM f)[i]?=some (.bool (f i)):=by
 unfold zM
 rw[List.getElem?_map,List.getElem?_range h];rfl
theorem Wh (f:Nat→Bool) (i:Nat) (b:Bool):(zM f).set i (.bool b)=zM (fun k=>if k=i then b else f k):=by
 apply List.ext_getElem?
 intro k
 by_cases hk:k<4096
 ·by_cases e:i=k
  ·subst e
   rw[List.getElem?_set_self (by rw[DC];exact hk),Ai _ hk]
   simp
  ·rw[List.getElem?_set_ne e,Ai f hk,Ai _ hk]
   simp[Ne.symm e]
 ·rw[List.getElem?_eq_none (by rw[List.length_set,DC];omega),List.getElem?_eq_none (by rw[DC];omega)]
theorem Wi (v:Value) (n:Nat):(madeCells #[v] n).toList=(List.range n).map fun _=>v:=by
 unfold madeCells
 rw[Array.toList_map,Array.toList_range]
 apply List.map_congr_left
 intro k _
 rw[show (#[v]:Array Value).size=1 from rfl,Nat.mod_one];rfl
def WW (E g:Nat) (f:Nat→Bool):aG:=blk g (.cells (zM f).toArray E (0,0))
section
variable {W w:World} {A:aG} {E g:Nat} {f:Nat→Bool}
theorem Sat.Wj (h:Sat W w (sep (WW E g f) A)) (i:Nat) (hi:i<4096):w.cell? ⟨g,i,none⟩=some (.bool (f i)):=by
 rw[Sat.cell h];simpa using Ai f hi
theorem Sat.ZL (h:Sat W w (sep (WW E g f) A)) (i:Nat):w.frozen? ⟨g,i,none⟩=false:=Sat.aI h i
theorem Sat.Wn (h:Sat W w (sep (WW E g f) A)) (i:Nat) (b:Bool):Sat W (w.setCell ⟨g,i,none⟩ (.bool b)) (sep (WW E g (fun k=>if k=i then b else f k)) A):=by
 have h2:=Sat.setCell h i (.bool b)
 unfold WW
 rw[←Wh]
 simpa only[List.setIfInBounds_toArray] using h2
end
def zN (party:Int) (D:List (Nat×Ac)) (j:Nat):(Int→Bool)×List Int:=(D.drop j).reverse.foldl LQ (fun k=>decide (k=party),[])
theorem Wq (party:Int) {D:List (Nat×Ac)} {j:Nat} {t:Nat×Ac} (h:D[j]?=some t):zN party D j=LQ (zN party D (j+1)) t:=by
 obtain⟨hj,rfl⟩:=List.getElem?_eq_some_iff.1 h
 unfold zN
 rw[List.drop_eq_getElem_cons hj,List.reverse_cons,List.foldl_append];rfl
end PA
namespace Go.Proofs.YtgicfogmdfdjmaaGreatDoor
open Go.RowKit PA
def mkB (a b:Value):Sem Value:=Instr.makeSlice 94 a b
theorem DI (a b:Value):Instr.makeSlice 94 a b=mkB a b:=rfl
theorem RP:(Tryz.prog.info? 4).map (fun i=>(i.zero,i.size,i.bytes))=some (some (.bool false),1,1):=by kernel_rfl
theorem PX (w:World):(mkB (.int .i64 4096) (.int .i64 4096)).run Tryz.prog w=.ok (.slice (some ⟨w.heap.size,0,none⟩) 4096 4096) (w.alloc (.cells (zM fun _=>false).toArray 4)):=by
 obtain⟨i,h1,h2,h3,h4⟩:=info_parts RP
 have hr:=run_make (P:=Tryz.prog) w 94 4 i (.bool false) Tryz.underlying94 h1 h2 .i64 .i64 4096 4096 (by omega) (Int.le_refl _) (by rw[h4];omega) (by omega)
 rw[h3] at hr
 have e:madeCells (Value.bool false).cells (Int.toNat 4096*1)=(zM fun _=>false).toArray:=by
  apply Array.ext'
  have hn:Int.toNat 4096*1=4096:=rfl
  have hc:(Value.bool false).cells=#[.bool false]:=rfl
  rw[hn,hc,Wi]
  unfold zM
  rw[List.toList_toArray]
 rw[e] at hr
 have hn:Int.toNat 4096=4096:=rfl
 rw[hn] at hr
 exact hr
attribute [local go_sem ↓] bQ bZ aT DI
attribute [local go_sem] PX
set_option maxRecDepth 100000 in
set_option maxHeartbeats 4000000 in
theorem Lr {W w:World} {A:aG} {I:Mem} (file day party:Int) (v:Value) (xs:List Ac) (hx:RJ I xs) (hv:lW I v xs) (h:Sat W w (sep (kn I) A)):
 Calls Tryz.prog 20 #[.int .i64 file,.int .i64 day,.int .i64 party,v] w fun e w'=>∃a c' J,e=.returned (.tuple #[.slice a (nC file day party xs).length c',.int .i64 (tZ file day party xs)])∧Mem.le I J∧Sat W w' (sep (aK 3 1 a (nC file day party xs).length c' ((nC file day party xs).map PA.iv)) (sep (kn J) A)):=by
 obtain⟨Po,iU⟩:∃P:Ending→World→Prop,P=fun e w'=>∃a c' J,e=.returned (.tuple #[.slice a (nC file day party xs).length c',.int .i64 (tZ file day party xs)])∧Mem.le I J∧Sat W w' (sep (aK 3 1 a (nC file day party xs).length c' ((nC file day party xs).map PA.iv)) (sep (kn J) A)):=⟨_,rfl⟩
 rw[←iU]
 have dZ:=ah iU
 have zS:=ah (Dy file day v xs hx.tl hx.t2 hx.l40 hx.enc hv h)
 have HX:=ah hx
 clear iU hx hv h
 go_enter Tryz.func20,Tryz.ntmps20
 go_wp2_with fail
 refine zS.out.mono ?_
 obtain⟨er,her⟩:=aC (aP file day (sortK xs))
 rw[←her]
 rintro e w2 (⟨h0,rfl,J,hle,h2⟩|⟨h0,p,b,d,app,g,c,f,fo,J,rfl,hf,hle,hcj,hfk,h2⟩)
 ·have hb:(er !=0)=true:=by simp[h0]
  have iR:Hid (Po (.returned (.tuple #[.slice none 0 0,.int .i64 er])) w2):=ah (by
   have e1:nC file day party xs=[]:=by unfold nC;rw[←her,if_pos h0]
   have e2:tZ file day party xs=er:=by unfold tZ;rw[←her,if_pos h0]
   rw[dZ.out,e1,e2]
   exact⟨none,0,J,rfl,hle,h2.cZ 3 1⟩)
  clear h0 hle h2 zS her
  go_wp2
  exact iR.out
 ·subst h0
  have hg:(dF file (sortK xs)).getD Ac.zero=fo:=by rw[hf];rfl
  have hno:uq file day party xs↔(aQ (kH file day fo xs) party).n=0:=by unfold uq;rw[hg]
  have hsup:=RN HX.out.tl (day:=day) hf
  obtain⟨aF,cF,aD,cD,aL,cL,hO⟩:=xw h2
  obtain⟨vF,hvF⟩:=aC (Value.slice aF (o9 file day fo xs).fl.length cF)
  obtain⟨vL,hvL⟩:=aC (Value.slice aL (o9 file day fo xs).li.length cL)
  obtain⟨D,hD⟩:=aC (y9 file day fo xs)
  have hDl:D.length≤xs.length:=by rw[hD];exact yt file day fo xs
  have hDa:∀t∈D,(sortK xs)[t.1]?=some t.2∧t.2.k=16:=fun t ht=>YT (by rw[hD] at ht;exact ht)
  obtain⟨nD,hnD⟩:=aC (D.length)
  obtain⟨nx,hnx⟩:=aC (xs.length)
  rw[tel_dn,←hD,←hvF,←hvL,←hnD,←hnx] at hO
  have h3:Sat W w2 (sep (blk p (.cells #[.slice b nx d,.int .i64 app,.slice (some ⟨g,0,none⟩) 4096 c,vF,.slice aD nD cD,vL] 74 (0,0))) (sep (Ah 57 g 4096 f) (sep (aK 3 1 aD nD cD (D.map fun t=>PA.iv (t.1:Int))) (sep (kn J) A)))):=by
   have h4:Sat W w2 (sep (aK 3 1 aF (o9 file day fo xs).fl.length cF ((o9 file day fo xs).fl.map PA.iv)) (sep (aK 84 4 aL (o9 file day fo xs).li.length cL (jG (o9 file day fo xs).li)) (sep (blk p (.cells #[.slice b nx d,.int .i64 app,.slice (some ⟨g,0,none⟩) 4096 c,vF,.slice aD nD cD,vL] 74 (0,0))) (sep (Ah 57 g 4096 f) (sep (aK 3 1 aD nD cD (D.map fun t=>PA.iv (t.1:Int))) (sep (kn J) A)))))):=by simpa only[ay,au,aj] using hO
   exact h4.drop.drop
  have gQ:=ah hle
  have Uz:=ah hcj
  have eC:pU file day party fo xs=(zN party D 0).2.reverse:=by unfold pU zN;rw[List.drop_zero,hD]
  have HD:=ah (And.intro hDl (And.intro hDa (And.intro hnD hnx)))
  have HFK:=ah hfk
  have U1:=ah (And.intro her (And.intro hno (And.intro hg eC)))
  have XE:=ah hsup
  have H3:=ah h3
  have XG:nx<40:=by have:=HX.out.l40;omega
  have ahM:nD<40:=by omega
  clear hO hvF hvL h2 hle hcj hfk hf zS her hno hg eC hD hDl hDa hnD hnx hsup h3
  by_cases hbad:party<0∨4095<party∨(aQ (kH file day fo xs) party).n=0
  ·have iR:Hid (Po (.returned (.tuple #[.slice none 0 0,.int .i64 7])) w2):=ah (by
    have hn:uq file day party xs:=by
     rw[U1.out.2.1]
     by_cases hz:(aQ (kH file day fo xs) party).n=0
     ·exact hz
     ·have hr:party<0∨4095<party:=by omega
      unfold aQ
      cases hs:kH file day fo xs party with
      | none=>rfl
      | some r=>have:=XE.out party (by rw[hs];rfl);omega
    have e1:nC file day party xs=[]:=by unfold nC;rw[←U1.out.1,if_neg (by simp),if_pos hn]
    have e2:tZ file day party xs=7:=by unfold tZ;rw[←U1.out.1,if_neg (by simp),if_pos hn]
    rw[dZ.out,e1,e2]
    exact⟨none,0,J,rfl,gQ.out,H3.out.drop.drop.cO.cZ 3 1⟩)
   by_cases d1:party<0
   ·clear hbad
    go_wp2
    exact iR.out
   by_cases d2:4095<party
   ·clear hbad
    go_wp2
    exact iR.out
   ·have hz:(aQ (kH file day fo xs) party).n=0:=by omega
    obtain⟨P,rfl⟩:∃P:Nat,party=P:=⟨party.toNat,by omega⟩
    rw[←HFK.out P] at hz
    have v2:w2.cell? ⟨p,2,none⟩=some (.slice (some ⟨g,0,none⟩) 4096 c):=H3.out.cell 2
    have s0:=(H3.out.p1.zA P (by omega)).1
    rw[hz] at s0
    have hPz:(P:Int)<4096:=by omega
    clear hbad hz
    go_wp2
    exact iR.out
  ·obtain⟨P,rfl⟩:∃P:Nat,party=P:=⟨party.toNat,by omega⟩
   have hz:¬(aQ (kH file day fo xs) P).n=0:=by omega
   have hno:¬uq file day (P:Int) xs:=by rw[U1.out.2.1];exact hz
   have e1:nC file day (P:Int) xs=(zN (P:Int) D 0).2.reverse:=by unfold nC;rw[←U1.out.1,if_neg (by simp),if_neg hno,U1.out.2.2.1,U1.out.2.2.2]
   have e2:tZ file day (P:Int) xs=0:=by unfold tZ;rw[←U1.out.1,if_neg (by simp),if_neg hno]
   rw[←HFK.out P] at hz
   have v2:w2.cell? ⟨p,2,none⟩=some (.slice (some ⟨g,0,none⟩) 4096 c):=H3.out.cell 2
   have s0:=(H3.out.p1.zA P (by omega)).1
   have hzb:((f P).n==0)=false:=by simp[hz]
   obtain⟨fn,hfn⟩:=aC ((f P).n)
   rw[←hfn] at s0 hzb
   have hPz:(P:Int)<4096:=by omega
   have ajL:¬(P:Int)<0:=by omega
   have ajM:¬4095<(P:Int):=by omega
   have h4:Sat W w2 (sep (blk p (.cells #[.slice b nx d,.int .i64 app,.slice (some ⟨g,0,none⟩) 4096 c,vF,.slice aD nD cD,vL] 74 (0,0))) (sep (aK 3 1 aD nD cD (D.map fun t=>PA.iv (t.1:Int))) (sep (kn J) A))):=by
    have h5:Sat W w2 (sep (Ah 57 g 4096 f) (sep (blk p (.cells #[.slice b nx d,.int .i64 app,.slice (some ⟨g,0,none⟩) 4096 c,vF,.slice aD nD cD,vL] 74 (0,0))) (sep (aK 3 1 aD nD cD (D.map fun t=>PA.iv (t.1:Int))) (sep (kn J) A)))):=by have:=H3.out;simpa only[ay,au,aj] using this
    exact h5.drop
   have hb0:Sat W (w2.alloc (.cells (zM fun _=>false).toArray 4)) (sep (WW 4 w2.heap.size (fun _=>false)) (sep (blk p (.cells #[.slice b nx d,.int .i64 app,.slice (some ⟨g,0,none⟩) 4096 c,vF,.slice aD nD cD,vL] 74 (0,0))) (sep (aK 3 1 aD nD cD (D.map fun t=>PA.iv (t.1:Int))) (sep (kn J) A)))):=h4.alloc _
   have hmk:=PX w2
   obtain⟨w3,hw3⟩:=aC (w2.alloc (.cells (zM fun _=>false).toArray 4))
   rw[←hw3] at hb0 hmk
   obtain⟨q,hq⟩:=aC (w2.heap.size)
   rw[←hq] at hb0
   have p0:=hb0.Wj P (by omega)
   have p1:=hb0.ZL P
   have hb1:=hb0.Wn P true
   obtain⟨w4,hw4⟩:=aC (w3.setCell ⟨q,P,none⟩ (.bool true))
   rw[←hw4] at hb1
   have uQ:=ah hw4
   have HQ:=ah hq
   have HB1:=ah hb1
   have HEE:=ah (And.intro e1 e2)
   clear hbad hno e1 e2 hz hfn h4 hb0 hw3 hw4 hb1 hq H3 HFK XE
   go_upto_region 7 with (fail)
   rw[←HQ.out]
   clear hmk v2 s0 hzb
   go_upto_region 8 with (fail)
   rw[←uQ.out]
   clear p0 p1 uQ HQ
   have v4:w4.cell? ⟨p,4,none⟩=some (.slice aD nD cD):=HB1.out.p1.cell 4
   have hwn:IntKind.i64.wrap ((nD:Int)-1)=(nD:Int)-1:=IntWalk.i64_in _ (by omega)
   go_wp2_with fail
   clear v4
   go_loopw [13,14] (fun ov kv wr=>∃(j m c':Nat) (a':Option Addr) (fl:Nat→Bool),ov=.slice a' m c'∧kv=.int .i64 ((j:Int)-1)∧j≤nD∧Hid ((∀k:Nat,fl k=(zN (P:Int) D j).1 k)∧m=(zN (P:Int) D j).2.length∧m≤nD-j)∧Sat W wr (sep (aK 3 1 a' m c' ((zN (P:Int) D j).2.reverse.map PA.iv)) (sep (WW 4 q fl) (sep (blk p (.cells #[.slice b nx d,.int .i64 app,.slice (some ⟨g,0,none⟩) 4096 c,vF,.slice aD nD cD,vL] 74 (0,0))) (sep (aK 3 1 aD nD cD (D.map fun t=>PA.iv (t.1:Int))) (sep (kn J) A)))))) (fun _ kv _=>((intOf kv)+1).toNat)
   case atStart=>exact⟨nD,0,0,none,(fun k=>if k=P then true else false),rfl,rfl,by omega,ah ⟨fun k=>by
    unfold zN
    rw[List.drop_of_length_le (by rw[HD.out.2.2.1];exact Nat.le_refl _)]
    show (if k=P then true else false)=decide ((k:Int)=(P:Int))
    by_cases e:k=P
    ·simp[e]
    ·have:¬(k:Int)=P:=by omega
     simp[e,this],by unfold zN;rw[List.drop_of_length_le (by rw[HD.out.2.2.1];exact Nat.le_refl _)];rfl,by omega⟩,by
    rw[show (zN (P:Int) D nD).2.reverse.map PA.iv=[] by unfold zN;rw[List.drop_of_length_le (by rw[HD.out.2.2.1];exact Nat.le_refl _)];rfl]
    exact HB1.out.cZ 3 1⟩
   case round=>
    obtain⟨j,m,c',a',fl,rfl,rfl,hj,HF,hS⟩:=hrel
    clear HB1
    cases j with
    | zero=>
     have iR:Hid (Po (.returned (.tuple #[.slice a' m c',.int .i64 0])) wr):=ah (by
      have hm:m=(nC file day (P:Int) xs).length:=by rw[HEE.out.1,List.length_reverse];exact HF.out.2.1
      rw[dZ.out,HEE.out.2,←hm,HEE.out.1]
      exact⟨a',c',J,rfl,gQ.out,by
       have h6:Sat W wr (sep (WW 4 q fl) (sep (blk p (.cells #[.slice b nx d,.int .i64 app,.slice (some ⟨g,0,none⟩) 4096 c,vF,.slice aD nD cD,vL] 74 (0,0))) (sep (aK 3 1 aD nD cD (D.map fun t=>PA.iv (t.1:Int))) (sep (aK 3 1 a' m c' ((zN (P:Int) D 0).2.reverse.map PA.iv)) (sep (kn J) A))))):=by simpa only[ay,au,aj] using hS
       exact h6.drop.drop.cO⟩)
     clear hS hj HF
     go_wp2
     exact iR.out
    | succ j=>
     as_aux_lemma=>
     have hjw:((j+1:Nat):Int)-1=(j:Int):=by omega
     rw[hjw]
     have hjn:j<nD:=by omega
     have hjz:(j:Int)<(nD:Int):=by omega
     have hj0:¬(j:Int)<0:=by omega
     have hjl:j<D.length:=by rw[←HD.out.2.2.1];exact hjn
     obtain⟨t,ht⟩:∃t,D[j]?=some t:=⟨_,List.getElem?_eq_getElem hjl⟩
     obtain⟨hta,htk⟩:=HD.out.2.1 t (List.mem_of_getElem? ht)
     have hstep:=Wq (P:Int) ht
     obtain⟨ti,x⟩:=t
     simp only at hta htk hstep
     have htl:ti<nx:=by have:=(List.getElem?_eq_some_iff.1 hta).1;rw[iL] at this;rw[HD.out.2.2.2];exact this
     have htz:(ti:Int)<(nx:Int):=by omega
     have hxm:x∈xs:=(iG xs).subset (List.mem_of_getElem? hta)
     obtain⟨-,-,hpb,hqb,-⟩:=(HX.out.tl.all x hxm).tr htk
     obtain⟨P1,hP1⟩:∃P1:Nat,x.p=P1:=⟨x.p.toNat,by omega⟩
     obtain⟨Q1,WU⟩:∃Q1:Nat,x.q=Q1:=⟨x.q.toNat,by omega⟩
     obtain⟨bb,oo,rfl,hld⟩:=wY Uz.out (fun e=>by rw[e] at hta;simp at hta)
     have aa9:∀w',Ext J w'→Sem.run Tryz.prog (jo (.pointer (some ⟨bb,oo+ti*19,none⟩))) w'=.ok (.agg x.cells.toArray) w':=fun w' he=>by
      have:=hld w' he ti (List.getElem?_eq_some_iff.1 hta).1
      rwa [(List.getElem?_eq_some_iff.1 hta).2] at this
     have hd:=hS.drew
     obtain⟨wd,hwd⟩:=aC (wr.drew)
     rw[←hwd] at hd
     have kR:=ah hwd
     obtain⟨gD,rfl,hcd⟩:=hd.p3.kD (fun e=>by have:=congrArg List.length e;simp at this;rw[this] at hjl;simp at hjl)
     have hdc:(D.map fun t=>PA.iv (t.1:Int))[j]?=some (.int .i64 (ti:Nat)):=by rw[List.getElem?_map,ht];rfl
     have hS0:(wd.cell? ⟨p,0,none⟩=some (.slice (some ⟨bb,oo,none⟩) nx d)∧wd.cell? ⟨p,4,none⟩=some (.slice (some ⟨gD,0,none⟩) nD cD))∧wd.cell? ⟨gD,j,none⟩=some (.int .i64 (ti:Nat))∧Sem.run Tryz.prog (jo (.pointer (some ⟨bb,oo+ti*19,none⟩))) wd=.ok (.agg x.cells.toArray) wd:=
      ⟨⟨hd.p2.cell 0,hd.p2.cell 4⟩,hcd j _ hdc,aa9 wd hd.p4.ext⟩
     have ha:=hd.alloc (.cells #[.int .i64 0,.int .i64 0,.int .i64 0,.int .i64 0,.int .i64 0,.int .i64 0,.int .i64 0,.int .i64 0,.int .i64 0,.int .i64 0,.int .i64 0,.slice none 0 0,.slice none 0 0,.slice none 0 0,.slice none 0 0,.int .i64 0,.int .i64 0,.slice none 0 0,.slice none 0 0] 67)
     obtain⟨G,hG⟩:=aC (wd.heap.size)
     obtain⟨wa,hwa⟩:=aC (wd.alloc (.cells #[.int .i64 0,.int .i64 0,.int .i64 0,.int .i64 0,.int .i64 0,.int .i64 0,.int .i64 0,.int .i64 0,.int .i64 0,.int .i64 0,.int .i64 0,.slice none 0 0,.slice none 0 0,.slice none 0 0,.slice none 0 0,.int .i64 0,.int .i64 0,.slice none 0 0,.slice none 0 0] 67))
     rw[←hG,←hwa] at ha
     obtain⟨gD',e',Ws⟩:=ha.p4.kD (fun e=>by have:=congrArg List.length e;simp at this;rw[this] at hjl;simp at hjl)
     cases e'
     have hS1:(wa.cell? ⟨p,0,none⟩=some (.slice (some ⟨bb,oo,none⟩) nx d)∧wa.cell? ⟨p,4,none⟩=some (.slice (some ⟨gD,0,none⟩) nD cD))∧wa.cell? ⟨gD,j,none⟩=some (.int .i64 (ti:Nat))∧Sem.run Tryz.prog (jo (.pointer (some ⟨bb,oo+ti*19,none⟩))) wa=.ok (.agg x.cells.toArray) wa:=
      ⟨⟨ha.p3.cell 0,ha.p3.cell 4⟩,Ws j _ hdc,aa9 wa ha.p5.ext⟩
     have s1:=aY ha.aN rfl x
     have ha2:=ha.setRow x.cells.toArray
     obtain⟨w4,hw4⟩:=aC (wa.setRow G x.cells.toArray)
     rw[←hw4] at s1 ha2
     have q6:w4.cell? ⟨G,6,none⟩=some (.int .i64 (Q1:Nat)):=by rw[←WU];exact (aB ha2 6 _ rfl).1
     have q5:w4.cell? ⟨G,5,none⟩=some (.int .i64 (P1:Nat)):=by rw[←hP1];exact (aB ha2 5 _ rfl).1
     have hQz:(Q1:Int)<4096:=by omega
     have ajO:(P1:Int)<4096:=by omega
     have HWA:=ah (And.intro hG hwa)
     have OM:=ah hS1
     have H4:=ah ha2.drop
     have HST:=ah (And.intro hstep (And.intro hP1 WU))
     have HJ:=ah (And.intro hjn ht)
     have hQ4:Q1<4096:=by omega
     have hP4:P1<4096:=by omega
     clear hS hd hwd hcd Ws hdc ha hG hwa ha2 hw4 hstep hP1 WU hpb hqb hta htk hxm hld aa9 hS1 ht hjl hjn hj htl
     go_upto_region 12 with (fail)
     refine aA rfl (fun w'=>(w'.cell? ⟨p,0,none⟩=some (.slice (some ⟨bb,oo,none⟩) nx d)∧w'.cell? ⟨p,4,none⟩=some (.slice (some ⟨gD,0,none⟩) nD cD))∧w'.cell? ⟨gD,j,none⟩=some (.int .i64 (ti:Nat))∧Sem.run Tryz.prog (jo (.pointer (some ⟨bb,oo+ti*19,none⟩))) w'=.ok (.agg x.cells.toArray) w') [(0,.p),(1,.p),(2,.p),(3,.s),(4,.p),(5,.p),(6,.p),(7,.s),(8,.p),(9,.p),(10,.s),(11,.p),(12,.s),(13,.e true),(14,.e false)] (by kernel_rfl) ?_
     rw[←kR.out]
     (repeat ((first|(refine eF (v:=?_) rfl rfl (fun w'=>?_) ?_;rotate_left;(go_simp;with_reducible rfl))|(refine eG (v:=?_) rfl rfl hS0 (fun w' hS=>?_) ?_;rotate_left;((try dsimp only at hS);go_simp;with_reducible rfl))|(refine eH (v:=?_) rfl rfl ?_ ?_;rotate_left;(go_simp;with_reducible rfl))|(refine bD rfl rfl ?_)|(refine bG rfl rfl hS0 ?_)|(refine bH rfl rfl ?_));simp only[Act.put,lsA,lsB,bC]))
     (refine iQ rfl rfl (fun K hK=>?_);go_simp)
     rw[←HWA.out.1,←HWA.out.2]
     (refine hK _ _ (fun _=>OM.out) ?_;clear hK K;(try simp only[Act.put,lsA,lsB,bC]))
     clear hS0
     (refine iQ rfl rfl (fun K hK=>?_);go_simp)
     (refine hK _ _ (fun h=>by cases h) ?_;clear hK K;(try simp only[Act.put,lsA,lsB,bC]))
     refine bM ?_
     clear s1 OM HWA kR
     have l0:=H4.out.p1.Wj Q1 hQ4
     obtain⟨lq,hlq⟩:=aC (fl Q1)
     rw[←hlq] at l0
     have YX:(zN (P:Int) D (j+1)).1 x.q=lq:=by rw[HST.out.2.2,←HF.out.1,hlq]
     cases lq with
     | false=>
      have hsame:zN (P:Int) D j=zN (P:Int) D (j+1):=by rw[HST.out.1];unfold LQ;rw[if_neg (by rw[YX];simp)]
      have HSM:=ah hsame
      clear hlq YX hsame q5
      go_wp2
      go_roundw
      case rel=>exact⟨j,m,c',a',fl,rfl,by go_num,by have:=HJ.out.1;omega,ah ⟨by rw[HSM.out];exact HF.out.1,by rw[HSM.out];exact HF.out.2.1,by have:=HF.out.2.2;omega⟩,by rw[HSM.out];exact H4.out⟩
      case measure=>(simp[intOf];try omega)
     | true=>
      have hnew:zN (P:Int) D j=(fun k=>decide (k=x.p)||(zN (P:Int) D (j+1)).1 k,(zN (P:Int) D (j+1)).2++[(ti:Int)]):=by rw[HST.out.1];unfold LQ;rw[if_pos YX]
      have HNW:=ah hnew
      have hb:=H4.out.p1
      have u0:=hb.Wj P1 hP4
      have u1:=hb.ZL P1
      have hb2:=hb.Wn P1 true
      obtain⟨w5,hw5⟩:=aC (w4.setCell ⟨q,P1,none⟩ (.bool true))
      rw[←hw5] at hb2
      have Xv:=ah hw5
      have v4:w5.cell? ⟨p,4,none⟩=some (.slice (some ⟨gD,0,none⟩) nD cD):=hb2.p2.cell 4
      obtain⟨gD',e',Ws⟩:=hb2.p3.kD (fun e=>by
       have:=congrArg List.length e
       simp at this
       rw[this] at HJ
       have:=HJ.out.2
       simp at this)
      cases e'
      have vj:w5.cell? ⟨gD,j,none⟩=some (.int .i64 (ti:Nat)):=Ws j _ (by rw[List.getElem?_map,HJ.out.2];rfl)
      have hn1:=(hb2.alloc (.cells #[.int .i64 (ti:Nat)] 3)).lI 1 1 1 [.int .i64 (ti:Nat)] rfl (by omega) (by unfold maxLen;omega) rfl rfl
      have hsrc:∀b',a'=some b'→∀(k:Nat) u,((zN (P:Int) D (j+1)).2.reverse.map PA.iv)[k]?=some u→(w5.alloc (.cells #[.int .i64 (ti:Nat)] 3)).cell? (b'.add k)=some u:=by
       intro b' hb' k u hu
       have hn2:=hn1
       rw[hb'] at hn2
       exact hn2.p2.dQ.zQ k u hu
      have hm0:a'=none→m=0:=by
       rintro rfl
       rcases hn1.p2.dL with ⟨-,h0,-⟩|⟨g',cur,e',-⟩
       ·exact h0
       ·cases e'
      have gI:=ah (And.intro hsrc hm0)
      have HML:Hid (((zN (P:Int) D (j+1)).2.reverse.map PA.iv).length=m*1):=ah (by rw[List.length_map,List.length_reverse,←HF.out.2.1,Nat.mul_one])
      have Y2:Hid (∀u∈(zN (P:Int) D (j+1)).2.reverse.map PA.iv,u.oneCell'=true):=ah (by
       intro u hu
       obtain⟨z,-,rfl⟩:=List.mem_map.1 hu
       rfl)
      have aco:m≤40:=by have:=HF.out.2.2;omega
      obtain⟨os,hos⟩:=aC ((zN (P:Int) D (j+1)).2.reverse.map PA.iv)
      rw[←hos] at hn1 gI HML Y2
      have LW:=ah hos
      have jq:=ah hn1
      clear hlq YX hnew hb hb2 hw5 Ws hsrc hm0 hos hn1
      go_upto_region 15 with (fail)
      rw[←Xv.out]
      clear u0 u1 l0 q5 q6
      go_wp2_with (at_builtin;refine aJ rfl _ _ 22 rfl 3 1 8 _ Tryz.underlying22 wG rfl rfl jq.out rfl os HML.out gI.out.2 gI.out.1 Y2.out (by omega) (by unfold maxLen;omega) ?_)
      intro a6 c6 w6 h6
      have Xt:Hid (Sat W w6 (sep (aK 3 1 a6 (1+m) c6 (.int .i64 (ti:Nat)::os)) (sep (WW 4 q (fun k=>decide (k=P1)||fl k)) (sep (blk p (.cells #[.slice (some ⟨bb,oo,none⟩) nx d,.int .i64 app,.slice (some ⟨g,0,none⟩) 4096 c,vF,.slice (some ⟨gD,0,none⟩) nD cD,vL] 74 (0,0))) (sep (aK 3 1 (some ⟨gD,0,none⟩) nD cD (D.map fun t=>PA.iv (t.1:Int))) (sep (kn J) A)))))):=ah (by
       have h7:Sat W w6 (sep (aK 3 1 a' m c' os) (sep (aK 3 1 a6 (1+m) c6 (.int .i64 (ti:Nat)::os)) (sep (WW 4 q (fun k=>decide (k=P1)||fl k)) (sep (blk p (.cells #[.slice (some ⟨bb,oo,none⟩) nx d,.int .i64 app,.slice (some ⟨g,0,none⟩) 4096 c,vF,.slice (some ⟨gD,0,none⟩) nD cD,vL] 74 (0,0))) (sep (aK 3 1 (some ⟨gD,0,none⟩) nD cD (D.map fun t=>PA.iv (t.1:Int))) (sep (kn J) A)))))):=by simpa only[ay,au,aj] using h6
       exact h7.cO)
      clear h6 jq v4 vj
      go_wp2
      go_roundw
      case rel=>exact⟨j,1+m,c6,a6,(fun k=>decide (k=P1)||fl k),rfl,by go_num,by have:=HJ.out.1;omega,ah ⟨fun k=>by
       rw[HNW.out]
       show (decide (k=P1)||fl k)=(decide ((k:Int)=x.p)||(zN (P:Int) D (j+1)).1 k)
       rw[HST.out.2.1,←HF.out.1 k]
       by_cases e:k=P1
       ·simp[e]
       ·have:¬(k:Int)=P1:=by omega
        simp[e,this],by rw[HNW.out,dI,←HF.out.2.1];simp;omega,by have:=HF.out.2.2;have:=HJ.out.1;omega⟩,by
       rw[HNW.out]
       have h8:=Xt.out
       rw[LW.out] at h8
       simp only[List.reverse_append,List.reverse_cons,List.reverse_nil,List.nil_append,lS,List.map_cons,List.map_nil] at h8 ⊢
       exact h8⟩
      case measure=>(simp[intOf];try omega)
end Go.Proofs.YtgicfogmdfdjmaaGreatDoor
