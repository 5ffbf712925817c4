/- Part of a proof. -/
import Derived.Test.YthfmaclnccdcbaaGreatDoorGActsValid2
import Derived.RangeFuncNested
import Derived.RangeFuncBound
import Derived.RangeFuncCalls
import Derived.RangeFuncLeaves
import Derived.Shelf.Abstract
import Derived.Shelf.RegionOpen
import Derived.OwnWalkIn
import Derived.TacticsInMore
import Derived.LoopNIn
import Derived.LoopIn
import Derived.RangeFuncBox
import Derived.Maps.AppendAt
import Derived.Handy
namespace PA
open Go Go.RowKit
section
variable {P:Program} {ops:Array Oper} {Q:Exit→Act→World→Prop} {S:World→Prop} {W:World}
theorem F9 {s:yD}:∀{l:List yD},s∈l→∀A,∃X,Gg l A=sep s.now X
 | [],h,_=>by cases h
 | u::l,h,A=>by
  rcases List.mem_cons.1 h with rfl|h
  ·exact⟨_,by rw[oK,wE]⟩
  ·exact F9 h (sep u.now A)
theorem Ph {ts:List V8} {tJ:List yD} (h:wF ts tJ) {t:V8} (ht:t∈ts):∃s∈tJ,s.A=t.A:=by
 unfold wF at h
 have:(nums t.ids,t.A)∈tJ.map (fun s=>(s.dn.map (·.1)++nums s.td,s.A)):=by rw[h];exact List.mem_map.2 ⟨t,ht,rfl⟩
 obtain⟨s,hs,e⟩:=List.mem_map.1 this
 exact⟨s,hs,(Prod.mk.inj e).2⟩
theorem L9 {a0:Act} {A:aB} {b:Bool} {K:Act→World→Prop} (ts:List V8) (hS:b=true→∃t∈ts,∀us w X,Sat W w (sep (t.A us) X)→S w) (hfin:Uo ops W a0 K ts [] A):
 ∀(n:Nat) (tJ:List yD) (E:List (Nat×List Nat)) (w:World),E.length=n→E.Perm (tJ.flatMap (·.td))→wF ts tJ→(∀s∈tJ,yE P ops W a0 s.A s.dn s.td)→(tJ.Pairwise fun s t=>Rj ops s.all t.all)→Sat W w (Gg tJ A) →
  lZ P ops Q S b n E K (puts ops (tJ.flatMap (·.dn)) a0) w:=by
 intro n
 induction n with
 | zero=>
  intro tJ E w hn hp hL _ _ hw
  have hE:=List.eq_nil_of_length_eq_zero hn
  subst hE
  have:=Ju tJ ts [] A hL (List.nil_perm.1 hp) hfin w hw
  rw[List.nil_append] at this
  exact this
 | succ n ih=>
  intro tJ E w hn hp hL hg hap hw i hi hr
  obtain⟨s,hs,his⟩:=List.mem_flatMap.1 (hp.mem_iff.1 hi)
  obtain⟨S1,S2,rfl⟩:=List.append_of_mem hs
  obtain⟨dn,td,AT⟩:=s
  cases td with
  | nil=>simp at his
  | cons k td=>
   have hgs:=hg _ hs
   obtain⟨⟨o,ho,hsel,hd⟩,hch,hplain,htl,hnext⟩:=hgs
   have hik:i=k:=by
    rcases List.mem_cons.1 his with e|hm
    ·exact e
    ·exfalso
     have h1:=hch i hm
     have h2:k∈E:=hp.mem_iff.2 (List.mem_flatMap.2 ⟨_,hs,by simp⟩)
     have h3:=List.all_eq_true.1 hr k h2
     rw[h1] at h3
     cases h3
   subst hik
   have hall:∀j∈dn.map (·.1)++i.1::i.2,j∈yD.all ⟨dn,i::td,AT⟩:=fun j hj=>by
    unfold yD.all nums
    rw[List.flatMap_cons]
    rcases List.mem_append.1 hj with hj|hj
    ·exact List.mem_append_left _ hj
    ·exact List.mem_append_right _ (List.mem_append_left _ hj)
   have hpw:=List.pairwise_append.1 hap
   have hpc:=List.pairwise_cons.1 hpw.2.1
   have hl1:∀x∈S1.flatMap (·.dn),∀j∈dn.map (·.1)++i.1::i.2,apartB ops x.1 j=true:=fun x hx j hj=>by
    obtain⟨s1,hs1,hx1⟩:=List.mem_flatMap.1 hx
    exact hpw.2.2 s1 hs1 ⟨dn,i::td,AT⟩ (by simp) x.1 (List.mem_append_left _ (List.mem_map.2 ⟨x,hx1,rfl⟩)) j (hall j hj)
   have hl2:∀x∈S2.flatMap (·.dn),∀j∈dn.map (·.1)++i.1::i.2,apartB ops j x.1=true:=fun x hx j hj=>by
    obtain⟨s1,hs1,hx1⟩:=List.mem_flatMap.1 hx
    exact hpc.1 s1 hs1 j (hall j hj) x.1 (List.mem_append_left _ (List.mem_map.2 ⟨x,hx1,rfl⟩))
   have V9:∀Zp:List (Nat×Value),(∀y∈Zp,y.1∈dn.map (·.1)++i.1::i.2)→puts ops ((S1++⟨Zp,td,AT⟩::S2).flatMap (·.dn)) a0=puts ops (S2.flatMap (·.dn)) (puts ops (S1.flatMap (·.dn)) (puts ops Zp a0)):=fun Zp abv=>by
    rw[List.flatMap_append,List.flatMap_cons,iT,iT]
    congr 1
    exact Bl Zp _ (fun x hx y hy=>hl1 x hx y.1 (abv y hy)) a0
   have Wh:puts ops ((S1++⟨dn,i::td,AT⟩::S2).flatMap (·.dn)) a0=puts ops (S2.flatMap (·.dn)) (puts ops (S1.flatMap (·.dn)) (puts ops dn a0)):=by
    rw[←V9 dn (fun y hy=>List.mem_append_left _ (List.mem_map.2 ⟨y,hy,rfl⟩)),List.flatMap_append,List.flatMap_append,List.flatMap_cons,List.flatMap_cons]
   have hboth:∀x∈S1.flatMap (·.dn)++S2.flatMap (·.dn),∀j∈dn.map (·.1)++i.1::i.2,apartB ops x.1 j=true∨apartB ops j x.1=true:=fun x hx j hj=>by
    rcases List.mem_append.1 hx with hx|hx
    ·exact .inl (hl1 x hx j hj)
    ·exact .inr (hl2 x hx j hj)
   have hd':iH P ops W o (puts ops ((S1++⟨dn,i::td,AT⟩::S2).flatMap (·.dn)) a0) (AT (dn.map (·.2))) (fun v=>AT (dn.map (·.2)++[v])):=by
    rw[Wh,←iT]
    exact iH.puts ho hsel _ (fun x hx=>hboth x hx i.1 (by simp)) hd
   have hw2:Sat W w (sep (AT (dn.map (·.2))) (Gg S2 (Gg S1 A))):=by
    rw[Bo,oK,wE] at hw
    exact hw
   refine hd'.wpOp ho hw2 (fun v w' hv=>?_)
   refine⟨fun hb=>?_,?_⟩
   ·obtain⟨t,ht,hSt⟩:=hS hb
    obtain⟨s,hs,hsA⟩:=Ph hL ht
    rcases List.mem_append.1 hs with h|h
    ·obtain⟨X,hX⟩:=F9 h A
     rw[hX,wE] at hv
     have hv3:Sat W w' (sep (s.A (s.dn.map (·.2))) (sep (AT (dn.map (·.2)++[v])) (Gg S2 X))):=hv.p1
     rw[hsA] at hv3
     exact hSt _ _ _ hv3
    ·rcases List.mem_cons.1 h with h|h
     ·have e:AT=t.A:=by rw[←hsA,h]
      rw[e] at hv
      exact hSt _ _ _ hv
     ·obtain⟨X,hX⟩:=F9 h (Gg S1 A)
      rw[hX] at hv
      have hv3:Sat W w' (sep (s.A (s.dn.map (·.2))) (sep (AT (dn.map (·.2)++[v])) X)):=hv.p1
      rw[hsA] at hv3
      exact hSt _ _ _ hv3
   ·obtain⟨us,hpu,hv2⟩:=htl v w' _ hv
    have wM:=Jv hpu
    have hdo:aO ops i.1=o.dst:=by unfold aO;rw[ho];rfl
    have e1:(puts ops ((S1++⟨dn,i::td,AT⟩::S2).flatMap (·.dn)) a0).put o.dst v=puts ops (S1.flatMap (·.dn)++S2.flatMap (·.dn)) (puts ops (dn++[(i.1,v)]) a0):=by
     rw[Wh,←hdo,←iT,iT dn]
     show _=puts ops _ ((puts ops dn a0).put (aO ops i.1) v)
     exact (uO v _ (fun x hx=>hboth x hx i.1 (by simp)) _).symm
    rw[e1]
    refine yF i.2 us _ w' hplain (Eu _ hplain (fun x hx j hj=>hboth x hx j (by simp[hj])) hpu) ?_
    have e2:puts ops (i.2.zip us) (puts ops (S1.flatMap (·.dn)++S2.flatMap (·.dn)) (puts ops (dn++[(i.1,v)]) a0))=puts ops ((S1++⟨dn++(i.1,v)::i.2.zip us,td,AT⟩::S2).flatMap (·.dn)) a0:=by
     rw[V9 (dn++(i.1,v)::i.2.zip us) (fun y hy=>?_)]
     ·rw[←iT (S1.flatMap (·.dn))]
      have e3:dn++(i.1,v)::i.2.zip us=(dn++[(i.1,v)])++i.2.zip us:=by simp
      rw[e3,iT (dn++[(i.1,v)])]
      have key:∀(z:List (Nat×Value)),(∀y∈z,y.1∈i.2)→∀(L:List (Nat×Value)),(∀x∈L,∀j∈dn.map (·.1)++i.1::i.2,apartB ops x.1 j=true∨apartB ops j x.1=true)→∀a:Act,puts ops z (puts ops L a)=puts ops L (puts ops z a):=by
       intro z
       induction z with
       | nil=>intro _ L _ a;rfl
       | cons y z ihz=>
        intro hz L hL a
        show puts ops z ((puts ops L a).put (aO ops y.1) y.2)=puts ops L (puts ops z (a.put (aO ops y.1) y.2))
        rw[←uO y.2 L (fun x hx=>hL x hx y.1 (List.mem_append_right _ (List.mem_cons_of_mem _ (hz y (by simp))))),ihz (fun u hu=>hz u (by simp[hu])) L hL]
      exact key _ (fun y hy=>by obtain⟨y1,y2⟩:=y;exact (List.of_mem_zip hy).1) _ hboth _
     ·rcases List.mem_append.1 hy with hy|hy
      ·exact List.mem_append_left _ (List.mem_map.2 ⟨y,hy,rfl⟩)
      ·rcases List.mem_cons.1 hy with rfl|hy
       ·simp
       ·obtain⟨y1,y2⟩:=y
        exact List.mem_append_right _ (List.mem_cons_of_mem _ (List.of_mem_zip hy).1)
    rw[e2]
    have hzm:((i.1,v)::i.2.zip us).map (·.1)=i.1::i.2:=by rw[List.map_cons,List.map_fst_zip (by omega)]
    have hzs:((i.1,v)::i.2.zip us).map (·.2)=v::us:=by rw[List.map_cons,List.map_snd_zip (by omega)]
    refine ih _ (E.erase i) w' ?_ ?_ ?_ ?_ ?_ ?_
    ·rw[List.length_erase_of_mem hi,hn];rfl
    ·have h1:((S1++⟨dn,i::td,AT⟩::S2).flatMap (·.td)).Perm (i::(S1++⟨dn++(i.1,v)::i.2.zip us,td,AT⟩::S2).flatMap (·.td)):=by
      simp only[List.flatMap_append,List.flatMap_cons]
      exact List.perm_middle
     have h2:=(hp.trans h1).erase i
     rw[List.erase_cons_head] at h2
     exact h2
    ·unfold wF at *
     rw[←hL]
     simp only[zi,List.map_cons]
     rw[show i.1::(i.2.zip us).map (·.1)=i.1::i.2 by rw[←hzm];rfl]
     congr 2
     simp[nums]
    ·intro s hs'
     rcases List.mem_append.1 hs' with h|h
     ·exact hg s (List.mem_append_left _ h)
     ·rcases List.mem_cons.1 h with rfl|h
      ·exact hnext v us wM
      ·exact hg s (by simp[h])
    ·have hsame:yD.all ⟨dn++(i.1,v)::i.2.zip us,td,AT⟩=yD.all ⟨dn,i::td,AT⟩:=by
      unfold yD.all nums
      rw[zi,hzm,List.flatMap_cons,List.append_assoc]
     refine List.pairwise_append.2 ⟨hpw.1,List.pairwise_cons.2 ⟨fun y hy=>?_,hpc.2⟩,fun x hx y hy=>?_⟩
     ·rw[hsame];exact hpc.1 y hy
     ·rcases List.mem_cons.1 hy with rfl|hy
      ·rw[hsame];exact hpw.2.2 x hx _ (List.mem_cons_self)
      ·exact hpw.2.2 x hx y (by simp[hy])
    ·rw[Bo,oK,wE]
     show Sat W w' (sep (AT ((dn++(i.1,v)::i.2.zip us).map (·.2))) (Gg S2 (Gg S1 A)))
     rw[zi,hzs]
     exact hv2
theorem o8 {a:Act} {w:World} {A:aB} {b:Bool} {l:List jP} {K:Act→World→Prop} (ts:List V8) (hS:b=true→∃t∈ts,∀us w X,Sat W w (sep (t.A us) X)→S w)
 (hap:zK ops (ts.map (fun t=>nums t.ids))=true) (hg:∀t∈ts,yE P ops W a t.A [] t.ids) (hw:Sat W w (ts.foldl (fun B t=>sep (t.A []) B) A)) (hfin:Uo ops W a (lD P ops Q S l K) ts [] A):
 lD P ops Q S (.grp b (ts.flatMap (·.ids))::l) K a w:=by
 have abw:Gg (ts.map fun t=>(⟨[],t.ids,t.A⟩:yD)) A=ts.foldl (fun B t=>sep (t.A []) B) A:=by
  rw[Gg,List.foldl_map];rfl
 have h:=L9 (P:=P) (Q:=Q) (S:=S) (b:=b) ts hS hfin _ (ts.map fun t=>(⟨[],t.ids,t.A⟩:yD)) (ts.flatMap (·.ids)) w rfl ?_ ?_ ?_ (Bq ts hap) (by rw[abw];exact hw)
 ·have e:(ts.map fun t=>(⟨[],t.ids,t.A⟩:yD)).flatMap (·.dn)=[]:=by
   induction ts with
   | nil=>rfl
   | cons t ts ih=>simp
  rw[e] at h
  exact h
 ·rw[List.flatMap_map]
 ·unfold wF;simp
 ·intro s hs
  obtain⟨t,ht,rfl⟩:=List.mem_map.1 hs
  exact hg t ht
end
end PA
namespace PA
open Go Go.RowKit
def Rk (ops:Array Oper) (bf:Array Nat) (b:Bool) (E:List (Nat×List Nat)):Bool:=
 E.all (fun x=>x.2.all (fun j=>(bf.getD j 0).testBit x.1))&&E.all (fun x=>Bh ops bf (x.2.map fun j=>(j,(.inr none:Kd)))) &&
 E.all (fun x=>E.all fun y=>x==y||(bf.getD x.1 0).testBit y.1||x.2.all fun u=>(zf b y).all fun v=>fC ops bf (u,.inr none) v)
section
variable {P:Program} {ops:Array Oper} {Q:Exit→Act→World→Prop} {S:World→Prop}
structure Pj (ops:Array Oper) (bf:Array Nat) (b:Bool) (E:List (Nat×List Nat)):Prop where
 own:∀x∈E,∀j∈x.2,(bf.getD j 0).testBit x.1=true
 seq:∀x∈E,x.2.Pairwise fun u v=>fC ops bf (u,.inr none) (v,.inr none)=true
 other:∀x∈E,∀y∈E,x≠y→(bf.getD x.1 0).testBit y.1=false→∀u∈x.2,∀v∈zf b y,fC ops bf (u,.inr none) v=true
theorem Rl {bf:Array Nat} {b:Bool} {E:List (Nat×List Nat)} (h:Rk ops bf b E=true):Pj ops bf b E:=by
 simp only[Rk,Bool.and_eq_true,List.all_eq_true,Bool.or_eq_true,beq_iff_eq] at h
 obtain⟨⟨h1,h2⟩,h3⟩:=h
 refine⟨h1,fun x hx=>Jw _ (h2 x hx),fun x hx y hy hne hnb u hu v hv=>?_⟩
 rcases h3 x hx y hy with (e|e)|h
 ·exact absurd e hne
 ·rw[hnb] at e;cases e
 ·exact h u hu v hv
theorem Pj.erase {bf:Array Nat} {b:Bool} {E:List (Nat×List Nat)} (h:Pj ops bf b E) (x:Nat×List Nat):Pj ops bf b (E.erase x):=
 ⟨fun y hy=>h.own y (List.mem_of_mem_erase hy),fun y hy=>h.seq y (List.mem_of_mem_erase hy),fun y hy z hz=>h.other y (List.mem_of_mem_erase hy) z (List.mem_of_mem_erase hz)⟩
structure Wi (ops:Array Oper) (bf:Array Nat) (listed:Array Bool) (l:List jP):Prop where
 size:listed.size=ops.size
 mem:∀i,i∈(dW l).map (·.1)↔i<ops.size∧listed.getD i true=false
 nodup:((dW l).map (·.1)).Nodup
 pair:l.Pairwise fun x y=>∀u∈x.fl,∀v∈y.fl,fC ops bf u v=true
 dep:(dW l).Pairwise fun x y=>kU ops x.1 y.1=false
 self:∀x∈dW l,kU ops x.1 x.1=false
 grp:∀b E,jP.grp b E∈l→Pj ops bf b E
 closed:∀d r,r<ops.size→listed.getD d false=true→(bf.getD d 0).testBit r=true→listed.getD r false=true
theorem Ew (hsel:∀(j:Nat) (o:Oper) cs b,ops[j]?=some o→o.op≠.select cs b) (hQ:∀c a d v w,Q (.panic c) (a.put d v) w→Q (.panic c) a w)
 (hbf:lX ops (Region.before ops)=true) (hon:∀(j:Nat) (o:Oper),ops[j]?=some o→∀e∈o.after,Region.binds .any e=true→e.on<ops.size):
 ∀(n:Nat) (l:List jP) (listed:Array Bool),(dW l).length=n→Wi ops (Region.before ops) listed l→∀(a:Act) (w:World),lD P ops Q S l (Q .normal) a w→wpAny P .any ops Q n listed a w:=by
 obtain⟨bf,hbe⟩:=aC (Region.before ops)
 have Ri:∀(listed:Array Bool) (i:Nat),listed.size=ops.size→i<ops.size→(listed.getD i false=true↔¬listed.getD i true=false):=fun listed i hs hi=>by
  simp[Array.getD,hs,hi]
 have nil:∀(listed:Array Bool) (l:List jP),dW l=[]→Wi ops (Region.before ops) listed l→Region.ready .any ops listed=[]:=fun listed l hl hI=>by
  simp only[Region.ready,List.filter_eq_nil_iff,List.mem_range]
  intro i hi
  have h':¬listed.getD i true=false:=fun hh=>by have:=(hI.mem i).2 ⟨hi,hh⟩;rw[hl] at this;simp at this
  have h'':listed.getD i true=true:=by simpa using h'
  simp[h'']
 intro n
 induction n with
 | zero=>
  intro l listed hn hI a w h
  have hl:=List.eq_nil_of_length_eq_zero hn
  exact⟨nil _ l hl hI,Ey l hl a w h⟩
 | succ n ih=>
  intro l listed hn hI a w h
  refine⟨fun hr=>?_,fun j hj=>?_⟩
  ·exfalso
   cases hfl:dW l with
   | nil=>rw[hfl] at hn;simp at hn
   | cons x xs=>
    have hx:=(hI.mem x.1).1 (by rw[hfl];simp)
    have hmem:x.1∈Region.ready .any ops listed:=by
     simp only[Region.ready,List.mem_filter,List.mem_range]
     refine⟨hx.1,?_⟩
     have:listed.getD x.1 true=false:=hx.2
     have ho:ops[x.1]?=some ops[x.1]:=Array.getElem?_eq_getElem hx.1
     simp only[this,Bool.not_false,Bool.true_and,ho,Option.map_some,Option.getD_some]
     rw[Array.all_eq_true]
     intro k hk
     have hmem:=Array.getElem_mem hk
     by_cases hb:Region.binds .any (ops[x.1].after[k])=true
     ·have hlt:=hon x.1 _ ho _ hmem hb
      have L8:kU ops x.1 (ops[x.1].after[k]).on=true:=by
       simp only[kU,ho,Array.any_eq_true]
       exact⟨k,hk,by simp[hb]⟩
      have hnot:(ops[x.1].after[k]).on∉(dW l).map (·.1):=by
       intro hm
       rw[hfl] at hm
       simp only[List.map_cons,List.mem_cons,List.mem_map] at hm
       rcases hm with hm|⟨y,hy,hm⟩
       ·have:=hI.self x (by rw[hfl];simp)
        rw[hm] at L8
        rw[L8] at this;cases this
       ·have hd:=hI.dep
        rw[hfl] at hd
        have:=(List.pairwise_cons.1 hd).1 y hy
        rw[hm,L8] at this
        cases this
      have h2:¬listed.getD (ops[x.1].after[k]).on true=false:=fun e=>hnot ((hI.mem _).2 ⟨hlt,e⟩)
      have:=(Ri listed _ hI.size hlt).2 h2
      simp[this]
     ·simp[hb]
    rw[hr] at hmem;cases hmem
  ·simp only[Region.ready,List.mem_filter,List.mem_range,Bool.and_eq_true,Bool.not_eq_true'] at hj
   obtain⟨hjs,hjl,hja⟩:=hj
   have hjm:=(hI.mem j).2 ⟨hjs,hjl⟩
   cases hoj:ops[j]? with
   | none=>simp[hoj] at hja
   | some oj=>
    simp only[hoj,Option.map_some,Option.getD_some] at hja
    have Jt:∀d,kU ops j d=true→listed.getD d false=true:=fun d hd=>by
     simp only[kU,hoj,Array.any_eq_true] at hd
     obtain⟨k,hk,hd⟩:=hd
     simp only[Bool.and_eq_true,beq_iff_eq] at hd
     rw[Array.all_eq_true] at hja
     have:=hja k hk
     rw[hd.1] at this
     simpa[hd.2] using this
    have hbl:∀r,r<ops.size→((Region.before ops).getD j 0).testBit r=true→listed.getD r false=true:=fun r hr hb=>by
     simp only[lX,List.all_eq_true,List.mem_range] at hbf
     have:=hbf j hjs r hr
     simp only[hb,Bool.not_true,Bool.false_or,Bool.or_eq_true,List.any_eq_true,List.mem_range,Bool.and_eq_true] at this
     rcases this with h|⟨d,_,h1,h2⟩
     ·exact Jt r h
     ·exact hI.closed d r hr (Jt d h1) h2
    have hnotin:∀x∈dW l,((Region.before ops).getD j 0).testBit x.1=false:=fun x hx=>by
     have hxm:=(hI.mem x.1).1 (List.mem_map.2 ⟨x,hx,rfl⟩)
     cases hb:((Region.before ops).getD j 0).testBit x.1 with
     | false=>rfl
     | true=>exact absurd hxm.2 ((Ri listed x.1 hI.size hxm.1).1 (hbl x.1 hxm.1 hb))
    have hclosed:∀d r,r<ops.size→(listed.setIfInBounds j true).getD d false=true→((Region.before ops).getD d 0).testBit r=true→(listed.setIfInBounds j true).getD r false=true:=by
     intro d r hr hd hb
     by_cases e:r=j
     ·subst e;simp[Array.getD,hI.size,hr]
     ·have hg:(listed.setIfInBounds j true).getD r false=listed.getD r false:=getD_set_ne _ _ _ _ _ e
      rw[hg]
      by_cases e2:d=j
      ·subst e2;exact hbl r hr hb
      ·have hg2:(listed.setIfInBounds j true).getD d false=listed.getD d false:=getD_set_ne _ _ _ _ _ e2
       rw[hg2] at hd
       exact hI.closed d r hr hd hb
    have Zq:(listed.setIfInBounds j true).getD j true=true:=by simp[Array.getD,hI.size,hjs]
    have Wj:∀(F:List Nat),(∀i,i∈F↔i∈(dW l).map (·.1)∧i≠j)→∀i,i∈F↔i<ops.size∧(listed.setIfInBounds j true).getD i true=false:=fun F hF i=>by
     rw[hF,hI.mem]
     by_cases e:i=j
     ·subst e;simp[Zq]
     ·have hg:(listed.setIfInBounds j true).getD i true=listed.getD i true:=getD_set_ne _ _ _ _ _ e
      rw[hg];simp[e]
    obtain⟨⟨j',kj⟩,hxf,hje⟩:=List.mem_map.1 hjm
    obtain rfl:j'=j:=hje
    obtain⟨it,hit,hin⟩:=List.mem_flatMap.1 hxf
    obtain⟨l1,l2,rfl⟩:=List.append_of_mem hit
    have hpw:=List.pairwise_append.1 hI.pair
    have hfe:dW (l1++it::l2)=dW l1++(it.fl++dW l2):=by rw[jB,jC]
    have hok:∀x∈dW l1,fC ops (Region.before ops) x (j',kj)=true∧((Region.before ops).getD j' 0).testBit x.1=false:=fun x hx=>by
     obtain⟨y,hy,hxy⟩:=List.mem_flatMap.1 hx
     exact⟨hpw.2.2 y hy it (by simp) x hxy (j',kj) hin,hnotin x (by rw[hfe];exact List.mem_append_left _ hx)⟩
    have hnd:=hI.nodup
    rw[hfe] at hnd
    rw[uP] at h
    cases it with
    | one i k=>
     simp only[jP.fl,List.mem_singleton,Prod.mk.injEq] at hin
     obtain⟨rfl,rfl⟩:=hin
     refine wpOp_mono (fun a' w' ⟨h1,_,_⟩=>ih (l1++l2) (listed.setIfInBounds j' true) ?_ ?_ a' w' (by rw[uP];exact h1)) (NU (kj:=kj) hoj hsel hQ (lD P ops Q S (.one j' kj::l2) (Q .normal)) (lD P ops Q S l2 (Q .normal)) ?_ l1 hok a w h)
     ·rintro a w ⟨o,ho,h⟩
      rcases kj with b|_|_|_
      case inr.none=>obtain⟨v,hy,h⟩:=h;exact (hy w).wpOp ho ⟨h,fun h=>(by cases h),fun _=>rfl⟩
      case inr.some.true=>obtain⟨hS,v,hy,h⟩:=h;exact (hy w hS).wpOp ho ⟨h,fun h=>(by cases h),fun _=>rfl⟩
      case inr.some.false=>obtain⟨v,hy,h⟩:=h;exact hy.wpOp ho ⟨h,fun h=>(by cases h),fun _=>rfl⟩
      case inl=>exact wpOp_mono (fun a' w' ⟨h1,h2⟩=>⟨h2,fun hb=>h1 (by cases hb;rfl),fun hb=>(by simp[Kd.eff] at hb)⟩) h
     ·rw[hfe] at hn;rw[jB];simp[jP.fl] at hn ⊢;omega
     ·have hpf:List.Sublist (l1++l2) (l1++jP.one j' kj::l2):=List.Sublist.append_left (List.sublist_cons_self _ _) _
      have hsf:List.Sublist (dW (l1++l2)) (dW (l1++jP.one j' kj::l2)):=by
       rw[hfe,jB]
       exact List.Sublist.append_left (List.sublist_append_right _ _) _
      refine⟨by simp[hI.size],Wj _ fun i=>?_,?_,hI.pair.sublist hpf,hI.dep.sublist hsf,fun x hx=>hI.self x (hsf.subset hx),fun b E hm=>hI.grp b E (hpf.subset hm),hclosed⟩
      ·rw[hfe,jB]
       simp only[jP.fl,zi,List.map_cons,List.map_nil,List.mem_append,List.mem_cons,List.not_mem_nil,or_false]
       have hn2:=hI.nodup
       rw[hfe] at hn2
       simp only[jP.fl,zi,List.map_cons,List.map_nil,List.nodup_append,List.mem_append,List.mem_cons,List.not_mem_nil,or_false] at hn2
       constructor
       ·rintro (hi|hi)
        ·exact⟨.inl hi,fun e=>hn2.2.2 i hi j' (.inl rfl) e⟩
        ·exact⟨.inr (.inr hi),fun e=>hn2.2.1.2.2 j' rfl i hi e.symm⟩
       ·rintro⟨hi|hi|hi,hne⟩
        ·exact .inl hi
        ·exact absurd hi hne
        ·exact .inr hi
      ·exact hI.nodup.sublist (hsf.map _)
    | grp b E=>
     obtain⟨x,Ur,abx⟩:=List.mem_flatMap.1 (show (j',kj)∈E.flatMap (zf b) from hin)
     have hG:=hI.grp b E (by simp)
     have hxm:(x.1,(.inl b:Kd))∈dW (l1++jP.grp b E::l2):=by
      rw[hfe]
      refine List.mem_append_right _ (List.mem_append_left _ ?_)
      exact List.mem_flatMap.2 ⟨x,Ur,List.mem_cons_self⟩
     have hj':(j',kj)=(x.1,.inl b):=by
      rcases List.mem_cons.1 abx with e|hm
      ·exact e
      ·exfalso
       obtain⟨u,hu,e⟩:=List.mem_map.1 hm
       have e1:u=j':=congrArg Prod.fst e
       have h1:=hG.own x Ur u hu
       have h2:=hnotin _ hxm
       rw[e1] at h1
       rw[h1] at h2
       cases h2
     obtain⟨rfl,rfl⟩:j'=x.1∧kj=.inl b:=Prod.mk.inj hj'
     obtain⟨E1,E2,aby,hEe,hEr⟩:=List.exists_erase_eq Ur
     have hfl:dW (l1++jP.grp b E::l2)=dW l1++(E1.flatMap (zf b)++((x.1,.inl b)::((x.2.map fun j=>(j,(.inr none:Kd)))++E2.flatMap (zf b)))++dW l2):=by
      rw[hfe];show dW l1++(E.flatMap (zf b)++dW l2)=_
      rw[hEe,List.flatMap_append,List.flatMap_cons]
      simp[zf]
     have hfn:dW (l1++(x.2.map (fun j=>jP.one j (.inr none))++jP.grp b (E.erase x)::l2))=dW l1++((x.2.map fun j=>(j,(.inr none:Kd)))++(E1.flatMap (zf b)++E2.flatMap (zf b))++dW l2):=by
      rw[jB,jB,jC]
      show dW l1++(_++((E.erase x).flatMap (zf b)++dW l2))=_
      rw[hEr,List.flatMap_append]
      have:dW (x.2.map fun j=>jP.one j (.inr none))=x.2.map fun j=>(j,(.inr none:Kd)):=by
       unfold dW
       rw[List.flatMap_map]
       induction x.2 with
       | nil=>rfl
       | cons u us ih=>rw[List.flatMap_cons,ih];rfl
      rw[this]
      simp
     have hperm:(dW (l1++jP.grp b E::l2)).Perm ((x.1,.inl b)::dW (l1++(x.2.map (fun j=>jP.one j (.inr none))++jP.grp b (E.erase x)::l2))):=by
      rw[hfl,hfn]
      refine List.Perm.trans ?_ List.perm_middle
      refine List.Perm.append_left _ ?_
      refine List.Perm.append_right (dW l2) (show List.Perm _ ((x.1,(.inl b:Kd))::_) from List.Perm.trans List.perm_middle (List.Perm.cons _ ?_))
      rw[←List.append_assoc,←List.append_assoc]
      exact List.Perm.append_right _ List.perm_append_comm
     have hnd':=(hperm.map (fun y:Nat×Kd=>y.1)).nodup_iff.1 hI.nodup
     rw[List.map_cons] at hnd'
     obtain⟨hxn,abz⟩:=List.nodup_cons.1 hnd'
     have XB:∀y∈E1,y∈E∧y≠x:=fun y hy=>⟨by rw[hEe];simp[hy],fun e=>aby (by rw[←e];exact hy)⟩
     have XC:∀y∈E2,y∈E∧y≠x:=fun y hy=>by
      refine⟨by rw[hEe];simp[hy],fun e=>?_⟩
      have hn0:=hI.nodup
      rw[hfl] at hn0
      simp only[zi,List.map_cons] at hn0
      have h3:=(List.nodup_append.1 (List.nodup_append.1 (List.nodup_append.1 hn0).2.1).1).2.1
      refine (List.nodup_cons.1 h3).1 (List.mem_append_right _ (List.mem_map.2 ⟨(x.1,.inl b),List.mem_flatMap.2 ⟨y,hy,by rw[e];exact List.mem_cons_self⟩,rfl⟩))
     have hfr:∀y∈E,((Region.before ops).getD x.1 0).testBit y.1=false:=fun y hy=>hnotin (y.1,.inl b) (by rw[hfe];refine List.mem_append_right _ (List.mem_append_left _ ?_);exact List.mem_flatMap.2 ⟨y,hy,List.mem_cons_self⟩)
     have NV:∀u∈x.2,∀v∈E1.flatMap (zf b)++E2.flatMap (zf b),fC ops (Region.before ops) (u,.inr none) v=true:=fun u hu v hv=>by
      rcases List.mem_append.1 hv with hv|hv
      ·obtain⟨y,hy,hvy⟩:=List.mem_flatMap.1 hv
       exact hG.other x Ur y (XB y hy).1 (fun e=>(XB y hy).2 e.symm) (hfr y (XB y hy).1) u hu v hvy
      ·obtain⟨y,hy,hvy⟩:=List.mem_flatMap.1 hv
       exact hG.other x Ur y (XC y hy).1 (fun e=>(XC y hy).2 e.symm) (hfr y (XC y hy).1) u hu v hvy
     have Zr:∀{u v:Nat×Kd},fC ops (Region.before ops) u v=true→kU ops u.1 v.1=false:=fun h=>by
      simp only[fC,Bool.and_eq_true,Bool.not_eq_true'] at h
      exact h.1
     refine wpOp_mono (fun a' w' ⟨h1,_,_⟩=>ih (l1++(x.2.map (fun j=>jP.one j (.inr none))++jP.grp b (E.erase x)::l2)) (listed.setIfInBounds x.1 true) ?_ ?_ a' w' (by rw[uP];exact h1)) (NU (kj:=.inl b) hoj hsel hQ (lD P ops Q S (.grp b E::l2) (Q .normal)) (lD P ops Q S (x.2.map (fun j=>jP.one j (.inr none))++jP.grp b (E.erase x)::l2) (Q .normal)) ?_ l1 hok a w h)
     ·intro a w h
      have uQ:(E.all fun r=>!((Region.before ops).getD x.1 0).testBit r.1)=true:=by
       rw[List.all_eq_true]
       intro r hr
       have h9:((Region.before ops).getD x.1 0).testBit r.1=false:=hnotin (r.1,.inl b) (by rw[hfe];refine List.mem_append_right _ (List.mem_append_left _ ?_);exact List.mem_flatMap.2 ⟨r,hr,List.mem_cons_self⟩)
       rw[h9];rfl
      have hlen:E.length=(E.erase x).length+1:=by
       have hp:0<E.length:=List.length_pos_of_mem Ur
       rw[List.length_erase_of_mem Ur];omega
      simp only[lD] at h
      rw[hlen] at h
      refine wpOp_mono (fun a' w' ⟨h1,h2⟩=>⟨Wn (.grp b (E.erase x)::l2) (Q .normal) x.2 a' w' h2,fun hb=>h1 (by cases hb;rfl),fun hb=>(by simp[Kd.eff] at hb)⟩) (h x Ur uQ)
     ·have:=hperm.length_eq
      rw[List.length_cons] at this
      omega
     ·have hc:=List.pairwise_cons.1 hpw.2.1
      have hl1:∀y∈l1,∀u∈y.fl,∀v,v∈(x.2.map fun j=>(j,(.inr none:Kd)))∨v∈E1.flatMap (zf b)++E2.flatMap (zf b)→fC ops (Region.before ops) u v=true:=fun y hy u hu v hv=>by
       refine hpw.2.2 y hy (.grp b E) (by simp) u hu v ?_
       show v∈E.flatMap (zf b)
       rw[hEe,List.flatMap_append,List.flatMap_cons]
       rcases hv with hv|hv
       ·exact List.mem_append_right _ (List.mem_append_left _ (List.mem_cons_of_mem _ hv))
       ·rcases List.mem_append.1 hv with hv|hv
        ·exact List.mem_append_left _ hv
        ·exact List.mem_append_right _ (List.mem_append_right _ hv)
      have hl2:∀y∈l2,∀v∈y.fl,∀u,u∈(x.2.map fun j=>(j,(.inr none:Kd)))∨u∈E1.flatMap (zf b)++E2.flatMap (zf b)→fC ops (Region.before ops) u v=true:=fun y hy v hv u hu=>by
       refine hc.1 y hy u ?_ v hv
       show u∈E.flatMap (zf b)
       rw[hEe,List.flatMap_append,List.flatMap_cons]
       rcases hu with hu|hu
       ·exact List.mem_append_right _ (List.mem_append_left _ (List.mem_cons_of_mem _ hu))
       ·rcases List.mem_append.1 hu with hu|hu
        ·exact List.mem_append_left _ hu
        ·exact List.mem_append_right _ (List.mem_append_right _ hu)
      have hgf:jP.fl (.grp b (E.erase x))=E1.flatMap (zf b)++E2.flatMap (zf b):=by
       show (E.erase x).flatMap (zf b)=_
       rw[hEr,List.flatMap_append]
      have hone:∀y∈x.2.map (fun j=>jP.one j (.inr none)),∀u∈y.fl,u∈(x.2.map fun j=>(j,(.inr none:Kd))):=fun y hy u hu=>by
       obtain⟨j,hj,rfl⟩:=List.mem_map.1 hy
       rw[List.mem_singleton.1 hu]
       exact List.mem_map.2 ⟨j,hj,rfl⟩
      refine⟨by simp[hI.size],Wj _ fun k=>?_,abz,?_,?_,fun y hy=>hI.self y (hperm.symm.subset (List.mem_cons_of_mem _ hy)),?_,hclosed⟩
      ·have hmm:=(hperm.map (fun y:Nat×Kd=>y.1)).mem_iff (a:=k)
       rw[List.map_cons,List.mem_cons] at hmm
       rw[hmm]
       constructor
       ·intro hk
        exact⟨.inr hk,fun e=>hxn (by rw[←e];exact hk)⟩
       ·rintro⟨rfl|hk,hne⟩
        ·exact absurd rfl hne
        ·exact hk
      ·refine List.pairwise_append.2 ⟨hpw.1,List.pairwise_append.2 ⟨?_,List.pairwise_cons.2 ⟨fun y hy u hu v hv=>hl2 y hy v hv u (.inr (by rw[←hgf];exact hu)),hc.2⟩,fun y hy z hz u hu v hv=>?_⟩,fun y hy z hz u hu v hv=>?_⟩
       ·rw[List.pairwise_map]
        refine (hG.seq x Ur).imp fun h u hu v hv=>?_
        rw[List.mem_singleton.1 hu,List.mem_singleton.1 hv]
        exact h
       ·have h1:=hone y hy u hu
        rcases List.mem_cons.1 hz with rfl|hz
        ·obtain⟨j,hj,rfl⟩:=List.mem_map.1 h1
         exact NV j hj v (by rw[←hgf];exact hv)
        ·exact hl2 z hz v hv u (.inl h1)
       ·rcases List.mem_append.1 hz with hz|hz
        ·exact hl1 y hy u hu v (.inl (hone z hz v hv))
        ·rcases List.mem_cons.1 hz with rfl|hz
         ·exact hl1 y hy u hu v (.inr (by rw[←hgf];exact hv))
         ·exact hpw.2.2 y hy z (by simp[hz]) u hu v hv
      ·have hd:=hI.dep
       rw[hfl] at hd
       rw[hfn]
       obtain⟨a1,a2,a3⟩:=List.pairwise_append.1 hd
       obtain⟨b1,b2,b3⟩:=List.pairwise_append.1 a2
       obtain⟨c1,c2,c3⟩:=List.pairwise_append.1 b1
       obtain⟨d1,d2⟩:=List.pairwise_cons.1 c2
       obtain⟨e1,e2,e3⟩:=List.pairwise_append.1 d2
       refine List.pairwise_append.2 ⟨a1,List.pairwise_append.2 ⟨List.pairwise_append.2 ⟨e1,List.pairwise_append.2 ⟨c1,e2,fun y hy z hz=>c3 y hy z (List.mem_cons_of_mem _ (List.mem_append_right _ hz))⟩,fun y hy z hz=>?_⟩,b2,fun y hy z hz=>b3 y ?_ z hz⟩,fun y hy z hz=>a3 y hy z ?_⟩
       ·obtain⟨j,hj,rfl⟩:=List.mem_map.1 hy
        exact Zr (NV j hj z hz)
       ·rcases List.mem_append.1 hy with hy|hy
        ·exact List.mem_append_right _ (List.mem_cons_of_mem _ (List.mem_append_left _ hy))
        ·rcases List.mem_append.1 hy with hy|hy
         ·exact List.mem_append_left _ hy
         ·exact List.mem_append_right _ (List.mem_cons_of_mem _ (List.mem_append_right _ hy))
       ·rcases List.mem_append.1 hz with hz|hz
        ·rcases List.mem_append.1 hz with hz|hz
         ·exact List.mem_append_left _ (List.mem_append_right _ (List.mem_cons_of_mem _ (List.mem_append_left _ hz)))
         ·rcases List.mem_append.1 hz with hz|hz
          ·exact List.mem_append_left _ (List.mem_append_left _ hz)
          ·exact List.mem_append_left _ (List.mem_append_right _ (List.mem_cons_of_mem _ (List.mem_append_right _ hz)))
        ·exact List.mem_append_right _ hz
      ·intro b' E' hm
       rcases List.mem_append.1 hm with hm|hm
       ·exact hI.grp b' E' (List.mem_append_left _ hm)
       ·rcases List.mem_append.1 hm with hm|hm
        ·obtain⟨j,_,e⟩:=List.mem_map.1 hm
         cases e
        ·rcases List.mem_cons.1 hm with e|hm
         ·cases e
          exact hG.erase x
         ·exact hI.grp b' E' (by simp[hm])
def xE (ops:Array Oper) (bf:Array Nat):List jP→Bool
 | []=>true
 | .one _ _::l=>xE ops bf l
 | .grp b E::l=>Rk ops bf b E&&xE ops bf l
theorem sH {bf:Array Nat}:∀(l:List jP),xE ops bf l=true→∀b E,jP.grp b E∈l→Pj ops bf b E
 | [],_,_,_,h=>by cases h
 | .one _ _::l,h,b,E,hm=>by
  rcases List.mem_cons.1 hm with e|hm
  ·cases e
  ·exact sH l h b E hm
 | .grp b' E'::l,h,b,E,hm=>by
  simp only[xE,Bool.and_eq_true] at h
  rcases List.mem_cons.1 hm with e|hm
  ·cases e
   exact Rl h.1
  ·exact sH l h.2 b E hm
def wG (ops:Array Oper) (l:List jP):Bool:=
 Jy ops (Region.before ops) l&&Rn ops (dW l)&&Bj ops&&lX ops (Region.before ops)&&(dW l).length==ops.size&&nodupB ((dW l).map (·.1))&&((dW l).map (·.1)).all (fun i=>decide (i<ops.size))&&(List.range ops.size).all (fun i=>((dW l).map (·.1)).contains i) &&
 ops.all (fun o=>o.after.all fun e=>!Region.binds .any e||decide (e.on<ops.size))&&xE ops (Region.before ops) l
theorem dA {id:Nat} {a:Act} {w:World} (hm:P.follows .mixedOrders=true) (S:World→Prop) (l:List jP) (hok:wG ops l=true)
 (h:lD P ops (NoPanic Q) S l (Q .normal) a w.drew):(Code.region id ops true).wp P Q a w:=by
 simp only[wG,Bool.and_eq_true] at hok
 obtain⟨⟨⟨⟨⟨⟨⟨⟨⟨h1,h0⟩,h2⟩,h3⟩,h4⟩,h7⟩,h8⟩,h5⟩,h6⟩,h9⟩:=hok
 have hlen:(dW l).length=ops.size:=by simpa using h4
 have hall:∀i,i<ops.size→i∈(dW l).map (·.1):=fun i hi=>by
  simp only[List.all_eq_true,List.mem_range] at h5
  simpa using h5 i hi
 have hback:∀i,i∈(dW l).map (·.1)→i<ops.size:=fun i hi=>by
  rw[List.all_eq_true] at h8
  simpa using h8 i hi
 have hd:=Gj _ h0
 refine wp_region_noPanic (wp_region_any hm ?_)
 refine Ew (S:=S) ?_ ?_ h3 ?_ ops.size l _ hlen ?_ a w.drew h
 ·intro j o cs b ho hsel
  simp only[Bj,Array.all_eq_true] at h2
  obtain⟨hj,rfl⟩:=Array.getElem?_eq_some_iff.1 ho
  have:=h2 j hj
  rw[hsel] at this
  cases this
 ·intro c a d v w hh;exact hh
 ·intro j o ho e he hb
  obtain⟨hj,rfl⟩:=Array.getElem?_eq_some_iff.1 ho
  rw[Array.all_eq_true] at h6
  have:=h6 j hj
  rw[Array.all_eq_true] at this
  obtain⟨k,hk,rfl⟩:=Array.mem_iff_getElem.1 he
  have:=this k hk
  simpa[hb] using this
 ·refine⟨by simp,fun i=>⟨fun hi=>?_,fun hi=>hall i hi.1⟩,lY _ h7,Bv l h1,hd.1,hd.2,sH l h9,fun d r _ hd=>?_⟩
  ·have:=hback i hi
   exact⟨this,by simp[Array.getD,this]⟩
  ·exfalso
   simp only[Array.getD,Array.size_replicate] at hd
   split at hd<;>simp at hd
theorem KG {W:World} {Pre Mid Post:aB} {v1 v2:Value} {CZ:List Value} {a0:Act} {i j:Nat} {js:List Nat} {oi oj:Oper} {di dj:Option Tmp} (hdi:aO ops i=di) (hdj:aO ops j=dj) (hoi:ops[i]?=some oi) (hsi:∀cs b,oi.op≠.select cs b) (hoj:ops[j]?=some oj) (hsj:∀cs b,oj.op≠.select cs b)
 (hb:((Region.before ops).getD j 0).testBit i=true) (h1:iH P ops W oi a0 Pre (fun v=>sep (fact (v=v1)) Mid)) (h2:iH P ops W oj (a0.put di v1) Mid (fun v=>sep (fact (v=v2)) Post))
 (hw2:∀v,Region.wanted oj (yielded ops (a0.put di v).tmps)=true) (hpl:js.all (l7 ops)=true) (hF:vk P ops ((a0.put di v1).put dj v2) js CZ):
 yE P ops W a0 (Ii Pre Mid Post v1 v2 CZ) [] [(i,[]),(j,js)]:=by
 subst hdj
 exact Pm hdi hoi hsi hoj hsj hb h1 h2 hw2 hpl hF
theorem DU {W:World} {Pre Mid Post:aB} {v1 u1 v2:Value} {a0:Act} {i k j:Nat} {oi oj:Oper} {di dk:Option Tmp} (hdi:aO ops i=di) (hdk:aO ops k=dk) (hoi:ops[i]?=some oi) (hsi:∀cs b,oi.op≠.select cs b) (hoj:ops[j]?=some oj) (hsj:∀cs b,oj.op≠.select cs b)
 (hb:((Region.before ops).getD j 0).testBit i=true) (h1:iH P ops W oi a0 Pre (fun v=>sep (fact (v=v1)) Mid)) (hpl:l7 ops k=true) (hF:vk P ops (a0.put di v1) [k] [u1])
 (h2:iH P ops W oj ((a0.put di v1).put dk u1) Mid (fun v=>sep (fact (v=v2)) Post))
 (hw2:∀v u,Region.wanted oj (yielded ops ((a0.put di v).put dk u).tmps)=true):
 yE P ops W a0 (SQ Pre Mid Post v1 u1 v2) [] [(i,[k]),(j,[])]:=by
 subst hdk
 exact Ro hdi hoi hsi hoj hsj hb h1 hpl hF h2 hw2
theorem twoA_S {W:World} {Pre Mid Post:aB} {v1 v2:Value} {CZ:List Value} (h1:∀w X,Sat W w (sep Pre X)→S w) (h2:∀w X,Sat W w (sep Mid X)→S w) (h3:∀w X,Sat W w (sep Post X)→S w):∀us w X,Sat W w (sep (Ii Pre Mid Post v1 v2 CZ us) X)→S w
 | [],w,X,h=>h1 w X h
 | [_],w,X,h=>by
  rw[Ii,aj] at h
  exact h2 w X (Sat.fact.1 h).2
 | _::_::_,w,X,h=>by
  rw[Ii,aj] at h
  exact h3 w X (Sat.fact.1 h).2
theorem Vd {W:World} {Pre Mid Post:aB} {v1 u1 v2:Value} (h1:∀w X,Sat W w (sep Pre X)→S w) (h2:∀w X,Sat W w (sep Mid X)→S w) (h3:∀w X,Sat W w (sep Post X)→S w):∀us w X,Sat W w (sep (SQ Pre Mid Post v1 u1 v2 us) X)→S w
 | [],w,X,h=>h1 w X h
 | [_],w,X,h=>by
  rw[SQ,aj] at h
  exact h2 w X (Sat.fact.1 h).2
 | [_,_],w,X,h=>by
  rw[SQ,aj] at h
  exact h2 w X (Sat.fact.1 h).2
 | _::_::_::_,w,X,h=>by
  rw[SQ,aj] at h
  exact h3 w X (Sat.fact.1 h).2
end
end PA
namespace PA
open Go Go.RowKit
section
variable {P:Program} {ops:Array Oper} {Q:Exit→Act→World→Prop} {S:World→Prop}
theorem vI {b:Bool} {E:List (Nat×List Nat)} {l:List jP} {K:Act→World→Prop} {a:Act} {w:World} {n:Nat} (hn:E.length=n) (h:lZ P ops Q S b n E (lD P ops Q S l K) a w):lD P ops Q S (.grp b E::l) K a w:=by
 subst hn;exact h
end
end PA
namespace PA
open Go Go.RowKit
section
variable {P:Program} {ops:Array Oper} {Q:Exit→Act→World→Prop} {S:World→Prop} {W:World}
def bQ (ops:Array Oper) (L:List Nat) (f:Nat→Option Value) (a:Act):Act:=L.foldl (fun a x=>match f x with|some v=>a.put (aO ops x) v|none=>a) a
theorem Rq (f:Nat→Option Value) (a:Act):bQ ops [] f a=a:=rfl
theorem iZ (x:Nat) (L:List Nat) (f:Nat→Option Value) (a:Act):bQ ops (x::L) f a=bQ ops L f (match f x with|some v=>a.put (aO ops x) v|none=>a):=rfl
def dU (f:Nat→Option Value) (x:Nat) (v:Value):Nat→Option Value:=fun y=>if y=x then some v else f y
theorem aH {f:Nat→Option Value} {x y:Nat} {v:Value} (h:y≠x):dU f x v y=f y:=by unfold dU;rw[if_neg h]
theorem bM {f:Nat→Option Value} {x:Nat} {v:Value}:dU f x v x=some v:=by unfold dU;rw[if_pos rfl]
def xG (ops:Array Oper) (x y:Nat):Prop:=∀d,aO ops x=some d→aO ops y≠some d
theorem BA {x:Nat} {v:Value} (f:Nat→Option Value):∀(L:List Nat),(∀y∈L,xG ops x y)→∀a:Act,bQ ops L f (a.put (aO ops x) v)=(bQ ops L f a).put (aO ops x) v
 | [],_,_=>rfl
 | y::L,h,a=>by
  rw[iZ,iZ]
  cases hy:f y with
  | none=>exact BA f L (fun z hz=>h z (List.mem_cons_of_mem _ hz)) a
  | some u=>
   show bQ ops L f ((a.put (aO ops x) v).put (aO ops y) u)=(bQ ops L f (a.put (aO ops y) u)).put (aO ops x) v
   rw[Act.put_comm a v u (h y (List.mem_cons_self ..)),BA f L (fun z hz=>h z (List.mem_cons_of_mem _ hz))]
theorem BD {f g:Nat→Option Value}:∀(L:List Nat),(∀y∈L,f y=g y)→∀a:Act,bQ ops L f a=bQ ops L g a
 | [],_,_=>rfl
 | y::L,h,a=>by
  rw[iZ,iZ,h y (List.mem_cons_self ..)]
  exact BD L (fun z hz=>h z (List.mem_cons_of_mem _ hz)) _
theorem BF {x:Nat} {v:Value} {f:Nat→Option Value}:∀(L:List Nat),x∈L→L.Pairwise (xG ops)→L.Nodup→f x=none→∀a:Act,bQ ops L (dU f x v) a=(bQ ops L f a).put (aO ops x) v
 | [],h,_,_,_,_=>by cases h
 | y::L,h,hp,hn,hx,a=>by
  obtain⟨p1,p2⟩:=List.pairwise_cons.1 hp
  obtain⟨n1,n2⟩:=List.nodup_cons.1 hn
  rw[iZ,iZ]
  by_cases e:x=y
  ·subst e
   rw[bM,hx]
   show bQ ops L (dU f x v) (a.put (aO ops x) v)=(bQ ops L f a).put (aO ops x) v
   rw[BD L (g:=f) (fun z hz=>aH (x:=x) (v:=v) (fun e=>n1 (by rw[←e];exact hz))),BA f L p1]
  ·rw[aH (Ne.symm e)]
   exact BF L ((List.mem_cons.1 h).resolve_left e) p2 n2 hx _
theorem Jz (a:Act) (d:Option Tmp) (v:Value):(a.put d v).tmps.size=a.tmps.size:=by
 cases d with
 | none=>rfl
 | some d=>simp[Act.put]
theorem Dv {a b:Act} {t:Tmp} {v:Value} (h:a.tmps.size=b.tmps.size):(a.put (some t) v).eval (.tmp t)=(b.put (some t) v).eval (.tmp t):=by
 simp[Act.put,Act.eval,Array.getElem?_setIfInBounds,h]
theorem lH {f:Nat→Option Value} {t:Tmp} (keep:Nat→Bool):∀(L:List Nat) (a b:Act),a.tmps.size=b.tmps.size→a.eval (.tmp t)=b.eval (.tmp t)→(∀y∈L,keep y=false→aO ops y≠some t)→(bQ ops L f a).eval (.tmp t)=(bQ ops (L.filter keep) f b).eval (.tmp t)
 | [],_,_,_,h,_=>h
 | y::L,a,b,hs,h,hL=>by
  have hL':=fun z hz=>hL z (List.mem_cons_of_mem _ hz)
  rw[iZ,List.filter_cons]
  by_cases hk:keep y=true
  ·rw[if_pos hk,iZ]
   cases hf:f y with
   | none=>exact lH keep L _ _ hs h hL'
   | some v=>
    refine lH keep L _ _ (by simp only[Jz,hs]) ?_ hL'
    by_cases hd:aO ops y=some t
    ·simp only[hd];exact Dv hs
    ·simp only
     rw[Act.eval_put fun d hd' e=>hd (by rw[hd'];cases e;rfl),Act.eval_put fun d hd' e=>hd (by rw[hd'];cases e;rfl)]
     exact h
  ·rw[if_neg hk]
   have hk':keep y=false:=by simpa using hk
   have hd:=hL y (List.mem_cons_self ..) hk'
   cases hf:f y with
   | none=>exact lH keep L _ _ hs h hL'
   | some v=>
    refine lH keep L _ _ (by simp only[Jz,hs]) ?_ hL'
    simp only
    rw[Act.eval_put fun d hd' e=>hd (by rw[hd'];cases e;rfl)]
    exact h
def rO (P:Program) (o:Oper) (a:Act) (w:World) (Post:Value→World→Prop):Prop:=
 (∃v w',(execOp a.eval o).run P w=.ok (.value v) w'∧Post v w') ∨
 (∃f args w1,(execOp a.eval o).run P w=.ok (.enter f args) w1∧Calls P f args w1 fun e w'=>∃v,e=.returned v∧Post v w')
theorem rO.go {i:Nat} {o:Oper} {a:Act} {w:World} {Post:Value→World→Prop} (ho:ops[i]?=some o) (hg:o.guard=none) (h:rO P o a w Post) {K:Act→World→Prop}
 (hK:∀v w',Post v w'→K (a.put o.dst v) w'):Go.wpOp P ops Q i K a w:=by
 unfold Go.wpOp
 have hw:Region.wanted o (yielded ops a.tmps)=true:=by unfold Region.wanted;rw[hg]
 simp only[ho,hw,if_true]
 refine .inl ?_
 unfold Oper.wp
 rcases h with ⟨v,w',h1,h2⟩|⟨f,args,w1,h1,h2⟩
 ·rw[h1];exact hK v w' h2
 ·rw[h1]
  refine Calls.mono h2 ?_
  rintro e w' ⟨v,rfl,h3⟩
  exact hK v w' h3
def dagB (ops:Array Oper) (E0:List Nat) (D:Nat→List Nat):Bool:=
 E0.all fun x=>(match ops[x]? with
  | none=>false
  | some o=>o.guard.isNone&&(match o.op with|.select ..=>false|_=>true)&&E0.all fun y=>(D x).contains y||(match aO ops y with|some t=>!(o.looksAt ops).contains t|none=>true)) &&
  (D x).all fun d=>E0.contains d&&((Region.before ops).getD x 0).testBit d
def Ez (ops:Array Oper):List Nat→Bool
 | []=>true
 | x::L=>(L.all fun y=>match aO ops x with|some d=>aO ops y !=some d|none=>true)&&!L.contains x&&Ez ops L
theorem BG:∀(L:List Nat),Ez ops L=true→L.Pairwise (xG ops)∧L.Nodup
 | [],_=>⟨.nil,.nil⟩
 | x::L,h=>by
  simp only[Ez,Bool.and_eq_true,List.all_eq_true,Bool.not_eq_true'] at h
  obtain⟨⟨h1,h2⟩,h3⟩:=h
  obtain⟨i1,i2⟩:=BG L h3
  refine⟨List.pairwise_cons.2 ⟨fun y hy d hd=>?_,i1⟩,List.nodup_cons.2 ⟨fun hm=>?_,i2⟩⟩
  ·have:=h1 y hy
   rw[hd] at this
   simpa using this
  ·simp[hm] at h2
theorem MB {a0:Act} {b:Bool} {K:Act→World→Prop} (E0:List Nat) (D:Nat→List Nat) (T:(Nat→Option Value)→aB)
 (hB:dagB ops E0 D=true) (hdst:Ez ops E0=true) (hS:b=true→∀f w,Sat W w (T f)→S w)
 (hop:∀x∈E0,∀(f:Nat→Option Value) (w:World) (o:Oper),ops[x]?=some o→f x=none→(∀d∈D x,(f d).isSome=true)→(∀y∈E0,(f y).isSome=true→∀d∈D y,(f d).isSome=true)→Sat W w (T f) →
  rO P o (bQ ops (E0.filter fun y=>(D x).contains y) f a0) w (fun v w'=>Sat W w' (T (dU f x v))))
 (hfin:∀(f:Nat→Option Value) (w:World),(∀x∈E0,(f x).isSome=true)→Sat W w (T f)→K (bQ ops E0 f a0) w):
 ∀(n:Nat) (E:List Nat) (f:Nat→Option Value) (w:World),E.length=n→E.Nodup→(∀x,x∈E↔x∈E0∧f x=none)→(∀y∈E0,(f y).isSome=true→∀d∈D y,(f d).isSome=true)→Sat W w (T f) →
  lZ P ops Q S b n (E.map fun x=>(x,[])) K (bQ ops E0 f a0) w:=by
 obtain⟨hpw,hnd⟩:=BG E0 hdst
 have hB':=List.all_eq_true.1 hB
 intro n
 induction n with
 | zero=>
  intro E f w hl _ hE _ hT
  have he:=List.eq_nil_of_length_eq_zero hl
  subst he
  refine hfin f w (fun x hx=>?_) hT
  cases hf:f x with
  | some v=>rfl
  | none=>have:=(hE x).2 ⟨hx,hf⟩;cases this
 | succ n ih=>
  intro E f w hl hn hE hcl hT
  rintro⟨x,js⟩ hxm uQ
  obtain⟨x',hx',e⟩:=List.mem_map.1 hxm
  cases e
  obtain⟨hx0,hfx⟩:=(hE x).1 hx'
  have hb:=hB' x hx0
  simp only[Bool.and_eq_true,List.all_eq_true] at hb
  obtain⟨hb1,hb2⟩:=hb
  cases ho:ops[x]? with
  | none=>rw[ho] at hb1;cases hb1
  | some o=>
   rw[ho] at hb1
   simp only[Bool.and_eq_true,List.all_eq_true,Bool.or_eq_true] at hb1
   obtain⟨⟨hg,hs⟩,hlook⟩:=hb1
   have hg':o.guard=none:=by simpa using hg
   have hs':∀cs b,o.op≠.select cs b:=fun cs b e=>by rw[e] at hs;cases hs
   have dK:∀d∈D x,(f d).isSome=true:=fun d hd=>by
    have h1:=hb2 d hd
    simp only[List.contains_iff_mem] at h1
    cases hf:f d with
    | some v=>rfl
    | none=>
     have hdE:=(hE d).2 ⟨h1.1,hf⟩
     have:=List.all_eq_true.1 uQ (d,[]) (List.mem_map.2 ⟨d,hdE,rfl⟩)
     simp only[h1.2] at this
     cases this
   have hd1:=hop x hx0 f w o ho hfx dK hcl hT
   have hex:execOp (bQ ops E0 f a0).eval o=execOp (bQ ops (E0.filter fun y=>(D x).contains y) f a0).eval o:=by
    refine execOp_congr o hs' fun z hz=>?_
    cases z with
    | tmp t=>
     refine lH _ E0 a0 a0 rfl rfl fun y hy hk hdt=>?_
     have:=hlook y hy
     rw[hk,hdt] at this
     simp only[Bool.false_eq_true,false_or,Bool.not_eq_true',List.contains_eq_mem,decide_eq_false_iff_not] at this
     exact this (List.mem_append_left _ (List.mem_filterMap.2 ⟨.tmp t,by simpa using hz,rfl⟩))
    | _=>rfl
   have hd2:rO P o (bQ ops E0 f a0) w (fun v w'=>Sat W w' (T (dU f x v))):=by
    unfold rO at hd1 ⊢
    rw[hex];exact hd1
   refine hd2.go ho hg' fun v w' hT'=>⟨fun hb=>hS hb _ w' hT',?_⟩
   show lZ P ops Q S b n _ K _ w'
   have hdo:o.dst=aO ops x:=by unfold aO;rw[ho];rfl
   rw[hdo,←BF E0 hx0 hpw hnd hfx]
   have hel:((E.map fun x=>(x,([]:List Nat))).erase (x,[]))=(E.erase x).map fun x=>(x,([]:List Nat)):=by
    clear hl hn hE hxm uQ hx'
    induction E with
    | nil=>rfl
    | cons y E ihE=>
     rw[List.map_cons,List.erase_cons,List.erase_cons]
     by_cases e:y=x
     ·subst e;simp
     ·have e1:(y==x)=false:=by simpa using e
      have e2:((y,([]:List Nat))==(x,[]))=false:=by simp[e]
      rw[e1,e2]
      simp only[Bool.false_eq_true,if_false,List.map_cons,ihE]
   rw[hel]
   refine ih (E.erase x) (dU f x v) w' (by rw[List.length_erase_of_mem hx',hl];rfl) (hn.erase x) (fun y=>?_) (fun y hy hys d hd=>?_) hT'
   ·rw[hn.mem_erase_iff,hE]
    by_cases e:y=x
    ·subst e;simp[bM]
    ·rw[aH e];simp[e]
   ·by_cases e:d=x
    ·subst e;rw[bM];rfl
    ·rw[aH e]
     by_cases e2:y=x
     ·subst e2;exact dK d hd
     ·rw[aH e2] at hys
      exact hcl y hy hys d hd
end
end PA
namespace PA
open Go Go.RowKit
structure Jq where
 z:Ac
 J:Mem
 g:Nat
structure NewP (V:Nat→Option Value) (s l:Nat) (J0:Mem) (x:Pa) (f:Nat→Option Value) (q:Jq):Prop where
 le:Mem.le J0 q.J
 v:∀i u v,V i=some u→f i=some v→v=u
 s:∀v,f s=some v→v=.agg q.z.cells.toArray∧kR q.J q.z x
 l:∀v,f l=some v→v=.pointer (some ⟨q.g,0,none⟩)
def uM (l t:Nat) (T:TypeId) (z0:Array Value) (f:Nat→Option Value) (q:Jq):aB:=match f t with
 | some _=>blk q.g (.cells q.z.cells.toArray T (0,0))
 | none=>match f l with
  | some _=>blk q.g (.cells z0 T (0,0))
  | none=>emp
def newT (V:Nat→Option Value) (s l t:Nat) (T:TypeId) (z0:Array Value) (J0:Mem) (x:Pa) (Z:aB) (f:Nat→Option Value):aB:=
 ex fun q:Jq=>sep (fact (NewP V s l J0 x f q)) (sep (kn q.J) (sep (uM l t T z0 f q) Z))
section
variable {W w w':World} {V:Nat→Option Value} {s l t:Nat} {T:TypeId} {z0:Array Value} {J0:Mem} {x:Pa} {Z:aB} {f:Nat→Option Value}
theorem fO:Sat W w (newT V s l t T z0 J0 x Z f)↔∃q,NewP V s l J0 x f q∧Sat W w (sep (kn q.J) (sep (uM l t T z0 f q) Z)):=by
 unfold newT
 rw[Sat.ex]
 exact⟨fun ⟨q,h⟩=>⟨q,Sat.fact.1 h⟩,fun ⟨q,h⟩=>⟨q,Sat.fact.2 h⟩⟩
theorem Es {q:Jq} (h1:f l=none) (h2:f t=none):uM l t T z0 f q=emp:=by unfold uM;rw[h2,h1]
theorem Q9 {q:Jq} {v:Value} (h1:f l=some v) (h2:f t=none):uM l t T z0 f q=blk q.g (.cells z0 T (0,0)):=by unfold uM;rw[h2,h1]
theorem Rh {q:Jq} {v:Value} (h2:f t=some v):uM l t T z0 f q=blk q.g (.cells q.z.cells.toArray T (0,0)):=by unfold uM;rw[h2]
theorem Jr {q:Jq} {i:Nat} {v:Value} (h1:l≠i) (h2:t≠i):uM l t T z0 (dU f i v) q=uM l t T z0 f q:=by unfold uM;rw[aH h1,aH h2]
theorem Jm (h:Sat W w (sep (kn J0) Z)) (hf:∀i,f i=none):Sat W w (newT V s l t T z0 J0 x Z f):=
 fO.2 ⟨⟨Ac.zero,J0,0⟩,⟨Mem.le_refl _,fun i u v _ h=>(by rw[hf] at h;cases h),fun v h=>(by rw[hf] at h;cases h),fun v h=>(by rw[hf] at h;cases h)⟩,by
  rw[Es (hf _) (hf _),fZ];exact h⟩
theorem wC {i:Nat} {u:Value} (hV:V i=some u) (h1:s≠i) (h2:l≠i) (h3:t≠i) (h:Sat W w (newT V s l t T z0 J0 x Z f)):Sat W w (newT V s l t T z0 J0 x Z (dU f i u)):=by
 obtain⟨q,hp,hq⟩:=fO.1 h
 refine fO.2 ⟨q,⟨hp.le,fun j u' v hj hv=>?_,fun v hv=>hp.s v (by rwa [aH h1] at hv),fun v hv=>hp.l v (by rwa [aH h2] at hv)⟩,?_⟩
 ·by_cases e:j=i
  ·subst e;rw[bM] at hv;rw[hV] at hj;cases hv;cases hj;rfl
  ·rw[aH e] at hv;exact hp.v j u' v hj hv
 ·rw[Jr h2 h3];exact hq
theorem Jo {q:Jq} (hp:NewP V s l J0 x f q) {z:Ac} {J:Mem} (hl:Mem.le q.J J) (hz:kR J z x) (hV:V s=none) (h1:l≠s) (h2:t≠s) (ht:f t=none) (h:Sat W w' (sep (kn J) (sep (uM l t T z0 f q) Z))):
 Sat W w' (newT V s l t T z0 J0 x Z (dU f s (.agg z.cells.toArray))):=by
 refine fO.2 ⟨⟨z,J,q.g⟩,⟨Mem.le_trans hp.le hl,fun j u v hj hv=>?_,fun v hv=>?_,fun v hv=>hp.l v (by rwa [aH h1] at hv)⟩,?_⟩
 ·by_cases e:j=s
  ·subst e;rw[hV] at hj;cases hj
  ·rw[aH e] at hv;exact hp.v j u v hj hv
 ·rw[bM] at hv;cases hv;exact⟨rfl,hz⟩
 ·rw[Jr h1 h2]
  have:uM l t T z0 f ⟨z,J,q.g⟩=uM l t T z0 f q:=by unfold uM;rw[ht]
  rw[this];exact h
theorem Eo (hV:V l=none) (h1:s≠l) (h2:t≠l) (hl:f l=none) (ht:f t=none) (h:Sat W w (newT V s l t T z0 J0 x Z f)):Sat W (w.alloc (.cells z0 T)) (newT V s l t T z0 J0 x Z (dU f l (.pointer (some ⟨w.heap.size,0,none⟩)))):=by
 obtain⟨q,hp,hq⟩:=fO.1 h
 rw[Es hl ht,fZ] at hq
 have hA:=hq.alloc (.cells z0 T)
 refine fO.2 ⟨⟨q.z,q.J,w.heap.size⟩,⟨hp.le,fun j u v hj hv=>?_,fun v hv=>hp.s v (by rwa [aH h1] at hv),fun v hv=>?_⟩,?_⟩
 ·by_cases e:j=l
  ·subst e;rw[hV] at hj;cases hj
  ·rw[aH e] at hv;exact hp.v j u v hj hv
 ·rw[bM] at hv;cases hv;rfl
 ·rw[Q9 bM (by rw[aH h2];exact ht)]
  exact hA.p1
theorem Ep (hV:V t=none) (h1:s≠t) (h2:l≠t) {vs vl u:Value} (hs:f s=some vs) (hl:f l=some vl) (ht:f t=none) (h:Sat W w (newT V s l t T z0 J0 x Z f)):
 ∃(z:Ac) (g:Nat),vs=.agg z.cells.toArray∧vl=.pointer (some ⟨g,0,none⟩)∧(∃R,Sat W w (sep (blk g (.cells z0 T (0,0))) R))∧∀w',(∀R,Sat W w (sep (blk g (.cells z0 T (0,0))) R)→Sat W w' (sep (blk g (.cells z.cells.toArray T (0,0))) R))→Sat W w' (newT V s l t T z0 J0 x Z (dU f t u)):=by
 obtain⟨q,hp,hq⟩:=fO.1 h
 rw[Q9 hl ht] at hq
 have hq2:=hq.p1
 refine⟨q.z,q.g,(hp.s vs hs).1,hp.l vl hl,⟨_,hq2⟩,fun w' hst=>?_⟩
 refine fO.2 ⟨q,⟨hp.le,fun j u' v hj hv=>?_,fun v hv=>hp.s v (by rwa [aH h1] at hv),fun v hv=>hp.l v (by rwa [aH h2] at hv)⟩,?_⟩
 ·by_cases e:j=t
  ·subst e;rw[hV] at hj;cases hj
  ·rw[aH e] at hv;exact hp.v j u' v hj hv
 ·rw[Rh bM]
  exact (hst _ hq2).p1
theorem Jp {vs vl vt:Value} (hs:f s=some vs) (hl:f l=some vl) (ht:f t=some vt) (h:Sat W w (newT V s l t T z0 J0 x Z f)):
 ∃(z:Ac) (g:Nat) (J:Mem),vs=.agg z.cells.toArray∧vl=.pointer (some ⟨g,0,none⟩)∧Mem.le J0 J∧kR J z x∧Sat W w (sep (blk g (.cells z.cells.toArray T (0,0))) (sep (kn J) Z)):=by
 obtain⟨q,hp,hq⟩:=fO.1 h
 rw[Rh ht] at hq
 exact⟨q.z,q.g,q.J,(hp.s vs hs).1,hp.l vl hl,hp.le,(hp.s vs hs).2,hq.p1⟩
end
end PA
namespace PA
open Go Go.RowKit
section
variable {P:Program} {ops:Array Oper} {Q:Exit→Act→World→Prop}
def JA (ops:Array Oper) (bf:Array Nat) (l:List jP):Bool:=
 Jy ops bf l&&Rn ops (dW l)&&Bj ops&&lX ops bf&&(dW l).length==ops.size&&nodupB ((dW l).map (·.1))&&((dW l).map (·.1)).all (fun i=>decide (i<ops.size))&&(List.range ops.size).all (fun i=>((dW l).map (·.1)).contains i) &&
 ops.all (fun o=>o.after.all fun e=>!Region.binds .any e||decide (e.on<ops.size))&&xE ops bf l
theorem uS {id:Nat} {a:Act} {w:World} (hm:P.follows .mixedOrders=true) (S:World→Prop) (l:List jP) (bf:Array Nat) (hbf:Region.before ops=bf) (hok:JA ops bf l=true)
 (h:lD P ops (NoPanic Q) S l (Q .normal) a w.drew):(Code.region id ops true).wp P Q a w:=
 dA hm S l (by unfold wG;rw[hbf];exact hok) h
variable {S:World→Prop} {W:World}
def JB (P:Program) (o:Oper) (a:Act) (w:World) (Post:Value→World→Prop):Prop:=rO P o a w Post∨∃w',(execOp a.eval o).run P w=.ok .skip w'∧Post undef w'
theorem JB.go {i:Nat} {o:Oper} {a:Act} {w:World} {Post:Value→World→Prop} (ho:ops[i]?=some o) (hg:o.guard=none) (h:JB P o a w Post) {K:Act→World→Prop}
 (hK:∀v w',Post v w'→K (a.put o.dst v) w'):Go.wpOp P ops Q i K a w:=by
 rcases h with h|⟨w',h1,h2⟩
 ·exact h.go ho hg hK
 ·unfold Go.wpOp
  have hw:Region.wanted o (yielded ops a.tmps)=true:=by unfold Region.wanted;rw[hg]
  simp only[ho,hw,if_true]
  refine .inl ?_
  unfold Oper.wp
  rw[h1];exact hK undef w' h2
theorem iC {a0:Act} {b:Bool} {K:Act→World→Prop} (E0:List Nat) (D:Nat→List Nat) (T:(Nat→Option Value)→aB)
 (hB:dagB ops E0 D=true) (hdst:Ez ops E0=true) (hS:b=true→∀f w,Sat W w (T f)→S w)
 (hop:∀x∈E0,∀(f:Nat→Option Value) (w:World) (o:Oper),ops[x]?=some o→f x=none→(∀d∈D x,(f d).isSome=true)→(∀y∈E0,(f y).isSome=true→∀d∈D y,(f d).isSome=true)→Sat W w (T f) →
  JB P o (bQ ops (E0.filter fun y=>(D x).contains y) f a0) w (fun v w'=>Sat W w' (T (dU f x v))))
 (hfin:∀(f:Nat→Option Value) (w:World),(∀x∈E0,(f x).isSome=true)→Sat W w (T f)→K (bQ ops E0 f a0) w):
 ∀(n:Nat) (E:List Nat) (f:Nat→Option Value) (w:World),E.length=n→E.Nodup→(∀x,x∈E↔x∈E0∧f x=none)→(∀y∈E0,(f y).isSome=true→∀d∈D y,(f d).isSome=true)→Sat W w (T f) →
  lZ P ops Q S b n (E.map fun x=>(x,[])) K (bQ ops E0 f a0) w:=by
 obtain⟨hpw,hnd⟩:=BG E0 hdst
 have hB':=List.all_eq_true.1 hB
 intro n
 induction n with
 | zero=>
  intro E f w hl _ hE _ hT
  have he:=List.eq_nil_of_length_eq_zero hl
  subst he
  refine hfin f w (fun x hx=>?_) hT
  cases hf:f x with
  | some v=>rfl
  | none=>have:=(hE x).2 ⟨hx,hf⟩;cases this
 | succ n ih=>
  intro E f w hl hn hE hcl hT
  rintro⟨x,js⟩ hxm uQ
  obtain⟨x',hx',e⟩:=List.mem_map.1 hxm
  cases e
  obtain⟨hx0,hfx⟩:=(hE x).1 hx'
  have hb:=hB' x hx0
  simp only[Bool.and_eq_true,List.all_eq_true] at hb
  obtain⟨hb1,hb2⟩:=hb
  cases ho:ops[x]? with
  | none=>rw[ho] at hb1;cases hb1
  | some o=>
   rw[ho] at hb1
   simp only[Bool.and_eq_true,List.all_eq_true,Bool.or_eq_true] at hb1
   obtain⟨⟨hg,hs⟩,hlook⟩:=hb1
   have hg':o.guard=none:=by simpa using hg
   have hs':∀cs b,o.op≠.select cs b:=fun cs b e=>by rw[e] at hs;cases hs
   have dK:∀d∈D x,(f d).isSome=true:=fun d hd=>by
    have h1:=hb2 d hd
    simp only[List.contains_iff_mem] at h1
    cases hf:f d with
    | some v=>rfl
    | none=>
     have hdE:=(hE d).2 ⟨h1.1,hf⟩
     have:=List.all_eq_true.1 uQ (d,[]) (List.mem_map.2 ⟨d,hdE,rfl⟩)
     simp only[h1.2] at this
     cases this
   have hd1:=hop x hx0 f w o ho hfx dK hcl hT
   have hex:execOp (bQ ops E0 f a0).eval o=execOp (bQ ops (E0.filter fun y=>(D x).contains y) f a0).eval o:=by
    refine execOp_congr o hs' fun z hz=>?_
    cases z with
    | tmp t=>
     refine lH _ E0 a0 a0 rfl rfl fun y hy hk hdt=>?_
     have:=hlook y hy
     rw[hk,hdt] at this
     simp only[Bool.false_eq_true,false_or,Bool.not_eq_true',List.contains_eq_mem,decide_eq_false_iff_not] at this
     exact this (List.mem_append_left _ (List.mem_filterMap.2 ⟨.tmp t,by simpa using hz,rfl⟩))
    | _=>rfl
   have hd2:JB P o (bQ ops E0 f a0) w (fun v w'=>Sat W w' (T (dU f x v))):=by
    unfold JB rO at hd1 ⊢
    rw[hex];exact hd1
   refine hd2.go ho hg' fun v w' hT'=>⟨fun hb=>hS hb _ w' hT',?_⟩
   show lZ P ops Q S b n _ K _ w'
   have hdo:o.dst=aO ops x:=by unfold aO;rw[ho];rfl
   rw[hdo,←BF E0 hx0 hpw hnd hfx]
   have hel:((E.map fun x=>(x,([]:List Nat))).erase (x,[]))=(E.erase x).map fun x=>(x,([]:List Nat)):=by
    clear hl hn hE hxm uQ hx'
    induction E with
    | nil=>rfl
    | cons y E ihE=>
     rw[List.map_cons,List.erase_cons,List.erase_cons]
     by_cases e:y=x
     ·subst e;simp
     ·have e1:(y==x)=false:=by simpa using e
      have e2:((y,([]:List Nat))==(x,[]))=false:=by simp[e]
      rw[e1,e2]
      simp only[Bool.false_eq_true,if_false,List.map_cons,ihE]
   rw[hel]
   refine ih (E.erase x) (dU f x v) w' (by rw[List.length_erase_of_mem hx',hl];rfl) (hn.erase x) (fun y=>?_) (fun y hy hys d hd=>?_) hT'
   ·rw[hn.mem_erase_iff,hE]
    by_cases e:y=x
    ·subst e;simp[bM]
    ·rw[aH e];simp[e]
   ·by_cases e:d=x
    ·subst e;rw[bM];rfl
    ·rw[aH e]
     by_cases e2:y=x
     ·subst e2;exact dK d hd
     ·rw[aH e2] at hys
      exact hcl y hy hys d hd
end
end PA
namespace Go.Proofs.YthfmaclnccdcbaaGreatDoor
open Go.RowKit PA
theorem _root_.PA.TI {k:IntKind} {a b:Int} (h:a=b):Ending.returned (.int k a)=.returned (.int k b):=by rw[h]
def KpB (n B:Nat) (W W':World):Prop:=Below n W W'∧W'.cell? ⟨B,0,none⟩=W.cell? ⟨B,0,none⟩
theorem KpB.refl (n B:Nat) (W:World):KpB n B W W:=⟨Below.refl _ _,rfl⟩
theorem KpB.trans {n B:Nat} {W W' W'':World} (h:KpB n B W W') (k:KpB n B W' W''):KpB n B W W'':=⟨h.1.trans k.1,k.2.trans h.2⟩
attribute [local go_sem] Oper.semAt_some
end Go.Proofs.YthfmaclnccdcbaaGreatDoor
namespace Go.Proofs.YthfmaclnccdcbaaGreatDoor
open Go.RowKit PA
attribute [local go_sem] Oper.semAt_some
end Go.Proofs.YthfmaclnccdcbaaGreatDoor
namespace Go.Proofs.YthfmaclnccdcbaaGreatDoor
open Go.RowKit PA
attribute [local go_sem] Oper.semAt_some
end Go.Proofs.YthfmaclnccdcbaaGreatDoor
namespace Go.Proofs.YthfmaclnccdcbaaGreatDoor
open Go.RowKit PA
end Go.Proofs.YthfmaclnccdcbaaGreatDoor
namespace Go.Proofs.YthfmaclnccdcbaaGreatDoor
open Go.RowKit PA
end Go.Proofs.YthfmaclnccdcbaaGreatDoor
