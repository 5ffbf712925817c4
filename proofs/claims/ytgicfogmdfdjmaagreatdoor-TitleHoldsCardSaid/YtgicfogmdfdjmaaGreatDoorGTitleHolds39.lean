/- Part of a proof. -/
import Derived.Test.YtgicfogmdfdjmaaGreatDoorGTitleHolds38
import Derived.Test.YtgicfogmdfdjmaaGreatDoorGTitleHolds17
namespace Go.Proofs.YtgicfogmdfdjmaaGreatDoor
open Go.RowKit PA
theorem wY {J:Mem} {a:Option Addr} {xs:List Ac} (hc:bP a (bI xs) J) (hne:xs≠[]):∃b o,a=some ⟨b,o,none⟩∧∀w',Ext J w'→∀(i:Nat) (hi:i<xs.length),Sem.run Tryz.prog (jo (.pointer (some ⟨b,o+i*19,none⟩))) w'=.ok (.agg xs[i].cells.toArray) w':=by
 have hne2:bI xs≠[]:=fun e=>by
  have h1:=congrArg List.length e
  rw[fF,List.length_nil] at h1
  exact hne (List.eq_nil_of_length_eq_zero (by omega))
 obtain⟨b,o,rfl,hcell⟩:=fV hc hne2
 refine⟨b,o,rfl,fun w' he i hi=>lT fun j v hj=>?_⟩
 have hjl:j<19:=(List.getElem?_eq_some_iff.1 hj).1
 have h2:=hcell w' he (i*19+j) v (by rw[xA xs i hi j hjl];exact hj)
 rwa [show o+i*19+j=o+(i*19+j) by omega]
theorem VW (a:Addr) (m n:Nat):(a.add m).add n=a.add (m+n):=by
 by_cases h1:m=0<;>by_cases h2:n=0<;>simp[Addr.add,h1,h2,Nat.add_assoc]
attribute [local go_sem ↓] bQ bZ aT Rq uh
set_option maxRecDepth 100000 in
set_option maxHeartbeats 16000000 in
theorem La {W w:World} {A:aG} {I:Mem} (a:Option Addr) (n c:Nat) (Ls:List (Ac×Pa)) (hn:n=Ls.length) (hn2:n≤65536) (hc:bP a (bI (Ls.map (·.1))) I) (hA:∀p∈Ls,oM I p.1 p.2∧VD p.2∧zx p.2) (h:Sat W w (sep (kn I) A)):
 Calls Tryz.prog 40 #[.slice a n c] w fun e w'=>∃(b:Option Addr) (d:Nat) (J:Mem),e=.returned (.slice b n d)∧Mem.le I J∧zB b n d∧bP b (bI ((wX cP Ls).map (·.1))) J∧Sat W w' (sep (kn J) A):=by
 have HN:=ah hn
 have HA:=ah hA
 have HC:=ah hc
 have H:=ah h
 have n63:(n:Int)≤65536:=by omega
 obtain⟨Po,iU⟩:∃P:Ending→World→Prop,P=fun e w'=>∃(b:Option Addr) (d:Nat) (J:Mem),e=.returned (.slice b n d)∧Mem.le I J∧zB b n d∧bP b (bI ((wX cP Ls).map (·.1))) J∧Sat W w' (sep (kn J) A):=⟨_,rfl⟩
 rw[←iU]
 have dZ:=ah iU
 have CMP:Hid (∀p∈Ls,∀q∈Ls,∀w' A' J,Mem.le I J→Sat W w' (sep (kn J) A')→Calls Tryz.prog 57 #[.agg p.1.cells.toArray,.agg q.1.cells.toArray] w' fun e w''=>∃J2,e=.returned (.int .i64 (cP p q))∧Mem.le J J2∧Sat W w'' (sep (kn J2) A')):=ah fun p hp q hq w' A' J hl h'=>
  Dp p.1 q.1 p.2 q.2 ((hA p hp).1.mono hl) (hA p hp).2.1 (hA p hp).2.2 ((hA q hq).1.mono hl) (hA q hq).2.1 (hA q hq).2.2 h'
 clear hn hn2 hc hA h iU
 go_enter Tryz.func40,Tryz.ntmps40
 go_wp2_with fail
 go_loopw [3,4] (fun ov kv wr=>∃(i:Nat) (a':Option Addr) (c':Nat) (vs:List Value) (J:Mem),ov=.slice a' i c'∧kv=.int .i64 i∧i≤n∧Hid (Mem.le I J∧vs=bI ((jw cP Ls i).map (·.1)))∧Sat W wr (sep (aK 67 19 a' i c' vs) (sep (kn J) A))) (fun _ kv _=>n-(intOf kv).toNat)
 case atStart=>exact⟨0,none,0,[],I,rfl,rfl,by omega,ah ⟨Mem.le_refl I,rfl⟩,H.out.cZ _ _⟩
 case round=>
  obtain⟨i,a',c',vs,J,rfl,rfl,hi,HJ,hS⟩:=hrel
  clear H
  by_cases hlt:i<n
  ·have hltz:(i:Int)<(n:Int):=by omega
   obtain⟨p,hp⟩:∃p,Ls[i]?=some p:=⟨_,List.getElem?_eq_getElem (by have:=HN.out;omega)⟩
   have hpm:p∈Ls:=List.mem_of_getElem? hp
   obtain⟨os,hos⟩:=aC (jw cP Ls i)
   have hperm:os.Perm (Ls.take i):=by rw[hos];exact oq cP Ls i (by have:=HN.out;omega)
   have hol:os.length=i:=by rw[hperm.length_eq,List.length_take,←HN.out];omega
   have hom:∀q∈os,q∈Ls:=fun q hq=>List.mem_of_mem_take (hperm.mem_iff.1 hq)
   have hnx:jw cP Ls (i+1)=IE cP p os:=by rw[lG cP hp,hos]
   have hvs:vs=bI (os.map (·.1)):=by rw[hos];exact HJ.out.2
   obtain⟨b,o,rfl,hld⟩:=wY HC.out (fun e=>by
    have h1:=congrArg List.length e
    rw[List.length_map,List.length_nil,←HN.out] at h1;omega)
   have ac5:∀w',Ext I w'→Sem.run Tryz.prog (jo (.pointer (some ⟨b,o+i*19,none⟩))) w'=.ok (.agg p.1.cells.toArray) w':=fun w' he=>by
    have hil:i<(Ls.map (·.1)).length:=by rw[List.length_map,←HN.out];exact hlt
    have h1:=hld w' he i hil
    have e:(Ls.map (·.1))[i]=p.1:=by rw[List.getElem_map,(List.getElem?_eq_some_iff.1 hp).2]
    rwa [e] at h1
   have HLD:=ah ac5
   have LW:=ah (And.intro hol (And.intro hom (And.intro hnx hvs)))
   have HP:=ah hpm
   have hle:=HJ.out.1
   have gQ:=ah hle
   have nN:=ah hlt
   have HS:=ah hS
   clear hp hpm hos hperm hol hom hnx hvs hld ac5 hle hlt hi hS HJ
   go_upto_block 2 with (fail)
   go_cut [5] from 15 to 31 (fun kv wx=>∃(k:Nat) (J2:Mem),kv=.int .i64 k∧Hid (k≤i∧jH cP p os i=k∧Mem.le J J2)∧Sat W wx (sep (aK 67 19 a' i c' vs) (sep (kn J2) A)))
   case first=>
    as_aux_lemma=>
    go_wp2_with fail
    go_loopw [5] (fun kv wr=>∃(k:Nat) (J2:Mem),kv=.int .i64 k∧k≤i∧Hid (jH cP p os i=jH cP p os k∧Mem.le J J2)∧Sat W wr (sep (aK 67 19 a' i c' vs) (sep (kn J2) A))) (fun kv _=>(intOf kv).toNat)
    case atStart=>exact⟨i,J,rfl,by omega,ah ⟨rfl,Mem.le_refl J⟩,HS.out⟩
    case round=>
     obtain⟨k,J2,rfl,hk,HK,hS⟩:=hrel
     clear HS
     have hld:=HLD.out wr.drew (iI (Mem.le_trans gQ.out HK.out.2) hS.drew.p1.ext)
     cases k with
     | zero=>
      have HD:=ah hS.drew
      have hz:decide ((0:Int)<((0:Nat):Int))=false:=rfl
      clear hS
      go_upto_region 6 with (fail)
      refine aA rfl (fun _=>True) [(0,.p),(1,.p),(2,.p),(3,.p),(4,.p),(5,.p),(6,.t),(7,.p),(8,.p),(9,.p),(10,.p),(11,.t),(12,.e false),(13,.p),(14,.p)] (by kernel_rfl) ?_
      have hS0:True:=trivial
      (repeat ((first|(refine eF (v:=?_) rfl rfl (fun w'=>?_) ?_;rotate_left;(go_simp;with_reducible rfl))|(refine eG (v:=?_) rfl rfl hS0 (fun w' hS=>?_) ?_;rotate_left;((try dsimp only at hS);go_simp;with_reducible rfl))|(refine eH (v:=?_) rfl rfl ?_ ?_;rotate_left;(go_simp;with_reducible rfl))|(refine bD rfl rfl ?_)|(refine bG rfl rfl hS0 ?_)|(refine bH rfl rfl ?_));simp only[Act.put,lsA,lsB,bC]))
      (refine Xr rfl rfl (fun h=>by first|(cases h;done)|exact hS0) ?_;simp only[Act.put,lsA,lsB,bC])
      (repeat ((first|(refine eF (v:=?_) rfl rfl (fun w'=>?_) ?_;rotate_left;(go_simp;with_reducible rfl))|(refine eG (v:=?_) rfl rfl hS0 (fun w' hS=>?_) ?_;rotate_left;((try dsimp only at hS);go_simp;with_reducible rfl))|(refine eH (v:=?_) rfl rfl ?_ ?_;rotate_left;(go_simp;with_reducible rfl))|(refine bD rfl rfl ?_)|(refine bG rfl rfl hS0 ?_)|(refine bH rfl rfl ?_));simp only[Act.put,lsA,lsB,bC]))
      refine bM ?_
      go_wp2
      go_meet
      case rel=>exact⟨0,J2,rfl,ah ⟨by omega,HK.out.1,HK.out.2⟩,HD.out⟩
     | succ k=>
      obtain⟨m,hm⟩:=aC (k+1)
      rw[←hm] at hk HK
      simp only[←hm]
      have hkl:k<os.length:=by rw[LW.out.1];omega
      obtain⟨q,hq⟩:∃q,os[k]?=some q:=⟨_,List.getElem?_eq_getElem hkl⟩
      have hqm:q∈Ls:=LW.out.2.1 q (List.mem_of_getElem? hq)
      have hpos:jH cP p os m=if cP p q<0 then jH cP p os k else m:=by rw[hm,jH,hq]
      have hcmp:=CMP.out p HP.out q hqm
      obtain⟨cm,hcm⟩:=aC (cP p q)
      rw[←hcm] at hpos hcmp
      have HCM:=ah hcmp
      have hm0:(0:Int)<(m:Int):=by omega
      have hmb:decide (0<m)=true:=decide_eq_true (by omega)
      have ZE:=ah hmb
      have hmw:IntKind.i64.wrap ((m:Int)-1)=(k:Int):=by rw[show (m:Int)-1=(k:Int) by omega];exact IntWalk.i64_in _ (by omega)
      have hki:(k:Int)<(i:Int):=by omega
      obtain⟨g,e',-⟩:=hS.kD (fun e=>by
       have h1:=congrArg List.length e
       rw[LW.out.2.2.2,fF,List.length_map,LW.out.1,List.length_nil] at h1;omega)
      subst e'
      have aa4:Sem.run Tryz.prog (jo (.pointer (some ⟨g,k*19,none⟩))) wr.drew=.ok (.agg q.1.cells.toArray) wr.drew:=by
       have h1:=hS.drew
       rw[LW.out.2.2.2] at h1
       have h2:k<(os.map (·.1)).length:=by rw[List.length_map];exact hkl
       have h3:=lT (zO h1 k h2)
       have e:(os.map (·.1))[k]=q.1:=by rw[List.getElem_map,(List.getElem?_eq_some_iff.1 hq).2]
       rwa [e] at h3
      have HD:Hid (Sat W wr.drew (sep (kn J2) (sep (aK 67 19 (some ⟨g,0,none⟩) i c' vs) A))):=ah (by have:=hS.drew;simpa only[ay,au,aj] using this)
      have ZI:Hid (jH cP p os m=if cm<0 then jH cP p os k else m):=ah hpos
      have HM:=ah hm
      have IV:=ah hk
      clear hkl hq hqm hpos hcmp hcm hm hm0 hk hS hmb
      go_upto_region 6 with (fail)
      refine aA rfl (fun _=>True) [(0,.p),(1,.p),(2,.p),(3,.p),(4,.p),(5,.p),(6,.t),(7,.p),(8,.p),(9,.p),(10,.p),(11,.t),(12,.e false),(13,.p),(14,.p)] (by kernel_rfl) ?_
      have hS0:True:=trivial
      (repeat ((first|(refine eF (v:=?_) rfl rfl (fun w'=>?_) ?_;rotate_left;(go_simp;with_reducible rfl))|(refine eG (v:=?_) rfl rfl hS0 (fun w' hS=>?_) ?_;rotate_left;((try dsimp only at hS);go_simp;with_reducible rfl))|(refine eH (v:=?_) rfl rfl ?_ ?_;rotate_left;(go_simp;with_reducible rfl))|(refine bD rfl rfl ?_)|(refine bG rfl rfl hS0 ?_)|(refine bH rfl rfl ?_));simp only[Act.put,lsA,lsB,bC]))
      rw[ZE.out]
      (repeat ((first|(refine eF (v:=?_) rfl rfl (fun w'=>?_) ?_;rotate_left;(go_simp;with_reducible rfl))|(refine eG (v:=?_) rfl rfl hS0 (fun w' hS=>?_) ?_;rotate_left;((try dsimp only at hS);go_simp;with_reducible rfl))|(refine eH (v:=?_) rfl rfl ?_ ?_;rotate_left;(go_simp;with_reducible rfl))|(refine bD rfl rfl ?_)|(refine bG rfl rfl hS0 ?_)|(refine bH rfl rfl ?_));simp only[Act.put,lsA,lsB,bC]))
      (refine iQ rfl rfl (fun K hK=>?_);go_simp)
      refine (HCM.out _ _ J2 (Mem.le_trans gQ.out HK.out.2) HD.out).mono ?_
      rintro e w2 ⟨J3,rfl,hle3,h2⟩
      have HJ3:=ah hle3
      have H2:Hid (Sat W w2 (sep (aK 67 19 (some ⟨g,0,none⟩) i c' vs) (sep (kn J3) A))):=ah (by simpa only[ay,au,aj] using h2)
      clear h2 hle3 hld aa4 HD HCM
      (refine hK _ _ (fun h=>by cases h) ?_;clear hK K;(try simp only[Act.put,lsA,lsB,bC]))
      by_cases hneg:cm<0
      ·have hnb:decide (cm<0)=true:=decide_eq_true hneg
       have XJ:Hid (jH cP p os i=jH cP p os k∧Mem.le J J3):=ah ⟨by rw[HK.out.1,ZI.out,if_pos hneg],Mem.le_trans HK.out.2 HJ3.out⟩
       clear hneg
       (repeat ((first|(refine eF (v:=?_) rfl rfl (fun w'=>?_) ?_;rotate_left;(go_simp;with_reducible rfl))|(refine eG (v:=?_) rfl rfl hS0 (fun w' hS=>?_) ?_;rotate_left;((try dsimp only at hS);go_simp;with_reducible rfl))|(refine eH (v:=?_) rfl rfl ?_ ?_;rotate_left;(go_simp;with_reducible rfl))|(refine bD rfl rfl ?_)|(refine bG rfl rfl hS0 ?_)|(refine bH rfl rfl ?_));simp only[Act.put,lsA,lsB,bC]))
       refine bM ?_
       go_wp2
       go_roundw
       case rel=>exact⟨k,J3,by congr 1,by have:=HM.out;have:=IV.out;omega,XJ,H2.out⟩
       case measure=>simp[intOf];have:=HM.out;omega
      ·have hnb:decide (cm<0)=false:=decide_eq_false hneg
       have XJ:Hid (m≤i∧jH cP p os i=m∧Mem.le J J3):=ah ⟨IV.out,by rw[HK.out.1,ZI.out,if_neg hneg],Mem.le_trans HK.out.2 HJ3.out⟩
       clear hneg
       (repeat ((first|(refine eF (v:=?_) rfl rfl (fun w'=>?_) ?_;rotate_left;(go_simp;with_reducible rfl))|(refine eG (v:=?_) rfl rfl hS0 (fun w' hS=>?_) ?_;rotate_left;((try dsimp only at hS);go_simp;with_reducible rfl))|(refine eH (v:=?_) rfl rfl ?_ ?_;rotate_left;(go_simp;with_reducible rfl))|(refine bD rfl rfl ?_)|(refine bG rfl rfl hS0 ?_)|(refine bH rfl rfl ?_));simp only[Act.put,lsA,lsB,bC]))
       refine bM ?_
       go_wp2
       go_meet
       case rel=>exact⟨m,J3,rfl,XJ,H2.out⟩
   obtain⟨k,J2,rfl,HK,hS⟩:=hcut
   have hki:=HK.out.1
   have hic:i≤c'∧(c':Int)≤9223372036854775807:=by
    have h1:=hS.zW
    exact⟨h1.2.1,by have:=h1.2.2;unfold maxLen at this;omega⟩
   have hpre:=Om a' i c' k (by omega)
   obtain⟨ac6,aa5,hsa⟩:=Oo a' i c' k hki
   have afr:vs=bI ((os.map (·.1)).take k)++bI ((os.map (·.1)).drop k):=by rw[LW.out.2.2.2];exact Dq _ _
   have hld:=HLD.out wc.drew (iI (Mem.le_trans gQ.out HK.out.2.2) hS.drew.p1.ext)
   obtain⟨X,hX⟩:=aC (sep (aK 67 19 a' i c' vs) (sep (kn J2) A))
   have Md:Hid (∀w',Sat W w' X→Sem.run Tryz.prog (jo (.pointer (some ⟨b,o+i*19,none⟩))) w'=.ok (.agg p.1.cells.toArray) w'):=ah fun w' h'=>by
    rw[hX] at h'
    exact HLD.out w' (iI (Mem.le_trans gQ.out HK.out.2.2) h'.p1.ext)
   have HXS:Hid (∀w',Sat W w' X→∀b,a'=some b→∀(j:Nat) (u:Value),vs[j]?=some u→w'.cell? (b.add j)=some u):=ah fun w' h' b hb j u hu=>by
    rw[hX,hb] at h'
    exact h'.dQ.zQ j u hu
   have hT0:Sat W wc.drew (KZ 67 k (bI ((os.map (·.1)).take k)) p.1.cells X (fun _=>none)):=by
    rw[kN rfl,yG rfl,yH rfl,bU,bU,hX];exact hS.drew
   have HT0:=ah hT0
   have HX:=ah hX
   have afs:Hid (∀w',Sat W w' X→∀b,ac6=some b→∀(j:Nat) (u:Value),(bI ((os.map (·.1)).drop k))[j]?=some u→w'.cell? (b.add j)=some u):=ah fun w' h' b hb j u hu=>by
    by_cases e:c'=k
    ·rw[List.drop_eq_nil_of_le (by rw[List.length_map,LW.out.1];omega)] at hu
     simp[bI] at hu
    ·rw[hsa e] at hb
     cases ha:a' with
     | none=>rw[ha] at hb;cases hb
     | some b0=>
      rw[ha] at hb
      cases hb
      rw[VW]
      exact HXS.out w' h' b0 ha _ u (by rw[LW.out.2.2.2];exact YP (by rw[List.length_map,LW.out.1];omega) hu)
   have MQ:Hid (ac6=none→i-k=0):=ah fun e=>by
    by_cases e2:c'=k
    ·omega
    ·rw[hsa e2] at e
     have h0:a'=none:=by cases ha:a' with
      | none=>rfl
      | some b0=>rw[ha] at e;cases e
     rcases hS.dL with ⟨-,h1,-⟩|⟨g,cur,h1,-⟩
     ·omega
     ·rw[h1] at h0;cases h0
   have aft:Hid (bI ((os.map (·.1)).take k)++p.1.cells++bI ((os.map (·.1)).drop k)=bI ((jw cP Ls (i+1)).map (·.1))):=ah (by
    rw[LW.out.2.2.1];unfold IE
    rw[LW.out.1,HK.out.2.1,lS,List.map_cons,List.map_take,List.map_drop,gG,List.append_assoc];rfl)
   have Xm:Hid (a'=none→i=0):=ah fun e=>by
    rcases hS.dL with ⟨-,h1,-⟩|⟨g,cur,h1,-⟩
    ·exact h1
    ·rw[h1] at e;cases e
   have ahC:=hltz
   have IV:=ah (And.intro hki hic)
   have hkz:(k:Int)≤(i:Int):=by omega
   clear hki hic hsa afr hX hT0 hS
   go_upto_region 9 with (fail)
   go_cut [6] from 32 to 42 (fun v wx=>∃(a2:Option Addr) (c2:Nat),v=.slice a2 (k+1) c2∧Sat W wx (sep (aK 67 19 a2 (k+1) c2 (bI ((os.map (·.1)).take k)++p.1.cells)) X))
   case first=>
    as_aux_lemma=>
    have hS0:=hld
    clear hld aa5
    refine gq rfl (fun w'=>Sem.run Tryz.prog (jo (.pointer (some ⟨b,o+i*19,none⟩))) w'=.ok (.agg p.1.cells.toArray) w') [.one 0 .p,.one 1 .p,.one 2 .p,.one 3 .p,.one 5 .p,.one 6 .p,.one 7 .p,.one 8 .s,.grp true [(4,[]),(9,[]),(10,[])],.one 11 .p] (by kernel_rfl) ?_
    (repeat ((first|(refine Gq (v:=?_) rfl rfl (fun w'=>?_) ?_;rotate_left;(go_simp;with_reducible rfl))|(refine Gs (v:=?_) rfl rfl hS0 (fun w' hS=>?_) ?_;rotate_left;((try dsimp only at hS);go_simp;with_reducible rfl))|(refine Gt (v:=?_) rfl rfl ?_ ?_;rotate_left;(go_simp;with_reducible rfl))|(refine pG rfl rfl ?_)|(refine pI rfl rfl hS0 ?_)|(refine pJ rfl rfl ?_));simp only[Act.put,lsA,lsB,bC]))
    refine Zp (n:=3) rfl ?_
    clear hS0
    refine Bj [4,9,10] Ro (KZ 67 k (bI ((os.map (·.1)).take k)) p.1.cells X) (by kernel_rfl) (by kernel_rfl) ?_ ?_ ?_ 3 [4,9,10] (fun _=>none) wc.drew rfl (by decide) (fun z=>by simp) (fun _ _ h=>by cases h) HT0.out
    ·intro _ f w' hT
     exact Md.out w' (VU hT)
    ·intro y hy f w' o' ho hfy Bl hcl hT
     simp only[List.mem_cons,List.not_mem_nil,or_false] at hy
     rcases hy with rfl|rfl|rfl
     ·as_aux_lemma=>
      cases ho
      have h10:f 10=none:=by
       cases h10:f 10 with
       | none=>rfl
       | some v=>have:=hcl 10 (by decide) (by rw[h10];rfl) 4 (by decide);rw[hfy] at this;cases this
      have hX':=VU hT
      rw[kN h10,yG hfy,bU] at hT
      refine (nX (.tmp 32) (.tmp 35) 29 rfl 67 19 248 _ Tryz.underlying29 jR rfl (by simp[jA,List.filter,Ro,Act.put,Act.eval]) (hT.cZ 67 19) (x:=a') (m:=k) (cc:=c') (by simp[jA,List.filter,Ro,Act.put,Act.eval]) (bI ((os.map (·.1)).take k)) (by rw[fF,List.length_take,List.length_map,LW.out.1];have:=IV.out.1;omega) (fun e=>by have:=Xm.out e;have:=IV.out.1;omega) (fun b' hb j u hu=>HXS.out w' hX' b' hb j u (by rw[LW.out.2.2.2];exact YO hu)) (vP _) (by have:=IV.out;omega) (by have:=IV.out;unfold maxLen;omega)).mono ?_
      rintro v w'' ⟨a3,c3,rfl,h3⟩
      rw[kN (by rw[aV (by decide)];exact h10),yI gW,VT (by decide)]
      refine⟨a3,c3,by rw[Nat.zero_add],?_⟩
      rw[Nat.zero_add,List.nil_append] at h3
      exact h3
     ·as_aux_lemma=>
      cases ho
      have h10:f 10=none:=by
       cases h10:f 10 with
       | none=>rfl
       | some v=>have:=hcl 10 (by decide) (by rw[h10];rfl) 9 (by decide);rw[hfy] at this;cases this
      rw[kN h10,yH hfy,bU] at hT
      have hbs:=Zk p.1 w'
      refine .inl ⟨.slice (some ⟨w'.heap.size,0,none⟩) 1 1,w'.alloc (.cells p.1.cells.toArray 67),?_,?_⟩
      ·simp[jA,List.filter,Ro,Act.put]
       (go_simp;try rfl)
      ·show Sat W (w'.alloc (.cells p.1.cells.toArray 67)) (KZ 67 k (bI ((os.map (·.1)).take k)) p.1.cells X (lg f 9 (.slice (some ⟨w'.heap.size,0,none⟩) 1 1)))
       rw[kN (by rw[aV (by decide)];exact h10),VR (by decide)]
       have h3:=hT.alloc (.cells p.1.cells.toArray 67)
       have h4:Sat W (w'.alloc (.cells p.1.cells.toArray 67)) (sep (zL 67 p.1.cells (lg f 9 (.slice (some ⟨w'.heap.size,0,none⟩) 1 1))) (sep (EH 67 k (bI ((os.map (·.1)).take k)) f) X)):=(yJ gW).2 ⟨_,rfl,h3⟩
       simpa only[ay,au,aj] using h4
     ·as_aux_lemma=>
      cases ho
      obtain⟨v4,hv4⟩:=Option.isSome_iff_exists.1 (Bl 4 (by decide))
      obtain⟨v9,hv9⟩:=Option.isSome_iff_exists.1 (Bl 9 (by decide))
      rw[kN hfy] at hT
      obtain⟨a3,c3,rfl,h3⟩:=(yI hv4).1 hT
      have h4:Sat W w' (sep (zL 67 p.1.cells f) (sep (aK 67 19 a3 k c3 (bI ((os.map (·.1)).take k))) X)):=by simpa only[ay,au,aj] using h3
      obtain⟨g,rfl,h5⟩:=(yJ hv9).1 h4
      have h6:Sat W w' (sep (aK 67 19 a3 k c3 (bI ((os.map (·.1)).take k))) (sep (blk g (.cells p.1.cells.toArray 67 (0,0))) X)):=by simpa only[ay,au,aj] using h5
      refine (nX (.tmp 36) (.tmp 41) 29 rfl 67 19 248 _ Tryz.underlying29 jR rfl (by simp[jA,List.filter,Ro,hv4,hv9,aZ,Act.put,Act.eval]) h6 (x:=some ⟨g,0,none⟩) (m:=1) (cc:=1) (by simp[jA,List.filter,Ro,hv4,hv9,aZ,Act.put,Act.eval]) p.1.cells rfl (fun e=>by cases e) (fun b' hb j u hu=>by
       cases hb
       have e:(⟨g,0,none⟩:Addr).add j=⟨g,j,none⟩:=by unfold Addr.add;split<;>simp_all
       rw[e];exact (aB h5 j u hu).1) p.1.one (by have:=IV.out;omega) (by have:=IV.out;unfold maxLen;omega)).mono ?_
      rintro v w'' ⟨a7,c7,rfl,h7⟩
      rw[yK gW]
      refine⟨a7,c7,rfl,?_⟩
      have h8:Sat W w'' (sep (blk g (.cells p.1.cells.toArray 67 (0,0))) (sep (aK 67 19 a7 (k+1) c7 (bI ((os.map (·.1)).take k)++p.1.cells)) X)):=by simpa only[ay,au,aj] using h7
      exact h8.drop
    ·as_aux_lemma=>
     intro f w' hall hT
     obtain⟨v4,hv4⟩:=Option.isSome_iff_exists.1 (hall 4 (by decide))
     obtain⟨v9,hv9⟩:=Option.isSome_iff_exists.1 (hall 9 (by decide))
     obtain⟨v10,aa6⟩:=Option.isSome_iff_exists.1 (hall 10 (by decide))
     obtain⟨a7,c7,rfl,h7⟩:=(yK aa6).1 hT
     have H7:=ah h7
     simp only[jA,List.foldl,hv4,hv9,aa6,aZ]
     clear h7 hT hall hv4 hv9 aa6
     simp only[Act.put,D6,D7,D8,Option.bind_some,lsA,lsB,bC]
     (repeat ((first|(refine Gq (v:=?_) rfl rfl (fun w'=>?_) ?_;rotate_left;(go_simp;with_reducible rfl))|(refine Gs (v:=?_) rfl rfl hS0 (fun w' hS=>?_) ?_;rotate_left;((try dsimp only at hS);go_simp;with_reducible rfl))|(refine Gt (v:=?_) rfl rfl ?_ ?_;rotate_left;(go_simp;with_reducible rfl))|(refine pG rfl rfl ?_)|(refine pI rfl rfl hS0 ?_)|(refine pJ rfl rfl ?_));simp only[Act.put,lsA,lsB,bC]))
     refine vY ?_
     go_wp2
     go_meet
     case rel=>exact⟨a7,c7,rfl,H7.out⟩
   clear HT0 hld hpre Md
   obtain⟨a2,c2,rfl,hS⟩:=hcut
   have hsx:=afs.out wc hS.drop
   have ac7:=aa5 wc
   clear aa5
   have hpl:(bI ((os.map (·.1)).drop k)).length=(i-k)*19:=by rw[fF,List.length_drop,List.length_map,LW.out.1]
   obtain⟨vn,hvn⟩:=aC (bI ((os.map (·.1)).drop k))
   obtain⟨vp,hvp⟩:=aC (bI ((os.map (·.1)).take k)++p.1.cells)
   have hv1:∀u∈vn,u.oneCell'=true:=by rw[hvn];exact vP _
   rw[←hvn] at hsx hpl
   rw[←hvp] at hS
   have HVV:=ah (And.intro hvn (And.intro hvp hv1))
   have HHX:=ah (And.intro hsx hpl)
   have hS2:=hS
   have HJ2:=ah (Mem.le_trans gQ.out HK.out.2.2)
   clear hsx hpl hvn hvp hv1 hS
   go_upto_region 10 with (fail)
   go_wp2_with (at_builtin;(refine aJ rfl (.tmp 43) (.tmp 46) 29 rfl 67 19 248 _ Tryz.underlying29 jR rfl rfl hS2 rfl vn HHX.out.2 MQ.out HHX.out.1 HVV.out.2.2 (by have:=IV.out;omega) (by have:=IV.out;unfold maxLen;omega) ?_))
   intro a5 c5 w5 h5
   have hlen:k+1+(i-k)=i+1:=by have:=IV.out.1;omega
   have h6:Sat W w5 (sep (aK 67 19 a5 (i+1) c5 (bI ((jw cP Ls (i+1)).map (·.1)))) (sep (kn J2) A)):=by
    rw[←aft.out,←HVV.out.1,←HVV.out.2.1]
    rw[hlen,HX.out] at h5
    have h7:Sat W w5 (sep (aK 67 19 a' i c' vs) (sep (aK 67 19 a5 (i+1) c5 (vp++vn)) (sep (kn J2) A))):=by simpa only[ay,au,aj] using h5
    exact h7.cO
   rw[hlen]
   have H6:=ah h6
   clear h5 h6 hS2 ac7 hlen
   go_wp2_with fail
   go_roundw
   case rel=>exact⟨i+1,a5,c5,_,J2,rfl,by go_num,by have:=nN.out;omega,ah ⟨HJ2.out,rfl⟩,H6.out⟩
   case measure=>simp[intOf];have:=nN.out;omega
  ·obtain rfl:i=n:=by omega
   have hsw:=hS.fA
   obtain⟨J',hle,hcl,h9⟩:=hS.dQ.learn
   have hv:=HJ.out.2
   have HF:Hid (Mem.le I J'∧zB a' i c'∧bP a' (bI ((wX cP Ls).map (·.1))) J'∧Sat W wr (sep (kn J') A)):=ah ⟨Mem.le_trans HJ.out.1 hle,hsw,by unfold wX;rw[←HN.out,←hv];exact hcl,h9⟩
   clear hS hsw hle hcl h9 hv hlt hi HJ
   go_wp2
   rw[dZ.out]
   exact⟨a',c',J',rfl,HF.out.1,HF.out.2.1,HF.out.2.2.1,HF.out.2.2.2⟩
end Go.Proofs.YtgicfogmdfdjmaaGreatDoor
