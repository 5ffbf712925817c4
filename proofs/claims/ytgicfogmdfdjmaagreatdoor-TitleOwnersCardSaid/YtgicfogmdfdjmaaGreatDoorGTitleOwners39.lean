/- Part of a proof. -/
import Derived.Test.YtgicfogmdfdjmaaGreatDoorGTitleOwners38
import Derived.Test.YtgicfogmdfdjmaaGreatDoorGTitleOwners20
namespace Go.Proofs.YtgicfogmdfdjmaaGreatDoor
open Go.RowKit PA
theorem BL {J:Mem} {a:Option Addr} {xs:List Ac} (hc:bT a (bC xs) J) (hne:xs≠[]):∃b o,a=some ⟨b,o,none⟩∧∀w',Ext J w'→∀(i:Nat) (hi:i<xs.length),Sem.run Tryz.prog (jP (.pointer (some ⟨b,o+i*19,none⟩))) w'=.ok (.agg xs[i].cells.toArray) w':=by
 have hne2:bC xs≠[]:=fun e=>by
  have h1:=congrArg List.length e
  rw[fC,List.length_nil] at h1
  exact hne (List.eq_nil_of_length_eq_zero (by omega))
 obtain⟨b,o,rfl,hcell⟩:=fP hc hne2
 refine⟨b,o,rfl,fun w' he i hi=>lg fun j v hj=>?_⟩
 have hjl:j<19:=(List.getElem?_eq_some_iff.1 hj).1
 have h2:=hcell w' he (i*19+j) v (by rw[wI xs i hi j hjl];exact hj)
 rwa [show o+i*19+j=o+(i*19+j) by omega]
theorem SX (a:Addr) (m n:Nat):(a.add m).add n=a.add (m+n):=by
 by_cases h1:m=0<;>by_cases h2:n=0<;>simp[Addr.add,h1,h2,Nat.add_assoc]
attribute [local go_sem ↓] bP cO aU Ph sJ
set_option maxRecDepth 100000 in
set_option maxHeartbeats 16000000 in
theorem Jl {W w:World} {A:aH} {I:Mem} (a:Option Addr) (n c:Nat) (Ls:List (Ac×Pa)) (hn:n=Ls.length) (hn2:n≤65536) (hc:bT a (bC (Ls.map (·.1))) I) (hA:∀p∈Ls,nT I p.1 p.2∧Sr p.2∧yL p.2) (h:Sat W w (sep (kn I) A)):
 Calls Tryz.prog 40 #[.slice a n c] w fun e w'=>∃(b:Option Addr) (d:Nat) (J:Mem),e=.returned (.slice b n d)∧Mem.le I J∧Cb b n d∧bT b (bC ((wu cP Ls).map (·.1))) J∧Sat W w' (sep (kn J) A):=by
 have HN:=ah hn
 have HA:=ah hA
 have HC:=ah hc
 have H:=ah h
 have n63:(n:Int)≤65536:=by omega
 obtain⟨Po,iJ⟩:∃P:Ending→World→Prop,P=fun e w'=>∃(b:Option Addr) (d:Nat) (J:Mem),e=.returned (.slice b n d)∧Mem.le I J∧Cb b n d∧bT b (bC ((wu cP Ls).map (·.1))) J∧Sat W w' (sep (kn J) A):=⟨_,rfl⟩
 rw[←iJ]
 have dX:=ah iJ
 have CMP:Hid (∀p∈Ls,∀q∈Ls,∀w' A' J,Mem.le I J→Sat W w' (sep (kn J) A')→Calls Tryz.prog 57 #[.agg p.1.cells.toArray,.agg q.1.cells.toArray] w' fun e w''=>∃J2,e=.returned (.int .i64 (cP p q))∧Mem.le J J2∧Sat W w'' (sep (kn J2) A')):=ah fun p hp q hq w' A' J hl h'=>
  BJ p.1 q.1 p.2 q.2 ((hA p hp).1.mono hl) (hA p hp).2.1 (hA p hp).2.2 ((hA q hq).1.mono hl) (hA q hq).2.1 (hA q hq).2.2 h'
 clear hn hn2 hc hA h iJ
 go_enter Tryz.func40,Tryz.ntmps40
 go_wp2_with fail
 go_loopw [3,4] (fun ov kv wr=>∃(i:Nat) (a':Option Addr) (c':Nat) (vs:List Value) (J:Mem),ov=.slice a' i c'∧kv=.int .i64 i∧i≤n∧Hid (Mem.le I J∧vs=bC ((je cP Ls i).map (·.1)))∧Sat W wr (sep (aN 67 19 a' i c' vs) (sep (kn J) A))) (fun _ kv _=>n-(intOf kv).toNat)
 case atStart=>exact⟨0,none,0,[],I,rfl,rfl,by omega,ah ⟨Mem.le_refl I,rfl⟩,H.out.dD _ _⟩
 case round=>
  obtain⟨i,a',c',vs,J,rfl,rfl,hi,HJ,hS⟩:=hrel
  clear H
  by_cases hlt:i<n
  ·have hltz:(i:Int)<(n:Int):=by omega
   obtain⟨p,hp⟩:∃p,Ls[i]?=some p:=⟨_,List.getElem?_eq_getElem (by have:=HN.out;omega)⟩
   have hpm:p∈Ls:=List.mem_of_getElem? hp
   obtain⟨os,hos⟩:=aG (je cP Ls i)
   have hperm:os.Perm (Ls.take i):=by rw[hos];exact nG cP Ls i (by have:=HN.out;omega)
   have hol:os.length=i:=by rw[hperm.length_eq,List.length_take,←HN.out];omega
   have hom:∀q∈os,q∈Ls:=fun q hq=>List.mem_of_mem_take (hperm.mem_iff.1 hq)
   have hnx:je cP Ls (i+1)=Gu cP p os:=by rw[kU cP hp,hos]
   have hvs:vs=bC (os.map (·.1)):=by rw[hos];exact HJ.out.2
   obtain⟨b,o,rfl,hld⟩:=BL HC.out (fun e=>by
    have h1:=congrArg List.length e
    rw[List.length_map,List.length_nil,←HN.out] at h1;omega)
   have aaN:∀w',Ext I w'→Sem.run Tryz.prog (jP (.pointer (some ⟨b,o+i*19,none⟩))) w'=.ok (.agg p.1.cells.toArray) w':=fun w' he=>by
    have hil:i<(Ls.map (·.1)).length:=by rw[List.length_map,←HN.out];exact hlt
    have h1:=hld w' he i hil
    have e:(Ls.map (·.1))[i]=p.1:=by rw[List.getElem_map,(List.getElem?_eq_some_iff.1 hp).2]
    rwa [e] at h1
   have HLD:=ah aaN
   have NG:=ah (And.intro hol (And.intro hom (And.intro hnx hvs)))
   have HP:=ah hpm
   have hle:=HJ.out.1
   have iE:=ah hle
   have mM:=ah hlt
   have HS:=ah hS
   clear hp hpm hos hperm hol hom hnx hvs hld aaN hle hlt hi hS HJ
   go_upto_block 2 with (fail)
   go_cut [5] from 15 to 31 (fun kv wx=>∃(k:Nat) (J2:Mem),kv=.int .i64 k∧Hid (k≤i∧jo cP p os i=k∧Mem.le J J2)∧Sat W wx (sep (aN 67 19 a' i c' vs) (sep (kn J2) A)))
   case first=>
    as_aux_lemma=>
    go_wp2_with fail
    go_loopw [5] (fun kv wr=>∃(k:Nat) (J2:Mem),kv=.int .i64 k∧k≤i∧Hid (jo cP p os i=jo cP p os k∧Mem.le J J2)∧Sat W wr (sep (aN 67 19 a' i c' vs) (sep (kn J2) A))) (fun kv _=>(intOf kv).toNat)
    case atStart=>exact⟨i,J,rfl,by omega,ah ⟨rfl,Mem.le_refl J⟩,HS.out⟩
    case round=>
     obtain⟨k,J2,rfl,hk,HK,hS⟩:=hrel
     clear HS
     have hld:=HLD.out wr.drew (jm (Mem.le_trans iE.out HK.out.2) hS.drew.p1.ext)
     cases k with
     | zero=>
      have HD:=ah hS.drew
      have hz:decide ((0:Int)<((0:Nat):Int))=false:=rfl
      clear hS
      go_upto_region 6 with (fail)
      refine aB rfl (fun _=>True) [(0,.p),(1,.p),(2,.p),(3,.p),(4,.p),(5,.p),(6,.t),(7,.p),(8,.p),(9,.p),(10,.p),(11,.t),(12,.e false),(13,.p),(14,.p)] (by kernel_rfl) ?_
      have hS0:True:=trivial
      (repeat ((first|(refine eX (v:=?_) rfl rfl (fun w'=>?_) ?_;rotate_left;(go_simp;with_reducible rfl))|(refine eY (v:=?_) rfl rfl hS0 (fun w' hS=>?_) ?_;rotate_left;((try dsimp only at hS);go_simp;with_reducible rfl))|(refine fA (v:=?_) rfl rfl ?_ ?_;rotate_left;(go_simp;with_reducible rfl))|(refine bH rfl rfl ?_)|(refine bI rfl rfl hS0 ?_)|(refine bJ rfl rfl ?_));simp only[Act.put,lsA,lsB,bK]))
      (refine UN rfl rfl (fun h=>by first|(cases h;done)|exact hS0) ?_;simp only[Act.put,lsA,lsB,bK])
      (repeat ((first|(refine eX (v:=?_) rfl rfl (fun w'=>?_) ?_;rotate_left;(go_simp;with_reducible rfl))|(refine eY (v:=?_) rfl rfl hS0 (fun w' hS=>?_) ?_;rotate_left;((try dsimp only at hS);go_simp;with_reducible rfl))|(refine fA (v:=?_) rfl rfl ?_ ?_;rotate_left;(go_simp;with_reducible rfl))|(refine bH rfl rfl ?_)|(refine bI rfl rfl hS0 ?_)|(refine bJ rfl rfl ?_));simp only[Act.put,lsA,lsB,bK]))
      refine bM ?_
      go_wp2
      go_meet
      case rel=>exact⟨0,J2,rfl,ah ⟨by omega,HK.out.1,HK.out.2⟩,HD.out⟩
     | succ k=>
      obtain⟨m,hm⟩:=aG (k+1)
      rw[←hm] at hk HK
      simp only[←hm]
      have hkl:k<os.length:=by rw[NG.out.1];omega
      obtain⟨q,hq⟩:∃q,os[k]?=some q:=⟨_,List.getElem?_eq_getElem hkl⟩
      have hqm:q∈Ls:=NG.out.2.1 q (List.mem_of_getElem? hq)
      have hpos:jo cP p os m=if cP p q<0 then jo cP p os k else m:=by rw[hm,jo,hq]
      have hcmp:=CMP.out p HP.out q hqm
      obtain⟨cm,hcm⟩:=aG (cP p q)
      rw[←hcm] at hpos hcmp
      have HCM:=ah hcmp
      have hm0:(0:Int)<(m:Int):=by omega
      have hmb:decide (0<m)=true:=decide_eq_true (by omega)
      have WU:=ah hmb
      have hmw:IntKind.i64.wrap ((m:Int)-1)=(k:Int):=by rw[show (m:Int)-1=(k:Int) by omega];exact IntWalk.i64_in _ (by omega)
      have hki:(k:Int)<(i:Int):=by omega
      obtain⟨g,e',-⟩:=hS.tJ (fun e=>by
       have h1:=congrArg List.length e
       rw[NG.out.2.2.2,fC,List.length_map,NG.out.1,List.length_nil] at h1;omega)
      subst e'
      have YP:Sem.run Tryz.prog (jP (.pointer (some ⟨g,k*19,none⟩))) wr.drew=.ok (.agg q.1.cells.toArray) wr.drew:=by
       have h1:=hS.drew
       rw[NG.out.2.2.2] at h1
       have h2:k<(os.map (·.1)).length:=by rw[List.length_map];exact hkl
       have h3:=lg (yY h1 k h2)
       have e:(os.map (·.1))[k]=q.1:=by rw[List.getElem_map,(List.getElem?_eq_some_iff.1 hq).2]
       rwa [e] at h3
      have HD:Hid (Sat W wr.drew (sep (kn J2) (sep (aN 67 19 (some ⟨g,0,none⟩) i c' vs) A))):=ah (by have:=hS.drew;simpa only[ay,au,aj] using this)
      have WY:Hid (jo cP p os m=if cm<0 then jo cP p os k else m):=ah hpos
      have HM:=ah hm
      have GL:=ah hk
      clear hkl hq hqm hpos hcmp hcm hm hm0 hk hS hmb
      go_upto_region 6 with (fail)
      refine aB rfl (fun _=>True) [(0,.p),(1,.p),(2,.p),(3,.p),(4,.p),(5,.p),(6,.t),(7,.p),(8,.p),(9,.p),(10,.p),(11,.t),(12,.e false),(13,.p),(14,.p)] (by kernel_rfl) ?_
      have hS0:True:=trivial
      (repeat ((first|(refine eX (v:=?_) rfl rfl (fun w'=>?_) ?_;rotate_left;(go_simp;with_reducible rfl))|(refine eY (v:=?_) rfl rfl hS0 (fun w' hS=>?_) ?_;rotate_left;((try dsimp only at hS);go_simp;with_reducible rfl))|(refine fA (v:=?_) rfl rfl ?_ ?_;rotate_left;(go_simp;with_reducible rfl))|(refine bH rfl rfl ?_)|(refine bI rfl rfl hS0 ?_)|(refine bJ rfl rfl ?_));simp only[Act.put,lsA,lsB,bK]))
      rw[WU.out]
      (repeat ((first|(refine eX (v:=?_) rfl rfl (fun w'=>?_) ?_;rotate_left;(go_simp;with_reducible rfl))|(refine eY (v:=?_) rfl rfl hS0 (fun w' hS=>?_) ?_;rotate_left;((try dsimp only at hS);go_simp;with_reducible rfl))|(refine fA (v:=?_) rfl rfl ?_ ?_;rotate_left;(go_simp;with_reducible rfl))|(refine bH rfl rfl ?_)|(refine bI rfl rfl hS0 ?_)|(refine bJ rfl rfl ?_));simp only[Act.put,lsA,lsB,bK]))
      (refine jc rfl rfl (fun K hK=>?_);go_simp)
      refine (HCM.out _ _ J2 (Mem.le_trans iE.out HK.out.2) HD.out).mono ?_
      rintro e w2 ⟨J3,rfl,hle3,h2⟩
      have Y4:=ah hle3
      have H2:Hid (Sat W w2 (sep (aN 67 19 (some ⟨g,0,none⟩) i c' vs) (sep (kn J3) A))):=ah (by simpa only[ay,au,aj] using h2)
      clear h2 hle3 hld YP HD HCM
      (refine hK _ _ (fun h=>by cases h) ?_;clear hK K;(try simp only[Act.put,lsA,lsB,bK]))
      by_cases hneg:cm<0
      ·have hnb:decide (cm<0)=true:=decide_eq_true hneg
       have U7:Hid (jo cP p os i=jo cP p os k∧Mem.le J J3):=ah ⟨by rw[HK.out.1,WY.out,if_pos hneg],Mem.le_trans HK.out.2 Y4.out⟩
       clear hneg
       (repeat ((first|(refine eX (v:=?_) rfl rfl (fun w'=>?_) ?_;rotate_left;(go_simp;with_reducible rfl))|(refine eY (v:=?_) rfl rfl hS0 (fun w' hS=>?_) ?_;rotate_left;((try dsimp only at hS);go_simp;with_reducible rfl))|(refine fA (v:=?_) rfl rfl ?_ ?_;rotate_left;(go_simp;with_reducible rfl))|(refine bH rfl rfl ?_)|(refine bI rfl rfl hS0 ?_)|(refine bJ rfl rfl ?_));simp only[Act.put,lsA,lsB,bK]))
       refine bM ?_
       go_wp2
       go_roundw
       case rel=>exact⟨k,J3,by congr 1,by have:=HM.out;have:=GL.out;omega,U7,H2.out⟩
       case measure=>simp[intOf];have:=HM.out;omega
      ·have hnb:decide (cm<0)=false:=decide_eq_false hneg
       have U7:Hid (m≤i∧jo cP p os i=m∧Mem.le J J3):=ah ⟨GL.out,by rw[HK.out.1,WY.out,if_neg hneg],Mem.le_trans HK.out.2 Y4.out⟩
       clear hneg
       (repeat ((first|(refine eX (v:=?_) rfl rfl (fun w'=>?_) ?_;rotate_left;(go_simp;with_reducible rfl))|(refine eY (v:=?_) rfl rfl hS0 (fun w' hS=>?_) ?_;rotate_left;((try dsimp only at hS);go_simp;with_reducible rfl))|(refine fA (v:=?_) rfl rfl ?_ ?_;rotate_left;(go_simp;with_reducible rfl))|(refine bH rfl rfl ?_)|(refine bI rfl rfl hS0 ?_)|(refine bJ rfl rfl ?_));simp only[Act.put,lsA,lsB,bK]))
       refine bM ?_
       go_wp2
       go_meet
       case rel=>exact⟨m,J3,rfl,U7,H2.out⟩
   obtain⟨k,J2,rfl,HK,hS⟩:=hcut
   have hki:=HK.out.1
   have hic:i≤c'∧(c':Int)≤9223372036854775807:=by
    have h1:=hS.zh
    exact⟨h1.2.1,by have:=h1.2.2;unfold maxLen at this;omega⟩
   have hpre:=LU a' i c' k (by omega)
   obtain⟨aaO,YQ,hsa⟩:=LW a' i c' k hki
   have ac3:vs=bC ((os.map (·.1)).take k)++bC ((os.map (·.1)).drop k):=by rw[NG.out.2.2.2];exact BK _ _
   have hld:=HLD.out wc.drew (jm (Mem.le_trans iE.out HK.out.2.2) hS.drew.p1.ext)
   obtain⟨X,hX⟩:=aG (sep (aN 67 19 a' i c' vs) (sep (kn J2) A))
   have JF:Hid (∀w',Sat W w' X→Sem.run Tryz.prog (jP (.pointer (some ⟨b,o+i*19,none⟩))) w'=.ok (.agg p.1.cells.toArray) w'):=ah fun w' h'=>by
    rw[hX] at h'
    exact HLD.out w' (jm (Mem.le_trans iE.out HK.out.2.2) h'.p1.ext)
   have HXS:Hid (∀w',Sat W w' X→∀b,a'=some b→∀(j:Nat) (u:Value),vs[j]?=some u→w'.cell? (b.add j)=some u):=ah fun w' h' b hb j u hu=>by
    rw[hX,hb] at h'
    exact h'.dR.EO j u hu
   have hT0:Sat W wc.drew (Jk 67 k (bC ((os.map (·.1)).take k)) p.1.cells X (fun _=>none)):=by
    rw[ku rfl,xP rfl,xQ rfl,bW,bW,hX];exact hS.drew
   have HT0:=ah hT0
   have HX:=ah hX
   have ac4:Hid (∀w',Sat W w' X→∀b,aaO=some b→∀(j:Nat) (u:Value),(bC ((os.map (·.1)).drop k))[j]?=some u→w'.cell? (b.add j)=some u):=ah fun w' h' b hb j u hu=>by
    by_cases e:c'=k
    ·rw[List.drop_eq_nil_of_le (by rw[List.length_map,NG.out.1];omega)] at hu
     simp[bC] at hu
    ·rw[hsa e] at hb
     cases ha:a' with
     | none=>rw[ha] at hb;cases hb
     | some b0=>
      rw[ha] at hb
      cases hb
      rw[SX]
      exact HXS.out w' h' b0 ha _ u (by rw[NG.out.2.2.2];exact VU (by rw[List.length_map,NG.out.1];omega) hu)
   have Qv:Hid (aaO=none→i-k=0):=ah fun e=>by
    by_cases e2:c'=k
    ·omega
    ·rw[hsa e2] at e
     have h0:a'=none:=by cases ha:a' with
      | none=>rfl
      | some b0=>rw[ha] at e;cases e
     rcases hS.dV with ⟨-,h1,-⟩|⟨g,cur,h1,-⟩
     ·omega
     ·rw[h1] at h0;cases h0
   have ac5:Hid (bC ((os.map (·.1)).take k)++p.1.cells++bC ((os.map (·.1)).drop k)=bC ((je cP Ls (i+1)).map (·.1))):=ah (by
    rw[NG.out.2.2.1];unfold Gu
    rw[NG.out.1,HK.out.2.1,List.map_append,List.map_cons,List.map_take,List.map_drop,fZ,List.append_assoc];rfl)
   have UH:Hid (a'=none→i=0):=ah fun e=>by
    rcases hS.dV with ⟨-,h1,-⟩|⟨g,cur,h1,-⟩
    ·exact h1
    ·rw[h1] at e;cases e
   have afc:=hltz
   have GL:=ah (And.intro hki hic)
   have hkz:(k:Int)≤(i:Int):=by omega
   clear hki hic hsa ac3 hX hT0 hS
   go_upto_region 9 with (fail)
   go_cut [6] from 32 to 42 (fun v wx=>∃(a2:Option Addr) (c2:Nat),v=.slice a2 (k+1) c2∧Sat W wx (sep (aN 67 19 a2 (k+1) c2 (bC ((os.map (·.1)).take k)++p.1.cells)) X))
   case first=>
    as_aux_lemma=>
    have hS0:=hld
    clear hld YQ
    refine fU rfl (fun w'=>Sem.run Tryz.prog (jP (.pointer (some ⟨b,o+i*19,none⟩))) w'=.ok (.agg p.1.cells.toArray) w') [.one 0 .p,.one 1 .p,.one 2 .p,.one 3 .p,.one 5 .p,.one 6 .p,.one 7 .p,.one 8 .s,.grp true [(4,[]),(9,[]),(10,[])],.one 11 .p] (by kernel_rfl) ?_
    (repeat ((first|(refine EP (v:=?_) rfl rfl (fun w'=>?_) ?_;rotate_left;(go_simp;with_reducible rfl))|(refine ER (v:=?_) rfl rfl hS0 (fun w' hS=>?_) ?_;rotate_left;((try dsimp only at hS);go_simp;with_reducible rfl))|(refine ES (v:=?_) rfl rfl ?_ ?_;rotate_left;(go_simp;with_reducible rfl))|(refine oC rfl rfl ?_)|(refine oD rfl rfl hS0 ?_)|(refine oG rfl rfl ?_));simp only[Act.put,lsA,lsB,bK]))
    refine WC (n:=3) rfl ?_
    clear hS0
    refine zZ [4,9,10] Pg (Jk 67 k (bC ((os.map (·.1)).take k)) p.1.cells X) (by kernel_rfl) (by kernel_rfl) ?_ ?_ ?_ 3 [4,9,10] (fun _=>none) wc.drew rfl (by decide) (fun z=>by simp) (fun _ _ h=>by cases h) HT0.out
    ·intro _ f w' hT
     exact JF.out w' (SV hT)
    ·intro y hy f w' o' ho YI Aa hcl hT
     simp only[List.mem_cons,List.not_mem_nil,or_false] at hy
     rcases hy with rfl|rfl|rfl
     ·as_aux_lemma=>
      cases ho
      have h10:f 10=none:=by
       cases h10:f 10 with
       | none=>rfl
       | some v=>have:=hcl 10 (by decide) (by rw[h10];rfl) 4 (by decide);rw[YI] at this;cases this
      have hX':=SV hT
      rw[ku h10,xP YI,bW] at hT
      refine (mY (.tmp 32) (.tmp 35) 29 rfl 67 19 248 _ Tryz.underlying29 jE rfl (by simp[jg,List.filter,Pg,Act.put,Act.eval]) (hT.dD 67 19) (x:=a') (m:=k) (cc:=c') (by simp[jg,List.filter,Pg,Act.put,Act.eval]) (bC ((os.map (·.1)).take k)) (by rw[fC,List.length_take,List.length_map,NG.out.1];have:=GL.out.1;omega) (fun e=>by have:=UH.out e;have:=GL.out.1;omega) (fun b' hb j u hu=>HXS.out w' hX' b' hb j u (by rw[NG.out.2.2.2];exact VT hu)) (uQ _) (by have:=GL.out;omega) (by have:=GL.out;unfold maxLen;omega)).mono ?_
      rintro v w'' ⟨a3,c3,rfl,h3⟩
      rw[ku (by rw[aV (by decide)];exact h10),xR gK,SS (by decide)]
      refine⟨a3,c3,by rw[Nat.zero_add],?_⟩
      rw[Nat.zero_add,List.nil_append] at h3
      exact h3
     ·as_aux_lemma=>
      cases ho
      have h10:f 10=none:=by
       cases h10:f 10 with
       | none=>rfl
       | some v=>have:=hcl 10 (by decide) (by rw[h10];rfl) 9 (by decide);rw[YI] at this;cases this
      rw[ku h10,xQ YI,bW] at hT
      have hbs:=Wv p.1 w'
      refine .inl ⟨.slice (some ⟨w'.heap.size,0,none⟩) 1 1,w'.alloc (.cells p.1.cells.toArray 67),?_,?_⟩
      ·simp[jg,List.filter,Pg,Act.put]
       (go_simp;try rfl)
      ·show Sat W (w'.alloc (.cells p.1.cells.toArray 67)) (Jk 67 k (bC ((os.map (·.1)).take k)) p.1.cells X (kL f 9 (.slice (some ⟨w'.heap.size,0,none⟩) 1 1)))
       rw[ku (by rw[aV (by decide)];exact h10),SQ (by decide)]
       have h3:=hT.alloc (.cells p.1.cells.toArray 67)
       have h4:Sat W (w'.alloc (.cells p.1.cells.toArray 67)) (sep (yV 67 p.1.cells (kL f 9 (.slice (some ⟨w'.heap.size,0,none⟩) 1 1))) (sep (Dz 67 k (bC ((os.map (·.1)).take k)) f) X)):=(xU gK).2 ⟨_,rfl,h3⟩
       simpa only[ay,au,aj] using h4
     ·as_aux_lemma=>
      cases ho
      obtain⟨v4,hv4⟩:=Option.isSome_iff_exists.1 (Aa 4 (by decide))
      obtain⟨v9,Zm⟩:=Option.isSome_iff_exists.1 (Aa 9 (by decide))
      rw[ku YI] at hT
      obtain⟨a3,c3,rfl,h3⟩:=(xR hv4).1 hT
      have h4:Sat W w' (sep (yV 67 p.1.cells f) (sep (aN 67 19 a3 k c3 (bC ((os.map (·.1)).take k))) X)):=by simpa only[ay,au,aj] using h3
      obtain⟨g,rfl,h5⟩:=(xU Zm).1 h4
      have h6:Sat W w' (sep (aN 67 19 a3 k c3 (bC ((os.map (·.1)).take k))) (sep (blk g (.cells p.1.cells.toArray 67 (0,0))) X)):=by simpa only[ay,au,aj] using h5
      refine (mY (.tmp 36) (.tmp 41) 29 rfl 67 19 248 _ Tryz.underlying29 jE rfl (by simp[jg,List.filter,Pg,hv4,Zm,aY,Act.put,Act.eval]) h6 (x:=some ⟨g,0,none⟩) (m:=1) (cc:=1) (by simp[jg,List.filter,Pg,hv4,Zm,aY,Act.put,Act.eval]) p.1.cells rfl (fun e=>by cases e) (fun b' hb j u hu=>by
       cases hb
       have e:(⟨g,0,none⟩:Addr).add j=⟨g,j,none⟩:=by unfold Addr.add;split<;>simp_all
       rw[e];exact (aA h5 j u hu).1) p.1.one (by have:=GL.out;omega) (by have:=GL.out;unfold maxLen;omega)).mono ?_
      rintro v w'' ⟨a7,c7,rfl,h7⟩
      rw[xW gK]
      refine⟨a7,c7,rfl,?_⟩
      have h8:Sat W w'' (sep (blk g (.cells p.1.cells.toArray 67 (0,0))) (sep (aN 67 19 a7 (k+1) c7 (bC ((os.map (·.1)).take k)++p.1.cells)) X)):=by simpa only[ay,au,aj] using h7
      exact h8.drop
    ·as_aux_lemma=>
     intro f w' hall hT
     obtain⟨v4,hv4⟩:=Option.isSome_iff_exists.1 (hall 4 (by decide))
     obtain⟨v9,Zm⟩:=Option.isSome_iff_exists.1 (hall 9 (by decide))
     obtain⟨v10,YR⟩:=Option.isSome_iff_exists.1 (hall 10 (by decide))
     obtain⟨a7,c7,rfl,h7⟩:=(xW YR).1 hT
     have H7:=ah h7
     simp only[jg,List.foldl,hv4,Zm,YR,aY]
     clear h7 hT hall hv4 Zm YR
     simp only[Act.put,List.getElem?_toArray,List.getElem?_cons_zero,List.getElem?_cons_succ,Option.bind_some,lsA,lsB,bK]
     (repeat ((first|(refine EP (v:=?_) rfl rfl (fun w'=>?_) ?_;rotate_left;(go_simp;with_reducible rfl))|(refine ER (v:=?_) rfl rfl hS0 (fun w' hS=>?_) ?_;rotate_left;((try dsimp only at hS);go_simp;with_reducible rfl))|(refine ES (v:=?_) rfl rfl ?_ ?_;rotate_left;(go_simp;with_reducible rfl))|(refine oC rfl rfl ?_)|(refine oD rfl rfl hS0 ?_)|(refine oG rfl rfl ?_));simp only[Act.put,lsA,lsB,bK]))
     refine uZ ?_
     go_wp2
     go_meet
     case rel=>exact⟨a7,c7,rfl,H7.out⟩
   clear HT0 hld hpre JF
   obtain⟨a2,c2,rfl,hS⟩:=hcut
   have hsx:=ac4.out wc hS.drop
   have aaP:=YQ wc
   clear YQ
   have hpl:(bC ((os.map (·.1)).drop k)).length=(i-k)*19:=by rw[fC,List.length_drop,List.length_map,NG.out.1]
   obtain⟨vn,hvn⟩:=aG (bC ((os.map (·.1)).drop k))
   obtain⟨vp,hvp⟩:=aG (bC ((os.map (·.1)).take k)++p.1.cells)
   have hv1:∀u∈vn,u.oneCell'=true:=by rw[hvn];exact uQ _
   rw[←hvn] at hsx hpl
   rw[←hvp] at hS
   have HVV:=ah (And.intro hvn (And.intro hvp hv1))
   have HHX:=ah (And.intro hsx hpl)
   have hS2:=hS
   have HJ2:=ah (Mem.le_trans iE.out HK.out.2.2)
   clear hsx hpl hvn hvp hv1 hS
   go_upto_region 10 with (fail)
   go_wp2_with (at_builtin;(refine aJ rfl (.tmp 43) (.tmp 46) 29 rfl 67 19 248 _ Tryz.underlying29 jE rfl rfl hS2 rfl vn HHX.out.2 Qv.out HHX.out.1 HVV.out.2.2 (by have:=GL.out;omega) (by have:=GL.out;unfold maxLen;omega) ?_))
   intro a5 c5 w5 h5
   have hlen:k+1+(i-k)=i+1:=by have:=GL.out.1;omega
   have h6:Sat W w5 (sep (aN 67 19 a5 (i+1) c5 (bC ((je cP Ls (i+1)).map (·.1)))) (sep (kn J2) A)):=by
    rw[←ac5.out,←HVV.out.1,←HVV.out.2.1]
    rw[hlen,HX.out] at h5
    have h7:Sat W w5 (sep (aN 67 19 a' i c' vs) (sep (aN 67 19 a5 (i+1) c5 (vp++vn)) (sep (kn J2) A))):=by simpa only[ay,au,aj] using h5
    exact h7.dh
   rw[hlen]
   have H6:=ah h6
   clear h5 h6 hS2 aaP hlen
   go_wp2_with fail
   go_roundw
   case rel=>exact⟨i+1,a5,c5,_,J2,rfl,by go_num,by have:=mM.out;omega,ah ⟨HJ2.out,rfl⟩,H6.out⟩
   case measure=>simp[intOf];have:=mM.out;omega
  ·obtain rfl:i=n:=by omega
   have hsw:=hS.eH
   obtain⟨J',hle,hcl,h9⟩:=hS.dR.learn
   have hv:=HJ.out.2
   have HF:Hid (Mem.le I J'∧Cb a' i c'∧bT a' (bC ((wu cP Ls).map (·.1))) J'∧Sat W wr (sep (kn J') A)):=ah ⟨Mem.le_trans HJ.out.1 hle,hsw,by unfold wu;rw[←HN.out,←hv];exact hcl,h9⟩
   clear hS hsw hle hcl h9 hv hlt hi HJ
   go_wp2
   rw[dX.out]
   exact⟨a',c',J',rfl,HF.out.1,HF.out.2.1,HF.out.2.2.1,HF.out.2.2.2⟩
end Go.Proofs.YtgicfogmdfdjmaaGreatDoor
