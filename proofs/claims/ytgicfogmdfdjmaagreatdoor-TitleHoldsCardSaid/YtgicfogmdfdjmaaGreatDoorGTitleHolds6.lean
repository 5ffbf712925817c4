/- Part of a proof. -/
import Derived.Test.YtgicfogmdfdjmaaGreatDoorGTitleHolds5
namespace Go.Proofs.YtgicfogmdfdjmaaGreatDoor
open Go.RowKit PA
attribute [local go_sem ↓] aT
set_option maxRecDepth 100000 in
set_option maxHeartbeats 8000000 in
theorem nU {W w:World} {A:aG} {I:Mem} {σ:Type} (Inv:σ→aG) (ev:σ→Nat→Ac→Bool→σ) (s0:σ) (gf:Nat) (caps:Array Value) (eg:∀args w,(callFunc gf args).run Tryz.prog w=.ok (.enter gf args) w)
 (Pre:Nat→σ→Prop) (hp0:Pre 0 s0) (hp1:∀k s x dn,Pre k s→Pre (k+1) (ev s k x dn)) (hp2:∀k s,Pre k s→Pre (k+1) s)
 (hstep:∀(s:σ) (i:Nat) (x:Ac) (dn:Bool) (pt:Value) (w:World) (B:aG),i<40→Pre i s→Sat W w (sep (Inv s) B)→Calls Tryz.prog gf (#[pt,.int .i64 i,.agg x.cells.toArray,.bool dn]++caps) w fun e w'=>e=.returned (.tuple #[])∧Sat W w' (sep (Inv (ev s i x dn)) B))
 (file day:Int) (f:Ac) (b:Addr) (n c:Nat) (xs:List Ac) (hn:xs.length=n) (h0:0<n) (lM:n<40) (hD:xs.Pairwise fD) (jL:je xs) (hw:zB (some b) n c) (hc:bP (some b) (bI xs) I)
 (hf:dF file (sortK xs)=some f) (hr:aP file day (sortK xs)=0) (h:Sat W w (sep (kn I) (sep (Inv s0) A))):
 Calls Tryz.prog 23 #[.int .i64 file,.int .i64 day,.slice (some b) n c,.func (.func gf) #[] caps] w fun e w'=>∃p J,e=.returned (.tuple #[.pointer (some ⟨p,0,none⟩),.int .i64 0])∧Mem.le I J∧Sat W w' (sep (l9 p f.p (walkT file f.d day ev 0 (sortK xs) (bW f.p) s0).1) (sep (kn J) (sep (Inv (walkT file f.d day ev 0 (sortK xs) (bW f.p) s0).2) A))):=by
 obtain⟨ys,hys⟩:=aC (sortK xs)
 obtain⟨R,hR⟩:=aC (walkT file f.d day ev 0 (sortK xs) (bW f.p) s0)
 rw[←hR]
 have hsort:=ah (uZ b n c xs hn hD h0 lM hw hc h)
 have hyl:ys.length=n:=by rw[hys,iL,hn]
 have hyf:je ys:=fun x hx=>jL x ((iG xs).subset (by rw[hys] at hx;exact hx))
 rw[←hys] at hsort hR hf hr
 have HR:=ah hR
 have zY:=ah (And.intro hyl hyf)
 have DN:=ah (And.intro hf hr)
 have HST:=ah hstep
 have HPP:=ah (And.intro hp0 (And.intro hp1 hp2))
 clear hn hD h0 jL hw hc hf hr h hys hR hyl hyf hstep hp0 hp1 hp2
 go_enter Tryz.func23,Tryz.ntmps23
 go_wp2_with fail
 refine hsort.out.mono ?_
 rintro e w2 ⟨g,c',J,rfl,hle,hc1,hc2,hcj,h2⟩
 have hfl:=ah (JL file day f g n c' ys zY.out.1 (by omega) hcj DN.out.1 DN.out.2 h2)
 have gQ:=ah hle
 have Uz:=ah hcj
 have DK:=ah (And.intro hc1 hc2)
 clear hsort hle hc1 hc2 hcj h2
 go_wp2_with fail
 refine hfl.out.mono ?_
 rintro e w3 ⟨rfl,J1,hle1,h3⟩
 obtain⟨w4,s1,h4a⟩:=BD (cur:=#[.int .i64 0,.int .i64 0,.int .i64 0,.int .i64 0,.int .i64 0,.int .i64 0,.int .i64 0,.int .i64 0,.int .i64 0,.int .i64 0,.int .i64 0,.slice none 0 0,.slice none 0 0,.slice none 0 0,.slice none 0 0,.int .i64 0,.int .i64 0,.slice none 0 0,.slice none 0 0]) rfl (h3.alloc (.cells #[.int .i64 0,.int .i64 0,.int .i64 0,.int .i64 0,.int .i64 0,.int .i64 0,.int .i64 0,.int .i64 0,.int .i64 0,.int .i64 0,.int .i64 0,.slice none 0 0,.slice none 0 0,.slice none 0 0,.slice none 0 0,.int .i64 0,.int .i64 0,.slice none 0 0,.slice none 0 0] 67)) f
 obtain⟨J2,hle2,hJ2,h4⟩:=h4a.settle.learn
 obtain⟨F,hF⟩:=aC (w3.heap.size)
 rw[←hF] at hJ2
 have HF:=ah hF
 have aaB:=ah (Mem.le_trans gQ.out (Mem.le_trans hle1 hle2))
 have aaC:=ah (fZ (Mem.le_trans hle1 hle2) Uz.out)
 have HJ2:Hid (∀w',Ext J2 w'→w'.cell? ⟨F,1,none⟩=some (.int .i64 f.d)∧w'.cell? ⟨F,5,none⟩=some (.int .i64 f.p)):=ah fun w' he=>⟨bJ hJ2 he 1,bJ hJ2 he 5⟩
 clear hfl h3 h4a hJ2 hle1 hle2 hF gQ Uz
 go_upto_region 3 with (fail)
 rw[←HF.out]
 clear s1
 have hmm:=@run_makeMap Tryz.prog
 obtain⟨m,hm⟩:=aC (w4.heap.size)
 obtain⟨w5,hw5⟩:=aC (w4.alloc (.map #[] 0))
 have h5:=h4.Ap
 rw[←hm,←hw5] at h5
 obtain⟨w6,n6,hup,-,h6⟩:=jE (P:=Tryz.prog) (T:=76) Tryz.underlying76 Tryz.underlying3 h5 f.p (Ud ⟨1,1⟩)
 unfold Ud at hup
 have cF:=(HJ2.out w4 h4.ext).2
 have cF5:=(HJ2.out w5 h5.p1.ext).2
 rw[hm,hw5] at hup
 rw[hw5] at cF5
 have h7:=h6.alloc (.cells #[.int .i64 f.p,.map (some m)] 78)
 obtain⟨p,hp⟩:=aC (w6.heap.size)
 obtain⟨w7,hw7⟩:=aC (w6.alloc (.cells #[.int .i64 f.p,.map (some m)] 78))
 rw[←hp,←hw7] at h7
 have HP:=ah hp
 have HM:=ah hm
 have UA:=ah hw7
 have H7:Hid (Sat W w7 (sep (l9 p f.p (bW f.p)) (sep (kn J2) (sep (Inv s0) A)))):=ah (Bv (b:=m) (n:=n6) (by
  have e:ou (fun _=>none) f.p (some (Ud ⟨1,1⟩))=Eh (bW f.p):=zX (fun _=>none) f.p ⟨1,1⟩
  rw[←e];exact h7))
 clear hm hw5 h4 h5 h6 h7 hp hw7
 go_upto_region 6 with (fail)
 rw[←HP.out,←HM.out,←UA.out]
 clear cF cF5 hup hmm
 have jC:∀(u v:Int) (w:World),(Instr.field 57 (.agg #[.int .i64 u,.int .i64 v]) 0).run Tryz.prog w=.ok (.int .i64 u) w:=fun u v w=>by kernel_rfl
 have XD:=ah jC
 clear jC
 go_wp2
 go_loopw [40] (fun kv wr=>∃(k:Nat) (S:l7) (s:σ),kv=.int .i64 k∧k≤n∧Hid (walkT file f.d day ev k (ys.drop k) S s=R∧uY S∧Pre k s)∧Sat W wr (sep (l9 p f.p S) (sep (kn J2) (sep (Inv s) A)))) (fun kv _=>n-(intOf kv).toNat)
 case atStart=>exact⟨0,bW f.p,s0,rfl,by omega,ah ⟨by rw[List.drop_zero,HR.out],.first _,HPP.out.1⟩,H7.out⟩
 case round=>
  obtain⟨k,S,s,rfl,hk,HK,hS⟩:=hrel
  by_cases hlt:k<n
  ·have hltz:(k:Int)<(n:Int):=by omega
   have hkl:k<ys.length:=by rw[zY.out.1];exact hlt
   have XC:(k:Int)<40:=by omega
   obtain⟨x,hx⟩:=aC (ys[k])
   have l1:=GL aaC.out hS.p1.ext k hkl
   rw[←hx] at l1
   have hdrop:ys.drop k=x::ys.drop (k+1):=by rw[hx];exact List.drop_eq_getElem_cons hkl
   have hmem:x∈ys:=by rw[hx];exact List.getElem_mem hkl
   have hmiss:aX file f.d day x=false→walkT file f.d day ev (k+1) (ys.drop (k+1)) S s=R∧uY S∧Pre (k+1) s:=fun e=>by
    have:=HK.out.1
    rw[hdrop,vg e] at this
    exact⟨this,HK.out.2.1,HPP.out.2.2 k s HK.out.2.2⟩
   have hhit:aX file f.d day x=true→walkT file f.d day ev (k+1) (ys.drop (k+1)) (PA.stepT S x).1 (ev s k x (PA.stepT S x).2)=R∧uY (PA.stepT S x).1∧Pre (k+1) (ev s k x (PA.stepT S x).2):=fun e=>by
    have:=HK.out.1
    rw[hdrop,xX e] at this
    exact⟨this,BG HK.out.2.1 x (zY.out.2 x hmem),HPP.out.2.1 k s x _ HK.out.2.2⟩
   have lQ:=ah hmiss
   have Qq:=ah hhit
   have TB:=ah (And.intro hx hmem)
   obtain⟨w8,s1,h8⟩:=BD (cur:=#[.int .i64 0,.int .i64 0,.int .i64 0,.int .i64 0,.int .i64 0,.int .i64 0,.int .i64 0,.int .i64 0,.int .i64 0,.int .i64 0,.int .i64 0,.slice none 0 0,.slice none 0 0,.slice none 0 0,.slice none 0 0,.int .i64 0,.int .i64 0,.slice none 0 0,.slice none 0 0]) rfl (hS.alloc (.cells #[.int .i64 0,.int .i64 0,.int .i64 0,.int .i64 0,.int .i64 0,.int .i64 0,.int .i64 0,.int .i64 0,.int .i64 0,.int .i64 0,.int .i64 0,.slice none 0 0,.slice none 0 0,.slice none 0 0,.slice none 0 0,.int .i64 0,.int .i64 0,.slice none 0 0,.slice none 0 0] 67)) x
   obtain⟨J3,hle3,hJ3,h9⟩:=(show Sat W w8 (sep (Y0 wr.heap.size (.cells x.cells.toArray 67 (0,0))) (sep (kn J2) (sep (l9 p f.p S) (sep (Inv s) A)))) from h8.settle.p2.p1).learn
   obtain⟨G,hG⟩:=aC (wr.heap.size)
   rw[←hG] at hJ3
   have LM:Hid (∀w',Ext J3 w'→(w'.cell? ⟨G,0,none⟩=some (.int .i64 x.k)∧w'.cell? ⟨G,1,none⟩=some (.int .i64 x.d)∧w'.cell? ⟨G,3,none⟩=some (.int .i64 x.f)∧w'.cell? ⟨G,5,none⟩=some (.int .i64 x.p))∧Sem.run Tryz.prog (loadCellsFrom ⟨G,0,none⟩ 0 kA #[]) w'=.ok x.cells.toArray w'):=
    ah fun w' he=>⟨⟨bJ hJ3 he 0,bJ hJ3 he 1,bJ hJ3 he 3,bJ hJ3 he 5⟩,O7 hJ3 he⟩
   have vk:=ah hle3
   have HG:=ah hG
   have UC:∀w',Ext J3 w'→w'.cell? ⟨F,1,none⟩=some (.int .i64 f.d):=fun w' he=>(HJ2.out w' fun b o hb=>he b o (hle3 b o hb)).1
   have HJ3:=ah UC
   have H9:=ah h9
   have zS:=fun (w':World) (A':aG) (h':Sat W w' A')=>yZ x.k h'
   obtain⟨ob,hob⟩:=aC (gu x.k)
   rw[←hob] at zS
   have UD:=ah zS
   have vO:=ah hob
   have HS:=ah hS
   clear hx hdrop hmem hmiss hhit h8 hle3 hJ3 hG UC h9 hob hS zS
   go_upto_region 9 with (fail)
   rw[←HG.out]
   clear l1 s1
   obtain⟨⟨b0,-,-,-⟩,-⟩:=LM.out w8 H9.out.ext
   go_wp2_with fail
   refine (UD.out _ _ H9.out).mono ?_
   rintro e w9 ⟨rfl,h10⟩
   clear b0
   have nO:=ah h10
   obtain⟨⟨b0,b1,b3,b5⟩,lx⟩:=LM.out w9 h10.ext
   have bF:=HJ3.out w9 h10.ext
   clear h10 H9 UD HS
   cases ob with
   | false=>
    have hcb:aX file f.d day x=false:=by unfold aX;rw[←vO.out];rfl
    have DU:=ah hcb
    clear hcb
    go_wp2
    go_roundw
    case rel=>exact⟨k+1,S,s,by go_num,by omega,ah (lQ.out DU.out),(nO.out.dO vk.out).p1⟩
    case measure=>simp[intOf];omega
   | true=>
    by_cases cf:x.f=file
    ·have bz1:(x.f !=file)=false:=by simp[cf]
     by_cases cd:x.d<f.d
     ·have hcb:aX file f.d day x=false:=by unfold aX;rw[decide_eq_false (show ¬f.d≤x.d by omega)];simp
      have DU:=ah hcb
      clear hcb cf
      go_wp2
      go_roundw
      case rel=>exact⟨k+1,S,s,by go_num,by omega,ah (lQ.out DU.out),(nO.out.dO vk.out).p1⟩
      case measure=>simp[intOf];omega
     ·by_cases cy:day<x.d
      ·have hcb:aX file f.d day x=false:=by unfold aX;rw[decide_eq_false (show ¬x.d≤day by omega)];simp
       have DU:=ah hcb
       clear hcb cf
       go_wp2
       go_roundw
       case rel=>exact⟨k+1,S,s,by go_num,by omega,ah (lQ.out DU.out),(nO.out.dO vk.out).p1⟩
       case measure=>simp[intOf];omega
      ·have hcc:(x.k=16∨x.k=17)→aX file f.d day x=true:=fun hh=>by
        unfold aX
        rw[←vO.out,decide_eq_true cf,decide_eq_true (show f.d≤x.d by omega),decide_eq_true (show x.d≤day by omega)]
        rcases hh with e|e<;>simp[e]
       have hcn:¬(x.k=16∨x.k=17)→aX file f.d day x=false:=fun hh=>by
        unfold aX
        rw[decide_eq_false (fun e=>hh (.inl e)),decide_eq_false (fun e=>hh (.inr e))];simp
       have Nj:=ah (And.intro hcc hcn)
       clear hcc hcn cf
       go_upto_block 2 with (fail)
       go_cut [16] (fun dv wx=>∃(dn:Bool) (S':l7),dv=.bool dn∧PA.stepT S x=(S',dn)∧aX file f.d day x=true∧Sat W wx (sep (l9 p f.p S') (sep (kn J3) (sep (Inv s) A))))
       case first=>
        by_cases ck:x.k=16
        ·have hfx:=zY.out.2 x TB.out.2 ck
         have hmv:=EY x hfx.1 HK.out.2.1 (nO.out.p1)
         have hst:PA.stepT S x=lN S x:=by unfold PA.stepT;rw[if_pos ck]
         obtain⟨mv,UE⟩:=aC (lN S x)
         rw[←UE] at hmv hst
         have Zt:=ah hmv
         have BH:=ah (And.intro hst (Nj.out.1 (.inl ck)))
         have bz2:(x.k==16)=true:=by simp[ck]
         clear hfx hmv hst UE ck
         go_wp2_with fail
         refine Zt.out.mono ?_
         rintro e w10 ⟨rfl,h11⟩
         have vX:=ah h11
         clear h11 Zt
         go_wp2
         go_meet
         case rel=>exact⟨mv.2,mv.1,rfl,BH.out.1,BH.out.2,vX.out⟩
        ·have bz2:(x.k==16)=false:=by simp[ck]
         by_cases ck2:x.k=17
         ·have bz3:(x.k==17)=true:=by simp[ck2]
          have hsh:=mW x.p (nO.out.p1)
          have hst:PA.stepT S x=(S,decide (0<(aQ S x.p).n)):=by unfold PA.stepT;rw[if_neg ck]
          obtain⟨sv,hsv⟩:=aC (aQ S x.p)
          rw[←hsv] at hsh hst
          have JI:=ah hsh
          have BH:=ah (And.intro hst (Nj.out.1 (.inr ck2)))
          have jC:=XD.out
          clear hsh hst hsv ck ck2
          go_wp2_with fail
          refine JI.out.mono ?_
          rintro e w10 ⟨rfl,h11⟩
          have vX:=ah h11
          clear h11 JI
          go_wp2
          go_meet
          case rel=>exact⟨_,S,rfl,BH.out.1,BH.out.2,vX.out⟩
         ·have bz3:(x.k==17)=false:=by simp[ck2]
          have DU:=ah (Nj.out.2 (fun hh=>hh.elim ck ck2))
          clear ck ck2
          go_wp2
          go_roundw
          case rel=>exact⟨k+1,S,s,by go_num,by omega,ah (lQ.out DU.out),(nO.out.dO vk.out).p1⟩
          case measure=>simp[intOf];omega
       case rest=>
        obtain⟨dn,S',rfl,hst,hcb,h11⟩:=hcut
        have hk2:=Qq.out hcb
        rw[hst] at hk2
        have Nk:=ah hk2
        have vX:=ah h11
        obtain⟨-,lx2⟩:=LM.out wc h11.p1.ext
        clear hst hcb h11 hk2 nO b0 b1 b3 b5 lx bF
        have hneq:∀w,(binOp .neq 68 (.func (.func gf) #[] caps) .nilFunc).run Tryz.prog w=.ok (.bool true) w:=fun w=>by kernel_rfl
        have hcall:=HST.out s k x dn (.pointer (some ⟨p,0,none⟩)) wc _ (by omega) HK.out.2.2 (show Sat W wc (sep (Inv s) (sep (l9 p f.p S') (sep (kn J3) A))) by simpa only[ay,au,aj] using vX.out)
        have Zu:=ah hcall
        clear hcall
        go_wp2_with fail
        refine Zu.out.mono ?_
        rintro e LG ⟨rfl,h12⟩
        have H12:=ah h12
        clear h12 Zu vX lx2
        go_wp2
        go_roundw
        case rel=>exact⟨k+1,S',_,by go_num,by omega,ah Nk.out,(by have:=H12.out.p2.dO vk.out;simpa only[ay,au,aj] using this)⟩
        case measure=>simp[intOf];omega
    ·have bz1:(x.f !=file)=true:=by simp[cf]
     have hcb:aX file f.d day x=false:=by unfold aX;rw[decide_eq_false cf];simp
     have DU:=ah hcb
     clear hcb cf
     go_wp2
     go_roundw
     case rel=>exact⟨k+1,S,s,by go_num,by omega,ah (lQ.out DU.out),(nO.out.dO vk.out).p1⟩
     case measure=>simp[intOf];omega
  ·obtain rfl:k=n:=by omega
   have hfin:=HK.out.1
   rw[List.drop_of_length_le (by rw[zY.out.1];exact Nat.le_refl _)] at hfin
   have iR:=ah hfin
   clear hfin
   go_wp2
   go_ret2
   refine⟨p,J2,rfl,aaB.out,?_⟩
   have e:R=(S,s):=iR.out.symm
   rw[e]
   exact hS
end Go.Proofs.YtgicfogmdfdjmaaGreatDoor
