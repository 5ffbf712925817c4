/- Part of a proof. -/
import Derived.Test.YtgicfogmdfdjmaaGreatDoorGTitleOwners7
namespace Go.Proofs.YtgicfogmdfdjmaaGreatDoor
open Go.RowKit PA
attribute [local go_sem ↓] aU
set_option maxRecDepth 100000 in
set_option maxHeartbeats 8000000 in
theorem IC {W w:World} {A:aH} {I:Mem} {σ:Type} (Inv:σ→aH) (ev:σ→Nat→Ac→Bool→σ) (s0:σ) (gf:Nat) (caps:Array Value) (eg:∀args w,(callFunc gf args).run Tryz.prog w=.ok (.enter gf args) w)
 (Pre:Nat→σ→Prop) (hp0:Pre 0 s0) (hp1:∀k s x dn,Pre k s→Pre (k+1) (ev s k x dn)) (hp2:∀k s,Pre k s→Pre (k+1) s)
 (hstep:∀(s:σ) (i:Nat) (x:Ac) (dn:Bool) (pt:Value) (w:World) (B:aH),i<40→Pre i s→Sat W w (sep (Inv s) B)→Calls Tryz.prog gf (#[pt,.int .i64 i,.agg x.cells.toArray,.bool dn]++caps) w fun e w'=>e=.returned (.tuple #[])∧Sat W w' (sep (Inv (ev s i x dn)) B))
 (file day:Int) (f:Ac) (b:Addr) (n c:Nat) (xs:List Ac) (hn:xs.length=n) (h0:0<n) (pG:n<40) (hD:xs.Pairwise fH) (qK:kN xs) (hw:Cb (some b) n c) (hc:bT (some b) (bC xs) I)
 (hf:dP file (sortK xs)=some f) (hr:aP file day (sortK xs)=0) (h:Sat W w (sep (kn I) (sep (Inv s0) A))):
 Calls Tryz.prog 23 #[.int .i64 file,.int .i64 day,.slice (some b) n c,.func (.func gf) #[] caps] w fun e w'=>∃p J,e=.returned (.tuple #[.pointer (some ⟨p,0,none⟩),.int .i64 0])∧Mem.le I J∧Sat W w' (sep (mJ p f.p (walkT file f.d day ev 0 (sortK xs) (dI f.p) s0).1) (sep (kn J) (sep (Inv (walkT file f.d day ev 0 (sortK xs) (dI f.p) s0).2) A))):=by
 obtain⟨ys,hys⟩:=aG (sortK xs)
 obtain⟨R,hR⟩:=aG (walkT file f.d day ev 0 (sortK xs) (dI f.p) s0)
 rw[←hR]
 have hsort:=ah (uo b n c xs hn hD h0 pG hw hc h)
 have hyl:ys.length=n:=by rw[hys,lJ,hn]
 have ZV:kN ys:=fun x hx=>qK x ((iR xs).subset (by rw[hys] at hx;exact hx))
 rw[←hys] at hsort hR hf hr
 have HR:=ah hR
 have zn:=ah (And.intro hyl ZV)
 have Ci:=ah (And.intro hf hr)
 have HST:=ah hstep
 have HPP:=ah (And.intro hp0 (And.intro hp1 hp2))
 clear hn hD h0 qK hw hc hf hr h hys hR hyl ZV hstep hp0 hp1 hp2
 go_enter Tryz.func23,Tryz.ntmps23
 go_wp2_with fail
 refine hsort.out.mono ?_
 rintro e w2 ⟨g,c',J,rfl,hle,hc1,hc2,hcj,h2⟩
 have hfl:=ah (IB file day f g n c' ys zn.out.1 (by omega) hcj Ci.out.1 Ci.out.2 h2)
 have iE:=ah hle
 have U2:=ah hcj
 have Cc:=ah (And.intro hc1 hc2)
 clear hsort hle hc1 hc2 hcj h2
 go_wp2_with fail
 refine hfl.out.mono ?_
 rintro e w3 ⟨rfl,J1,hle1,h3⟩
 obtain⟨w4,s1,ZW⟩:=Ah (cur:=#[.int .i64 0,.int .i64 0,.int .i64 0,.int .i64 0,.int .i64 0,.int .i64 0,.int .i64 0,.int .i64 0,.int .i64 0,.int .i64 0,.int .i64 0,.slice none 0 0,.slice none 0 0,.slice none 0 0,.slice none 0 0,.int .i64 0,.int .i64 0,.slice none 0 0,.slice none 0 0]) rfl (h3.alloc (.cells #[.int .i64 0,.int .i64 0,.int .i64 0,.int .i64 0,.int .i64 0,.int .i64 0,.int .i64 0,.int .i64 0,.int .i64 0,.int .i64 0,.int .i64 0,.slice none 0 0,.slice none 0 0,.slice none 0 0,.slice none 0 0,.int .i64 0,.int .i64 0,.slice none 0 0,.slice none 0 0] 67)) f
 obtain⟨J2,hle2,hJ2,h4⟩:=ZW.settle.learn
 obtain⟨F,hF⟩:=aG (w3.heap.size)
 rw[←hF] at hJ2
 have HF:=ah hF
 have XU:=ah (Mem.le_trans iE.out (Mem.le_trans hle1 hle2))
 have XV:=ah (fQ (Mem.le_trans hle1 hle2) U2.out)
 have HJ2:Hid (∀w',Ext J2 w'→w'.cell? ⟨F,1,none⟩=some (.int .i64 f.d)∧w'.cell? ⟨F,5,none⟩=some (.int .i64 f.p)):=ah fun w' he=>⟨bD hJ2 he 1,bD hJ2 he 5⟩
 clear hfl h3 ZW hJ2 hle1 hle2 hF iE U2
 go_upto_region 3 with (fail)
 rw[←HF.out]
 clear s1
 have hmm:=@run_makeMap Tryz.prog
 obtain⟨m,hm⟩:=aG (w4.heap.size)
 obtain⟨w5,hw5⟩:=aG (w4.alloc (.map #[] 0))
 have h5:=h4.GU
 rw[←hm,←hw5] at h5
 obtain⟨w6,n6,hup,-,h6⟩:=oQ (P:=Tryz.prog) (T:=76) Tryz.underlying76 Tryz.underlying3 h5 f.p (QN ⟨1,1⟩)
 unfold QN at hup
 have cF:=(HJ2.out w4 h4.ext).2
 have ZX:=(HJ2.out w5 h5.p1.ext).2
 rw[hm,hw5] at hup
 rw[hw5] at ZX
 have h7:=h6.alloc (.cells #[.int .i64 f.p,.map (some m)] 78)
 obtain⟨p,hp⟩:=aG (w6.heap.size)
 obtain⟨w7,hw7⟩:=aG (w6.alloc (.cells #[.int .i64 f.p,.map (some m)] 78))
 rw[←hp,←hw7] at h7
 have HP:=ah hp
 have HM:=ah hm
 have Q7:=ah hw7
 have H7:Hid (Sat W w7 (sep (mJ p f.p (dI f.p)) (sep (kn J2) (sep (Inv s0) A)))):=ah (Af (b:=m) (n:=n6) (by
  have e:qj (fun _=>none) f.p (some (QN ⟨1,1⟩))=Dc (dI f.p):=zi (fun _=>none) f.p ⟨1,1⟩
  rw[←e];exact h7))
 clear hm hw5 h4 h5 h6 h7 hp hw7
 go_upto_region 6 with (fail)
 rw[←HP.out,←HM.out,←Q7.out]
 clear cF ZX hup hmm
 have lX:∀(u v:Int) (w:World),(Instr.field 57 (.agg #[.int .i64 u,.int .i64 v]) 0).run Tryz.prog w=.ok (.int .i64 u) w:=fun u v w=>by kernel_rfl
 have U3:=ah lX
 clear lX
 go_wp2
 go_loopw [40] (fun kv wr=>∃(k:Nat) (S:lC) (s:σ),kv=.int .i64 k∧k≤n∧Hid (walkT file f.d day ev k (ys.drop k) S s=R∧um S∧Pre k s)∧Sat W wr (sep (mJ p f.p S) (sep (kn J2) (sep (Inv s) A)))) (fun kv _=>n-(intOf kv).toNat)
 case atStart=>exact⟨0,dI f.p,s0,rfl,by omega,ah ⟨by rw[List.drop_zero,HR.out],.first _,HPP.out.1⟩,H7.out⟩
 case round=>
  obtain⟨k,S,s,rfl,hk,HK,hS⟩:=hrel
  by_cases hlt:k<n
  ·have hltz:(k:Int)<(n:Int):=by omega
   have hkl:k<ys.length:=by rw[zn.out.1];exact hlt
   have Y3:(k:Int)<40:=by omega
   obtain⟨x,hx⟩:=aG (ys[k])
   have l1:=Fb XV.out hS.p1.ext k hkl
   rw[←hx] at l1
   have hdrop:ys.drop k=x::ys.drop (k+1):=by rw[hx];exact List.drop_eq_getElem_cons hkl
   have hmem:x∈ys:=by rw[hx];exact List.getElem_mem hkl
   have hmiss:bg file f.d day x=false→walkT file f.d day ev (k+1) (ys.drop (k+1)) S s=R∧um S∧Pre (k+1) s:=fun e=>by
    have:=HK.out.1
    rw[hdrop,uq e] at this
    exact⟨this,HK.out.2.1,HPP.out.2.2 k s HK.out.2.2⟩
   have hhit:bg file f.d day x=true→walkT file f.d day ev (k+1) (ys.drop (k+1)) (PA.stepT S x).1 (ev s k x (PA.stepT S x).2)=R∧um (PA.stepT S x).1∧Pre (k+1) (ev s k x (PA.stepT S x).2):=fun e=>by
    have:=HK.out.1
    rw[hdrop,xg e] at this
    exact⟨this,Aj HK.out.2.1 x (zn.out.2 x hmem),HPP.out.2.1 k s x _ HK.out.2.2⟩
   have kZ:=ah hmiss
   have Ot:=ah hhit
   have Qq:=ah (And.intro hx hmem)
   obtain⟨w8,s1,h8⟩:=Ah (cur:=#[.int .i64 0,.int .i64 0,.int .i64 0,.int .i64 0,.int .i64 0,.int .i64 0,.int .i64 0,.int .i64 0,.int .i64 0,.int .i64 0,.int .i64 0,.slice none 0 0,.slice none 0 0,.slice none 0 0,.slice none 0 0,.int .i64 0,.int .i64 0,.slice none 0 0,.slice none 0 0]) rfl (hS.alloc (.cells #[.int .i64 0,.int .i64 0,.int .i64 0,.int .i64 0,.int .i64 0,.int .i64 0,.int .i64 0,.int .i64 0,.int .i64 0,.int .i64 0,.int .i64 0,.slice none 0 0,.slice none 0 0,.slice none 0 0,.slice none 0 0,.int .i64 0,.int .i64 0,.slice none 0 0,.slice none 0 0] 67)) x
   obtain⟨J3,hle3,hJ3,h9⟩:=(show Sat W w8 (sep (V6 wr.heap.size (.cells x.cells.toArray 67 (0,0))) (sep (kn J2) (sep (mJ p f.p S) (sep (Inv s) A)))) from h8.settle.p2.p1).learn
   obtain⟨G,hG⟩:=aG (wr.heap.size)
   rw[←hG] at hJ3
   have Jv:Hid (∀w',Ext J3 w'→(w'.cell? ⟨G,0,none⟩=some (.int .i64 x.k)∧w'.cell? ⟨G,1,none⟩=some (.int .i64 x.d)∧w'.cell? ⟨G,3,none⟩=some (.int .i64 x.f)∧w'.cell? ⟨G,5,none⟩=some (.int .i64 x.p))∧Sem.run Tryz.prog (loadCellsFrom ⟨G,0,none⟩ 0 kA #[]) w'=.ok x.cells.toArray w'):=
    ah fun w' he=>⟨⟨bD hJ3 he 0,bD hJ3 he 1,bD hJ3 he 3,bD hJ3 he 5⟩,Nb hJ3 he⟩
   have uw:=ah hle3
   have HG:=ah hG
   have Q8:∀w',Ext J3 w'→w'.cell? ⟨F,1,none⟩=some (.int .i64 f.d):=fun w' he=>(HJ2.out w' fun b o hb=>he b o (hle3 b o hb)).1
   have Y4:=ah Q8
   have H9:=ah h9
   have yZ:=fun (w':World) (A':aH) (h':Sat W w' A')=>yD x.k h'
   obtain⟨ob,hob⟩:=aG (fV x.k)
   rw[←hob] at yZ
   have Q9:=ah yZ
   have uP:=ah hob
   have HS:=ah hS
   clear hx hdrop hmem hmiss hhit h8 hle3 hJ3 hG Q8 h9 hob hS yZ
   go_upto_region 9 with (fail)
   rw[←HG.out]
   clear l1 s1
   obtain⟨⟨b0,-,-,-⟩,-⟩:=Jv.out w8 H9.out.ext
   go_wp2_with fail
   refine (Q9.out _ _ H9.out).mono ?_
   rintro e w9 ⟨rfl,h10⟩
   clear b0
   have pJ:=ah h10
   obtain⟨⟨b0,b1,b3,b5⟩,lx⟩:=Jv.out w9 h10.ext
   have bF:=Y4.out w9 h10.ext
   clear h10 H9 Q9 HS
   cases ob with
   | false=>
    have hcb:bg file f.d day x=false:=by unfold bg;rw[←uP.out];rfl
    have CG:=ah hcb
    clear hcb
    go_wp2
    go_roundw
    case rel=>exact⟨k+1,S,s,by go_num,by omega,ah (kZ.out CG.out),(pJ.out.dK uw.out).p1⟩
    case measure=>simp[intOf];omega
   | true=>
    by_cases cf:x.f=file
    ·have bz1:(x.f !=file)=false:=by simp[cf]
     by_cases cd:x.d<f.d
     ·have hcb:bg file f.d day x=false:=by unfold bg;rw[decide_eq_false (show ¬f.d≤x.d by omega)];simp
      have CG:=ah hcb
      clear hcb cf
      go_wp2
      go_roundw
      case rel=>exact⟨k+1,S,s,by go_num,by omega,ah (kZ.out CG.out),(pJ.out.dK uw.out).p1⟩
      case measure=>simp[intOf];omega
     ·by_cases cy:day<x.d
      ·have hcb:bg file f.d day x=false:=by unfold bg;rw[decide_eq_false (show ¬x.d≤day by omega)];simp
       have CG:=ah hcb
       clear hcb cf
       go_wp2
       go_roundw
       case rel=>exact⟨k+1,S,s,by go_num,by omega,ah (kZ.out CG.out),(pJ.out.dK uw.out).p1⟩
       case measure=>simp[intOf];omega
      ·have hcc:(x.k=16∨x.k=17)→bg file f.d day x=true:=fun hh=>by
        unfold bg
        rw[←uP.out,decide_eq_true cf,decide_eq_true (show f.d≤x.d by omega),decide_eq_true (show x.d≤day by omega)]
        rcases hh with e|e<;>simp[e]
       have hcn:¬(x.k=16∨x.k=17)→bg file f.d day x=false:=fun hh=>by
        unfold bg
        rw[decide_eq_false (fun e=>hh (.inl e)),decide_eq_false (fun e=>hh (.inr e))];simp
       have Kz:=ah (And.intro hcc hcn)
       clear hcc hcn cf
       go_upto_block 2 with (fail)
       go_cut [16] (fun dv wx=>∃(dn:Bool) (S':lC),dv=.bool dn∧PA.stepT S x=(S',dn)∧bg file f.d day x=true∧Sat W wx (sep (mJ p f.p S') (sep (kn J3) (sep (Inv s) A))))
       case first=>
        by_cases ck:x.k=16
        ·have hfx:=zn.out.2 x Qq.out.2 ck
         have hmv:=D5 x hfx.1 HK.out.2.1 (pJ.out.p1)
         have hst:PA.stepT S x=kY S x:=by unfold PA.stepT;rw[if_pos ck]
         obtain⟨mv,Rh⟩:=aG (kY S x)
         rw[←Rh] at hmv hst
         have WH:=ah hmv
         have Ak:=ah (And.intro hst (Kz.out.1 (.inl ck)))
         have bz2:(x.k==16)=true:=by simp[ck]
         clear hfx hmv hst Rh ck
         go_wp2_with fail
         refine WH.out.mono ?_
         rintro e w10 ⟨rfl,h11⟩
         have uY:=ah h11
         clear h11 WH
         go_wp2
         go_meet
         case rel=>exact⟨mv.2,mv.1,rfl,Ak.out.1,Ak.out.2,uY.out⟩
        ·have bz2:(x.k==16)=false:=by simp[ck]
         by_cases ck2:x.k=17
         ·have bz3:(x.k==17)=true:=by simp[ck2]
          have hsh:=uj x.p (pJ.out.p1)
          have hst:PA.stepT S x=(S,decide (0<(aS S x.p).n)):=by unfold PA.stepT;rw[if_neg ck]
          obtain⟨sv,hsv⟩:=aG (aS S x.p)
          rw[←hsv] at hsh hst
          have UZ:=ah hsh
          have Ak:=ah (And.intro hst (Kz.out.1 (.inr ck2)))
          have lX:=U3.out
          clear hsh hst hsv ck ck2
          go_wp2_with fail
          refine UZ.out.mono ?_
          rintro e w10 ⟨rfl,h11⟩
          have uY:=ah h11
          clear h11 UZ
          go_wp2
          go_meet
          case rel=>exact⟨_,S,rfl,Ak.out.1,Ak.out.2,uY.out⟩
         ·have bz3:(x.k==17)=false:=by simp[ck2]
          have CG:=ah (Kz.out.2 (fun hh=>hh.elim ck ck2))
          clear ck ck2
          go_wp2
          go_roundw
          case rel=>exact⟨k+1,S,s,by go_num,by omega,ah (kZ.out CG.out),(pJ.out.dK uw.out).p1⟩
          case measure=>simp[intOf];omega
       case rest=>
        obtain⟨dn,S',rfl,hst,hcb,h11⟩:=hcut
        have hk2:=Ot.out hcb
        rw[hst] at hk2
        have KA:=ah hk2
        have uY:=ah h11
        obtain⟨-,lx2⟩:=Jv.out wc h11.p1.ext
        clear hst hcb h11 hk2 pJ b0 b1 b3 b5 lx bF
        have hneq:∀w,(binOp .neq 68 (.func (.func gf) #[] caps) .nilFunc).run Tryz.prog w=.ok (.bool true) w:=fun w=>by kernel_rfl
        have hcall:=HST.out s k x dn (.pointer (some ⟨p,0,none⟩)) wc _ (by omega) HK.out.2.2 (show Sat W wc (sep (Inv s) (sep (mJ p f.p S') (sep (kn J3) A))) by simpa only[ay,au,aj] using uY.out)
        have WI:=ah hcall
        clear hcall
        go_wp2_with fail
        refine WI.out.mono ?_
        rintro e MP ⟨rfl,h12⟩
        have H12:=ah h12
        clear h12 WI uY lx2
        go_wp2
        go_roundw
        case rel=>exact⟨k+1,S',_,by go_num,by omega,ah KA.out,(by have:=H12.out.p2.dK uw.out;simpa only[ay,au,aj] using this)⟩
        case measure=>simp[intOf];omega
    ·have bz1:(x.f !=file)=true:=by simp[cf]
     have hcb:bg file f.d day x=false:=by unfold bg;rw[decide_eq_false cf];simp
     have CG:=ah hcb
     clear hcb cf
     go_wp2
     go_roundw
     case rel=>exact⟨k+1,S,s,by go_num,by omega,ah (kZ.out CG.out),(pJ.out.dK uw.out).p1⟩
     case measure=>simp[intOf];omega
  ·obtain rfl:k=n:=by omega
   have hfin:=HK.out.1
   rw[List.drop_of_length_le (by rw[zn.out.1];exact Nat.le_refl _)] at hfin
   have kM:=ah hfin
   clear hfin
   go_wp2
   go_ret2
   refine⟨p,J2,rfl,XU.out,?_⟩
   have e:R=(S,s):=kM.out.symm
   rw[e]
   exact hS
end Go.Proofs.YtgicfogmdfdjmaaGreatDoor
