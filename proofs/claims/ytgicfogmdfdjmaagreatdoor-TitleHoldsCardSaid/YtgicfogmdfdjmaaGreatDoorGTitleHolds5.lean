/- Part of a proof. -/
import Derived.Test.YtgicfogmdfdjmaaGreatDoorGTitleHolds4
import Derived.Deep.CutBlock
import Derived.Deep.WholeRow
namespace Go.Proofs.YtgicfogmdfdjmaaGreatDoor
open Go.RowKit PA
set_option maxRecDepth 100000 in
set_option maxHeartbeats 4000000 in
theorem IX {W w:World} {A A0:aG} {D:Ac→Ac→Prop} {c:Ac→Ac→Int} {g N:Nat} {f:Nat→Ac} {tl:List Value} (hT:Total c) (hC:yN W A0 D c) (hD:DF D N f) (hN:N<40) (cp:Nat)
 (h:Sat W w (sep (gK g N f tl) (sep A0 A))):
 Calls Tryz.prog 64 #[.slice (some ⟨g,0,none⟩) N cp,.int .i64 N,.func (.func 51) #[] #[]] w fun e w'=>e=.returned (.tuple #[])∧∃f',Sw 0 N f f'∧dU c 0 N f'∧Sat W w' (sep (gK g N f' tl) (sep A0 A)):=by
 have HI:Hid (∀(a b:Nat) (f':Nat→Ac) (w':World),a≤b→b≤N→DF D N f'→Sat W w' (sep (gK g N f' tl) (sep A0 A))→Calls Tryz.prog 78 #[.slice (some ⟨g,0,none⟩) N cp,.int .i64 a,.int .i64 b,.func (.func 51) #[] #[]] w' fun e w'=>∃f'',e=.returned (.tuple #[])∧Sw a b f' f''∧dU c a b f''∧Sat W w' (sep (gK g N f'' tl) (sep A0 A))):=
  ah fun a b f' w' q1 q2 q3 q4=>TF hT hC q3 (by omega) cp a b q1 q2 q4
 have HY:Hid (∀(a m b:Nat) (f':Nat→Ac) (w':World),a<m→m<b→b≤N→dU c a m f'→dU c m b f'→DF D N f'→Sat W w' (sep (gK g N f' tl) (sep A0 A))→yQ W A0 A c g N cp tl a m b f' w'):=
  ah fun a m b f' w' q1 q2 q3 q4 q5 q6 q7=>Jm hT hC (by omega) cp (b-a) a m b f' w' (Nat.le_refl _) q1 q2 q3 q4 q5 q6 q7
 have HD:=ah hD
 have H:=ah h
 clear hT hC hD h
 go_enter Tryz.func64,Tryz.ntmps64
 go_wp2
 go_loopw [7,8] (fun av bv wr=>∃(f':Nat→Ac) (s:Nat),av=.int .i64 s∧bv=.int .i64 ((s+20:Nat):Int)∧(s=0∨s=20)∧s≤N∧Hid (Sw 0 s f f'∧dU c 0 s f')∧Sat W wr (sep (gK g N f' tl) (sep A0 A))) (fun av _ _=>40-(intOf av).toNat)
 case atStart=>exact⟨f,0,rfl,rfl,.inl rfl,by omega,ah ⟨.refl,fun p q p1 p2 p3=>by omega⟩,H.out⟩
 case round=>
  obtain⟨f1,s,rfl,rfl,hs,hsN,IL,hS⟩:=hrel
  have HS:=ah hS
  clear hS
  by_cases hb:s+20≤N
  ·obtain rfl:s=0:=by omega
   have hbz:((0+20:Nat):Int)≤(N:Int):=by omega
   have hi:=HI.out 0 20 f1 wr (by omega) (by omega) (HD.out.sw IL.out.1 (by omega)) HS.out
   have HII:=ah hi
   clear hi
   go_wp2_with fail
   refine HII.out.mono ?_
   rintro e w3 ⟨f2,rfl,r1,r2,r3⟩
   have HR:=ah (And.intro r1 (And.intro r2 r3))
   clear r1 r2 r3 HII
   go_wp2_with fail
   go_roundw
   case rel=>exact⟨f2,20,rfl,rfl,.inr rfl,by omega,ah ⟨(IL.out.1.mono (Nat.le_refl _) (by omega)).trans HR.out.1,HR.out.2.1⟩,HR.out.2.2⟩
   case measure=>simp[intOf]
  ·have hbz:¬((s+20:Nat):Int)≤(N:Int):=by omega
   have hi:=HI.out s N f1 wr hsN (Nat.le_refl _) (HD.out.sw IL.out.1 hsN) HS.out
   have HII:=ah hi
   clear hi HS
   go_wp2_with fail
   refine HII.out.mono ?_
   rintro e w3 ⟨f2,rfl,r1,r2,r3⟩
   have k1:dU c 0 s f2:=IL.out.2.congr fun k p1 p2=>r1.out (.inl p2)
   have k2:Sw 0 N f f2:=(IL.out.1.mono (Nat.le_refl _) hsN).trans (r1.mono (by omega) (Nat.le_refl _))
   have HR:=ah (And.intro k1 (And.intro k2 r2))
   have HS:=ah r3
   clear r1 r2 r3 HII k1 k2 hbz IL H
   go_wp2
   go_loopw [6] (fun bv wr=>∃(z:Nat) (f':Nat→Ac),bv=.int .i64 z∧((z=20∧f'=f2)∨(z=40∧Hid (Sw 0 N f f'∧dU c 0 N f')))∧Sat W wr (sep (gK g N f' tl) (sep A0 A))) (fun bv _=>40-(intOf bv).toNat)
   case atStart=>exact⟨20,f2,rfl,.inl ⟨rfl,rfl⟩,HS.out⟩
   case round=>
    obtain⟨z,f3,rfl,hz,hS3⟩:=hrel
    have EL:=ah hS3
    clear hS3 HS
    rcases hz with ⟨rfl,rfl⟩|⟨rfl,HZ⟩
    ·by_cases hn:20<N
     ·have aaq:s=20:=by omega
      have kk:=HR.out.1
      rw[aaq] at kk
      have hnz:((20:Nat):Int)<(N:Int):=by omega
      have ab5:(20:Int)<(N:Int):=by omega
      have aiD:¬(40:Int)≤(N:Int):=by omega
      have hy:=HY.out 0 20 N f3 wr (by omega) hn (Nat.le_refl _) kk (by have k5:=HR.out.2.2;rw[aaq] at k5;exact k5) (HD.out.sw HR.out.2.1 (Nat.le_refl _)) EL.out
      unfold yQ at hy
      have HYY:=ah hy
      clear hy kk aaq hs
      go_wp2
      go_loopw [7,8] (fun av bv wx=>av=.int .i64 0∧bv=.int .i64 40∧wx=wr) (fun _ _ _=>0)
      case atStart=>exact⟨rfl,by first|rfl|go_num,rfl⟩
      case round=>
       obtain⟨rfl,rfl,rfl⟩:=hrel
       go_wp2_with fail
       refine HYY.out.mono ?_
       rintro e w3 ⟨rfl,f4,r1,r2,r3⟩
       have HR4:=ah (And.intro r1 (And.intro r2 r3))
       clear r1 r2 r3 HYY
       go_wp2
       go_roundw
       case rel=>exact⟨40,f4,rfl,.inr ⟨rfl,ah ⟨HR.out.2.1.trans HR4.out.1,HR4.out.2.1⟩⟩,HR4.out.2.2⟩
       case measure=>simp[intOf]
     ·have hnz:¬((20:Nat):Int)<(N:Int):=by omega
      have ab5:¬(20:Int)<(N:Int):=by omega
      have hfin:dU c 0 N f3:=by
       rcases hs with e|e
       ·have h6:=HR.out.2.2;rw[e] at h6;exact h6
       ·have h6:=HR.out.1;rw[show s=N by omega] at h6;exact h6
      have Xt:=ah hfin
      clear hfin
      go_wp2
      go_end0
      exact⟨rfl,f3,HR.out.2.1,Xt.out,EL.out⟩
    ·have hnz:¬((40:Nat):Int)<(N:Int):=by omega
     have ab5:¬(40:Int)<(N:Int):=by omega
     go_wp2
     go_end0
     exact⟨rfl,f3,HZ.out.1,HZ.out.2,EL.out⟩
end Go.Proofs.YtgicfogmdfdjmaaGreatDoor
namespace Go.Proofs.YtgicfogmdfdjmaaGreatDoor
open Go.RowKit PA
theorem jR:(Tryz.prog.info? 67).map (fun i=>(i.zero,i.size,i.bytes))=some (some (.agg Ac.zero.cells.toArray),19,248):=by kernel_rfl
theorem qQ {W w:World} {A:aG} {I:Mem} (b:Addr) (n c:Nat) (xs:List Ac) (hn:xs.length=n) (lM:n≤65536) (hw:zB (some b) n c) (hc:bP (some b) (bI xs) I) (h:Sat W w (sep (kn I) A)):
 Calls Tryz.prog 49 #[.slice (some b) n c] w fun e w'=>∃a' c',e=.returned (.slice a' n c')∧Sat W w' (sep (aK 67 19 a' n c' (bI xs)) (sep (kn I) A)):=by
 obtain⟨hw1,hw2,hw3⟩:=hw
 have hq:=fun w a n c=>Lib.run_eql_slice_nil (P:=Tryz.prog) w 29 67 a n c 0 0 Tryz.underlying29
 have hS:=(h.alloc (.cells #[] 67)).lI 0 0 19 [] rfl (by omega) (by unfold maxLen;omega) rfl rfl
 have hsrc:=vS hc h.ext b rfl
 have hc2:=ah (WZ hsrc (.cells #[] 67))
 have hl:(bI xs).length=n*19:=by rw[fF,hn]
 have h1:=vP xs
 obtain⟨vs,hvs⟩:=aC (bI xs)
 rw[←hvs] at hc2 hl h1 ⊢
 have HW2:=ah hw2
 have HL:=ah hl
 have H1:=ah h1
 have ahQ:(n:Int)≤65536:=by omega
 clear hsrc hw1 hw2 hw3 hc hvs hl h1 h hn
 go_enter Tryz.func49,Tryz.ntmps49
 go_wp2_with (at_builtin;refine aJ rfl _ _ 29 rfl 67 19 248 _ Tryz.underlying29 jR rfl rfl hS rfl vs HL.out (by simp) (by intro b' hb;cases hb;exact hc2.out) H1.out (by omega) (by unfold maxLen;omega) ?_)
 intro a' c' w' hS'
 go_wp2
 go_ret
 refine⟨a',c',?_,?_⟩
 ·simp
 ·simpa using hS'
theorem SC {W w:World} {A:aG} {a:Option Addr} {n c:Nat} {xs:List Ac} (hn:xs.length=n) (h0:0<n) (h:Sat W w (sep (aK 67 19 a n c (bI xs)) A)):
 ∃g tl,a=some ⟨g,0,none⟩∧n≤c∧c≤maxLen∧(n*19+tl.length=c*19)∧Sat W w (sep (gK g n (fun i=>xs.getD i default) tl) A):=by
 rcases h.dL with ⟨-,rfl,-,-,-⟩|⟨g,cur,rfl,h1,h2,h3,h4,h5,h6⟩
 ·omega
 ·have hle:n*19≤c*19:=Nat.mul_le_mul_right _ h2
  refine⟨g,cur.toList.drop (n*19),rfl,h2,h3,by rw[List.length_drop,Array.length_toList,h4];omega,?_⟩
  unfold gK
  subst hn
  rw[Ak,←h5,List.take_append_drop,Array.toArray_toList]
  exact h6
theorem SE {W w:World} {A:aG} {g n c:Nat} {f:Nat→Ac} {tl:List Value} (h2:n≤c) (h3:c≤maxLen) (h4:n*19+tl.length=c*19) (h:Sat W w (sep (gK g n f tl) A)):
 Sat W w (sep (aK 67 19 (some ⟨g,0,none⟩) n c (bI ((List.range n).map f))) A):=by
 have hl:(bI ((List.range n).map f)).length=n*19:=by rw[fF];simp
 refine h.lI n c 19 _ hl h2 h3 (by simp[hl];omega) ?_
 show (bI ((List.range n).map f)++tl).take (n*19)=_
 rw[←hl,List.take_left]
set_option maxHeartbeats 1000000 in
theorem PY {W w:World} {A A0:aG} {D:Ac→Ac→Prop} {c:Ac→Ac→Int} {I:Mem} (hT:Total c) (hC:yN W A0 D c) (hsy:∀x y,D x y→D y x) (b:Addr) (n cp:Nat) (xs:List Ac) (hn:xs.length=n) (hD:xs.Pairwise D) (h0:0<n) (lM:n<40)
 (hw:zB (some b) n cp) (hc:bP (some b) (bI xs) I) (h:Sat W w (sep (kn I) (sep A0 A))):
 Calls Tryz.prog 36 #[.slice (some b) n cp] w fun e w'=>∃ys g c' J,e=.returned (.slice (some ⟨g,0,none⟩) n c')∧ys.Perm xs∧Asc c ys∧Mem.le I J∧n≤c'∧c'≤maxLen∧bP (some ⟨g,0,none⟩) (bI ys) J∧Sat W w' (sep (kn J) (sep A0 A)):=by
 have hcl:=ah (qQ b n cp xs hn (by omega) hw hc h)
 have HN:=ah hn
 have HD:Hid (DF D n fun i=>xs.getD i default):=ah (by have:=DF.W9 hsy hD;rw[hn] at this;exact this)
 have HTC:=ah (And.intro hT hC)
 clear hn hD hsy hc hw hT hC h
 go_enter Tryz.func36,Tryz.ntmps36
 go_wp2_with fail
 refine hcl.out.mono ?_
 rintro e w2 ⟨a',c',rfl,h2⟩
 obtain⟨g,tl,rfl,hc1,hc2,hc3,h3⟩:=SC HN.out h0 h2
 have hst:=IX (A:=sep (kn I) A) HTC.out.1 HTC.out.2 HD.out lM c' (show Sat W w2 (sep (gK g n (fun i=>xs.getD i default) tl) (sep A0 (sep (kn I) A))) by simpa only[ay,au,aj] using h3)
 have HST:=ah hst
 have DK:=ah (And.intro hc1 (And.intro hc2 hc3))
 clear hcl h2 h3 hst hc1 hc2 hc3
 go_wp2_with (first|(go_at_call 64;refine HST.out.mono ?_)|go_in)
 rintro e w4 ⟨rfl,f',r1,r2,r3⟩
 have h5:=(SE DK.out.1 DK.out.2.1 DK.out.2.2 r3).dQ
 have hp:=r1.perm
 have hl:=r2.list
 have RS:=ah (And.intro hp hl)
 have HF:Hid (Sat W w4 (sep (SG (some ⟨g,0,none⟩) (bI ((List.range n).map f'))) (sep (kn I) (sep A0 A)))):=ah (by simpa only[ay,au,aj] using h5)
 clear r1 r2 r3 h5 hp hl HST
 go_wp2
 first
 | (go_end0;go_wp2;go_ret)
 | go_ret
 obtain⟨J,hle,hJ,hS⟩:=HF.out.learn
 refine⟨_,g,c',J,rfl,?_,RS.out.2,hle,DK.out.1,DK.out.2.1,hJ,hS⟩
 refine RS.out.1.trans ?_
 have:=HN.out
 subst this
 rw[Ak]
theorem LY:Total cmpK:=⟨fun _ _ _=>uK,xB⟩
theorem Xa (W:World):yN W emp fD cmpK:=fun x y w B hne h=>by
 rw[bU] at h
 refine (DZ x y hne h).mono ?_
 rintro e w' ⟨rfl,h2⟩
 exact⟨rfl,by rw[bU];exact h2⟩
end Go.Proofs.YtgicfogmdfdjmaaGreatDoor
namespace Go.Proofs.YtgicfogmdfdjmaaGreatDoor
open Go.RowKit PA
attribute [local go_sem ↓] aT
theorem GL {J:Mem} {g:Nat} {ys:List Ac} (hc:bP (some ⟨g,0,none⟩) (bI ys) J) {w':World} (he:Ext J w') (i:Nat) (hi:i<ys.length):Sem.run Tryz.prog (loadCellsFrom ⟨g,i*19,none⟩ 0 kA #[]) w'=.ok ys[i].cells.toArray w':=by
 have hne:bI ys≠[]:=fun e=>by have:=congrArg List.length e;rw[fF,List.length_nil] at this;omega
 obtain⟨b,o,e,hcell⟩:=fV hc hne
 cases e
 have hl:ys[i].cells.length=kA:=rfl
 have:=run_loadCells_list (P:=Tryz.prog) w' ⟨g,i*19,none⟩ ys[i].cells (fun j v hj=>by
  have hjl:j<19:=(List.getElem?_eq_some_iff.1 hj).1
  have e:(⟨g,i*19,none⟩:Addr).add j=⟨g,i*19+j,none⟩:=by unfold Addr.add;split<;>simp_all
  rw[e]
  have h2:=hcell w' he (i*19+j) v (by rw[xA ys i hi j hjl];exact hj)
  rw[Nat.zero_add] at h2
  exact h2)
 rw[hl] at this
 exact this
theorem kT (w:World) (x:Ac) (i:Nat):(w.alloc (.cells x.cells.toArray 67)).cell? ⟨w.heap.size,i,none⟩=x.cells[i]?:=by
 rw[World.cell?_alloc_new]
 simp
theorem JK {W w:World} {A:aG} {J:Mem} (file:Int) (Bf:Nat) (hJ:J Bf=some (.cells #[.int .i64 file] 3 (0,0))) (x:Ac) (h:Sat W w (sep (kn J) A)):
 Calls Tryz.prog 53 #[.agg x.cells.toArray,.pointer (some ⟨Bf,0,none⟩)] w fun e w'=>e=.returned (.bool (eY file x))∧Sat W w' (sep (kn J) A):=by
 have h1:=h.dD (.cells x.cells.toArray 67)
 have c0:(w.alloc (.cells x.cells.toArray 67)).cell? ⟨w.heap.size,0,none⟩=some (.int .i64 x.k):=kT w x 0
 have c3:(w.alloc (.cells x.cells.toArray 67)).cell? ⟨w.heap.size,3,none⟩=some (.int .i64 x.f):=kT w x 3
 have cf:(w.alloc (.cells x.cells.toArray 67)).cell? ⟨Bf,0,none⟩=some (.int .i64 file):=by rw[cell_of_row _ Bf 0 _ _ _ (h1.ext _ _ hJ)];rfl
 have H1:=ah h1
 obtain⟨r,hr⟩:=aC (eY file x)
 rw[←hr]
 unfold eY at hr
 have HR:=ah hr
 clear h h1 hJ hr
 by_cases e1:x.k=0
 ·by_cases e2:x.f=file
  ·go_enter Tryz.func53,Tryz.ntmps53
   go_wp2
   go_ret
   exact⟨by rw[HR.out];simp[e1,e2],H1.out⟩
  ·have b2:(x.f==file)=false:=by simp[e2]
   have HE:=ah e2
   clear e2
   go_enter Tryz.func53,Tryz.ntmps53
   go_wp2
   go_ret
   exact⟨by rw[HR.out];simp[HE.out],H1.out⟩
 ·have b1:(x.k==0)=false:=by simp[e1]
  have HE:=ah e1
  clear e1
  go_enter Tryz.func53,Tryz.ntmps53
  go_wp2
  go_ret
  exact⟨by rw[HR.out];simp[HE.out],H1.out⟩
def BA (file:Int) (ys:List Ac):Int:=match ys.findIdx? (eY file) with|some i=>(i:Int)|none=>-1
set_option maxRecDepth 100000 in
set_option maxHeartbeats 2000000 in
theorem rO {W w:World} {A:aG} {J:Mem} (file:Int) (Bf:Nat) (hJ:J Bf=some (.cells #[.int .i64 file] 3 (0,0))) (g n c:Nat) (ys:List Ac) (hn:ys.length=n) (lM:n≤65536) (hc:bP (some ⟨g,0,none⟩) (bI ys) J) (h:Sat W w (sep (kn J) A)):
 Calls Tryz.prog 52 #[.slice (some ⟨g,0,none⟩) n c,.func (.func 53) #[] #[.pointer (some ⟨Bf,0,none⟩)]] w fun e w'=>e=.returned (.int .i64 (BA file ys))∧Sat W w' (sep (kn J) A):=by
 obtain⟨r,hr⟩:=aC (BA file ys)
 rw[←hr]
 have HR:=ah hr
 have HC:=ah hc
 have HJ:=ah hJ
 have H:=ah h
 have HN:=ah hn
 clear hr hc hJ h hn
 go_enter Tryz.func52,Tryz.ntmps52
 go_wp2
 go_loopw [8] (fun kv wr=>∃k:Nat,kv=.int .i64 k∧k≤n∧Hid (∀x∈ys.take k,eY file x=false)∧Sat W wr (sep (kn J) A)) (fun kv _=>n-(intOf kv).toNat)
 case atStart=>exact⟨0,rfl,by omega,ah (by simp),H.out⟩
 case round=>
  obtain⟨k,rfl,hk,HK,hS⟩:=hrel
  by_cases hlt:k<n
  ·have hltz:(k:Int)<(n:Int):=by omega
   have hkl:k<ys.length:=by rw[HN.out];exact hlt
   have l1:=GL HC.out hS.ext k hkl
   obtain⟨x,hx⟩:=aC (ys[k])
   rw[←hx] at l1
   have hf:=JK file Bf HJ.out x hS
   obtain⟨b,hb⟩:=aC (eY file x)
   rw[←hb] at hf
   have HF:=ah hf
   have HX:=ah (And.intro hx hb)
   have XC:(k:Int)<65536:=by omega
   clear hf hx hb hS
   go_wp2_with fail
   refine HF.out.mono ?_
   rintro e w3 ⟨rfl,h3⟩
   clear l1 HF
   cases b with
   | true=>
    go_wp2
    go_ret
    refine⟨?_,h3⟩
    have:BA file ys=k:=by
     unfold BA
     have:ys.findIdx? (eY file)=some k:=by
      rw[List.findIdx?_eq_some_iff_getElem]
      refine⟨hkl,by rw[←HX.out.1,←HX.out.2],fun j hj=>?_⟩
      have:=HK.out ys[j] (by rw[List.mem_take_iff_getElem];exact⟨j,by omega,rfl⟩)
      rw[this];simp
     rw[this]
    rw[HR.out,this];rfl
   | false=>
    go_wp2
    go_roundw
    case rel=>
     refine⟨k+1,by go_num,by omega,ah fun y hy=>?_,h3⟩
     rw[List.take_succ_eq_append_getElem hkl] at hy
     rcases List.mem_append.1 hy with hy|hy
     ·exact HK.out y hy
     ·rw[List.mem_singleton.1 hy,←HX.out.1,←HX.out.2]
    case measure=>simp[intOf];omega
  ·obtain rfl:k=n:=by omega
   go_wp2
   go_ret
   refine⟨?_,hS⟩
   have:BA file ys=-1:=by
    unfold BA
    have:ys.findIdx? (eY file)=none:=by
     rw[List.findIdx?_eq_none_iff]
     intro x hx
     have:=HK.out x (by rw[List.take_of_length_le (by rw[HN.out];exact Nat.le_refl _)];exact hx)
     rw[this]
    rw[this]
   rw[HR.out,this];rfl
theorem BD {W w:World} {A:aG} {q:Nat} {cur:Array Value} (hs:cur.size=19) (h:Sat W w (sep (blk q (.cells cur 67 (0,0))) A)) (x:Ac):
 ∃w',Sem.run Tryz.prog (storeCells ⟨q,0,none⟩ x.cells 0) w=.ok () w'∧Sat W w' (sep (blk q (.cells x.cells.toArray 67 (0,0))) A):=by
 have hst:=run_storeCells_at Tryz.prog q 0 67 x.cells 0 cur w h.aN (by show 0+0+19≤_;omega) x.one
 refine⟨_,hst,?_⟩
 have h2:=h.setRow (cur.toList.take (0+0)++x.cells++cur.toList.drop (0+0+x.cells.length)).toArray
 have e:cur.toList.take (0+0)++x.cells++cur.toList.drop (0+0+x.cells.length)=x.cells:=by
  have hd:cur.toList.drop (0+0+x.cells.length)=[]:=List.drop_eq_nil_of_le (by rw[Array.length_toList,hs];show 19≤0+0+19;omega)
  rw[hd,List.append_nil];rfl
 rw[e] at h2 ⊢
 exact h2
theorem fE {W w:World} {A:aG} {q:Nat} {x:Ac} {t:TypeId} {fr:Nat×Nat} (h:Sat W w (sep (blk q (.cells x.cells.toArray t fr)) A)):Sem.run Tryz.prog (loadCellsFrom ⟨q,0,none⟩ 0 kA #[]) w=.ok x.cells.toArray w:=by
 have hl:x.cells.length=kA:=rfl
 have:=run_loadCells_list (P:=Tryz.prog) w ⟨q,0,none⟩ x.cells (fun j v hj=>by
  have e:(⟨q,0,none⟩:Addr).add j=⟨q,j,none⟩:=by unfold Addr.add;split<;>simp_all
  rw[e,Sat.cell h]
  simpa using hj)
 rw[hl] at this
 exact this
theorem O7 {J:Mem} {q:Nat} {x:Ac} (hJ:J q=some (.cells x.cells.toArray 67 (0,0))) {w':World} (he:Ext J w'):Sem.run Tryz.prog (loadCellsFrom ⟨q,0,none⟩ 0 kA #[]) w'=.ok x.cells.toArray w':=by
 have hl:x.cells.length=kA:=rfl
 have:=run_loadCells_list (P:=Tryz.prog) w' ⟨q,0,none⟩ x.cells (fun j v hj=>by
  have e:(⟨q,0,none⟩:Addr).add j=⟨q,j,none⟩:=by unfold Addr.add;split<;>simp_all
  rw[e,bJ hJ he]
  exact hj)
 rw[hl] at this
 exact this
theorem O8 {file:Int} {ys:List Ac} {f:Ac} (h:dF file ys=some f):∃i,∃hi:i<ys.length,BA file ys=(i:Int)∧ys[i]=f:=by
 unfold dF at h
 cases e:ys.findIdx? (eY file) with
 | none=>
  rw[List.findIdx?_eq_none_iff] at e
  have:=List.find?_some h
  have:=e f (List.mem_of_find?_eq_some h)
  simp_all
 | some i=>
  obtain⟨hi,h1,h2⟩:=List.findIdx?_eq_some_iff_getElem.1 e
  refine⟨i,hi,by unfold BA;rw[e],?_⟩
  have h3:ys.find? (eY file)=some ys[i]:=by
   rw[List.find?_eq_some_iff_getElem]
   exact⟨h1,i,hi,rfl,fun j hj=>by have:=h2 j hj;simpa using this⟩
  rw[h3] at h
  exact Option.some.inj h
set_option maxRecDepth 100000 in
set_option maxHeartbeats 2000000 in
theorem JL {W w:World} {A:aG} {J:Mem} (file day:Int) (f:Ac) (g n c:Nat) (ys:List Ac) (hn:ys.length=n) (lM:n≤65536) (hc:bP (some ⟨g,0,none⟩) (bI ys) J) (hf:dF file ys=some f)
 (hr:aP file day ys=0) (h:Sat W w (sep (kn J) A)):
 Calls Tryz.prog 37 #[.int .i64 file,.int .i64 day,.slice (some ⟨g,0,none⟩) n c] w fun e w'=>e=.returned (.tuple #[.agg f.cells.toArray,.int .i64 0])∧∃J',Mem.le J J'∧Sat W w' (sep (kn J') A):=by
 have hr2:(0≤file∧file≤4095∧0≤day∧day≤131072)∧f.d≤day:=by
  unfold aP at hr
  rw[hf] at hr
  split at hr
  ·cases hr
  ·simp only at hr
   split at hr
   ·cases hr
   ·omega
 obtain⟨⟨f1,f2,d1,d2⟩,hfd⟩:=hr2
 obtain⟨i,hi,hidx,hif⟩:=O8 hf
 obtain⟨J2,hle,hJ2,h1⟩:=(h.alloc (.cells #[.int .i64 file] 3)).settle.learn
 have h2:=h1.alloc (.cells #[.int .i64 0,.int .i64 0,.int .i64 0,.int .i64 0,.int .i64 0,.int .i64 0,.int .i64 0,.int .i64 0,.int .i64 0,.int .i64 0,.int .i64 0,.slice none 0 0,.slice none 0 0,.slice none 0 0,.slice none 0 0,.int .i64 0,.int .i64 0,.slice none 0 0,.slice none 0 0] 67)
 rw[World.size_alloc] at h2
 obtain⟨B,hB⟩:=aC (w.heap.size)
 obtain⟨w1,hw1⟩:=aC ((w.alloc (.cells #[.int .i64 file] 3)).alloc (.cells #[.int .i64 0,.int .i64 0,.int .i64 0,.int .i64 0,.int .i64 0,.int .i64 0,.int .i64 0,.int .i64 0,.int .i64 0,.int .i64 0,.int .i64 0,.slice none 0 0,.slice none 0 0,.slice none 0 0,.slice none 0 0,.int .i64 0,.int .i64 0,.slice none 0 0,.slice none 0 0] 67))
 rw[←hB] at hJ2
 rw[←hB,←hw1] at h2
 have hc2:=fZ hle hc
 have hix:=fun w' A' (h':Sat W w' (sep (kn J2) A'))=>rO file B hJ2 g n c ys hn lM hc2 h'
 rw[hidx] at hix
 have c0:w1.cell? ⟨B,0,none⟩=some (.int .i64 file):=by rw[cell_of_row _ B 0 _ _ _ (h2.p1.ext _ _ hJ2)];rfl
 have HIX:=ah hix
 have HB:=ah hB
 have HW1:=ah hw1
 have HC2:=ah hc2
 have gQ:=ah hle
 have HI:=ah (And.intro hidx hif)
 have H2:=ah h2
 have hin:(i:Int)<n:=by omega
 clear hf hr h hc hle hJ2 h1 h2 hB hw1 hix hc2 hidx hif
 go_enter Tryz.func37,Tryz.ntmps37
 go_upto_region 1 with (fail)
 simp only[←HB.out]
 rw[←HW1.out]
 have hmf:∀(fn:Fn) (first cap:Array Value) (w:World),(Instr.makeFunc fn first cap).run Tryz.prog w=.ok (.func fn first cap) w:=fun _ _ _ _=>rfl
 go_wp2_with fail
 refine (HIX.out _ _ H2.out.p1).mono ?_
 rintro e w3 ⟨rfl,h3⟩
 clear c0 H2 HIX
 have hcx:=(GL HC2.out h3.ext i hi)
 rw[HI.out.2] at hcx
 have hcd:w3.cell? ⟨g,i*19+1,none⟩=some (.int .i64 f.d):=by
  have hne:bI ys≠[]:=fun e=>by have:=congrArg List.length e;rw[fF,List.length_nil] at this;omega
  obtain⟨b,o,e,hcell⟩:=fV HC2.out hne
  cases e
  have:=hcell w3 h3.ext (i*19+1) (.int .i64 f.d) (by rw[xA ys i hi 1 (by omega),HI.out.2];rfl)
  rwa [Nat.zero_add] at this
 obtain⟨w4,s1,h4⟩:=BD (cur:=#[.int .i64 0,.int .i64 0,.int .i64 0,.int .i64 0,.int .i64 0,.int .i64 0,.int .i64 0,.int .i64 0,.int .i64 0,.int .i64 0,.int .i64 0,.slice none 0 0,.slice none 0 0,.slice none 0 0,.slice none 0 0,.int .i64 0,.int .i64 0,.slice none 0 0,.slice none 0 0]) rfl h3.p1 f
 have r1:=fE h4
 have H4:=ah h4
 clear h3 h4
 go_wp2
 exact bodyPost_ret (v:=.tuple #[.agg f.cells.toArray,.int .i64 0]) (by simp[results,Tryz.results37,go_sem,r1]) rfl ⟨rfl,J2,gQ.out,H4.out.drop⟩
end Go.Proofs.YtgicfogmdfdjmaaGreatDoor
namespace Go.Proofs.YtgicfogmdfdjmaaGreatDoor
open Go.RowKit PA
theorem GN {W w:World} {A:aG} (xs:List Int) (n c:Nat) (v:Int) (C:Nat) (hn:xs.length=n) (h6:n≤65536) (h:Sat W w (sep (blk C (.cells (xs.map fun z=>Value.int .i64 z).toArray 3 (0,0))) A)):
 Calls Tryz.prog 69 #[.slice (some ⟨C,0,none⟩) n c,.int .i64 v] w fun e w'=>∃r,e=.returned (.int .i64 r)∧(0≤r↔v∈xs)∧w=w':=by
 have H:=ah h
 have HN:=ah hn
 clear h hn
 go_enter Tryz.func69,Tryz.ntmps69
 go_wp2
 go_loopw [8] (fun kv wr=>∃k:Nat,kv=.int .i64 k∧k≤n∧Hid (∀x∈xs.take k,x≠v)∧wr=w) (fun kv _=>n-(intOf kv).toNat)
 case atStart=>exact⟨0,rfl,by omega,ah (by simp),rfl⟩
 case round=>
  obtain⟨k,rfl,hk,HK,rfl⟩:=hrel
  by_cases hlt:k<n
  ·have hltz:(k:Int)<(n:Int):=by omega
   have hkl:k<xs.length:=by rw[HN.out];exact hlt
   obtain⟨x,hx⟩:=aC (xs[k])
   have c0:wr.cell? ⟨C,k,none⟩=some (.int .i64 x):=by rw[H.out.cell k];simp[hkl,hx]
   have HX:=ah hx
   have XC:(k:Int)<65536:=by omega
   clear hx
   by_cases e1:v=x
   ·subst e1
    go_wp2
    go_ret
    exact⟨(k:Int),rfl,⟨fun _=>by rw[HX.out];exact List.getElem_mem hkl,fun _=>by omega⟩,rfl⟩
   ·have b1:(v==x)=false:=by simp[e1]
    have HE:=ah e1
    clear e1
    go_wp2
    go_roundw
    case rel=>
     refine⟨k+1,by go_num,by omega,ah fun y hy=>?_,by first|rfl|trivial⟩
     rw[List.take_succ_eq_append_getElem hkl] at hy
     rcases List.mem_append.1 hy with hy|hy
     ·exact HK.out y hy
     ·rw[List.mem_singleton.1 hy,←HX.out];exact fun e=>HE.out e.symm
    case measure=>simp[intOf];omega
  ·obtain rfl:k=n:=by omega
   go_wp2
   go_ret
   refine⟨-1,rfl,⟨fun e=>by omega,fun e=>absurd rfl (HK.out v (by rw[List.take_of_length_le (by rw[HN.out];exact Nat.le_refl _)];exact e))⟩,by first|rfl|trivial⟩
theorem Ei {W w:World} {A:aG} (xs:List Int) (n c:Nat) (v:Int) (C:Nat) (hn:xs.length=n) (h6:n≤65536) (h:Sat W w (sep (blk C (.cells (xs.map fun z=>Value.int .i64 z).toArray 3 (0,0))) A)):
 Calls Tryz.prog 54 #[.slice (some ⟨C,0,none⟩) n c,.int .i64 v] w fun e w'=>e=.returned (.bool (decide (v∈xs)))∧w=w':=by
 have hi:=ah (GN xs n c v C hn h6 h)
 obtain⟨b,hb⟩:=aC (decide (v∈xs))
 rw[←hb]
 have HB:=ah hb
 clear h hn h6 hb
 go_enter Tryz.func54,Tryz.ntmps54
 go_wp2_with fail
 refine hi.out.mono ?_
 rintro e w2 ⟨r,rfl,hr,rfl⟩
 have HRR:=ah hr
 clear hr hi
 by_cases h0:0≤r
 ·go_wp2
  go_ret
  exact⟨by rw[HB.out,decide_eq_true (HRR.out.1 h0)];rfl,rfl⟩
 ·go_wp2
  go_ret
  refine⟨?_,rfl⟩
  have hm:v∉xs:=fun e=>by have:=HRR.out.2 e;omega
  have hz:decide (0≤r)=false:=decide_eq_false (by omega)
  show Ending.returned (Value.bool (decide (0≤r)))=_
  rw[hz,HB.out,decide_eq_false hm]
theorem yZ {W w:World} {A:aG} (k:Int) (h:Sat W w A):
 Calls Tryz.prog 38 #[.int .i64 k] w fun e w'=>e=.returned (.bool (gu k))∧Sat W w' A:=by
 have h1:=h.alloc (.cells ([5,19,20,21].map fun z=>Value.int .i64 z).toArray 3)
 have hc:=Ei [5,19,20,21] 4 4 k w.heap.size rfl (by omega) h1
 obtain⟨b,hb⟩:=aC (decide (k∈([5,19,20,21]:List Int)))
 rw[←hb] at hc
 have e:gu k=!b:=by
  rw[hb]
  unfold gu
  simp only[List.mem_cons,List.not_mem_nil,or_false]
  by_cases q1:k=5<;>by_cases q2:k=19<;>by_cases q3:k=20<;>by_cases q4:k=21<;>simp_all
 rw[e]
 have HC:=ah hc
 have H1:=ah h1.drop
 clear h h1 hc hb e
 go_enter Tryz.func38,Tryz.ntmps38
 go_wp2_with fail
 refine HC.out.mono ?_
 rintro e w2 ⟨rfl,rfl⟩
 go_wp2
 go_ret
 exact⟨rfl,H1.out⟩
end Go.Proofs.YtgicfogmdfdjmaaGreatDoor
namespace Go.Proofs.YtgicfogmdfdjmaaGreatDoor
open Go.RowKit PA
attribute [local go_sem ↓] aT
theorem iG (xs:List Ac):(xs.mergeSort fun x y=>decide (cmpK x y≤0)).Perm xs:=List.mergeSort_perm _ _
def sortK (xs:List Ac):List Ac:=xs.mergeSort fun x y=>decide (cmpK x y≤0)
theorem EZ (xs:List Ac):Asc cmpK (sortK xs):=by
 have h:=List.pairwise_mergeSort (le:=fun x y=>decide (cmpK x y≤0)) (fun a b c h1 h2=>by simp only[decide_eq_true_eq] at *;exact uK h1 h2) (fun a b=>by
  simp only[Bool.or_eq_true,decide_eq_true_eq]
  have:=xB a b
  omega) xs
 exact h.imp fun h=>by simpa using h
theorem BF {xs ys:List Ac} (hp:ys.Perm xs) (ha:Asc cmpK ys) (hk:xs.Pairwise fD):ys=sortK xs:=
 Aj WX ys (sortK xs) ha (EZ xs) (hp.trans (iG xs).symm) (DY (fun _ _=>fD.symm) hp.symm hk)
theorem iL (xs:List Ac):(sortK xs).length=xs.length:=(iG xs).length_eq
theorem uZ {W w:World} {A:aG} {I:Mem} (b:Addr) (n cp:Nat) (xs:List Ac) (hn:xs.length=n) (hD:xs.Pairwise fD) (h0:0<n) (lM:n<40) (hw:zB (some b) n cp) (hc:bP (some b) (bI xs) I) (h:Sat W w (sep (kn I) A)):
 Calls Tryz.prog 36 #[.slice (some b) n cp] w fun e w'=>∃g c' J,e=.returned (.slice (some ⟨g,0,none⟩) n c')∧Mem.le I J∧n≤c'∧c'≤maxLen∧bP (some ⟨g,0,none⟩) (bI (sortK xs)) J∧Sat W w' (sep (kn J) A):=by
 refine (PY (A:=A) LY (Xa W) (fun _ _=>fD.symm) b n cp xs hn hD h0 lM hw hc (by rw[bU];exact h)).mono ?_
 rintro e w' ⟨ys,g,c',J,rfl,hp,ha,hle,h1,h2,h3,h4⟩
 rw[bU] at h4
 rw[BF hp ha hD] at h3
 exact⟨g,c',J,rfl,hle,h1,h2,h3,h4⟩
theorem xX {σ:Type} {file fK day:Int} {ev:σ→Nat→Ac→Bool→σ} {i:Nat} {x:Ac} {l:List Ac} {S:l7} {s:σ} (h:aX file fK day x=true):walkT file fK day ev i (x::l) S s=walkT file fK day ev (i+1) l (PA.stepT S x).1 (ev s i x (PA.stepT S x).2):=by
 rw[walkT,if_pos h]
theorem vg {σ:Type} {file fK day:Int} {ev:σ→Nat→Ac→Bool→σ} {i:Nat} {x:Ac} {l:List Ac} {S:l7} {s:σ} (h:aX file fK day x=false):walkT file fK day ev i (x::l) S s=walkT file fK day ev (i+1) l S s:=by
 rw[walkT,if_neg (by rw[h];simp)]
def je (l:List Ac):Prop:=∀x∈l,x.k=16→okR x.sh=true∧0≤x.sn
theorem BG {S:l7} (h:uY S) (x:Ac) (hx:x.k=16→okR x.sh=true∧0≤x.sn):uY (PA.stepT S x).1:=by
 unfold PA.stepT
 split
 ·rename_i e;exact Ux h x (hx e).2
 ·exact h
set_option maxRecDepth 100000 in
set_option maxHeartbeats 8000000 in
theorem GR {W w:World} {A:aG} {I:Mem} (file day:Int) (f:Ac) (b:Addr) (n c:Nat) (xs:List Ac) (hn:xs.length=n) (h0:0<n) (lM:n<40) (hD:xs.Pairwise fD) (jL:je xs) (hw:zB (some b) n c) (hc:bP (some b) (bI xs) I)
 (hf:dF file (sortK xs)=some f) (hr:aP file day (sortK xs)=0) (h:Sat W w (sep (kn I) A)):
 Calls Tryz.prog 23 #[.int .i64 file,.int .i64 day,.slice (some b) n c,.nilFunc] w fun e w'=>∃p J,e=.returned (.tuple #[.pointer (some ⟨p,0,none⟩),.int .i64 0])∧Mem.le I J∧Sat W w' (sep (l9 p f.p (walkT file f.d day (fun (s:Unit) _ _ _=>s) 0 (sortK xs) (bW f.p) ()).1) (sep (kn J) A)):=by
 obtain⟨ys,hys⟩:=aC (sortK xs)
 obtain⟨R,hR⟩:=aC (walkT file f.d day (fun (s:Unit) _ _ _=>s) 0 (sortK xs) (bW f.p) ())
 rw[←hR]
 have hsort:=ah (uZ b n c xs hn hD h0 lM hw hc h)
 have hyl:ys.length=n:=by rw[hys,iL,hn]
 have hyf:je ys:=fun x hx=>jL x ((iG xs).subset (by rw[hys] at hx;exact hx))
 rw[←hys] at hsort hR hf hr
 have HR:=ah hR
 have zY:=ah (And.intro hyl hyf)
 have DN:=ah (And.intro hf hr)
 skip
 clear hn hD h0 jL hw hc hf hr h hys hR hyl hyf
 go_enter Tryz.func23,Tryz.ntmps23
 go_wp2_with fail
 refine hsort.out.mono ?_
 rintro e w2 ⟨g,c',J,rfl,hle,hc1,hc2,hcj,h2⟩
 have hfl:=ah (JL file day f g n c' ys zY.out.1 (by omega) hcj DN.out.1 DN.out.2 h2)
 have gQ:=ah hle
 have Uz:=ah hcj
 have DK:=ah (And.intro hc1 hc2)
 clear hsort hle hc1 hc2 hcj h2
 go_wp2_with fail
 refine hfl.out.mono ?_
 rintro e w3 ⟨rfl,J1,hle1,h3⟩
 obtain⟨w4,s1,h4a⟩:=BD (cur:=#[.int .i64 0,.int .i64 0,.int .i64 0,.int .i64 0,.int .i64 0,.int .i64 0,.int .i64 0,.int .i64 0,.int .i64 0,.int .i64 0,.int .i64 0,.slice none 0 0,.slice none 0 0,.slice none 0 0,.slice none 0 0,.int .i64 0,.int .i64 0,.slice none 0 0,.slice none 0 0]) rfl (h3.alloc (.cells #[.int .i64 0,.int .i64 0,.int .i64 0,.int .i64 0,.int .i64 0,.int .i64 0,.int .i64 0,.int .i64 0,.int .i64 0,.int .i64 0,.int .i64 0,.slice none 0 0,.slice none 0 0,.slice none 0 0,.slice none 0 0,.int .i64 0,.int .i64 0,.slice none 0 0,.slice none 0 0] 67)) f
 obtain⟨J2,hle2,hJ2,h4⟩:=h4a.settle.learn
 obtain⟨F,hF⟩:=aC (w3.heap.size)
 rw[←hF] at hJ2
 have HF:=ah hF
 have aaB:=ah (Mem.le_trans gQ.out (Mem.le_trans hle1 hle2))
 have aaC:=ah (fZ (Mem.le_trans hle1 hle2) Uz.out)
 have HJ2:Hid (∀w',Ext J2 w'→w'.cell? ⟨F,1,none⟩=some (.int .i64 f.d)∧w'.cell? ⟨F,5,none⟩=some (.int .i64 f.p)):=ah fun w' he=>⟨bJ hJ2 he 1,bJ hJ2 he 5⟩
 clear hfl h3 h4a hJ2 hle1 hle2 hF gQ Uz
 go_upto_region 3 with (fail)
 rw[←HF.out]
 clear s1
 have hmm:=@run_makeMap Tryz.prog
 obtain⟨m,hm⟩:=aC (w4.heap.size)
 obtain⟨w5,hw5⟩:=aC (w4.alloc (.map #[] 0))
 have h5:=h4.Ap
 rw[←hm,←hw5] at h5
 obtain⟨w6,n6,hup,-,h6⟩:=jE (P:=Tryz.prog) (T:=76) Tryz.underlying76 Tryz.underlying3 h5 f.p (Ud ⟨1,1⟩)
 unfold Ud at hup
 have cF:=(HJ2.out w4 h4.ext).2
 have cF5:=(HJ2.out w5 h5.p1.ext).2
 rw[hm,hw5] at hup
 rw[hw5] at cF5
 have h7:=h6.alloc (.cells #[.int .i64 f.p,.map (some m)] 78)
 obtain⟨p,hp⟩:=aC (w6.heap.size)
 obtain⟨w7,hw7⟩:=aC (w6.alloc (.cells #[.int .i64 f.p,.map (some m)] 78))
 rw[←hp,←hw7] at h7
 have HP:=ah hp
 have HM:=ah hm
 have UA:=ah hw7
 have H7:Hid (Sat W w7 (sep (l9 p f.p (bW f.p)) (sep (kn J2) A))):=ah (Bv (b:=m) (n:=n6) (by
  have e:ou (fun _=>none) f.p (some (Ud ⟨1,1⟩))=Eh (bW f.p):=zX (fun _=>none) f.p ⟨1,1⟩
  rw[←e];exact h7))
 clear hm hw5 h4 h5 h6 h7 hp hw7
 go_upto_region 6 with (fail)
 rw[←HP.out,←HM.out,←UA.out]
 clear cF cF5 hup hmm
 have jC:∀(u v:Int) (w:World),(Instr.field 57 (.agg #[.int .i64 u,.int .i64 v]) 0).run Tryz.prog w=.ok (.int .i64 u) w:=fun u v w=>by kernel_rfl
 have XD:=ah jC
 clear jC
 go_wp2
 go_loopw [40] (fun kv wr=>∃(k:Nat) (S:l7) (s:Unit),kv=.int .i64 k∧k≤n∧Hid (walkT file f.d day (fun (s:Unit) _ _ _=>s) k (ys.drop k) S s=R∧uY S)∧Sat W wr (sep (l9 p f.p S) (sep (kn J2) A))) (fun kv _=>n-(intOf kv).toNat)
 case atStart=>exact⟨0,bW f.p,(),rfl,by omega,ah ⟨by rw[List.drop_zero,HR.out],.first _⟩,H7.out⟩
 case round=>
  obtain⟨k,S,s,rfl,hk,HK,hS⟩:=hrel
  by_cases hlt:k<n
  ·have hltz:(k:Int)<(n:Int):=by omega
   have hkl:k<ys.length:=by rw[zY.out.1];exact hlt
   have XC:(k:Int)<40:=by omega
   obtain⟨x,hx⟩:=aC (ys[k])
   have l1:=GL aaC.out hS.p1.ext k hkl
   rw[←hx] at l1
   have hdrop:ys.drop k=x::ys.drop (k+1):=by rw[hx];exact List.drop_eq_getElem_cons hkl
   have hmem:x∈ys:=by rw[hx];exact List.getElem_mem hkl
   have hmiss:aX file f.d day x=false→walkT file f.d day (fun (s:Unit) _ _ _=>s) (k+1) (ys.drop (k+1)) S s=R∧uY S :=fun e=>by
    have:=HK.out.1
    rw[hdrop,vg e] at this
    exact⟨this,HK.out.2⟩
   have hhit:aX file f.d day x=true→walkT file f.d day (fun (s:Unit) _ _ _=>s) (k+1) (ys.drop (k+1)) (PA.stepT S x).1 ((fun (s:Unit) _ _ _=>s) s k x (PA.stepT S x).2)=R∧uY (PA.stepT S x).1 :=fun e=>by
    have:=HK.out.1
    rw[hdrop,xX e] at this
    exact⟨this,BG HK.out.2 x (zY.out.2 x hmem)⟩
   have lQ:=ah hmiss
   have Qq:=ah hhit
   have TB:=ah (And.intro hx hmem)
   obtain⟨w8,s1,h8⟩:=BD (cur:=#[.int .i64 0,.int .i64 0,.int .i64 0,.int .i64 0,.int .i64 0,.int .i64 0,.int .i64 0,.int .i64 0,.int .i64 0,.int .i64 0,.int .i64 0,.slice none 0 0,.slice none 0 0,.slice none 0 0,.slice none 0 0,.int .i64 0,.int .i64 0,.slice none 0 0,.slice none 0 0]) rfl (hS.alloc (.cells #[.int .i64 0,.int .i64 0,.int .i64 0,.int .i64 0,.int .i64 0,.int .i64 0,.int .i64 0,.int .i64 0,.int .i64 0,.int .i64 0,.int .i64 0,.slice none 0 0,.slice none 0 0,.slice none 0 0,.slice none 0 0,.int .i64 0,.int .i64 0,.slice none 0 0,.slice none 0 0] 67)) x
   obtain⟨J3,hle3,hJ3,h9⟩:=(show Sat W w8 (sep (Y0 wr.heap.size (.cells x.cells.toArray 67 (0,0))) (sep (kn J2) (sep (l9 p f.p S) A))) from h8.settle.p2.p1).learn
   obtain⟨G,hG⟩:=aC (wr.heap.size)
   rw[←hG] at hJ3
   have LM:Hid (∀w',Ext J3 w'→(w'.cell? ⟨G,0,none⟩=some (.int .i64 x.k)∧w'.cell? ⟨G,1,none⟩=some (.int .i64 x.d)∧w'.cell? ⟨G,3,none⟩=some (.int .i64 x.f)∧w'.cell? ⟨G,5,none⟩=some (.int .i64 x.p))∧Sem.run Tryz.prog (loadCellsFrom ⟨G,0,none⟩ 0 kA #[]) w'=.ok x.cells.toArray w'):=
    ah fun w' he=>⟨⟨bJ hJ3 he 0,bJ hJ3 he 1,bJ hJ3 he 3,bJ hJ3 he 5⟩,O7 hJ3 he⟩
   have vk:=ah hle3
   have HG:=ah hG
   have UC:∀w',Ext J3 w'→w'.cell? ⟨F,1,none⟩=some (.int .i64 f.d):=fun w' he=>(HJ2.out w' fun b o hb=>he b o (hle3 b o hb)).1
   have HJ3:=ah UC
   have H9:=ah h9
   have zS:=fun (w':World) (A':aG) (h':Sat W w' A')=>yZ x.k h'
   obtain⟨ob,hob⟩:=aC (gu x.k)
   rw[←hob] at zS
   have UD:=ah zS
   have vO:=ah hob
   have HS:=ah hS
   clear hx hdrop hmem hmiss hhit h8 hle3 hJ3 hG UC h9 hob hS zS
   go_upto_region 9 with (fail)
   rw[←HG.out]
   clear l1 s1
   obtain⟨⟨b0,-,-,-⟩,-⟩:=LM.out w8 H9.out.ext
   go_wp2_with fail
   refine (UD.out _ _ H9.out).mono ?_
   rintro e w9 ⟨rfl,h10⟩
   clear b0
   have nO:=ah h10
   obtain⟨⟨b0,b1,b3,b5⟩,lx⟩:=LM.out w9 h10.ext
   have bF:=HJ3.out w9 h10.ext
   clear h10 H9 UD HS
   cases ob with
   | false=>
    have hcb:aX file f.d day x=false:=by unfold aX;rw[←vO.out];rfl
    have DU:=ah hcb
    clear hcb
    go_wp2
    go_roundw
    case rel=>exact⟨k+1,S,s,by go_num,by omega,ah (lQ.out DU.out),(nO.out.dO vk.out).p1⟩
    case measure=>simp[intOf];omega
   | true=>
    by_cases cf:x.f=file
    ·have bz1:(x.f !=file)=false:=by simp[cf]
     by_cases cd:x.d<f.d
     ·have hcb:aX file f.d day x=false:=by unfold aX;rw[decide_eq_false (show ¬f.d≤x.d by omega)];simp
      have DU:=ah hcb
      clear hcb cf
      go_wp2
      go_roundw
      case rel=>exact⟨k+1,S,s,by go_num,by omega,ah (lQ.out DU.out),(nO.out.dO vk.out).p1⟩
      case measure=>simp[intOf];omega
     ·by_cases cy:day<x.d
      ·have hcb:aX file f.d day x=false:=by unfold aX;rw[decide_eq_false (show ¬x.d≤day by omega)];simp
       have DU:=ah hcb
       clear hcb cf
       go_wp2
       go_roundw
       case rel=>exact⟨k+1,S,s,by go_num,by omega,ah (lQ.out DU.out),(nO.out.dO vk.out).p1⟩
       case measure=>simp[intOf];omega
      ·have hcc:(x.k=16∨x.k=17)→aX file f.d day x=true:=fun hh=>by
        unfold aX
        rw[←vO.out,decide_eq_true cf,decide_eq_true (show f.d≤x.d by omega),decide_eq_true (show x.d≤day by omega)]
        rcases hh with e|e<;>simp[e]
       have hcn:¬(x.k=16∨x.k=17)→aX file f.d day x=false:=fun hh=>by
        unfold aX
        rw[decide_eq_false (fun e=>hh (.inl e)),decide_eq_false (fun e=>hh (.inr e))];simp
       have Nj:=ah (And.intro hcc hcn)
       clear hcc hcn cf
       go_upto_block 2 with (fail)
       go_cut [16] (fun dv wx=>∃(dn:Bool) (S':l7),dv=.bool dn∧PA.stepT S x=(S',dn)∧aX file f.d day x=true∧Sat W wx (sep (l9 p f.p S') (sep (kn J3) A)))
       case first=>
        by_cases ck:x.k=16
        ·have hfx:=zY.out.2 x TB.out.2 ck
         have hmv:=EY x hfx.1 HK.out.2 (nO.out.p1)
         have hst:PA.stepT S x=lN S x:=by unfold PA.stepT;rw[if_pos ck]
         obtain⟨mv,UE⟩:=aC (lN S x)
         rw[←UE] at hmv hst
         have Zt:=ah hmv
         have BH:=ah (And.intro hst (Nj.out.1 (.inl ck)))
         have bz2:(x.k==16)=true:=by simp[ck]
         clear hfx hmv hst UE ck
         go_wp2_with fail
         refine Zt.out.mono ?_
         rintro e w10 ⟨rfl,h11⟩
         have vX:=ah h11
         clear h11 Zt
         go_wp2
         go_meet
         case rel=>exact⟨mv.2,mv.1,rfl,BH.out.1,BH.out.2,vX.out⟩
        ·have bz2:(x.k==16)=false:=by simp[ck]
         by_cases ck2:x.k=17
         ·have bz3:(x.k==17)=true:=by simp[ck2]
          have hsh:=mW x.p (nO.out.p1)
          have hst:PA.stepT S x=(S,decide (0<(aQ S x.p).n)):=by unfold PA.stepT;rw[if_neg ck]
          obtain⟨sv,hsv⟩:=aC (aQ S x.p)
          rw[←hsv] at hsh hst
          have JI:=ah hsh
          have BH:=ah (And.intro hst (Nj.out.1 (.inr ck2)))
          have jC:=XD.out
          clear hsh hst hsv ck ck2
          go_wp2_with fail
          refine JI.out.mono ?_
          rintro e w10 ⟨rfl,h11⟩
          have vX:=ah h11
          clear h11 JI
          go_wp2
          go_meet
          case rel=>exact⟨_,S,rfl,BH.out.1,BH.out.2,vX.out⟩
         ·have bz3:(x.k==17)=false:=by simp[ck2]
          have DU:=ah (Nj.out.2 (fun hh=>hh.elim ck ck2))
          clear ck ck2
          go_wp2
          go_roundw
          case rel=>exact⟨k+1,S,s,by go_num,by omega,ah (lQ.out DU.out),(nO.out.dO vk.out).p1⟩
          case measure=>simp[intOf];omega
       case rest=>
        obtain⟨dn,S',rfl,hst,hcb,h11⟩:=hcut
        have hk2:=Qq.out hcb
        rw[hst] at hk2
        have Nk:=ah hk2
        have vX:=ah h11
        obtain⟨-,lx2⟩:=LM.out wc h11.p1.ext
        clear hst hcb h11 hk2 nO b0 b1 b3 b5 lx bF
        have hneq:∀w,(binOp .neq 68 .nilFunc .nilFunc).run Tryz.prog w=.ok (.bool false) w:=fun w=>by kernel_rfl
        go_wp2
        go_roundw
        case rel=>exact⟨k+1,S',_,by go_num,by omega,ah Nk.out,(vX.out.p1.dO vk.out).p1⟩
        case measure=>simp[intOf];omega
    ·have bz1:(x.f !=file)=true:=by simp[cf]
     have hcb:aX file f.d day x=false:=by unfold aX;rw[decide_eq_false cf];simp
     have DU:=ah hcb
     clear hcb cf
     go_wp2
     go_roundw
     case rel=>exact⟨k+1,S,s,by go_num,by omega,ah (lQ.out DU.out),(nO.out.dO vk.out).p1⟩
     case measure=>simp[intOf];omega
  ·obtain rfl:k=n:=by omega
   have hfin:=HK.out.1
   rw[List.drop_of_length_le (by rw[zY.out.1];exact Nat.le_refl _)] at hfin
   have iR:=ah hfin
   clear hfin
   go_wp2
   go_ret2
   refine⟨p,J2,rfl,aaB.out,?_⟩
   have e:R=(S,s):=iR.out.symm
   rw[e]
   exact hS
end Go.Proofs.YtgicfogmdfdjmaaGreatDoor
namespace Go.Proofs.YtgicfogmdfdjmaaGreatDoor
open Go.RowKit PA
def BN (a v:Value):Sem Unit:=Instr.storeAt 67 a v
def jo (a:Value):Sem Value:=Instr.loadAt 67 a
theorem bQ (a v:Value):Instr.storeAt 67 a v=BN a v:=rfl
theorem bZ (a:Value):Instr.loadAt 67 a=jo a:=rfl
theorem Jb (w:World):(Go.isAgg 67).run Tryz.prog w=.ok true w:=by kernel_rfl
theorem aY {w:World} {q:Nat} {cs:Array Value} (h:w.heap[q]?=some (.cells cs 67 (0,0))) (hs:cs.size=19) (x:Ac):
 Sem.run Tryz.prog (BN (.pointer (some ⟨q,0,none⟩)) (.agg x.cells.toArray)) w=.ok () (w.setRow q x.cells.toArray):=by
 have hst:=run_storeCells_at Tryz.prog q 0 67 x.cells 0 cs w h (by show 0+0+19≤_;omega) x.one
 have e:cs.toList.take (0+0)++x.cells++cs.toList.drop (0+0+x.cells.length)=x.cells:=by
  have hd:cs.toList.drop (0+0+x.cells.length)=[]:=List.drop_eq_nil_of_le (by rw[Array.length_toList,hs];show 19≤0+0+19;omega)
  rw[hd,List.append_nil];rfl
 rw[e] at hst
 have hk:¬(Value.agg x.cells.toArray).cells.size≠kA:=by
  intro hc;exact hc rfl
 show Sem.run Tryz.prog (storeVar 67 ⟨q,0,none⟩ (.agg x.cells.toArray)) w=_
 unfold storeVar
 rw[Sem.run_bind,aT]
 show Sem.run Tryz.prog (if (Value.agg x.cells.toArray).cells.size≠kA then _ else _) w=_
 rw[if_neg hk]
 exact hst
theorem Y4 {P:Program} (B:Sem Bool) (N:Sem Nat) (L:Nat→Sem (Array Value)) (e:Sem Value) {n:Nat} {c:Array Value} {w:World} (hB:B.run P w=.ok true w) (hN:N.run P w=.ok n w) (hL:(L n).run P w=.ok c w):
 Sem.run P (do if ←B then pure (.agg (←L (←N))) else e) w=.ok (.agg c) w:=by
 rw[Sem.run_bind,hB]
 show Sem.run P (do pure (Value.agg (←L (←N)))) w=_
 rw[Sem.run_bind,hN]
 show Sem.run P (do pure (Value.agg (←L n))) w=_
 rw[Sem.run_bind,hL]
 rfl
theorem kF {w:World} {q:Nat} {x:Ac} (h:∀i v,x.cells[i]?=some v→w.cell? ⟨q,i,none⟩=some v):
 Sem.run Tryz.prog (jo (.pointer (some ⟨q,0,none⟩))) w=.ok (.agg x.cells.toArray) w:=by
 have hl:x.cells.length=kA:=rfl
 have:=run_loadCells_list (P:=Tryz.prog) w ⟨q,0,none⟩ x.cells (fun j v hj=>by
  have e:(⟨q,0,none⟩:Addr).add j=⟨q,j,none⟩:=by unfold Addr.add;split<;>simp_all
  rw[e]
  exact h j v hj)
 rw[hl] at this
 show Sem.run Tryz.prog (loadVar 67 ⟨q,0,none⟩) w=_
 unfold loadVar
 exact Y4 (Go.isAgg 67) (Go.sizeOf 67) (loadCells ⟨q,0,none⟩) _ (Jb w) (aT w) this
theorem Gu (w:World) (c0 c1 c2 c3 c4 c5 c6 c7 c8 c9 c10 c11 c12 c13 c14 c15 c16 c17 c18:Value) (k d n f o p q u m sn sd fo fn:Int):
 Sem.run Tryz.prog (BN (.pointer (some ⟨w.heap.size,0,none⟩)) (.agg #[.int .i64 k,.int .i64 d,.int .i64 n,.int .i64 f,.int .i64 o,.int .i64 p,.int .i64 q,.int .i64 u,.int .i64 m,.int .i64 sn,.int .i64 sd,.slice none 0 0,.slice none 0 0,.slice none 0 0,.slice none 0 0,.int .i64 fo,.int .i64 fn,.slice none 0 0,.slice none 0 0])) (w.alloc (.cells #[c0,c1,c2,c3,c4,c5,c6,c7,c8,c9,c10,c11,c12,c13,c14,c15,c16,c17,c18] 67))=.ok () (w.alloc (.cells #[.int .i64 k,.int .i64 d,.int .i64 n,.int .i64 f,.int .i64 o,.int .i64 p,.int .i64 q,.int .i64 u,.int .i64 m,.int .i64 sn,.int .i64 sd,.slice none 0 0,.slice none 0 0,.slice none 0 0,.slice none 0 0,.int .i64 fo,.int .i64 fn,.slice none 0 0,.slice none 0 0] 67)):=by
 have h:(w.alloc (.cells #[c0,c1,c2,c3,c4,c5,c6,c7,c8,c9,c10,c11,c12,c13,c14,c15,c16,c17,c18] 67)).heap[w.heap.size]?=some (.cells #[c0,c1,c2,c3,c4,c5,c6,c7,c8,c9,c10,c11,c12,c13,c14,c15,c16,c17,c18] 67 (0,0)):=heap_alloc_last _ _
 have:=aY h rfl ⟨k,d,n,f,o,p,q,u,m,sn,sd,Sv.none,Sv.none,Sv.none,Sv.none,fo,fn,Sv.none,Sv.none⟩
 rw[show (w.alloc (.cells #[.int .i64 k,.int .i64 d,.int .i64 n,.int .i64 f,.int .i64 o,.int .i64 p,.int .i64 q,.int .i64 u,.int .i64 m,.int .i64 sn,.int .i64 sd,.slice none 0 0,.slice none 0 0,.slice none 0 0,.slice none 0 0,.int .i64 fo,.int .i64 fn,.slice none 0 0,.slice none 0 0] 67))=(w.alloc (.cells #[c0,c1,c2,c3,c4,c5,c6,c7,c8,c9,c10,c11,c12,c13,c14,c15,c16,c17,c18] 67)).setRow w.heap.size #[.int .i64 k,.int .i64 d,.int .i64 n,.int .i64 f,.int .i64 o,.int .i64 p,.int .i64 q,.int .i64 u,.int .i64 m,.int .i64 sn,.int .i64 sd,.slice none 0 0,.slice none 0 0,.slice none 0 0,.slice none 0 0,.int .i64 fo,.int .i64 fn,.slice none 0 0,.slice none 0 0] from (World.setRow_alloc_new w _ _ 67).symm]
 exact this
theorem aB {W w:World} {A:aG} {q:Nat} {x:Ac} (h:Sat W w (sep (blk q (.cells x.cells.toArray 67 (0,0))) A)) (i:Nat) (v:Value) (hv:x.cells[i]?=some v):w.cell? ⟨q,i,none⟩=some v∧w.frozen? ⟨q,i,none⟩=false:=
 ⟨by rw[h.cell i];simpa using hv,h.aI i⟩
theorem act_ld {W w:World} {A:aG} {q:Nat} {x:Ac} (h:Sat W w (sep (blk q (.cells x.cells.toArray 67 (0,0))) A)):
 Sem.run Tryz.prog (jo (.pointer (some ⟨q,0,none⟩))) w=.ok (.agg #[.int .i64 x.k,.int .i64 x.d,.int .i64 x.n,.int .i64 x.f,.int .i64 x.o,.int .i64 x.p,.int .i64 x.q,.int .i64 x.u,.int .i64 x.m,.int .i64 x.sn,.int .i64 x.sd,.slice x.td.a x.td.n x.td.c,.slice x.tc.a x.tc.n x.tc.c,.slice x.cl.a x.cl.n x.cl.c,.slice x.ea.a x.ea.n x.ea.c,.int .i64 x.fo,.int .i64 x.fn,.slice x.fi.a x.fi.n x.fi.c,.slice x.fk.a x.fk.n x.fk.c]) w:=
 kF fun i v hv=>(aB h i v hv).1
theorem act_wr {W w:World} {A:aG} {q:Nat} {cur:Array Value} (hs:cur.size=19) (h:Sat W w (sep (blk q (.cells cur 67 (0,0))) A)) (k d n f o p qq u m sn sd fo fn:Int):
 ∃w',Sem.run Tryz.prog (BN (.pointer (some ⟨q,0,none⟩)) (.agg #[.int .i64 k,.int .i64 d,.int .i64 n,.int .i64 f,.int .i64 o,.int .i64 p,.int .i64 qq,.int .i64 u,.int .i64 m,.int .i64 sn,.int .i64 sd,.slice none 0 0,.slice none 0 0,.slice none 0 0,.slice none 0 0,.int .i64 fo,.int .i64 fn,.slice none 0 0,.slice none 0 0])) w=.ok () w'∧Sat W w' (sep (blk q (.cells (Ac.cells ⟨k,d,n,f,o,p,qq,u,m,sn,sd,Sv.none,Sv.none,Sv.none,Sv.none,fo,fn,Sv.none,Sv.none⟩).toArray 67 (0,0))) A):=
 ⟨_,aY h.aN hs ⟨k,d,n,f,o,p,qq,u,m,sn,sd,Sv.none,Sv.none,Sv.none,Sv.none,fo,fn,Sv.none,Sv.none⟩,h.setRow _⟩
end Go.Proofs.YtgicfogmdfdjmaaGreatDoor
