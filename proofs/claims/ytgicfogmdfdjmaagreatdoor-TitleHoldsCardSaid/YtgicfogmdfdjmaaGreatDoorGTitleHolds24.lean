/- Part of a proof. -/
import Derived.Test.YtgicfogmdfdjmaaGreatDoorGTitleHolds23
import Derived.Great.BuildSlice
namespace PA
open Go Go.RowKit
theorem wP {I:Mem} {a:Option Addr} {n c:Nat} {l:List Int} (h:(qI.slice 1).rel I [.slice a n c] l) {i:Nat} {x:Int} (hx:l[i]?=some x):
 ∃b o,a=some ⟨b,o,none⟩∧∀w',Ext I w'→w'.cell? ⟨b,o+i,none⟩=some (.int .i64 x):=by
 obtain⟨b,o,cs,rfl,hr,-,hc⟩:=lC h hx (by omega)
 have e:cs=[.int .i64 x]:=hr
 subst e
 exact⟨b,o,rfl,fun w' he=>by have:=hc w' he 0 _ rfl;rwa [Nat.mul_one] at this⟩
theorem Ia {I:Mem} {a:Option Addr} {n c:Nat} {l:List Cl} (h:(oz.slice 5).rel I [.slice a n c] l) {i:Nat} {x:Cl} (hx:l[i]?=some x):
 ∃b o ra rc p q x1 n1 c1 x2 n2 c2,a=some ⟨b,o,none⟩∧(qI.slice 1).rel I [.slice ra x.refs.length rc] x.refs∧rF.rel I [.int .i64 p,.int .i64 q,.slice x1 n1 c1,.slice x2 n2 c2] x.body ∧
  ∀w',Ext I w'→w'.cell? ⟨b,o+i*5,none⟩=some (.slice ra x.refs.length rc)∧w'.cell? ⟨b,o+i*5+1,none⟩=some (.int .i64 p)∧w'.cell? ⟨b,o+i*5+2,none⟩=some (.int .i64 q)∧w'.cell? ⟨b,o+i*5+3,none⟩=some (.slice x1 n1 c1)∧w'.cell? ⟨b,o+i*5+4,none⟩=some (.slice x2 n2 c2):=by
 obtain⟨b,o,cs,rfl,hr,-,hc⟩:=lC h hx (by omega)
 obtain⟨ra,rc,bs,rfl,h1,h2⟩:=hr
 obtain⟨refs,⟨p,q,ins,kids⟩⟩:=x
 obtain⟨x1,c1,x2,c2,rfl,h3,h4⟩:=ig.1 h2
 exact⟨b,o,ra,rc,p,q,x1,_,c1,x2,_,c2,rfl,h1,ig.2 ⟨x1,c1,x2,c2,rfl,h3,h4⟩,fun w' he=>⟨hc w' he 0 _ rfl,hc w' he 1 _ rfl,hc w' he 2 _ rfl,hc w' he 3 _ rfl,hc w' he 4 _ rfl⟩⟩
theorem YA {l:List Int} {i:Nat} {r:Int} (h:l[0]?=some r):qC l i 0=(decide (0≤r)&&decide (r<(i:Int))):=by
 unfold qC;rw[h];simp
theorem Pv {l:List Int} {i k:Nat} {r q:Int} (h:l[k+1]?=some r) (h':l[k]?=some q):qC l i (k+1)=(decide (0≤r)&&(decide (r<(i:Int))&&decide (q<r))):=by
 unfold qC;rw[h];simp only;rw[h']
theorem FM {l:List Int} {i k:Nat} {r:Int} (h:l[k]?=some r) (hr:r<0∨(i:Int)≤r):qC l i k=false:=by
 unfold qC;rw[h]
 simp only
 rcases hr with hr|hr
 ·rw[decide_eq_false (show ¬0≤r by omega)];rfl
 ·rw[decide_eq_false (show ¬r<(i:Int) by omega)];simp
theorem QZ {l:List Cl} {j:Nat} {c:Cl} (h:l[j]?=some c):zI j (l.drop j)=if 8<c.refs.length then 4 else if qE c.refs j=false then 1 else if qO c.body≠0 then qO c.body else zI (j+1) (l.drop (j+1)):=by
 obtain⟨hj,rfl⟩:=List.getElem?_eq_some_iff.1 h
 rw[List.drop_eq_getElem_cons hj,zI]
end PA
namespace Go.Proofs.YtgicfogmdfdjmaaGreatDoor
open Go.RowKit PA
set_option maxRecDepth 100000 in
set_option maxHeartbeats 4000000 in
theorem Ib {W w:World} {A:aG} {I:Mem} (a:Option Addr) (c:Nat) (l:List Int) (i:Nat) (hv:(qI.slice 1).rel I [.slice a l.length c] l) (h:Sat W w (sep (kn I) A)):
 Calls Tryz.prog 167 #[.slice a l.length c,.int .i64 (i:Nat)] w fun e w'=>e=.returned (.bool (qE l i))∧Sat W w' (sep (kn I) A):=by
 obtain⟨n,hn⟩:=aC (l.length)
 obtain⟨rv,fQ⟩:=aC (qE l i)
 have hl63:=(aU hv).2.2
 rw[←hn] at hv hl63 ⊢
 rw[←fQ]
 have dP:Hid (rv=uw l i n∧n=l.length):=ah ⟨by rw[fQ,hn];rfl,hn⟩
 have HV:=ah hv
 have H:=ah h
 clear hv h fQ hn
 go_enter Tryz.func167,Tryz.ntmps167
 go_wp2
 go_loopw [5] (fun iv wr=>∃k:Nat,iv=.int .i64 k∧k≤n∧Hid (uw l i k=true)∧Sat W wr (sep (kn I) A)) (fun iv _=>n-(intOf iv).toNat)
 case atStart=>exact⟨0,rfl,by omega,ah (Ci l i),H.out⟩
 case round=>
  obtain⟨k,rfl,hk,HT,hS⟩:=hrel
  by_cases hlt:k<n
  ·have hltz:(k:Int)<(n:Int):=by omega
   have hkl:k<l.length:=by have:=dP.out.2;omega
   obtain⟨r,hr⟩:∃r,l[k]?=some r:=⟨_,List.getElem?_eq_getElem hkl⟩
   obtain⟨b,o,rfl,hcell⟩:=wP HV.out hr
   have hd:=hS.drew
   have c0:=hcell _ hd.ext
   have HD:=ah hd
   have HR:=ah (And.intro hr (And.intro hlt hkl))
   have HBAD:Hid (qC l i k=false→rv=false):=ah fun e=>by rw[dP.out.1];exact QT hlt e
   clear hr hcell hS hd hlt hkl hk H
   by_cases n0:r<0
   ·have n0':decide (r<0)=true:=decide_eq_true n0
    have HF:Hid (rv=false):=ah (HBAD.out (FM HR.out.1 (.inl n0)))
    clear n0 HBAD
    go_upto_region 4 with (fail)
    refine aA rfl (fun _=>True) [(0,.p),(1,.p),(2,.p),(3,.t),(4,.p),(5,.p),(6,.p),(7,.p),(8,.p),(9,.t),(10,.p),(11,.p),(12,.p),(13,.p),(14,.p),(15,.p),(16,.p),(17,.p),(18,.p),(19,.p),(20,.t),(21,.p),(22,.p),(23,.p),(24,.p),(25,.t),(26,.p),(27,.p),(28,.p)] (by kernel_rfl) ?_
    have hS0:True:=trivial
    (repeat ((first|(refine eF (v:=?_) rfl rfl (fun w'=>?_) ?_;rotate_left;(go_simp;with_reducible rfl))|(refine eG (v:=?_) rfl rfl hS0 (fun w' hS=>?_) ?_;rotate_left;((try dsimp only at hS);go_simp;with_reducible rfl))|(refine eH (v:=?_) rfl rfl ?_ ?_;rotate_left;(go_simp;with_reducible rfl))|(refine bD rfl rfl ?_)|(refine bG rfl rfl hS0 ?_)|(refine bH rfl rfl ?_));simp only[Act.put,lsA,lsB,bC]))
    refine bM ?_
    clear c0
    go_wp2
    go_ret
    exact⟨by rw[HF.out];rfl,HD.out⟩
   ·have n0':decide (r<0)=false:=decide_eq_false n0
    by_cases n1:(i:Int)≤r
    ·have n1':decide ((i:Int)≤r)=true:=decide_eq_true n1
     have HF:Hid (rv=false):=ah (HBAD.out (FM HR.out.1 (.inr n1)))
     clear n0 n1 HBAD
     go_upto_region 4 with (fail)
     refine aA rfl (fun _=>True) [(0,.p),(1,.p),(2,.p),(3,.t),(4,.p),(5,.p),(6,.p),(7,.p),(8,.p),(9,.t),(10,.p),(11,.p),(12,.p),(13,.p),(14,.p),(15,.p),(16,.p),(17,.p),(18,.p),(19,.p),(20,.t),(21,.p),(22,.p),(23,.p),(24,.p),(25,.t),(26,.p),(27,.p),(28,.p)] (by kernel_rfl) ?_
     have hS0:True:=trivial
     (repeat ((first|(refine eF (v:=?_) rfl rfl (fun w'=>?_) ?_;rotate_left;(go_simp;with_reducible rfl))|(refine eG (v:=?_) rfl rfl hS0 (fun w' hS=>?_) ?_;rotate_left;((try dsimp only at hS);go_simp;with_reducible rfl))|(refine eH (v:=?_) rfl rfl ?_ ?_;rotate_left;(go_simp;with_reducible rfl))|(refine bD rfl rfl ?_)|(refine bG rfl rfl hS0 ?_)|(refine bH rfl rfl ?_));simp only[Act.put,lsA,lsB,bC]))
     refine bM ?_
     clear c0
     go_wp2
     go_ret
     exact⟨by rw[HF.out];rfl,HD.out⟩
    ·have n1':decide ((i:Int)≤r)=false:=decide_eq_false n1
     have HRR:Hid (0≤r∧r<(i:Int)):=ah ⟨by omega,by omega⟩
     clear n0 n1
     cases k with
     | zero=>
      rw[Nat.add_zero] at c0
      go_upto_region 4 with (fail)
      refine aA rfl (fun _=>True) [(0,.p),(1,.p),(2,.p),(3,.t),(4,.p),(5,.p),(6,.p),(7,.p),(8,.p),(9,.t),(10,.p),(11,.p),(12,.p),(13,.p),(14,.p),(15,.p),(16,.p),(17,.p),(18,.p),(19,.p),(20,.t),(21,.p),(22,.p),(23,.p),(24,.p),(25,.t),(26,.p),(27,.p),(28,.p)] (by kernel_rfl) ?_
      have hS0:True:=trivial
      (repeat ((first|(refine eF (v:=?_) rfl rfl (fun w'=>?_) ?_;rotate_left;(go_simp;with_reducible rfl))|(refine eG (v:=?_) rfl rfl hS0 (fun w' hS=>?_) ?_;rotate_left;((try dsimp only at hS);go_simp;with_reducible rfl))|(refine eH (v:=?_) rfl rfl ?_ ?_;rotate_left;(go_simp;with_reducible rfl))|(refine bD rfl rfl ?_)|(refine bG rfl rfl hS0 ?_)|(refine bH rfl rfl ?_));simp only[Act.put,lsA,lsB,bC]))
      refine bM ?_
      clear c0
      go_wp2
      go_roundw
      case rel=>exact⟨1,by go_num,by have:=HR.out;omega,ah (by rw[vH,HT.out,YA HR.out.1,decide_eq_true HRR.out.1,decide_eq_true HRR.out.2];rfl),HD.out⟩
      case measure=>simp[intOf];have:=HR.out;omega
     | succ k=>
      obtain⟨q,hq⟩:∃q,l[k]?=some q:=⟨_,List.getElem?_eq_getElem (by have:=HR.out.2.2;omega)⟩
      obtain⟨b',o',e',hcj⟩:=wP HV.out hq
      cases e'
      have c1:=hcj _ HD.out.ext
      have hjw:IntKind.i64.wrap (k:Int)=(k:Int):=IntWalk.i64_in _ (by omega)
      have hjn:(k:Int)<(n:Int):=by omega
      have hj0:(0:Int)<(k:Int)+1:=by omega
      have hj1:(k:Int)+1<(n:Int):=by omega
      have hjz:(0:Int)≤(k:Int)+1:=by omega
      have hjt:((k:Int)+1).toNat=k+1:=by omega
      have HQ:=ah hq
      clear hq hcj hltz
      by_cases n2:r≤q
      ·have n2':decide (r≤q)=true:=decide_eq_true n2
       have HF:Hid (rv=false):=ah (HBAD.out (by rw[Pv HR.out.1 HQ.out,decide_eq_false (show ¬q<r by omega)];simp))
       clear n2
       go_upto_region 4 with (fail)
       refine aA rfl (fun _=>True) [(0,.p),(1,.p),(2,.p),(3,.t),(4,.p),(5,.p),(6,.p),(7,.p),(8,.p),(9,.t),(10,.p),(11,.p),(12,.p),(13,.p),(14,.p),(15,.p),(16,.p),(17,.p),(18,.p),(19,.p),(20,.t),(21,.p),(22,.p),(23,.p),(24,.p),(25,.t),(26,.p),(27,.p),(28,.p)] (by kernel_rfl) ?_
       have hS0:True:=trivial
       (repeat ((first|(refine eF (v:=?_) rfl rfl (fun w'=>?_) ?_;rotate_left;(go_simp;with_reducible rfl))|(refine eG (v:=?_) rfl rfl hS0 (fun w' hS=>?_) ?_;rotate_left;((try dsimp only at hS);go_simp;with_reducible rfl))|(refine eH (v:=?_) rfl rfl ?_ ?_;rotate_left;(go_simp;with_reducible rfl))|(refine bD rfl rfl ?_)|(refine bG rfl rfl hS0 ?_)|(refine bH rfl rfl ?_));simp only[Act.put,lsA,lsB,bC]))
       refine bM ?_
       clear c0 c1
       go_wp2
       go_ret
       exact⟨by rw[HF.out];rfl,HD.out⟩
      ·have n2':decide (r≤q)=false:=decide_eq_false n2
       have HQR:Hid (q<r):=ah (by omega)
       clear n2
       go_upto_region 4 with (fail)
       refine aA rfl (fun _=>True) [(0,.p),(1,.p),(2,.p),(3,.t),(4,.p),(5,.p),(6,.p),(7,.p),(8,.p),(9,.t),(10,.p),(11,.p),(12,.p),(13,.p),(14,.p),(15,.p),(16,.p),(17,.p),(18,.p),(19,.p),(20,.t),(21,.p),(22,.p),(23,.p),(24,.p),(25,.t),(26,.p),(27,.p),(28,.p)] (by kernel_rfl) ?_
       have hS0:True:=trivial
       (repeat ((first|(refine eF (v:=?_) rfl rfl (fun w'=>?_) ?_;rotate_left;(go_simp;with_reducible rfl))|(refine eG (v:=?_) rfl rfl hS0 (fun w' hS=>?_) ?_;rotate_left;((try dsimp only at hS);go_simp;with_reducible rfl))|(refine eH (v:=?_) rfl rfl ?_ ?_;rotate_left;(go_simp;with_reducible rfl))|(refine bD rfl rfl ?_)|(refine bG rfl rfl hS0 ?_)|(refine bH rfl rfl ?_));simp only[Act.put,lsA,lsB,bC]))
       refine bM ?_
       clear c0 c1
       go_wp2
       go_roundw
       case rel=>exact⟨k+2,by go_num,by have:=HR.out;omega,ah (by rw[vH,HT.out,Pv HR.out.1 HQ.out,decide_eq_true HRR.out.1,decide_eq_true HRR.out.2,decide_eq_true HQR.out];rfl),HD.out⟩
       case measure=>simp[intOf];have:=HR.out;omega
  ·obtain rfl:k=n:=by omega
   have HS:=ah hS
   have HTT:Hid (rv=true):=ah (by rw[dP.out.1];exact HT.out)
   clear hS H
   go_wp2
   go_ret
   exact⟨by rw[HTT.out];rfl,HS.out⟩
set_option maxRecDepth 100000 in
set_option maxHeartbeats 4000000 in
theorem kV {W w:World} {A:aG} {I:Mem} (a:Option Addr) (n c:Nat) (l:List Cl) (hv:(oz.slice 5).rel I [.slice a n c] l) (hB:∀x∈l,x.body.size≤pq) (h:Sat W w (sep (kn I) A)):
 Calls Tryz.prog 137 #[.slice a n c] w fun e w'=>e=.returned (.int .i64 (Cj l))∧Sat W w' (sep (kn I) A):=by
 have hn:=(aU hv).1
 have hl63:=(aU hv).2.2
 obtain⟨rv,fQ⟩:=aC (Cj l)
 rw[←fQ]
 have dP:Hid (rv=(if 32<n then 4 else zI 0 l)∧n=l.length):=ah ⟨by rw[fQ,hn];rfl,hn⟩
 have HV:=ah hv
 have tX:=ah hB
 have H:=ah h
 clear hv h fQ hn hB
 by_cases h32:32<n
 ·have Yw:(32:Int)<(n:Int):=by omega
  have HF:Hid (rv=4):=ah (by rw[dP.out.1,if_pos h32])
  clear h32
  go_enter Tryz.func137,Tryz.ntmps137
  go_wp2
  go_ret
  exact⟨by rw[HF.out];rfl,H.out⟩
 ·have Yw:¬(32:Int)<(n:Int):=by omega
  have HG:Hid (rv=zI 0 l):=ah (by rw[dP.out.1,if_neg h32])
  have ajd:(n:Int)≤32:=by omega
  clear h32
  go_enter Tryz.func137,Tryz.ntmps137
  go_upto_region 3 with (fail)
  clear Yw
  go_wp2
  go_loopw [3] (fun iv wr=>∃k:Nat,iv=.int .i64 k∧k≤n∧Hid (rv=zI k (l.drop k))∧Sat W wr (sep (kn I) A)) (fun iv _=>n-(intOf iv).toNat)
  case atStart=>exact⟨0,rfl,by omega,HG,H.out⟩
  case round=>
   obtain⟨k,rfl,hk,HT,hS⟩:=hrel
   by_cases hlt:k<n
   ·have hltz:(k:Int)<(n:Int):=by omega
    have hkl:k<l.length:=by have:=dP.out.2;omega
    obtain⟨x,hx⟩:∃x,l[k]?=some x:=⟨_,List.getElem?_eq_getElem hkl⟩
    obtain⟨b,o,ra,rc,p,q,x1,n1,c1,x2,n2,c2,rfl,hrr,hrb,hcell⟩:=Ia HV.out hx
    obtain⟨k0,k1,k2,k3,k4⟩:=hcell wr hS.ext
    have hT:=HT.out
    rw[QZ hx] at hT
    obtain⟨nr,hnr⟩:=aC (x.refs.length)
    obtain⟨rf,hrf⟩:=aC (qE x.refs k)
    obtain⟨be,hbe⟩:=aC (qO x.body)
    have hrs:=Ib ra rc x.refs k hrr hS
    rw[←hrf,←hnr] at hrs
    have HRF:=ah hrs
    have hvs:∀w' A',Sat W w' (sep (kn I) A')→Calls Tryz.prog 135 #[.agg #[.int .i64 p,.int .i64 q,.slice x1 n1 c1,.slice x2 n2 c2]] w' fun e w''=>e=.returned (.int .i64 be)∧Sat W w'' (sep (kn I) A'):=fun w' A' h'=>by
     rw[hbe];exact jD x.body p q x1 n1 c1 x2 n2 c2 hrb (tX.out x (List.mem_of_getElem? hx)) h'
    have Ic:=ah hvs
    have HC:=ah hcell
    have ae5:=(aU hrr).2.2
    rw[←hnr] at hT k0 ae5
    rw[←hrf,←hbe] at hT
    have HT2:=ah hT
    have HK:=ah hlt
    have HS0:=ah hS
    clear hx hrr hrb hcell hT hnr hrf hbe hrs hvs hS hlt hkl hk H HT HG
    by_cases h8:8<nr
    ·have h8z:(8:Int)<(nr:Int):=by omega
     have HF:Hid (rv=4):=ah (by rw[HT2.out,if_pos h8])
     clear h8
     go_wp2
     go_ret
     exact⟨by rw[HF.out];rfl,HS0.out⟩
    ·have h8z:¬(8:Int)<(nr:Int):=by omega
     have HT3:Hid (rv=if rf=false then 1 else if be≠0 then be else zI (k+1) (l.drop (k+1))):=ah (by rw[HT2.out,if_neg h8])
     clear h8 HT2
     go_wp2_with fail
     refine HRF.out.mono ?_
     rintro e w2 ⟨rfl,h2⟩
     have H2:=ah h2
     clear h2 HRF k0 k1 k2 k3 k4 h8z
     obtain⟨k0,k1,k2,k3,k4⟩:=HC.out w2 H2.out.ext
     cases rf with
     | false=>
      have HF:Hid (rv=1):=ah (by rw[HT3.out];rfl)
      go_wp2
      go_ret
      exact⟨by rw[HF.out];rfl,H2.out⟩
     | true=>
      go_wp2_with fail
      refine (Ic.out _ _ H2.out).mono ?_
      rintro e w3 ⟨rfl,h3⟩
      have H3:=ah h3
      clear h3 H2 Ic k0 k1 k2 k3 k4
      by_cases hb0:be=0
      ·have HF:Hid (rv=zI (k+1) (l.drop (k+1))):=ah (by rw[HT3.out];simp[hb0])
       subst hb0
       go_wp2
       go_roundw
       case rel=>exact⟨k+1,by go_num,by have:=HK.out;omega,HF,H3.out⟩
       case measure=>simp[intOf];have:=HK.out;omega
      ·have HF:Hid (rv=be):=ah (by rw[HT3.out];simp[hb0])
       have hb1:(be !=0)=true:=by simpa using hb0
       have hb2:(be==0)=false:=by simpa using hb0
       clear hb0
       go_wp2
       go_ret
       exact⟨by rw[HF.out];rfl,H3.out⟩
   ·obtain rfl:k=n:=by omega
    have HF:Hid (rv=0):=ah (by
     have:=HT.out
     rw[List.drop_of_length_le (by have:=dP.out.2;omega)] at this
     exact this)
    have HS:=ah hS
    clear hS H
    go_wp2
    go_ret
    exact⟨by rw[HF.out];rfl,HS.out⟩
end Go.Proofs.YtgicfogmdfdjmaaGreatDoor
namespace PA
open Go Go.RowKit
def qM (b:Bool):Int:=if b=true then 1 else 0
def dR (x:Iv):List Int:=[x.ln,x.ld,x.hn,x.hd,qM x.lo,qM x.ho,qM x.li,qM x.hi]
def Oh (n:Int):Prop:=-9223372036854775808≤n∧n≤9223372036854775807
theorem Ag (b:Bool):Oh (qM b):=by cases b<;>exact⟨by decide,by decide⟩
end PA
namespace Go.Proofs.YtgicfogmdfdjmaaGreatDoor
open Go.RowKit PA
theorem og (b:Bool) (w:World):Calls Tryz.prog 181 #[.bool b] w fun e w'=>e=.returned (.int .i64 (qM b))∧w=w':=by
 cases b with
 | false=>
  go_enter Tryz.func181,Tryz.ntmps181
  go_wp2
  go_ret
  exact⟨rfl,rfl⟩
 | true=>
  go_enter Tryz.func181,Tryz.ntmps181
  go_wp2
  go_ret
  exact⟨rfl,rfl⟩
theorem su:(Tryz.prog.info? 3).map (fun i=>(i.zero,i.size,i.bytes))=some (some (.int .i64 0),1,8):=by kernel_rfl
def KR (n:Nat) (p:Array (Nat×Value)):Sem Value:=Instr.buildSlice 22 n p
theorem nI (n:Nat) (p:Array (Nat×Value)):Instr.buildSlice 22 n p=KR n p:=rfl
theorem VH (w:World) (a b c d e f g h:Int):(KR 8 #[(0,.int .i64 a),(1,.int .i64 b),(2,.int .i64 c),(3,.int .i64 d),(4,.int .i64 e),(5,.int .i64 f),(6,.int .i64 g),(7,.int .i64 h)]).run Tryz.prog w=.ok (.slice (some ⟨w.heap.size,0,none⟩) 8 8) (w.alloc (.cells #[.int .i64 a,.int .i64 b,.int .i64 c,.int .i64 d,.int .i64 e,.int .i64 f,.int .i64 g,.int .i64 h] 3)):=by
 obtain⟨i,h1,h2,h3,h4⟩:=info_parts su
 exact run_buildSlice w 22 3 8 _ _ i _ Tryz.underlying22 h1 h2 (by rw[h3];omega) (by rw[h3];omega) (by rw[h3];kernel_rfl)
attribute [local go_sem ↓] nI
set_option maxHeartbeats 2000000 in
theorem Dk {W w:World} {A:aG} (x:Iv) (h64:∀r∈dR x,-9223372036854775808≤r∧r≤9223372036854775807) (h:Sat W w A):
 Calls Tryz.prog 166 #[.agg (WO x)] w fun e w'=>∃a c,e=.returned (.slice a (gZ (dR x)).length c)∧Sat W w' (sep (aK 5 1 a (gZ (dR x)).length c ((gZ (dR x)).map bv)) A):=by
 obtain⟨E,hE⟩:=aC (gZ (dR x))
 rw[←hE]
 obtain⟨ln,ld,hn,hd,lo,ho,li,hi⟩:=x
 have h1:=h.alloc (.cells #[.int .i64 ln,.int .i64 ld,.int .i64 hn,.int .i64 hd,.bool lo,.bool ho,.bool li,.bool hi] 144)
 obtain⟨B,hB⟩:=aC (w.heap.size)
 obtain⟨w1,hw1⟩:=aC (w.alloc (.cells #[.int .i64 ln,.int .i64 ld,.int .i64 hn,.int .i64 hd,.bool lo,.bool ho,.bool li,.bool hi] 144))
 rw[←hB,←hw1] at h1
 have HB:=ah (And.intro hB hw1)
 have h2:=h1.drew
 obtain⟨wd,hwd⟩:=aC (w1.drew)
 rw[←hwd] at h2
 have HW:=ah hwd
 have HE:=ah hE
 have H64:=ah h64
 have c0:wd.cell? ⟨B,0,none⟩=some (.int .i64 ln):=by rw[h2.cell 0];rfl
 have c1:wd.cell? ⟨B,1,none⟩=some (.int .i64 ld):=by rw[h2.cell 1];rfl
 have c2:wd.cell? ⟨B,2,none⟩=some (.int .i64 hn):=by rw[h2.cell 2];rfl
 have c3:wd.cell? ⟨B,3,none⟩=some (.int .i64 hd):=by rw[h2.cell 3];rfl
 have c4:wd.cell? ⟨B,4,none⟩=some (.bool lo):=by rw[h2.cell 4];rfl
 have c5:wd.cell? ⟨B,5,none⟩=some (.bool ho):=by rw[h2.cell 5];rfl
 have c6:wd.cell? ⟨B,6,none⟩=some (.bool li):=by rw[h2.cell 6];rfl
 have c7:wd.cell? ⟨B,7,none⟩=some (.bool hi):=by rw[h2.cell 7];rfl
 have H2:=ah h2.drop
 clear h h1 h2 hB hw1 hwd hE h64
 unfold WO
 go_enter Tryz.func166,Tryz.ntmps166
 go_upto_region 1 with (fail)
 rw[←HB.out.1,←HB.out.2]
 refine aA rfl (fun w'=>w'.cell? ⟨B,0,none⟩=some (.int .i64 ln)∧w'.cell? ⟨B,1,none⟩=some (.int .i64 ld)∧w'.cell? ⟨B,2,none⟩=some (.int .i64 hn)∧w'.cell? ⟨B,3,none⟩=some (.int .i64 hd)∧w'.cell? ⟨B,4,none⟩=some (.bool lo)∧w'.cell? ⟨B,5,none⟩=some (.bool ho)∧w'.cell? ⟨B,6,none⟩=some (.bool li)∧w'.cell? ⟨B,7,none⟩=some (.bool hi)) [(0,.p),(1,.p),(2,.s),(3,.p),(4,.p),(5,.s),(6,.p),(7,.p),(8,.s),(9,.p),(10,.p),(11,.s),(12,.p),(13,.t),(15,.p),(16,.s),(18,.p),(19,.s),(21,.p),(22,.s),(14,.e true),(17,.e true),(20,.e true),(23,.e true),(24,.e false),(25,.e false),(26,.p)] (by kernel_rfl) ?_
 rw[←HW.out]
 have hS0:=And.intro c0 (And.intro c1 (And.intro c2 (And.intro c3 (And.intro c4 (And.intro c5 (And.intro c6 c7))))))
 (repeat ((first|(refine eF (v:=?_) rfl rfl (fun w'=>?_) ?_;rotate_left;(go_simp;with_reducible rfl))|(refine eG (v:=?_) rfl rfl hS0 (fun w' hS=>?_) ?_;rotate_left;((try dsimp only at hS);go_simp;with_reducible rfl))|(refine eH (v:=?_) rfl rfl ?_ ?_;rotate_left;(go_simp;with_reducible rfl))|(refine bD rfl rfl ?_)|(refine bG rfl rfl hS0 ?_)|(refine bH rfl rfl ?_));simp only[Act.put,lsA,lsB,bC]))
 (refine iQ rfl rfl (fun K hK=>?_);go_simp)
 refine (og _ _).mono ?_
 rintro e w2 ⟨rfl,rfl⟩
 (refine hK _ _ (fun _=>hS0) ?_;clear hK K;(try simp only[Act.put,lsA,lsB,bC]))
 (refine iQ rfl rfl (fun K hK=>?_);go_simp)
 refine (og _ _).mono ?_
 rintro e w2 ⟨rfl,rfl⟩
 (refine hK _ _ (fun _=>hS0) ?_;clear hK K;(try simp only[Act.put,lsA,lsB,bC]))
 (refine iQ rfl rfl (fun K hK=>?_);go_simp)
 refine (og _ _).mono ?_
 rintro e w2 ⟨rfl,rfl⟩
 (refine hK _ _ (fun _=>hS0) ?_;clear hK K;(try simp only[Act.put,lsA,lsB,bC]))
 (refine iQ rfl rfl (fun K hK=>?_);go_simp)
 refine (og _ _).mono ?_
 rintro e w2 ⟨rfl,rfl⟩
 (refine hK _ _ (fun _=>hS0) ?_;clear hK K;(try simp only[Act.put,lsA,lsB,bC]))
 have hbs:=VH wd ln ld hn hd (qM lo) (qM ho) (qM li) (qM hi)
 have hA:=H2.out.alloc (.cells #[.int .i64 ln,.int .i64 ld,.int .i64 hn,.int .i64 hd,.int .i64 (qM lo),.int .i64 (qM ho),.int .i64 (qM li),.int .i64 (qM hi)] 3)
 obtain⟨G,hG⟩:=aC (wd.heap.size)
 obtain⟨we,hwe⟩:=aC (wd.alloc (.cells #[.int .i64 ln,.int .i64 ld,.int .i64 hn,.int .i64 hd,.int .i64 (qM lo),.int .i64 (qM ho),.int .i64 (qM li),.int .i64 (qM hi)] 3))
 rw[←hG,←hwe] at hbs hA
 have hcall:=Dj (some ⟨G,0,none⟩) 8 8 (dR ⟨ln,ld,hn,hd,lo,ho,li,hi⟩) rfl (by simp[dR]) H64.out (fun w' B' hs k r hr=>⟨G,0,rfl,by
  have hc:=hs.p1.cell k
  rw[Nat.zero_add,hc]
  match k,hr with
  | 0,hr|1,hr|2,hr|3,hr|4,hr|5,hr|6,hr|7,hr=>simp[dR] at hr;subst hr;rfl
  | k+8,hr=>simp[dR] at hr⟩) hA
 rw[←HE.out] at hcall
 have HC:=ah hcall
 clear hA hcall hG hwe c0 c1 c2 c3 c4 c5 c6 c7 H2 hS0
 (refine iQ rfl rfl (fun K hK=>?_);go_simp)
 (refine hK _ _ (fun h=>by cases h) ?_;clear hK K;(try simp only[Act.put,lsA,lsB,bC]))
 (refine iQ rfl rfl (fun K hK=>?_);go_simp)
 refine HC.out.mono ?_
 rintro e w3 ⟨a,c,rfl,h3⟩
 have H3:=ah h3.p1.drop
 clear h3 HC
 (refine hK _ _ (fun h=>by cases h) ?_;clear hK K;(try simp only[Act.put,lsA,lsB,bC]))
 (repeat ((first|(refine eF (v:=?_) rfl rfl (fun w'=>?_) ?_;rotate_left;(go_simp;with_reducible rfl))|(refine eG (v:=?_) rfl rfl hS0 (fun w' hS=>?_) ?_;rotate_left;((try dsimp only at hS);go_simp;with_reducible rfl))|(refine eH (v:=?_) rfl rfl ?_ ?_;rotate_left;(go_simp;with_reducible rfl))|(refine bD rfl rfl ?_)|(refine bG rfl rfl hS0 ?_)|(refine bH rfl rfl ?_));simp only[Act.put,lsA,lsB,bC]))
 refine bM ?_
 go_wp2
 go_ret
 exact⟨a,c,rfl,H3.out⟩
end Go.Proofs.YtgicfogmdfdjmaaGreatDoor
namespace PA
open Go Go.RowKit
def iH (l:List Iv):List UInt8:=(l.map fun x=>gZ (dR x)).flatten
mutual
def dw:Fm→List UInt8
 | .mk o n i k=>PA.encI o++PA.encI n++PA.encI i.length++iH i++PA.encI k.length++fC k
def fC:List Fm→List UInt8
 | []=>[]
 | f::l=>dw f++fC l
end
theorem KT (l:List Fm) (f:Fm):fC (l++[f])=fC l++dw f:=by
 induction l with
 | nil=>simp[fC]
 | cons g l ih=>rw[List.cons_append,fC,fC,ih,List.append_assoc]
theorem KU {l:List Fm} {j:Nat} {g:Fm} (h:l[j]?=some g):fC (l.take (j+1))=fC (l.take j)++dw g:=by
 rw[List.take_add_one,h];exact KT _ _
theorem Rh (l:List Fm) (j:Nat):(fC (l.take j)).length≤(fC l).length:=by
 induction l generalizing j with
 | nil=>simp
 | cons g l ih=>
  cases j with
  | zero=>simp[fC]
  | succ j=>rw[List.take_succ_cons,fC,fC,dI,dI];have:=ih j;omega
theorem KW {l:List Iv} {j:Nat} {g:Iv} (h:l[j]?=some g):iH (l.take (j+1))=iH (l.take j)++gZ (dR g):=by
 unfold iH;rw[List.take_add_one,h];simp
theorem Ri (l:List Iv) (j:Nat):(iH (l.take j)).length≤(iH l).length:=by
 induction l generalizing j with
 | nil=>simp
 | cons g l ih=>
  cases j with
  | zero=>simp[iH]
  | succ j=>
   have:=ih j
   unfold iH at this ⊢
   rw[List.take_succ_cons,List.map_cons,List.map_cons,List.flatten_cons,List.flatten_cons,dI,dI];omega
mutual
def Fm.n64:Fm→Prop
 | .mk o n i k=>Oh o∧Oh n∧(∀x∈i,∀r∈PA.dR x,-9223372036854775808≤r∧r≤9223372036854775807)∧Fm.ED k
def Fm.ED:List Fm→Prop
 | []=>True
 | f::l=>Fm.n64 f∧Fm.ED l
end
theorem Fm.VI {l:List Fm} (h:Fm.ED l) {f:Fm} (hf:f∈l):Fm.n64 f:=by
 induction l with
 | nil=>cases hf
 | cons g l ih=>
  rw[Fm.ED] at h
  rcases List.mem_cons.1 hf with rfl|hf
  ·exact h.1
  ·exact ih h.2 hf
end PA
namespace Go.Proofs.YtgicfogmdfdjmaaGreatDoor
open Go.RowKit PA
theorem uvarint_pos (x:Nat):0<(Lib.uvarint x).length:=by
 rcases (show x<128∨128≤x by omega) with h|h
 ·rw[Lib.uvarint_small h];simp
 ·rw[Lib.uvarint_big h];simp
set_option maxHeartbeats 4000000 in
theorem uH {W:World} {I:Mem} (f:Fm):∀(w:World) (A:aG) (p q:Int) (x1:Option Addr) (n1 c1:Nat) (x2:Option Addr) (n2 c2:Nat),rF.rel I [.int .i64 p,.int .i64 q,.slice x1 n1 c1,.slice x2 n2 c2] f→f.n64→(dw f).length≤268435456→Sat W w (sep (kn I) A) →
 Calls Tryz.prog 136 #[.agg #[.int .i64 p,.int .i64 q,.slice x1 n1 c1,.slice x2 n2 c2]] w fun e w'=>∃a c,e=.returned (.slice a (dw f).length c)∧Sat W w' (sep (aK 5 1 a (dw f).length c ((dw f).map bv)) (sep (kn I) A)):=by
 refine Fm.ind (P:=fun f=>∀(w:World) (A:aG) (p q:Int) (x1:Option Addr) (n1 c1:Nat) (x2:Option Addr) (n2 c2:Nat),rF.rel I [.int .i64 p,.int .i64 q,.slice x1 n1 c1,.slice x2 n2 c2] f→f.n64→(dw f).length≤268435456→Sat W w (sep (kn I) A) →
  Calls Tryz.prog 136 #[.agg #[.int .i64 p,.int .i64 q,.slice x1 n1 c1,.slice x2 n2 c2]] w fun e w'=>∃a c,e=.returned (.slice a (dw f).length c)∧Sat W w' (sep (aK 5 1 a (dw f).length c ((dw f).map bv)) (sep (kn I) A))) (fun o n i k ih=>?_) f
 intro w A p q x1 n1 c1 x2 n2 c2 hr h64 hlen h
 obtain⟨x1',c1',x2',c2',e,hi,hk⟩:=ig.1 hr
 simp only[List.cons.injEq,Value.int.injEq,Value.slice.injEq,true_and,and_true] at e
 obtain⟨rfl,rfl,⟨rfl,rfl,rfl⟩,⟨rfl,rfl,rfl⟩⟩:=e
 rw[Fm.n64] at h64
 have h1:=h.alloc (.cells #[.int .i64 p,.int .i64 q,.slice x1 i.length c1,.slice x2 k.length c2] 65)
 obtain⟨B,hB⟩:=aC (w.heap.size)
 obtain⟨w1,hw1⟩:=aC (w.alloc (.cells #[.int .i64 p,.int .i64 q,.slice x1 i.length c1,.slice x2 k.length c2] 65))
 rw[←hB,←hw1] at h1
 have HB:=ah (And.intro hB hw1)
 have h2:=h1.drew
 obtain⟨wd,hwd⟩:=aC (w1.drew)
 rw[←hwd] at h2
 have HW:=ah hwd
 have yC:=(aU hk).2.2
 have aaP:=(aU hi).2.2
 have hin:i.length≤268435456:=by
  have key:∀l:List Iv,l.length≤(iH l).length:=by
   intro l
   induction l with
   | nil=>simp
   | cons g l ih=>
    unfold iH at ih ⊢
    rw[List.map_cons,List.flatten_cons,dI,List.length_cons]
    have:1≤(gZ (dR g)).length:=by
     unfold gZ;rw[dI]
     have:0<(Lib.uvarint (dR g).length).length:=List.length_pos_iff.2 (by rw[Lib.uvarint_small (by simp[dR])];simp)
     omega
    omega
  have:=key i
  rw[dw] at hlen
  simp only[dI] at hlen
  omega
 have hkn:k.length≤268435456:=by
  have key:∀l:List Fm,l.length≤(fC l).length:=by
   intro l
   induction l with
   | nil=>simp
   | cons g l ih=>
    rw[fC,dI,List.length_cons]
    have:1≤(dw g).length:=by
     obtain⟨a,b,c,d⟩:=g
     rw[dw];simp only[dI]
     have:0<(PA.encI a).length:=by unfold PA.encI;exact uvarint_pos _
     omega
    omega
  have:=key k
  rw[dw] at hlen
  simp only[dI] at hlen
  omega
 obtain⟨E,hE⟩:=aC (dw (.mk p q i k))
 rw[←hE] at hlen ⊢
 obtain⟨V,hV⟩:∃V:Nat→List UInt8,V=fun j=>PA.encI p++PA.encI q++PA.encI i.length++iH (i.take j):=⟨_,rfl⟩
 obtain⟨D,hD⟩:∃D:Nat→List UInt8,D=fun j=>PA.encI p++PA.encI q++PA.encI i.length++iH i++PA.encI k.length++fC (k.take j):=⟨_,rfl⟩
 have hV0:V 0=PA.encI p++PA.encI q++PA.encI i.length:=by rw[hV];simp[iH]
 have Sj:∀j g,i[j]?=some g→V (j+1)=V j++gZ (dR g):=fun j g hg=>by rw[hV];simp only;rw[KW hg];simp only[List.append_assoc]
 have hVd:D 0=V i.length++PA.encI k.length:=by rw[hD,hV];simp[fC]
 have hDs:∀j g,k[j]?=some g→D (j+1)=D j++dw g:=fun j g hg=>by rw[hD];simp only;rw[KU hg];simp only[List.append_assoc]
 have hDe:D k.length=E:=by rw[hD,hE,dw];simp
 have hEl:E.length=(PA.encI p).length+(PA.encI q).length+(PA.encI i.length).length+(iH i).length+(PA.encI k.length).length+(fC k).length:=by rw[hE,dw];simp only[dI]
 have VJ:∀j,(V j).length≤268435456:=fun j=>by rw[hV];simp only[dI];have:=Ri i j;omega
 have hDl:∀j,(D j).length≤268435456:=fun j=>by rw[hD];simp only[dI];have:=Rh k j;omega
 obtain⟨nk,hnk⟩:=aC (k.length)
 obtain⟨ni,hni⟩:=aC (i.length)
 rw[←hni] at hV0 hVd hi aaP hin h2
 rw[←hnk] at hVd hDe hk yC hkn h2
 simp only[←hni,←hnk] at HB ⊢
 obtain⟨X,hX⟩:=aC (sep (blk B (.cells #[.int .i64 p,.int .i64 q,.slice x1 ni c1,.slice x2 nk c2] 65 (0,0))) (sep (kn I) A))
 have HX:=ah hX
 have HC:Hid (∀w' Y,Sat W w' (sep Y X)→w'.cell? ⟨B,0,none⟩=some (.int .i64 p)∧w'.cell? ⟨B,1,none⟩=some (.int .i64 q)∧w'.cell? ⟨B,2,none⟩=some (.slice x1 ni c1)∧w'.cell? ⟨B,3,none⟩=some (.slice x2 nk c2)):=ah fun w' Y h'=>by rw[hX] at h';exact Et h'.drop
 obtain⟨c0,c1',-,-⟩:=Et h2
 rw[←hX] at h2
 have Md:Hid (∀w' Y,Sat W w' (sep Y X)→Ext I w'):=ah fun w' Y h'=>by rw[hX] at h';exact h'.drop.p1.ext
 obtain⟨Z,hZ⟩:=aC (sep (blk B (.cells #[.int .i64 p,.int .i64 q,.slice x1 ni c1,.slice x2 nk c2] 65 (0,0))) A)
 have HPM:Hid ((∀w' Y,Sat W w' (sep Y X)→Sat W w' (sep (kn I) (sep Y Z)))∧(∀w' O Y,Sat W w' (sep O (sep (kn I) (sep Y Z)))→Sat W w' (sep O (sep Y X)))∧(∀w' Y,Sat W w' (sep Y X)→Sat W w' (sep Y (sep (kn I) A)))):=ah ⟨fun w' Y h'=>by rw[hX] at h';rw[hZ];simpa only[ay,au,aj] using h',fun w' O Y h'=>by rw[hZ] at h';rw[hX];simpa only[ay,au,aj] using h',fun w' Y h'=>by rw[hX] at h';exact Sat.drop (by simpa only[ay,au,aj] using h':Sat W w' (sep (blk B (.cells #[.int .i64 p,.int .i64 q,.slice x1 ni c1,.slice x2 nk c2] 65 (0,0))) (sep Y (sep (kn I) A))))⟩
 have H2:=ah h2
 have HP:=ah h64
 have HIH:=ah ih
 have HI:=ah hi
 have HK:=ah hk
 have HN:=ah (And.intro hnk hni)
 have qL:=ah (And.intro hkn hin)
 have HV:=ah (And.intro hV0 (And.intro Sj (And.intro hVd (And.intro hDs hDe))))
 have HL:=ah (And.intro VJ hDl)
 obtain⟨Po,iU⟩:∃P:Ending→World→Prop,P=fun e w'=>∃a c,e=.returned (.slice a E.length c)∧Sat W w' (sep (aK 5 1 a E.length c (E.map bv)) (sep (kn I) A)):=⟨_,rfl⟩
 rw[←iU]
 have dZ:=ah iU
 clear hr h64 hlen h hi hk h1 h2 hB hw1 hwd hin hkn hE hV hD hV0 Sj hVd hDs hDe hEl VJ hDl hnk hni hX ih iU
 go_enter Tryz.func136,Tryz.ntmps136
 go_upto_region 1 with (fail)
 rw[←HB.out.1,←HB.out.2]
 refine aA rfl (fun w'=>w'.cell? ⟨B,1,none⟩=some (.int .i64 q)) [(0,.p),(1,.t),(3,.p),(4,.s),(2,.e true),(5,.e false),(6,.e false),(7,.p)] (by kernel_rfl) ?_
 rw[←HW.out]
 have hS0:wd.cell? ⟨B,1,none⟩=some (.int .i64 q):=c1'
 (repeat ((first|(refine eF (v:=?_) rfl rfl (fun w'=>?_) ?_;rotate_left;(go_simp;with_reducible rfl))|(refine eG (v:=?_) rfl rfl hS0 (fun w' hS=>?_) ?_;rotate_left;((try dsimp only at hS);go_simp;with_reducible rfl))|(refine eH (v:=?_) rfl rfl ?_ ?_;rotate_left;(go_simp;with_reducible rfl))|(refine bD rfl rfl ?_)|(refine bG rfl rfl hS0 ?_)|(refine bH rfl rfl ?_));simp only[Act.put,lsA,lsB,bC]))
 (refine iQ rfl rfl (fun K hK=>?_);go_simp)
 refine (iy p HP.out.1.1 HP.out.1.2 H2.out).mono ?_
 rintro e w2 ⟨a1,d1,rfl,h3⟩
 have hS0:=(HC.out _ _ h3).2.1
 (refine hK _ _ (fun _=>hS0) ?_;clear hK K;(try simp only[Act.put,lsA,lsB,bC]))
 obtain⟨m1,hm1⟩:=aC ((PA.encI p).length)
 obtain⟨v1,hv1⟩:=aC ((PA.encI p).map bv)
 have hb1:=jX HP.out.1.1 HP.out.1.2
 have hb2:=jX HP.out.2.1.1 HP.out.2.1.2
 rw[←hm1,←hv1] at h3
 rw[←hm1] at hb1 ⊢
 have H3:=ah h3
 have HM1:=ah (And.intro hm1 hv1)
 clear h3 hm1 hv1 c0 c1' H2
 (refine iQ rfl rfl (fun K hK=>?_);go_simp)
 refine (iy q HP.out.2.1.1 HP.out.2.1.2 H3.out).mono ?_
 rintro e w3 ⟨a2,d2,rfl,h4⟩
 have ku:=ah (jh h4)
 have h5:=h4.drop
 obtain⟨m2,hm2⟩:=aC ((PA.encI q).length)
 obtain⟨v2,hv2⟩:=aC ((PA.encI q).map bv)
 rw[←hm2,←hv2] at ku
 rw[←hm2] at hb2 ⊢
 have qF:=ah (And.intro hm2 hv2)
 clear h4 hm2 hv2 H3 hS0
 (refine hK _ _ (fun h=>by cases h) ?_;clear hK K;(try simp only[Act.put,lsA,lsB,bC]))
 refine iQ rfl rfl (fun K hK=>?_)
 refine fO (.tmp 8) (.tmp 11) 129 rfl 5 1 1 (.int .u8 0) Tryz.underlying129 fJ rfl rfl h5 rfl v2 ku.out.len ku.out.nil ku.out.src ku.out.one (by omega) (by unfold maxLen;omega) ?_
 intro a3 d3 w4 h6
 clear ku h5
 have H6:=ah h6
 have hmm:m1+m2≤20:=by omega
 clear h6 hb1 hb2
 (refine hK _ _ (fun h=>by cases h) ?_;clear hK K;(try simp only[Act.put,lsA,lsB,bC]))
 (repeat ((first|(refine eF (v:=?_) rfl rfl (fun w'=>?_) ?_;rotate_left;(go_simp;with_reducible rfl))|(refine eG (v:=?_) rfl rfl hS0 (fun w' hS=>?_) ?_;rotate_left;((try dsimp only at hS);go_simp;with_reducible rfl))|(refine eH (v:=?_) rfl rfl ?_ ?_;rotate_left;(go_simp;with_reducible rfl))|(refine bD rfl rfl ?_)|(refine bG rfl rfl hS0 ?_)|(refine bH rfl rfl ?_));simp only[Act.put,lsA,lsB,bC]))
 refine bM ?_
 obtain⟨-,-,c2,-⟩:=HC.out _ _ H6.out
 go_upto_region 2 with (fail)
 go_wp2_with fail
 refine (iy (ni:Int) (by have:=qL.out;omega) (by have:=qL.out;omega) H6.out).mono ?_
 rintro e w5 ⟨a4,d4,rfl,h7⟩
 have ku:=ah (jh h7)
 have h8:=h7.drop
 have hb4:=jX (r:=(ni:Int)) (by have:=qL.out;omega) (by have:=qL.out;omega)
 obtain⟨m4,hm4⟩:=aC ((PA.encI ni).length)
 obtain⟨v4,hv4⟩:=aC ((PA.encI ni).map bv)
 rw[←hm4,←hv4] at ku
 rw[←hm4] at hb4 ⊢
 have HM4:=ah (And.intro hm4 hv4)
 clear h7 hm4 hv4 H6 c2
 go_wp2_with (at_builtin;(refine aJ rfl (.tmp 13) (.tmp 17) 129 rfl 5 1 1 (.int .u8 0) Tryz.underlying129 fJ rfl rfl h8 rfl v4 ku.out.len ku.out.nil ku.out.src ku.out.one (by omega) (by unfold maxLen;omega) ?_))
 intro a5 d5 w6 h9
 have H9:=ah h9
 clear h8 h9 ku
 have hEV:m1+m2+m4=(V 0).length∧v1++(v2++v4)=(V 0).map bv:=by
  rw[HV.out.1,HM1.out.1,HM1.out.2,qF.out.1,qF.out.2,HM4.out.1,HM4.out.2]
  exact⟨by simp only[dI],by simp only[lS,List.append_assoc]⟩
 have HEV:=ah hEV
 clear hEV hmm hb4
 go_wp2_with fail
 go_loopw [3,4] (fun ov kv wr=>∃(k:Nat) (a':Option Addr) (n' c':Nat) (vs:List Value),ov=.slice a' n' c'∧kv=.int .i64 k∧k≤ni∧Hid (n'=(V k).length∧vs=(V k).map bv)∧Sat W wr (sep (aK 5 1 a' n' c' vs) X)) (fun _ kv _=>ni-(intOf kv).toNat)
 case atStart=>exact⟨0,a5,_,d5,_,rfl,rfl,by omega,HEV,H9.out⟩
 case round=>
  obtain⟨j,a',n',c',vs',rfl,rfl,hj,HVV,hS⟩:=hrel
  clear H9
  obtain⟨-,-,c2,-⟩:=HC.out _ _ hS
  by_cases hlt:j<ni
  ·have hltz:(j:Int)<(ni:Int):=by omega
   obtain⟨g,hg⟩:∃g,i[j]?=some g:=⟨_,List.getElem?_eq_getElem (by have:=HN.out;omega)⟩
   obtain⟨b,o,rfl,hcell⟩:=Hw HI.out hg
   obtain⟨k0,k1,k2,k3,k4,k5,k6,k7⟩:=hcell wr (Md.out _ _ hS)
   have hcall:=Dk g (fun r hr=>HP.out.2.2.1 g (List.mem_of_getElem? hg) r hr) hS
   have hb2:(gZ (dR g)).length≤90:=by
    have:=Iu (l:=dR g) (by simp[dR]) (fun r hr=>HP.out.2.2.1 g (List.mem_of_getElem? hg) r hr) (dR g).length
    rw[Di] at this;simp[dR] at this ⊢;omega
   obtain⟨m2',hm2⟩:=aC ((gZ (dR g)).length)
   obtain⟨us,hus⟩:=aC ((gZ (dR g)).map bv)
   rw[←hm2,←hus] at hcall
   rw[←hm2] at hb2
   unfold WO at hcall
   have RZ:=ah hcall
   have hnb:n'≤268435456:=by rw[HVV.out.1];exact HL.out.1 j
   have HB2:=ah (And.intro hnb hb2)
   have oU:Hid (V (j+1)=V j++gZ (dR g)∧j<ni):=ah ⟨HV.out.2.1 j g hg,hlt⟩
   have HU:=ah (And.intro hm2 hus)
   clear hg hcell hcall hb2 hnb hm2 hus hlt hj hS
   go_upto_region 6 with (fail)
   go_wp2_with fail
   refine RZ.out.mono ?_
   rintro e w3 ⟨a2',c2',rfl,h3⟩
   clear RZ k0 k1 k2 k3 k4 k5 k6 k7 c2
   have ku:Hid (nZ w3 a2' m2' us):=ah (by rw[HU.out.2,HU.out.1] at h3 ⊢;exact jh h3)
   have h4:=h3.drop
   clear h3
   go_wp2_with (at_builtin;(refine aJ rfl (.tmp 26) (.tmp 32) 129 rfl 5 1 1 (.int .u8 0) Tryz.underlying129 fJ rfl rfl h4 rfl us ku.out.len ku.out.nil ku.out.src ku.out.one (by have:=HB2.out;omega) (by have:=HB2.out;unfold maxLen;omega) ?_))
   intro a4' c4' w5' h5
   have H5:=ah h5
   clear h4 h5 ku
   go_wp2_with fail
   go_roundw
   case rel=>
    refine⟨j+1,a4',n'+m2',c4',_,rfl,by go_num,by have:=oU.out.2;omega,ah ⟨?_,?_⟩,H5.out⟩
    ·rw[oU.out.1,dI,HVV.out.1,HU.out.1]
    ·rw[oU.out.1,lS,HVV.out.2,HU.out.2]
   case measure=>simp[intOf];have:=oU.out.2;omega
  ·obtain rfl:j=ni:=by omega
   have HS:=ah hS
   obtain⟨-,-,-,c3⟩:=HC.out _ _ hS
   have hnb:n'≤268435456:=by rw[HVV.out.1];exact HL.out.1 j
   clear hS hlt hj
   go_upto_region 7 with (fail)
   go_wp2_with fail
   refine (iy (nk:Int) (by have:=qL.out;omega) (by have:=qL.out;omega) HS.out).mono ?_
   rintro e w3 ⟨a2',c2',rfl,h3⟩
   have ku:=ah (jh h3)
   have h4:=h3.drop
   have hb5:=jX (r:=(nk:Int)) (by have:=qL.out;omega) (by have:=qL.out;omega)
   obtain⟨m5,hm5⟩:=aC ((PA.encI nk).length)
   obtain⟨v5,hv5⟩:=aC ((PA.encI nk).map bv)
   rw[←hm5,←hv5] at ku
   rw[←hm5] at hb5 ⊢
   have HM5:=ah (And.intro hm5 hv5)
   clear h3 hm5 hv5 HS c2 c3
   go_wp2_with (at_builtin;(refine aJ rfl (.tmp 34) (.tmp 38) 129 rfl 5 1 1 (.int .u8 0) Tryz.underlying129 fJ rfl rfl h4 rfl v5 ku.out.len ku.out.nil ku.out.src ku.out.one (by omega) (by unfold maxLen;omega) ?_))
   intro a6 d6 w7 h10
   have nO:=ah h10
   have HED:Hid (n'+m5=(D 0).length∧vs'++v5=(D 0).map bv):=ah (by
    rw[HV.out.2.2.1,HVV.out.1,HVV.out.2,HM5.out.1,HM5.out.2,dI,lS]
    exact⟨rfl,rfl⟩)
   clear h4 h10 ku hb5 hnb
   go_wp2_with fail
   go_loopw [3,5] (fun ov kv wr=>∃(k:Nat) (a':Option Addr) (n' c':Nat) (vs:List Value),ov=.slice a' n' c'∧kv=.int .i64 k∧k≤nk∧Hid (n'=(D k).length∧vs=(D k).map bv)∧Sat W wr (sep (aK 5 1 a' n' c' vs) X)) (fun _ kv _=>nk-(intOf kv).toNat)
   case atStart=>exact⟨0,a6,_,d6,_,rfl,rfl,by omega,HED,nO.out⟩
   case round=>
    obtain⟨t,a'',n'',c'',vs'',rfl,rfl,hj,Y7,hS⟩:=hrel
    clear nO
    obtain⟨-,-,-,c3⟩:=HC.out _ _ hS
    by_cases hlt:t<nk
    ·have hltz:(t:Int)<(nk:Int):=by omega
     obtain⟨g,hg⟩:∃g,k[t]?=some g:=⟨_,List.getElem?_eq_getElem (by have:=HN.out;omega)⟩
     obtain⟨b,o,p',q',y1,e1,d1,y2,e2,d2,rfl,hgr,hcell⟩:=kU HK.out hg
     have hmem:g∈k:=List.mem_of_getElem? hg
     obtain⟨j0,j1,j2,j3⟩:=hcell wr (Md.out _ _ hS)
     have hlg:(dw g).length≤268435456:=by
      have h1:=HV.out.2.2.2.1 t g hg
      have h2:=HL.out.2 (t+1)
      rw[h1,dI] at h2;omega
     have hcall:=HIH.out g hmem wr _ p' q' y1 e1 d1 y2 e2 d2 hgr (Fm.VI HP.out.2.2.2 hmem) hlg (HPM.out.1 _ _ hS)
     obtain⟨m6,hm6⟩:=aC ((dw g).length)
     obtain⟨us,hus⟩:=aC ((dw g).map bv)
     have HU:=ah (And.intro hm6 hus)
     rw[←hm6,←hus] at hcall
     rw[←hm6] at hlg
     have RZ:=ah hcall
     have hnb:n''≤268435456:=by rw[Y7.out.1];exact HL.out.2 t
     have HB2:=ah (And.intro hnb hlg)
     have oU:Hid (D (t+1)=D t++dw g∧t<nk):=ah ⟨HV.out.2.2.2.1 t g hg,hlt⟩
     clear hgr hcell hmem hlg hcall hg hS hlt hj hnb hm6 hus
     go_upto_region 11 with (fail)
     go_wp2_with fail
     refine RZ.out.mono ?_
     rintro e w3' ⟨a7,d7,rfl,h11⟩
     clear RZ j0 j1 j2 j3 c3
     have ku:Hid (nZ w3' a7 m6 us):=ah (by rw[HU.out.2,HU.out.1] at h11 ⊢;exact jh h11)
     have h12:=(HPM.out.2.1 _ _ _ h11).drop
     clear h11
     go_wp2_with (at_builtin;(refine aJ rfl (.tmp 47) (.tmp 53) 129 rfl 5 1 1 (.int .u8 0) Tryz.underlying129 fJ rfl rfl h12 rfl us ku.out.len ku.out.nil ku.out.src ku.out.one (by have:=HB2.out;omega) (by have:=HB2.out;unfold maxLen;omega) ?_))
     intro a8 d8 w8 h13
     have RX:=ah h13
     clear h12 h13 ku
     go_wp2_with fail
     go_roundw
     case rel=>
      refine⟨t+1,a8,n''+m6,d8,_,rfl,by go_num,by have:=oU.out.2;omega,ah ⟨?_,?_⟩,RX.out⟩
      ·rw[oU.out.1,dI,Y7.out.1,HU.out.1]
      ·rw[oU.out.1,lS,Y7.out.2,HU.out.2]
     case measure=>simp[intOf];have:=oU.out.2;omega
    ·obtain rfl:t=nk:=by omega
     have HF:Hid (n''=E.length∧vs''=E.map bv):=ah (by
      have:=HV.out.2.2.2.2
      rw[←this];exact Y7.out)
     have HS:=ah (HPM.out.2.2 _ _ hS)
     clear hS Y7 hlt hj
     go_wp2
     rw[dZ.out]
     exact⟨a'',c'',by rw[←HF.out.1];try rfl,by rw[←HF.out.1,←HF.out.2];exact HS.out⟩
end Go.Proofs.YtgicfogmdfdjmaaGreatDoor
namespace PA
open Go Go.RowKit
def lF (f:Fm):List UInt8:=if qO f=0 then dw f else []
theorem iI {I J:Mem} {w:World} (hl:Mem.le I J) (h:Ext J w):Ext I w:=fun b o hb=>h b o (hl b o hb)
theorem qg (I:Mem):fB.rel I [.slice none 0 0] []:=
 xK.2 ⟨none,0,rfl,⟨Nat.le_refl _,Nat.zero_le _,fun _=>rfl⟩,.inl rfl⟩
end PA
namespace Go.Proofs.YtgicfogmdfdjmaaGreatDoor
open Go.RowKit PA
theorem kM {W w:World} {A:aG} {I:Mem} {a:Option Addr} {l c:Nat} {gb:List UInt8} (h:Sat W w (sep (aK 5 1 a l c (gb.map bv)) (sep (kn I) A))) (hl:l=gb.length):∃J,Mem.le I J∧fB.rel J [.slice a l c] gb∧Sat W w (sep (kn J) A):=by
 subst hl
 exact h.Hu.2.learn
set_option maxHeartbeats 2000000 in
theorem sD {W w:World} {A:aG} {I:Mem} (f:Fm) (p q:Int) (x1:Option Addr) (n1 c1:Nat) (x2:Option Addr) (n2 c2:Nat) (hr:rF.rel I [.int .i64 p,.int .i64 q,.slice x1 n1 c1,.slice x2 n2 c2] f) (hsz:f.size≤pq) (h64:f.n64) (hlen:(dw f).length≤268435456) (h:Sat W w (sep (kn I) A)):
 Calls Tryz.prog 96 #[.agg #[.int .i64 p,.int .i64 q,.slice x1 n1 c1,.slice x2 n2 c2]] w fun e w'=>∃(a:Option Addr) (n c:Nat) (J:Mem),e=.returned (.tuple #[.slice a n c,.int .i64 (qO f)])∧Mem.le I J∧fB.rel J [.slice a n c] (lF f)∧Sat W w' (sep (kn J) A):=by
 have h1:=h.alloc (.cells #[.int .i64 p,.int .i64 q,.slice x1 n1 c1,.slice x2 n2 c2] 65)
 obtain⟨B,hB⟩:=aC (w.heap.size)
 obtain⟨w1,hw1⟩:=aC (w.alloc (.cells #[.int .i64 p,.int .i64 q,.slice x1 n1 c1,.slice x2 n2 c2] 65))
 rw[←hB,←hw1] at h1
 obtain⟨k0,k1,k2,k3⟩:=Et h1
 have HB:=ah (And.intro hB hw1)
 have H1:=ah h1
 obtain⟨rv,fQ⟩:=aC (qO f)
 obtain⟨E,hE⟩:=aC (lF f)
 have Ic:Hid (∀w' A',Sat W w' (sep (kn I) A')→Calls Tryz.prog 135 #[.agg #[.int .i64 p,.int .i64 q,.slice x1 n1 c1,.slice x2 n2 c2]] w' fun e w''=>e=.returned (.int .i64 rv)∧Sat W w'' (sep (kn I) A')):=ah fun w' A' h'=>by rw[fQ];exact jD f p q x1 n1 c1 x2 n2 c2 hr hsz h'
 have VK:Hid (rv=0→∀w' A',Sat W w' (sep (kn I) A')→Calls Tryz.prog 136 #[.agg #[.int .i64 p,.int .i64 q,.slice x1 n1 c1,.slice x2 n2 c2]] w' fun e w''=>∃(a:Option Addr) (n c:Nat) (J:Mem),e=.returned (.slice a n c)∧Mem.le I J∧fB.rel J [.slice a n c] E∧Sat W w'' (sep (kn J) A')):=ah fun h0 w' A' h'=>by
  refine (uH f w' A' p q x1 n1 c1 x2 n2 c2 hr h64 hlen h').mono ?_
  rintro e w'' ⟨a,c,rfl,h3⟩
  obtain⟨J,hle,hr',h4⟩:=kM h3 rfl
  refine⟨a,_,c,J,rfl,hle,?_,h4⟩
  rw[hE];unfold lF;rw[if_pos (by rw[←fQ];exact h0)];exact hr'
 have yR:Hid (rv≠0→E=[]):=ah fun h0=>by rw[hE];unfold lF;rw[if_neg (by rw[←fQ];exact h0)]
 rw[←fQ,←hE]
 obtain⟨Po,iU⟩:∃P:Ending→World→Prop,P=fun e w'=>∃(a:Option Addr) (n c:Nat) (J:Mem),e=.returned (.tuple #[.slice a n c,.int .i64 rv])∧Mem.le I J∧fB.rel J [.slice a n c] E∧Sat W w' (sep (kn J) A):=⟨_,rfl⟩
 rw[←iU]
 have dZ:=ah iU
 clear hr hsz h64 hlen h h1 hB hw1 fQ hE iU
 by_cases hb0:rv=0
 ·subst hb0
  have pF:=ah (VK.out rfl)
  clear VK yR
  go_enter Tryz.func96,Tryz.ntmps96
  go_upto_region 1 with (fail)
  rw[←HB.out.1,←HB.out.2]
  go_wp2_with fail
  refine (Ic.out _ _ H1.out.p1).mono ?_
  rintro e w2 ⟨rfl,h2⟩
  have H2:=ah h2.p1
  clear h2 Ic k0 k1 k2 k3
  obtain⟨k0,k1,k2,k3⟩:=Et H2.out
  go_wp2_with fail
  refine (pF.out _ _ H2.out.p1).mono ?_
  rintro e w3 ⟨a,n,c,J,rfl,hle,hr,h3⟩
  have HF:=ah (And.intro hle (And.intro hr h3.p1.drop))
  clear h3 hle hr k0 k1 k2 k3 pF
  go_wp2
  rw[dZ.out]
  exact⟨a,n,c,J,rfl,HF.out.1,HF.out.2.1,HF.out.2.2⟩
 ·have VL:=ah (yR.out hb0)
  have hb1:(rv !=0)=true:=by simpa using hb0
  have hb2:(rv==0)=false:=by simpa using hb0
  clear VK yR hb0
  go_enter Tryz.func96,Tryz.ntmps96
  go_upto_region 1 with (fail)
  rw[←HB.out.1,←HB.out.2]
  go_wp2_with fail
  refine (Ic.out _ _ H1.out.p1).mono ?_
  rintro e w2 ⟨rfl,h2⟩
  have HF:=ah h2.p1.drop
  clear h2 Ic k0 k1 k2 k3
  go_wp2
  rw[dZ.out]
  exact⟨none,0,0,I,rfl,Mem.le_refl I,by rw[VL.out];exact qg I,HF.out⟩
end Go.Proofs.YtgicfogmdfdjmaaGreatDoor
namespace PA
open Go Go.RowKit
def wU (c:Cl):List UInt8:=gZ c.refs++encR (dw c.body)
def qj (l:List Cl):List UInt8:=(l.map wU).flatten
def gJ (l:List Cl):List UInt8:=PA.encI l.length++qj l
def kW (l:List Cl):List UInt8:=if Cj l=0 then gJ l else []
def wV (l:List Fm):List UInt8:=(l.map fun f=>encR (lF f)).flatten
def qG (td:List Fm) (tc:List Cl):List UInt8:=PA.encI td.length++wV td++encR (kW tc)
def oI (td:List Fm) (tc:List Cl):List UInt8:=if WM td tc=0 then qG td tc else []
def FX (e:Ea):List UInt8:=PA.encI e.file++PA.encI e.day
def sF (l:List Ea):List UInt8:=(l.map FX).flatten
def iE (x:Pa):List Int:=[x.k,x.d,x.n,x.f,x.o,x.p,x.q,x.u,x.m,x.sn,x.sd]
def wW (x:Pa):List UInt8:=if x.k=0 then encR (oI x.td x.tc)++PA.encI x.ea.length++sF x.ea else if x.k=19 then encR (lF x.fx) else []
def Dl (x:Pa):List UInt8:=if x.cl=[] then [] else encR (kW x.cl)
def VN (x:Pa):List UInt8:=((iE x).map PA.encI).flatten++wW x++Dl x
def Iw (x:Pa):List UInt8:=if yB x=true then VN x else []
structure Oi (c:Cl):Prop where
 r64:∀r∈c.refs,-9223372036854775808≤r∧r≤9223372036854775807
 rn:c.refs.length≤1048576
 b64:c.body.n64
 bl:(dw c.body).length≤16777216
structure YK (f:Fm):Prop where
 b64:f.n64
 bl:(dw f).length≤16777216
structure zx (x:Pa):Prop where
 n64:∀r∈iE x,-9223372036854775808≤r∧r≤9223372036854775807
 td:∀f∈x.td,YK f
 tc:∀c∈x.tc,Oi c
 cl:∀c∈x.cl,Oi c
 ea:∀e∈x.ea,(-9223372036854775808≤e.file∧e.file≤9223372036854775807)∧(-9223372036854775808≤e.day∧e.day≤9223372036854775807)
 fx:YK x.fx
 lt:(qG x.td x.tc).length≤268435456
 ltc:(gJ x.tc).length≤134217728
 lcl:(gJ x.cl).length≤134217728
 lw:(VN x).length≤1073741824
theorem yE {α:Type} (e:α→List UInt8) {l:List α} {j:Nat} {g:α} (h:l[j]?=some g):((l.take (j+1)).map e).flatten=((l.take j).map e).flatten++e g:=by
 rw[List.take_add_one,h];simp
theorem Iy {α:Type} (e:α→List UInt8) (l:List α) (j:Nat):((l.take j).map e).flatten.length≤(l.map e).flatten.length:=by
 induction l generalizing j with
 | nil=>simp
 | cons g l ih=>
  cases j with
  | zero=>simp
  | succ j=>
   have:=ih j
   rw[List.take_succ_cons,List.map_cons,List.map_cons,List.flatten_cons,List.flatten_cons,dI,dI];omega
theorem lY {b:List UInt8} {N:Nat} (h:b.length≤N) (hN:N≤1152921504606846976):(encR b).length≤N+10:=by
 unfold encR;rw[dI];have:=Lib.uvarint_length64 (x:=b.length) (by omega);omega
theorem sG {f:Fm} {N:Nat} (h:(dw f).length≤N):(lF f).length≤N:=by
 unfold lF;split
 ·exact h
 ·exact Nat.zero_le _
theorem nJ {l:List Cl} {N:Nat} (h:(gJ l).length≤N):(kW l).length≤N:=by
 unfold kW;split
 ·exact h
 ·exact Nat.zero_le _
theorem yF {td:List Fm} {l:List Cl} {N:Nat} (h:(qG td l).length≤N):(oI td l).length≤N:=by
 unfold oI;split
 ·exact h
 ·exact Nat.zero_le _
end PA
namespace Go.Proofs.YtgicfogmdfdjmaaGreatDoor
open Go.RowKit PA
set_option maxHeartbeats 4000000 in
theorem EF {W w:World} {A:aG} {I:Mem} (a:Option Addr) (n c:Nat) (l:List Cl) (hv:(oz.slice 5).rel I [.slice a n c] l) (hok:∀x∈l,Oi x) (hlen:(gJ l).length≤134217728) (h:Sat W w (sep (kn I) A)):
 Calls Tryz.prog 138 #[.slice a n c] w fun e w'=>∃(b:Option Addr) (d:Nat) (J:Mem),e=.returned (.slice b (gJ l).length d)∧Mem.le I J∧fB.rel J [.slice b (gJ l).length d] (gJ l)∧Sat W w' (sep (kn J) A):=by
 have hn:=(aU hv).1
 have hn31:n≤134217728:=by
  have key:∀l:List Cl,l.length≤(qj l).length:=by
   intro l
   induction l with
   | nil=>simp
   | cons g l ih=>
    unfold qj at ih ⊢
    rw[List.map_cons,List.flatten_cons,dI,List.length_cons]
    have:1≤(wU g).length:=by
     unfold wU encR;simp only[dI]
     have:=uvarint_pos (dw g.body).length
     omega
    omega
  have:=key l
  unfold gJ at hlen
  rw[dI] at hlen
  omega
 obtain⟨E,hE⟩:=aC (gJ l)
 rw[←hE] at hlen ⊢
 obtain⟨V,hV⟩:∃V:Nat→List UInt8,V=fun j=>PA.encI n++qj (l.take j):=⟨_,rfl⟩
 have hV0:V 0=PA.encI n:=by rw[hV];simp[qj]
 have Sj:∀j g,l[j]?=some g→V (j+1)=V j++gZ g.refs++encR (dw g.body):=fun j g hg=>by
  rw[hV];simp only;unfold qj;rw[yE wU hg];unfold wU;simp only[List.append_assoc]
 have hVe:V n=E:=by rw[hV,hE];simp only;rw[hn,List.take_length];rfl
 have VJ:∀j,(V j).length≤134217728:=fun j=>by
  rw[hV];simp only[dI]
  have:=Iy wU l j
  rw[hE] at hlen;unfold gJ at hlen;rw[dI,←hn] at hlen
  unfold qj at hlen ⊢;omega
 have HVL:=ah VJ
 have HV:=ah (And.intro hV0 (And.intro Sj hVe))
 have ku:=ah hok
 have HN:=ah hn
 have HR:=ah hv
 have H:=ah h
 obtain⟨Po,iU⟩:∃P:Ending→World→Prop,P=fun e w'=>∃(b:Option Addr) (d:Nat) (J:Mem),e=.returned (.slice b E.length d)∧Mem.le I J∧fB.rel J [.slice b E.length d] E∧Sat W w' (sep (kn J) A):=⟨_,rfl⟩
 rw[←iU]
 have dZ:=ah iU
 have hb0:=jX (r:=(n:Int)) (by omega) (by omega)
 clear hv hok hlen h hn hE hV hV0 Sj hVe VJ iU
 have n63:(n:Int)≤9223372036854775807:=by omega
 go_enter Tryz.func138,Tryz.ntmps138
 go_wp2_with fail
 refine (iy (n:Int) (by omega) (by omega) H.out).mono ?_
 rintro e w2 ⟨a1,c1,rfl,h2⟩
 obtain⟨m,hm⟩:=aC ((PA.encI n).length)
 obtain⟨vs,hvs⟩:=aC ((PA.encI n).map bv)
 rw[←hm,←hvs] at h2
 rw[←hm]
 have HM:=ah (And.intro hm hvs)
 have H2:=ah h2
 clear hm hvs h2 H hb0
 go_wp2_with fail
 go_loopw [3,4] (fun ov kv wr=>∃(k:Nat) (a':Option Addr) (n' c':Nat) (vs:List Value) (J:Mem),ov=.slice a' n' c'∧kv=.int .i64 k∧k≤n∧Hid (n'=(V k).length∧vs=(V k).map bv∧Mem.le I J)∧Sat W wr (sep (aK 5 1 a' n' c' vs) (sep (kn J) A))) (fun _ kv _=>n-(intOf kv).toNat)
 case atStart=>exact⟨0,a1,m,c1,vs,I,rfl,rfl,by omega,ah ⟨by rw[HM.out.1,HV.out.1],by rw[HM.out.2,HV.out.1],Mem.le_refl I⟩,H2.out⟩
 case round=>
  obtain⟨k,a',n',c',vs',J,rfl,rfl,hk,HVV,hS⟩:=hrel
  clear H2
  by_cases hlt:k<n
  ·have hltz:(k:Int)<(n:Int):=by omega
   obtain⟨g,hg⟩:∃g,l[k]?=some g:=⟨_,List.getElem?_eq_getElem (by have:=HN.out;omega)⟩
   have hgm:g∈l:=List.mem_of_getElem? hg
   obtain⟨b,o,ra,rc,p,q,x1,n1,d1,x2,n2,d2,rfl,hrr,hrb,hcell⟩:=Ia HR.out hg
   have hext:Ext I wr:=iI HVV.out.2.2 hS.p1.ext
   obtain⟨k0,k1,k2,k3,k4⟩:=hcell wr hext
   obtain⟨nr,hnr⟩:=aC (g.refs.length)
   have Rj:=ku.out g hgm
   have hrs:=Dj (W:=W) (w:=wr) (A:=sep (aK 5 1 a' n' c' vs') (sep (kn J) A)) ra nr rc g.refs hnr Rj.rn Rj.r64 (fun w' B hs i r hr=>by
    obtain⟨b',o',e',hc'⟩:=wP hrr hr
    exact⟨b',o',e',hc' w' (iI HVV.out.2.2 hs.p2.ext)⟩) hS
   obtain⟨m1,hm1⟩:=aC ((gZ g.refs).length)
   obtain⟨v1,hv1⟩:=aC ((gZ g.refs).map bv)
   obtain⟨m2,hm2⟩:=aC ((encR (dw g.body)).length)
   obtain⟨v2,hv2⟩:=aC ((encR (dw g.body)).map bv)
   rw[←hnr] at k0
   rw[←hm1,←hv1] at hrs
   have hb1:n'+m1+m2≤134217728:=by
    have h1:=HVL.out (k+1)
    rw[HV.out.2.1 k g hg,dI,dI,←HVV.out.1,←hm1,←hm2] at h1
    exact h1
   have WG:=ah hrs
   have oU:Hid (V (k+1)=V k++gZ g.refs++encR (dw g.body)∧k<n):=ah ⟨HV.out.2.1 k g hg,hlt⟩
   have HM1:=ah (And.intro hm1 hv1)
   have qF:=ah (And.intro hm2 hv2)
   have VK:Hid (∀w' A' J',Mem.le I J'→Sat W w' (sep (kn J') A')→Calls Tryz.prog 136 #[.agg #[.int .i64 p,.int .i64 q,.slice x1 n1 d1,.slice x2 n2 d2]] w' fun e w''=>∃(a:Option Addr) (c:Nat) (J2:Mem),e=.returned (.slice a (dw g.body).length c)∧Mem.le J' J2∧fB.rel J2 [.slice a (dw g.body).length c] (dw g.body)∧Sat W w'' (sep (kn J2) A')):=ah fun w' A' J' hl h'=>by
    refine (uH g.body w' A' p q x1 n1 d1 x2 n2 d2 (rF.mono hl hrb) Rj.b64 (by have:=Rj.bl;omega) h').mono ?_
    rintro e w'' ⟨a,c,rfl,h3⟩
    obtain⟨J2,hle,hr',h4⟩:=kM h3 rfl
    exact⟨a,c,J2,rfl,hle,hr',h4⟩
   have Me:=ah (show (dw g.body).length≤1073741824 by have:=Rj.bl;omega)
   obtain⟨mb,hmb⟩:=aC ((dw g.body).length)
   rw[←hmb] at VK Me
   have ZE:=ah hmb
   have HC:=ah hcell
   have tX:=ah hb1
   clear hg hgm hrr hrb hcell hext Rj hrs hm1 hv1 hm2 hv2 hb1 hnr hlt hk hS hmb
   go_upto_region 5 with (fail)
   go_wp2_with fail
   refine WG.out.mono ?_
   rintro e w3 ⟨a2,c2,rfl,h3⟩
   clear WG k0 k1 k2 k3 k4
   have iV:Hid (nZ w3 a2 m1 v1):=ah (by rw[HM1.out.2,HM1.out.1] at h3 ⊢;exact jh h3)
   have h4:=h3.drop
   clear h3
   go_wp2_with (at_builtin;(refine aJ rfl (.tmp 14) (.tmp 20) 129 rfl 5 1 1 (.int .u8 0) Tryz.underlying129 fJ rfl rfl h4 rfl v1 iV.out.len iV.out.nil iV.out.src iV.out.one (by have:=tX.out;omega) (by have:=tX.out;unfold maxLen;omega) ?_))
   intro a4 c4 w4 h5
   have H5:=ah h5
   obtain⟨k0,k1,k2,k3,k4⟩:=HC.out w4 (iI HVV.out.2.2 h5.p1.ext)
   clear h4 h5 iV
   go_upto_region 6 with (fail)
   go_wp2_with fail
   refine (VK.out w4 _ J HVV.out.2.2 (show Sat W w4 (sep (kn J) (sep (aK 5 1 a4 (n'+m1) c4 (vs'++v1)) A)) from by have:=H5.out;simpa only[ay,au,aj] using this)).mono ?_
   rintro e w5 ⟨a5,c5,J2,rfl,hle2,hr2,h6⟩
   have HJ2:=ah (And.intro hle2 hr2)
   have H6:=ah h6
   clear h6 hle2 hr2 VK k0 k1 k2 k3 k4 H5
   go_wp2_with fail
   refine (mg (.slice a5 mb c5) (dw g.body) H6.out HJ2.out.2 (by rw[←ZE.out];exact Me.out)).mono ?_
   rintro e w6 ⟨a6,c6,rfl,h7⟩
   rw[←qF.out.1,←qF.out.2] at h7
   rw[←qF.out.1]
   have iV:Hid (nZ w6 a6 m2 v2):=ah (by rw[qF.out.2,qF.out.1] at h7 ⊢;exact jh h7)
   have h8:Sat W w6 (sep (aK 5 1 a4 (n'+m1) c4 (vs'++v1)) (sep (kn J2) A)):=by have:=h7.drop;simpa only[ay,au,aj] using this
   clear h7 H6
   go_wp2_with (at_builtin;(refine aJ rfl (.tmp 22) (.tmp 29) 129 rfl 5 1 1 (.int .u8 0) Tryz.underlying129 fJ rfl rfl h8 rfl v2 iV.out.len iV.out.nil iV.out.src iV.out.one (by have:=tX.out;omega) (by have:=tX.out;unfold maxLen;omega) ?_))
   intro a7 c7 w7 h9
   have H9:=ah h9
   clear h8 h9 iV
   go_wp2_with fail
   go_roundw
   case rel=>
    refine⟨k+1,a7,n'+m1+m2,c7,_,J2,rfl,by go_num,by have:=oU.out.2;omega,ah ⟨?_,?_,Mem.le_trans HVV.out.2.2 HJ2.out.1⟩,H9.out⟩
    ·rw[oU.out.1,dI,dI,HVV.out.1,HM1.out.1,qF.out.1]
    ·rw[oU.out.1,lS,lS,HVV.out.2.1,HM1.out.2,qF.out.2,List.append_assoc]
   case measure=>simp[intOf];have:=oU.out.2;omega
  ·obtain rfl:k=n:=by omega
   have HF:Hid (n'=E.length∧vs'=E.map bv∧Mem.le I J):=ah (by rw[←HV.out.2.2];exact HVV.out)
   have h5:Sat W wr (sep (aK 5 1 a' n' c' (E.map bv)) (sep (kn J) A)):=by rw[←HF.out.2.1];exact hS
   obtain⟨J2,hle2,hr2,h6⟩:=kM h5 HF.out.1
   have HS:=ah (And.intro hle2 (And.intro hr2 h6))
   clear hS HVV h5 hle2 hr2 h6 hlt hk
   go_wp2
   rw[dZ.out]
   exact⟨a',c',J2,by rw[←HF.out.1];try rfl,Mem.le_trans HF.out.2.2 HS.out.1,by rw[←HF.out.1];exact HS.out.2.1,HS.out.2.2⟩
set_option maxHeartbeats 2000000 in
theorem sH {W w:World} {A:aG} {I:Mem} (a:Option Addr) (n c:Nat) (l:List Cl) (hv:(oz.slice 5).rel I [.slice a n c] l) (hB:∀x∈l,x.body.size≤pq) (hok:∀x∈l,Oi x) (hlen:(gJ l).length≤134217728) (h:Sat W w (sep (kn I) A)):
 Calls Tryz.prog 97 #[.slice a n c] w fun e w'=>∃(b:Option Addr) (m d:Nat) (J:Mem),e=.returned (.tuple #[.slice b m d,.int .i64 (Cj l)])∧Mem.le I J∧fB.rel J [.slice b m d] (kW l)∧Sat W w' (sep (kn J) A):=by
 have H1:=ah h
 obtain⟨rv,fQ⟩:=aC (Cj l)
 obtain⟨E,hE⟩:=aC (kW l)
 have Ic:Hid (∀w' A',Sat W w' (sep (kn I) A')→Calls Tryz.prog 137 #[.slice a n c] w' fun e w''=>e=.returned (.int .i64 rv)∧Sat W w'' (sep (kn I) A')):=ah fun w' A' h'=>by rw[fQ];exact kV a n c l hv hB h'
 have VK:Hid (rv=0→∀w' A',Sat W w' (sep (kn I) A')→Calls Tryz.prog 138 #[.slice a n c] w' fun e w''=>∃(a:Option Addr) (n c:Nat) (J:Mem),e=.returned (.slice a n c)∧Mem.le I J∧fB.rel J [.slice a n c] E∧Sat W w'' (sep (kn J) A')):=ah fun h0 w' A' h'=>by
  refine (EF a n c l hv hok hlen h').mono ?_
  rintro e w'' ⟨b,d,J,rfl,hle,hr',h4⟩
  refine⟨b,_,d,J,rfl,hle,?_,h4⟩
  rw[hE];unfold kW;rw[if_pos (by rw[←fQ];exact h0)];exact hr'
 have yR:Hid (rv≠0→E=[]):=ah fun h0=>by rw[hE];unfold kW;rw[if_neg (by rw[←fQ];exact h0)]
 rw[←fQ,←hE]
 obtain⟨Po,iU⟩:∃P:Ending→World→Prop,P=fun e w'=>∃(b:Option Addr) (m d:Nat) (J:Mem),e=.returned (.tuple #[.slice b m d,.int .i64 rv])∧Mem.le I J∧fB.rel J [.slice b m d] E∧Sat W w' (sep (kn J) A):=⟨_,rfl⟩
 rw[←iU]
 have dZ:=ah iU
 clear hv hB hok hlen h fQ hE iU
 by_cases hb0:rv=0
 ·subst hb0
  have pF:=ah (VK.out rfl)
  clear VK yR
  go_enter Tryz.func97,Tryz.ntmps97
  go_wp2_with fail
  refine (Ic.out _ _ H1.out).mono ?_
  rintro e w2 ⟨rfl,h2⟩
  have H2:=ah h2
  clear h2 Ic
  go_wp2_with fail
  refine (pF.out _ _ H2.out).mono ?_
  rintro e w3 ⟨a,n,c,J,rfl,hle,hr,h3⟩
  have HF:=ah (And.intro hle (And.intro hr h3))
  clear h3 hle hr pF
  go_wp2
  rw[dZ.out]
  exact⟨a,n,c,J,rfl,HF.out.1,HF.out.2.1,HF.out.2.2⟩
 ·have VL:=ah (yR.out hb0)
  have hb1:(rv !=0)=true:=by simpa using hb0
  have hb2:(rv==0)=false:=by simpa using hb0
  clear VK yR hb0
  go_enter Tryz.func97,Tryz.ntmps97
  go_wp2_with fail
  refine (Ic.out _ _ H1.out).mono ?_
  rintro e w2 ⟨rfl,h2⟩
  have HF:=ah h2
  clear h2 Ic
  go_wp2
  rw[dZ.out]
  exact⟨none,0,0,I,rfl,Mem.le_refl I,by rw[VL.out];exact qg I,HF.out⟩
end Go.Proofs.YtgicfogmdfdjmaaGreatDoor
