/- Part of a proof. -/
import Derived.Test.YthfmaclnccdcbaaGreatDoorZFO4
namespace Go.Proofs.YthfmaclnccdcbaaGreatDoor
open Go.RowKit PA
attribute [local go_sem ↓] aV
def AO (W:World) (A0 A:aB) (c:Ac→Ac→Int) (g N cp:Nat) (tl:List Value) (a m b:Nat) (f:Nat→Ac) (w:World):Prop:=
 Calls Tryz.prog 195 #[.slice (some ⟨g,0,none⟩) N cp,.int .i64 a,.int .i64 m,.int .i64 b,.func (.func 21) #[] #[]] w fun e w'=>e=.returned (.tuple #[])∧∃f',Sw a b f f'∧eU c a b f'∧Sat W w' (sep (iC g N f' tl) (sep A0 A))
structure SymN (a m b lo hi mid n:Nat):Prop where
 e1:mid=(a+b) / 2
 e2:n=mid+m
 e3:lo=if mid<m then n-b else a
 e4:hi=if mid<m then mid else m
theorem SymN.facts {a m b lo hi mid n:Nat} (h:SymN a m b lo hi mid n) (h1:a<m) (h2:m<b):lo≤hi∧a≤lo∧hi≤mid∧hi≤m∧n-lo≤b∧m+hi≤n∧(lo=a∨n-lo=b)∧(hi=m∨n-hi=m):=by
 obtain⟨e1,e2,e3,e4⟩:=h;by_cases c:mid<m
 ·rw[if_pos c] at e3 e4;omega
 ·rw[if_neg c] at e3 e4;omega
set_option maxRecDepth 100000 in
set_option maxHeartbeats 8000000 in
theorem sym_c {W w:World} {A A0:aB} {D:Ac→Ac→Prop} {c:Ac→Ac→Int} {g N:Nat} {f:Nat→Ac} {tl:List Value} (hT:Total c) (hC:Az W A0 D c) (hD:DF D N f) (hN:N≤65536) (cp:Nat) (a m b:Nat) (h1:a<m) (h2:m<b) (h3:b≤N)
 (h4:m≠a+1) (h5:b≠m+1) (IH:∀(a' m' b':Nat) (f':Nat→Ac) (w':World),b'-a'<b-a→a'<m'→m'<b'→b'≤N→eU c a' m' f'→eU c m' b' f'→DF D N f'→Sat W w' (sep (iC g N f' tl) (sep A0 A))→AO W A0 A c g N cp tl a' m' b' f' w')
 (hs1:eU c a m f) (hs2:eU c m b f) (h:Sat W w (sep (iC g N f tl) (sep A0 A))):AO W A0 A c g N cp tl a m b f w:=by
 unfold AO;have HC:=ah hC;have HT:=ah hT;have HD:=ah hD;have HS:=ah (aH hs1 hs2);have H:=ah h;have HIH:=ah IH;have hq0:((m:Int)-(a:Int)==1)=false:=by simp;omega
 have hq1:((b:Int)-(m:Int)==1)=false:=by simp;omega
 obtain⟨mid,hmid⟩:=aC ((a+b) / 2);obtain⟨n,hn⟩:=aC (mid+m);obtain⟨lo,hlo⟩:=aC (if mid<m then n-b else a);obtain⟨hi,hhi⟩:=aC (if mid<m then mid else m);have hsn:SymN a m b lo hi mid n:=⟨hmid,hn,hlo,hhi⟩
 have HF:=ah (hsn.facts h1 h2);have YE:=ah hsn;have x1:((a:Int)+(b:Int)) / 2=(mid:Int):=by omega
 have x2:(mid:Int)+(m:Int)=(n:Int):=by omega
 obtain⟨p,hp⟩:=aC (n-1);have x3:(n:Int)-1=(p:Int):=by omega
 have HP:=ah hp;have afQ:p<131074:=by omega
 have bN:b<65537:=by omega
 have adM:mid<b:=by omega
 have ads:a<mid:=by omega
 clear hC hT hD hs1 hs2 h IH h4 h5 hsn hmid hn hlo hhi hp;go_enter Tryz.func195,Tryz.ntmps195;go_upto_if 140 with fail;clear hq0 hq1 x1 x2;go_cut [20,21] (fun sv rv wx=>sv=.int .i64 (lo:Nat)∧rv=.int .i64 (hi:Nat)∧wx=w)
 case first=>
  as_aux_lemma=>
   have e3:=YE.out.e3;have e4:=YE.out.e4;have e2:=YE.out.e2;have e1:=YE.out.e1;have aje:lo<65537:=by have:=HF.out;omega
   by_cases cm:mid<m
   ·have cmz:(mid:Int)<(m:Int):=by omega
    rw[if_pos cm] at e3 e4;have x4:(n:Int)-(b:Int)=(lo:Int):=by omega
    clear e3 e4 e2 e1;go_wp2;go_meet;case rel=>exact⟨rfl,by rw[YE.out.e4,if_pos cm],rfl⟩
   ·have cmz:¬(mid:Int)<(m:Int):=by omega
    rw[if_neg cm] at e3 e4;clear e2 e1;go_wp2;go_meet;case rel=>exact⟨by rw[e3],by rw[e4],rfl⟩
 case rest=>
  as_aux_lemma=>
   obtain⟨rfl,rfl,rfl⟩:=hcut;clear ads adM;go_upto_region 32 with fail;go_wp2;go_loopw [20,21] (fun sv rv wr=>∃(s r:Nat),sv=.int .i64 s∧rv=.int .i64 r∧lo≤s∧s≤r∧r≤hi∧Hid ((s=lo∨c (f (s-1)) (f (n-s))≤0)∧(r=hi∨c (f (n-1-r)) (f r)≤0))∧Sat W wr (sep (iC g N f tl) (sep A0 A))) (fun sv rv _=>(intOf rv).toNat-(intOf sv).toNat)
   case atStart=>exact⟨lo,hi,rfl,rfl,Nat.le_refl _,HF.out.1,Nat.le_refl _,ah ⟨.inl rfl,.inl rfl⟩,H.out⟩
   case round=>
    as_aux_lemma=>
     obtain⟨s,r,rfl,rfl,hs1,hs2,hs3,HR,hS⟩:=hrel;have ajo:r<65537:=by have:=HF.out;omega
     by_cases hlt:s<r
     ·have hltz:(s:Int)<(r:Int):=by omega
      obtain⟨x,hx⟩:=aC ((s+r) / 2);obtain⟨y,hy⟩:=aC (p-x);have hxy:x<m∧m≤y∧y<b∧x≤p∧x<r∧s≤x:=by have:=HF.out;have:=HP.out;omega
      have ex:((s:Int)+(r:Int)) / 2=(x:Int):=by omega
      have ey:IntKind.i64.wrap ((p:Int)-(x:Int))=(y:Int):=by rw[IntWalk.i64_in _ (by omega)];omega
      have jx:(x:Int)<(N:Int):=by omega
      have jy:(y:Int)<(N:Int):=by omega
      have hd:=hS.drew;obtain⟨wd,hwd⟩:=aC (wr.drew);rw[←hwd] at hd;have l1:=iE hd y (by omega);have l2:=iE hd x (by omega);have hcc:=HC.out (f y) (f x) wd _ (HD.out y x (by omega) (by omega) (by omega)) hd.p1;obtain⟨cv,hcv⟩:=aC (c (f y) (f x));rw[←hcv] at hcc;have hfl:=HT.out.flip (f y) (f x);rw[←hcv] at hfl;have KT:=ah hfl;have Dk:=ah hcv;have Cc:=ah hcc;have jY:=ah hwd;have UR:=ah (aH hx (aH hy hxy));have hxr:x<r:=hxy.2.2.2.2.1;have hsx:s≤x:=hxy.2.2.2.2.2;clear hd hwd hS hcc hcv hx hy hfl hxy;go_upto_region 35 with fail;clear ex;refine aG rfl (fun _=>True) [(0,.p),(1,.p),(2,.p),(3,.p),(4,.p),(5,.p),(6,.t),(7,.p),(8,.p),(9,.p),(10,.t),(11,.e false),(12,.p),(13,.p)] (by kernel_rfl) ?_;have hS0:True:=trivial;rw[←jY.out];refine bG ?_;clear l1 l2
      (refine jJ rfl rfl (fun K hK=>?_);go_simp)
      refine Cc.out.mono ?_;rintro e w3 ⟨rfl,h3⟩;refine dY ?_;clear hK K;clear Cc jY ey;have H3:=ah h3.p1;clear h3;by_cases hlv:cv<0
      ·refine bG ?_
       refine dJ ?_;go_wp2;go_roundw;case rel=>
        refine⟨s,x,rfl,rfl,hs1,hsx,by omega,ah ⟨HR.out.1,.inr ?_⟩,H3.out⟩;have:n-1-x=y:=by rw[UR.out.2.1,HP.out]
        rw[this,←Dk.out];omega
       case measure=>simp[intOf];omega
      ·refine bG ?_
       refine dJ ?_;go_wp2;go_roundw;case rel=>
        refine⟨x+1,r,by go_num,rfl,by omega,by omega,hs3,ah ⟨.inr ?_,HR.out.2⟩,H3.out⟩;have:n-(x+1)=y:=by rw[UR.out.2.1,HP.out];omega
        rw[this,Nat.add_sub_cancel,KT.out];omega
       case measure=>simp[intOf];omega
     ·obtain rfl:s=r:=by omega
      obtain⟨en,hen⟩:=aC (n-s);have adA:m≤en∧en≤b∧s≤m∧a≤s∧s≤mid∧en+s=mid+m∧s≤n:=by have h6:=HF.out;have h7:=YE.out.e2;omega
      have een:(n:Int)-(s:Int)=(en:Int):=by omega
      have HHR:Hid ((s=a∨en=b∨c (f (s-1)) (f en)≤0)∧(s=m∨en=m∨c (f (en-1)) (f s)≤0)):=ah (by
       have h6:=HF.out;have h7:=YE.out.e2;refine⟨?_,?_⟩
       ·rcases HR.out.1 with q|q
        ·rcases h6.2.2.2.2.2.2.1 with r1|r1
         ·exact .inl (by omega)
         ·exact .inr (.inl (by omega))
        ·exact .inr (.inr (by rw[hen];exact q))
       ·rcases HR.out.2 with q|q
        ·rcases h6.2.2.2.2.2.2.2 with r1|r1
         ·exact .inl (by omega)
         ·exact .inr (.inl (by omega))
        ·exact .inr (.inr (by rw[hen,show n-s-1=n-1-s by omega];exact q)))
      have HS2:=ah hS;have kY:=ah adA;have aiW:en<65537:=by omega
      clear hS HR hen adA hs1 hs2 hs3 hlt x3;clear afQ;go_upto_region 39 with fail;go_cut [185] (fun tv wx=>tv=.bool (decide (s<m∧m<en))∧wx=wr)
      case first=>
       as_aux_lemma=>
        by_cases q1:s<m
        ·have q1z:(s:Int)<(m:Int):=by omega
         by_cases q2:m<en
         ·have q2z:(m:Int)<(en:Int):=by omega
          have QQ:=ah (aH q1 q2);go_wp2;go_meet;case rel=>exact⟨by rw[decide_eq_true QQ.out],rfl⟩
         ·have q2z:¬(m:Int)<(en:Int):=by omega
          have QQ:=ah q2;go_wp2;go_meet;case rel=>exact⟨by rw[decide_eq_false (fun q=>QQ.out q.2)],rfl⟩
        ·have q1z:¬(s:Int)<(m:Int):=by omega
         have QQ:=ah q1;go_wp2;go_meet;case rel=>exact⟨by rw[decide_eq_false (fun q=>QQ.out q.1)],rfl⟩
      case rest=>
       as_aux_lemma=>
        obtain⟨rfl,rfl⟩:=hcut;obtain⟨bb,hbb⟩:=aC (decide (s<m∧m<en));rw[←hbb];have vk:=ah hbb;clear hbb;go_upto_if 185 with fail;go_cut [] (fun wx=>∃f1,Cj f s m en f1∧Sw a b f f1∧Sat W wx (sep (iC g N f1 tl) (sep A0 A)))
        case first=>
         as_aux_lemma=>
          cases bb with
          | true=>
           have hb2:=of_decide_eq_true vk.out.symm;have hrr:=NZ (tl:=tl) hN cp (.func (.func 21) #[] #[]) s m en hb2.1 hb2.2 (by have:=kY.out;omega) HS2.out;have HRR:=ah hrr;clear hrr hb2;go_wp2_with fail;refine HRR.out.mono ?_;rintro e w3 ⟨rfl,f1,r1,r2,r3⟩;have HR3:=ah (aH r1 (aH r2 r3));clear r1 r2 r3;go_wp2;go_meet;case rel=>exact⟨f1,HR3.out.1,HR3.out.2.1.mono (by have:=kY.out;omega) (by have:=kY.out;omega),HR3.out.2.2⟩
          | false=>
           go_wp2;go_meet;case rel=>
            refine⟨f,?_,.refl,HS2.out⟩;have hb2:=of_decide_eq_false vk.out.symm;have:=kY.out;by_cases q1:s=m
            ·rw[q1];exact .none1 f m en
            ·obtain rfl:en=m:=by omega
             exact .none2 f s en
        case rest=>
         as_aux_lemma=>
          obtain⟨f1,r1,r2,r3⟩:=hcut;have hmc:=Uh (c:=c) (mid:=mid) HT.out HS.out.1 HS.out.2 (by have:=kY.out;omega) (by have:=kY.out;omega) (by have:=kY.out;omega) (by have:=kY.out;omega) (by have:=kY.out;omega) (by have:=kY.out;omega) HHR.out.1 HHR.out.2 r1;have HMC:=ah hmc;have HR2:=ah r2;have HR3:=ah r3;clear hmc r1 r2 r3 vk HHR HS2;go_upto_region 41 with fail;go_cut [199] (fun tv wx=>tv=.bool (decide (a<s∧s<mid))∧wx=wc)
          case first=>
           as_aux_lemma=>
            by_cases q1:a<s
            ·have q1z:(a:Int)<(s:Int):=by omega
             by_cases q2:s<mid
             ·have q2z:(s:Int)<(mid:Int):=by omega
              have QQ:=ah (aH q1 q2);go_wp2;go_meet;case rel=>exact⟨by rw[decide_eq_true QQ.out],rfl⟩
             ·have q2z:¬(s:Int)<(mid:Int):=by omega
              have QQ:=ah q2;go_wp2;go_meet;case rel=>exact⟨by rw[decide_eq_false (fun q=>QQ.out q.2)],rfl⟩
            ·have q1z:¬(a:Int)<(s:Int):=by omega
             have QQ:=ah q1;go_wp2;go_meet;case rel=>exact⟨by rw[decide_eq_false (fun q=>QQ.out q.1)],rfl⟩
          case rest=>
           as_aux_lemma=>
            obtain⟨rfl,rfl⟩:=hcut;obtain⟨bb,hbb⟩:=aC (decide (a<s∧s<mid));rw[←hbb];have vk:=ah hbb;clear hbb;go_upto_if 199 with fail;go_cut [] (fun wx=>∃f2,Sw a mid f1 f2∧eU c a mid f2∧Sat W wx (sep (iC g N f2 tl) (sep A0 A)))
            case first=>
             as_aux_lemma=>
              cases bb with
              | true=>
               have hb2:=of_decide_eq_true vk.out.symm;have hrr:=HIH.out a s mid f1 wc (by have:=kY.out;have:=YE.out.e1;omega) hb2.1 hb2.2 (by have:=kY.out;omega) HMC.out.1 HMC.out.2.1 (HD.out.sw HR2.out h3) HR3.out;unfold AO at hrr;have HRR:=ah hrr;clear hrr hb2;go_wp2_with fail;refine HRR.out.mono ?_;rintro e w3 ⟨rfl,f2,r1,r2,r3⟩;have HR4:=ah (aH r1 (aH r2 r3));clear r1 r2 r3;go_wp2;go_meet;case rel=>exact⟨f2,HR4.out⟩
              | false=>
               go_wp2;go_meet;case rel=>
                refine⟨f1,.refl,?_,HR3.out⟩;have hb2:=of_decide_eq_false vk.out.symm;have:=kY.out;by_cases q1:a=s
                ·have h6:=HMC.out.2.1;rw[←q1] at h6;exact h6
                ·have q2:s=mid:=by omega
                 have h6:=HMC.out.1;rw[q2] at h6;exact h6
            case rest=>
             as_aux_lemma=>
              obtain⟨f2,r1,r2,r3⟩:=hcut;have HQ:=ah (aH r1 r2);have HR5:=ah r3;have k1:eU c mid en f2:=HMC.out.2.2.1.congr fun k p1 p2=>r1.out (.inr p1)
              have k2:eU c en b f2:=HMC.out.2.2.2.1.congr fun k p1 p2=>r1.out (.inr (by have:=kY.out;omega))
              have hw2:Sw a b f f2:=HR2.out.trans (r1.mono (Nat.le_refl _) (by have:=kY.out;omega));have HK:=ah (aH k1 (aH k2 hw2));clear r1 r2 r3 vk k1 k2 hw2 HR3;have fin:∀f3,Sw mid b f2 f3→eU c mid b f3→Sw a b f f3∧eU c a b f3:=fun f3 w1 w2=>
               ⟨HK.out.2.2.trans (w1.mono (by have:=kY.out;omega) (Nat.le_refl _)),QH HMC.out.2.2.2.2 HQ.out.1 HQ.out.2 w1 w2⟩
              have FIN:=ah fin;clear fin;by_cases q1:mid<en
              ·have q1z:(mid:Int)<(en:Int):=by omega
               by_cases q2:en<b
               ·have q2z:(en:Int)<(b:Int):=by omega
                have hrr:=HIH.out mid en b f2 wc (by have:=YE.out.e1;omega) q1 q2 h3 HK.out.1 HK.out.2.1 (HD.out.sw HK.out.2.2 h3) HR5.out;unfold AO at hrr;have HRR:=ah hrr;clear hrr;go_wp2_with fail;refine HRR.out.mono ?_;rintro e w3 ⟨rfl,f3,r1,r2,r3⟩;have KU:=ah (aH r1 (aH r2 r3));clear r1 r2 r3;go_wp2;go_end0;exact⟨rfl,f3,(FIN.out f3 KU.out.1 KU.out.2.1).1,(FIN.out f3 KU.out.1 KU.out.2.1).2,KU.out.2.2⟩
               ·have q2z:¬(en:Int)<(b:Int):=by omega
                have hk:eU c mid b f2:=by have h6:=HK.out.1;rw[show en=b by have:=kY.out;omega] at h6;exact h6
                have HKK:=ah hk;clear hk;go_wp2;go_end0;exact⟨rfl,f2,(FIN.out f2 .refl HKK.out).1,(FIN.out f2 .refl HKK.out).2,HR5.out⟩
              ·have q1z:¬(mid:Int)<(en:Int):=by omega
               have hk:eU c mid b f2:=by have h6:=HK.out.2.1;rw[show en=mid by have:=kY.out;omega] at h6;exact h6
               have HKK:=ah hk;clear hk;go_wp2;go_end0;exact⟨rfl,f2,(FIN.out f2 .refl HKK.out).1,(FIN.out f2 .refl HKK.out).2,HR5.out⟩
theorem Ot {W:World} {A A0:aB} {D:Ac→Ac→Prop} {c:Ac→Ac→Int} {g N:Nat} {tl:List Value} (hT:Total c) (hC:Az W A0 D c) (hN:N≤65536) (cp:Nat):∀(d a m b:Nat) (f:Nat→Ac) (w:World),b-a≤d→a<m→m<b→b≤N→eU c a m f→eU c m b f→DF D N f→Sat W w (sep (iC g N f tl) (sep A0 A))→AO W A0 A c g N cp tl a m b f w
 | 0,a,m,b,_,_,hd,h1,h2,_,_,_,_,_=>by omega
 | d+1,a,m,b,f,w,hd,h1,h2,h3,hs1,hs2,hD,h=>by
  by_cases e1:m=a+1
  ·exact sym_a hT hC hD hN cp a m b e1 h2 h3 hs2 h
  ·by_cases e2:b=m+1
   ·exact sym_b hT hC hD hN cp a m b e2 h1 e1 h3 hs1 h
   ·exact sym_c hT hC hD hN cp a m b h1 h2 h3 e1 e2 (fun a' m' b' f' w' q1 q2 q3 q4 q5 q6 q7 q8=>Ot hT hC hN cp d a' m' b' f' w' (by omega) q2 q3 q4 q5 q6 q7 q8) hs1 hs2 h
end Go.Proofs.YthfmaclnccdcbaaGreatDoor
