/- Part of a proof. -/
import Derived.Test.YtgicfogmdfdjmaaGreatDoorGTitleHolds8
import Derived.LaidMore
import Derived.Stop.Joined
namespace PA
open Go
def wH (l:List Int) (i:Nat) (n:Int):Int:=match l[i]? with|some x=>max 0 (Int.tmod x n)|none=>0
theorem oV (l:List Int) (i:Nat) (n:Int) (hn:0<n):∃k:Nat,wH l i n=(k:Int)∧(k:Int)<n:=by
 unfold wH
 split
 ·rename_i x _
  refine⟨(max 0 (Int.tmod x n)).toNat,by omega,?_⟩
  have:=Int.tmod_lt_of_pos x hn
  omega
 ·exact⟨0,rfl,hn⟩
def zG:List Rt:=[⟨1,1⟩,⟨1,2⟩,⟨1,3⟩,⟨2,3⟩,⟨1,6⟩,⟨1,1048576⟩,⟨1,1048575⟩]
def xZ (k i d:Nat):Ac:=mX 16 (95+(d:Int)) (5+2*(i:Int)) 2 (1+((k % 4:Nat):Int)) (1+(((k % 4+1+k / 4 % 3) % 4:Nat):Int)) ⟨0,0⟩
def rU (k:Nat) (x:Ac):Ac:=if k % 11=10 then { x with f:=7 } else x
def gU (k n:Nat) (x:Ac):Ac:=if k % 5=4 then { x with k:=17,u:=x.d+((n % 30:Nat):Int) } else { x with sn:=(zG.getD (n % 7) ⟨0,0⟩).n,sd:=(zG.getD (n % 7) ⟨0,0⟩).d }
def wI (k:Nat) (x:Ac):Ac:=if k % 23=22 then mX 1 x.d x.n 2 0 0 ⟨0,0⟩ else x
def Nr (k n d i:Nat):Ac:=wI k (gU k n (rU k (xZ k i d)))
def GZ (l:List Int) (i:Nat):Ac:=Nr (wH l (3*i) 1048576).toNat (wH l (3*i+1) 1048576).toNat (wH l (3*i+2) 40).toNat i
def Qx:Ac:=mX 0 100 0 2 1 (-1) ⟨0,0⟩
def Qy:Ac:=mX 0 90 1 7 2 (-1) ⟨0,0⟩
def BM (l:List Int):Nat:=min 12 ((l.length+2) / 3)
def iM (l:List Int):List Ac:=[Qx,Qy]++(List.range (BM l)).map (GZ l)
end PA
namespace Go.Proofs.YtgicfogmdfdjmaaGreatDoor
open Go.RowKit PA
theorem JU {W w:World} {A:aG} {I:Mem} (a:Option Addr) (c:Nat) (l:List Int) (i:Nat) (n:Int) (hn0:0<n) (hn1:n≤9223372036854775807) (hi:i≤1000) (hv:(qI.slice 1).rel I [.slice a l.length c] l) (hl:∀z∈l,IW z) (h:Sat W w (sep (kn I) A)):
 Calls Tryz.prog 32 #[.slice a l.length c,.int .i64 i,.int .i64 n] w fun e w'=>e=.returned (.int .i64 (wH l i n))∧w=w':=by
 obtain⟨a',c',e,hsw,hc⟩:=kX.1 hv
 simp only[Value.slice.injEq] at e
 obtain⟨rfl,-,rfl⟩:=e
 obtain⟨r,hr⟩:=aC (wH l i n)
 rw[←hr]
 unfold wH at hr
 have HR:=ah hr
 have hlen:(l.length:Int)≤9223372036854775807:=by
  have h1:=hsw.1;have h2:=hsw.2.1;unfold maxLen at h2;omega
 have hiI:(i:Int)≤1000:=by omega
 by_cases hlt:i<l.length
 ·have hltz:¬(l.length:Int)≤(i:Int):=by omega
  have SL:(i:Int)<(l.length:Int):=by omega
  obtain⟨b,o,rfl,hcell⟩:=fV hc (fun e=>by have:=congrArg List.length e;simp at this;rw[this] at hlt;simp at hlt)
  obtain⟨x,hx⟩:=aC (l[i])
  have c0:=hcell w h.ext i (iv x) (by rw[List.getElem?_map,List.getElem?_eq_getElem hlt,hx];rfl)
  unfold iv at c0
  have D5:=hl x (by rw[hx];exact List.getElem_mem hlt)
  have HX:Hid (l[i]?=some x):=ah (by rw[List.getElem?_eq_getElem hlt,hx])
  have aiV:¬n=0:=by omega
  have ht1:Int.tmod x n<n:=Int.tmod_lt_of_pos x hn0
  obtain⟨t,ht⟩:=aC (Int.tmod x n)
  have et:Int.tmod x n=t:=ht.symm
  rw[←ht] at ht1
  have HT:=ah ht
  obtain⟨ll,hll⟩:=aC (l.length)
  rw[←hll] at hlen hltz SL ⊢
  clear hv hc hcell hl hr hx ht hll h hsw
  go_enter Tryz.func32,Tryz.ntmps32
  go_wp2
  go_ret
  have hrr:=HR.out
  rw[HX.out] at hrr
  simp only at hrr
  rw[←HT.out] at hrr
  exact⟨by rw[hrr];rfl,rfl⟩
 ·have hltz:(l.length:Int)≤(i:Int):=by omega
  have HX:Hid (l[i]?=none):=ah (List.getElem?_eq_none (by omega))
  obtain⟨ll,hll⟩:=aC (l.length)
  rw[←hll] at hlen hltz ⊢
  clear hv hc hl hr hll h hsw hlt
  go_enter Tryz.func32,Tryz.ntmps32
  go_wp2
  go_ret
  have hrr:=HR.out
  rw[HX.out] at hrr
  exact⟨by rw[hrr];rfl,rfl⟩
end Go.Proofs.YtgicfogmdfdjmaaGreatDoor
namespace Go.Proofs.YtgicfogmdfdjmaaGreatDoor
open Go PA
structure XK (x:Ac):Prop where
 d1:95≤x.d
 d2:x.d<135
 kd:x.k=16∨x.k=17∨x.k=1
 tr:x.k=16→okR x.sh=true∧0<x.sn∧(1≤x.p∧x.p≤4)∧(1≤x.q∧x.q≤4)∧x.p≠x.q
 li:x.k=17→(1≤x.p∧x.p≤4)∧(1≤x.q∧x.q≤4)∧x.d≤x.u∧x.u<x.d+30
theorem shs_ok (j:Nat) (hj:j<7):okR (zG.getD j ⟨0,0⟩)=true∧0<(zG.getD j ⟨0,0⟩).n:=by
 rcases (show j=0∨j=1∨j=2∨j=3∨j=4∨j=5∨j=6 by omega) with rfl|rfl|rfl|rfl|rfl|rfl|rfl
 ·exact⟨mY 1 1 (by omega) (by omega) (by decide) (by rfl),by decide⟩
 ·exact⟨mY 1 2 (by omega) (by omega) (by decide) (by rfl),by decide⟩
 ·exact⟨mY 1 3 (by omega) (by omega) (by decide) (by rfl),by decide⟩
 ·exact⟨mY 2 3 (by omega) (by omega) (by decide) (by rfl),by decide⟩
 ·exact⟨mY 1 6 (by omega) (by omega) (by decide) (by rfl),by decide⟩
 ·exact⟨mY 1 1048576 (by omega) (by omega) (by decide) (by rfl),by decide⟩
 ·exact⟨mY 1 1048575 (by omega) (by omega) (by decide) (by rfl),by decide⟩
theorem XL (k:Nat) (x:Ac):(rU k x).k=x.k∧(rU k x).d=x.d∧(rU k x).n=x.n∧(rU k x).p=x.p∧(rU k x).q=x.q:=by
 unfold rU;split<;>exact⟨rfl,rfl,rfl,rfl,rfl⟩
theorem XM (k n:Nat) (x:Ac):(gU k n x).d=x.d∧(gU k n x).n=x.n∧(gU k n x).p=x.p∧(gU k n x).q=x.q:=by
 unfold gU;split<;>exact⟨rfl,rfl,rfl,rfl⟩
theorem actN_s (k n d i:Nat) (hd:d<40):XK (Nr k n d i)∧(Nr k n d i).n=5+2*(i:Int):=by
 obtain⟨y,hy⟩:=aC (rU k (xZ k i d))
 obtain⟨a1,a2,a3,a4,a5⟩:=XL k (xZ k i d)
 rw[←hy] at a1 a2 a3 a4 a5
 obtain⟨b1,b2,b3,b4⟩:=XM k n y
 have e0:Nr k n d i=wI k (gU k n y):=by rw[hy];rfl
 have c1:y.k=16:=a1
 have c2:y.d=95+(d:Int):=a2
 have c3:y.n=5+2*(i:Int):=a3
 have c4:y.p=1+((k % 4:Nat):Int):=a4
 have c5:y.q=1+(((k % 4+1+k / 4 % 3) % 4:Nat):Int):=a5
 rw[e0]
 by_cases e23:k % 23=22
 ·have e:wI k (gU k n y)=mX 1 (gU k n y).d (gU k n y).n 2 0 0 ⟨0,0⟩:=by unfold wI;rw[if_pos e23]
  rw[e,b1,b2,c2,c3]
  exact⟨⟨by show (95:Int)≤95+d;omega,by show 95+(d:Int)<135;omega,.inr (.inr rfl),fun h=>(by cases h),fun h=>(by cases h)⟩,rfl⟩
 ·have e:wI k (gU k n y)=gU k n y:=by unfold wI;rw[if_neg e23]
  rw[e]
  by_cases e5:k % 5=4
  ·have e':gU k n y={ y with k:=17,u:=y.d+((n % 30:Nat):Int) }:=by unfold gU;rw[if_pos e5]
   rw[e']
   refine⟨⟨?_,?_,.inr (.inl rfl),fun h=>(by cases h),fun _=>⟨?_,?_,?_,?_⟩⟩,c3⟩
   ·show 95≤y.d;omega
   ·show y.d<135;omega
   ·show 1≤y.p∧y.p≤4;omega
   ·show 1≤y.q∧y.q≤4;omega
   ·show y.d≤y.d+((n % 30:Nat):Int);omega
   ·show y.d+((n % 30:Nat):Int)<y.d+30;omega
  ·have e':gU k n y={ y with sn:=(zG.getD (n % 7) ⟨0,0⟩).n,sd:=(zG.getD (n % 7) ⟨0,0⟩).d }:=by unfold gU;rw[if_neg e5]
   have hs:=shs_ok (n % 7) (by omega)
   rw[e']
   obtain⟨r,hr⟩:=aC (zG.getD (n % 7) ⟨0,0⟩)
   rw[←hr] at hs ⊢
   refine⟨⟨?_,?_,.inl c1,fun _=>⟨hs.1,hs.2,?_,?_,?_⟩,fun h=>?_⟩,c3⟩
   ·show 95≤y.d;omega
   ·show y.d<135;omega
   ·show 1≤y.p∧y.p≤4;omega
   ·show 1≤y.q∧y.q≤4;omega
   ·show y.p≠y.q;omega
   ·have h':y.k=17:=h
    rw[c1] at h';cases h'
theorem x9 (l:List Int) (i:Nat):XK (GZ l i)∧(GZ l i).n=5+2*(i:Int):=by
 obtain⟨d,hd,hl⟩:=oV l (3*i+2) 40 (by omega)
 unfold GZ
 rw[hd]
 exact actN_s _ _ _ _ (by omega)
theorem BQ {l:List Int} {x:Ac} (h:x∈iM l):x=Qx∨x=Qy∨XK x:=by
 unfold iM at h
 rcases List.mem_append.1 h with h|h
 ·simp only[List.mem_cons,List.not_mem_nil,or_false] at h
  rcases h with h|h
  ·exact .inl h
  ·exact .inr (.inl h)
 ·obtain⟨i,-,rfl⟩:=List.mem_map.1 h
  exact .inr (.inr (x9 l i).1)
theorem UL (l:List Int):(iM l).length=BM l+2:=by simp[iM]
theorem Pg (l:List Int):BM l≤12:=by unfold BM;omega
theorem JW (l:List Int):(iM l).Pairwise fD:=by
 unfold iM
 rw[List.pairwise_append]
 refine⟨?_,?_,?_⟩
 ·simp only[List.pairwise_cons,List.mem_singleton,List.not_mem_nil,false_imp_iff,implies_true,List.Pairwise.nil,and_true,forall_eq]
  exact .inl (by decide)
 ·rw[List.pairwise_map]
  refine List.Pairwise.imp ?_ List.pairwise_lt_range
  intro a b hab
  refine .inr ?_
  rw[(x9 l a).2,(x9 l b).2]
  omega
 ·intro x hx y hy
  obtain⟨i,-,rfl⟩:=List.mem_map.1 hy
  refine .inr ?_
  rw[(x9 l i).2]
  simp only[List.mem_cons,List.not_mem_nil,or_false] at hx
  rcases hx with rfl|rfl
  ·show (0:Int)≠_;omega
  ·show (1:Int)≠_;omega
theorem JX {p:Ac→Bool} {S:List Ac} {x:Ac} (hx:x∈S) (hp:p x=true) (hu:∀y∈S,p y=true→y=x):S.find? p=some x:=by
 cases h:S.find? p with
 | none=>exact absurd hp (by simpa using List.find?_eq_none.1 h x hx)
 | some y=>rw[hu y (List.mem_of_find?_eq_some h) (List.find?_some h)]
end Go.Proofs.YtgicfogmdfdjmaaGreatDoor
namespace Go.Proofs.YtgicfogmdfdjmaaGreatDoor
open Go.ChangeShapes Go.WideShapes Go.ChangeAt Go.RowKit
def laidQ : List (String × DataW Unit) := [("priorart/acts.fields", Rows.laid_priorart_acts_fields)]
theorem door_met (os:Os) (args:Array Value):laidMetH Tryz.prog laidQ ((World.doorLaid Tryz.prog 14 os).forCall (fun _ _=>0) ⟨#[],args,[]⟩).memory:=
 laidMetH_of_parts3 (fuel:=8) (laidMet_of_run' 8 (by kernel_rfl) (by kernel_rfl)) (by kernel_rfl) (by kernel_rfl)
def WholeOK (_:World):Prop:=True
theorem of_laid {W:World} (_:laidMetH Tryz.prog laidQ W):WholeOK W:=trivial
end Go.Proofs.YtgicfogmdfdjmaaGreatDoor
