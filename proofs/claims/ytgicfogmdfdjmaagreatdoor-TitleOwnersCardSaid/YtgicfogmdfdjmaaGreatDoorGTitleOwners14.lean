/- Part of a proof. -/
import Derived.Test.YtgicfogmdfdjmaaGreatDoorGTitleOwners3
import Derived.RangeFuncNested
import Derived.Shelf.Abstract
import Derived.Shelf.RegionOpen
import Derived.RangeFuncBox
import Derived.Maps.AppendAt
import Derived.Handy
import Derived.Lib.SliceRun
import Derived.Laws.IdiomStrings
namespace PA
open Go Go.Proofs.YtgicfogmdfdjmaaGreatDoor
def bV (l:List Int) (i:Nat) (n:Int):Int:=match l[i]? with|some x=>iy x n|none=>0
theorem aW (l:List Int) (i:Nat) (n:Int) (hn:0<n):0≤bV l i n∧bV l i n<n:=by
 unfold bV
 split
 ·exact iL _ _ hn
 ·omega
end PA
namespace Go.Proofs.YtgicfogmdfdjmaaGreatDoor
open Go.RowKit PA
def MG (I:Mem) (va:Value) (l:List Int):Prop:=(∃a c,va=.slice a l.length c)∧(pF.slice 1).rel I [va] l∧∀z∈l,GN z
theorem MG.mono {I J:Mem} {va:Value} {l:List Int} (hl:Mem.le I J) (h:MG I va l):MG J va l:=⟨h.1,(pF.slice 1).mono hl h.2.1,h.2.2⟩
def aZ (B:Nat) (va:Value) (pos day:Int) (fv:Value):aH:=blk B (.cells #[va,.int .i64 pos,.int .i64 day,fv] 98 (0,0))
theorem NW {W w:World} {A:aH} {I:Mem} (va:Value) (l:List Int) (i:Nat) (n:Int) (hn0:0<n) (hn1:n≤1099511627776) (hi:i≤1000000) (hv:MG I va l) (h:Sat W w (sep (kn I) A)):
 Calls Tryz.prog 46 #[va,.int .i64 i,.int .i64 n] w fun e w'=>e=.returned (.int .i64 (bV l i n))∧w=w':=by
 obtain⟨⟨a,c,rfl⟩,hv,hl⟩:=hv
 obtain⟨a',c',e,hsw,hc⟩:=kH.1 hv
 simp only[Value.slice.injEq] at e
 obtain⟨rfl,-,rfl⟩:=e
 obtain⟨r,hr⟩:=aG (bV l i n)
 rw[←hr]
 unfold bV at hr
 have HR:=ah hr
 have hlen:(l.length:Int)≤9223372036854775807:=by
  have h1:=hsw.1;have h2:=hsw.2.1;unfold maxLen at h2;omega
 have hiI:(i:Int)≤1000000:=by omega
 by_cases hlt:i<l.length
 ·have hltz:¬(l.length:Int)≤(i:Int):=by omega
  have Qc:(i:Int)<(l.length:Int):=by omega
  obtain⟨b,o,rfl,hcell⟩:=fP hc (fun e=>by have:=congrArg List.length e;simp at this;rw[this] at hlt;simp at hlt)
  obtain⟨x,hx⟩:=aG (l[i])
  have c0:=hcell w h.ext i (PA.iv x) (by rw[List.getElem?_map,List.getElem?_eq_getElem hlt,hx];rfl)
  unfold PA.iv at c0
  have CQ:=hl x (by rw[hx];exact List.getElem_mem hlt)
  have HX:Hid (r=iy x n):=ah (by rw[HR.out,List.getElem?_eq_getElem hlt,hx])
  have HA:=ah (kK x n w CQ.1 CQ.2 (by omega) (by omega))
  obtain⟨ll,hll⟩:=aG (l.length)
  rw[←hll] at hlen hltz Qc ⊢
  clear hv hc hcell hl hr hx hll h hsw CQ HR
  go_enter Tryz.func46,Tryz.ntmps46
  go_wp2_with fail
  refine HA.out.mono ?_
  rintro e w2 ⟨rfl,rfl⟩
  go_wp2
  go_ret
  exact⟨MH HX.out.symm,rfl⟩
 ·have hltz:(l.length:Int)≤(i:Int):=by omega
  have HX:Hid (r=0):=ah (by rw[HR.out,List.getElem?_eq_none (by omega)])
  obtain⟨ll,hll⟩:=aG (l.length)
  rw[←hll] at hlen hltz ⊢
  clear hv hc hl hr hll h hsw HR
  go_enter Tryz.func46,Tryz.ntmps46
  go_wp2
  go_ret
  exact⟨MH HX.out.symm,rfl⟩
theorem aO {W w:World} {A:aH} {I:Mem} {B:Nat} {day:Int} {fv:Value} (va:Value) (l:List Int) (i:Nat) (n:Int) (hn0:0<n) (hn1:n≤1099511627776) (hi:i<1000000) (hv:MG I va l) (h:Sat W w (sep (aZ B va i day fv) (sep (kn I) A))):
 Calls Tryz.prog 33 #[.pointer (some ⟨B,0,none⟩),.int .i64 n] w fun e w'=>e=.returned (.int .i64 (bV l i n))∧Sat W w' (sep (aZ B va ((i+1:Nat):Int) day fv) (sep (kn I) A)):=by
 unfold aZ at h ⊢
 obtain⟨r,hr⟩:=aG (bV l i n)
 rw[←hr]
 have c1:w.cell? ⟨B,1,none⟩=some (.int .i64 i):=h.cell 1
 have f1:w.frozen? ⟨B,1,none⟩=false:=h.aI 1
 obtain⟨w1,hw1⟩:=aG (w.setCell ⟨B,1,none⟩ (.int .i64 ((i+1:Nat):Int)))
 have h1:=h.setCell 1 (.int .i64 ((i+1:Nat):Int))
 rw[←hw1] at h1
 have h1d:Sat W w1.drew (sep (blk B (.cells #[va,.int .i64 ((i+1:Nat):Int),.int .i64 day,fv] 98 (0,0))) (sep (kn I) A)):=h1.drew
 have hx:(i:Int)+1=((i+1:Nat):Int):=by omega
 obtain⟨i1,hi1⟩:=aG (((i+1:Nat):Int))
 rw[←hi1] at hw1 hx h1d ⊢
 have hiI:(i:Int)<1000000:=by omega
 have d0:w1.drew.cell? ⟨B,0,none⟩=some va:=h1d.cell 0
 have d1:w1.drew.cell? ⟨B,1,none⟩=some (.int .i64 i1):=h1d.cell 1
 have hx2:IntKind.i64.wrap (i1-1)=(i:Int):=by
  have:i1-1=(i:Int):=by omega
  rw[this];unfold IntKind.wrap;simp[IntKind.bits,IntKind.signed];omega
 have HP:=ah (NW va l i n hn0 hn1 (by omega) hv h1d.p1)
 have HD:=ah h1d
 have HW1:=ah hw1
 rw[←hr] at HP
 clear hr h h1 h1d hi1 hw1
 go_enter Tryz.func33,Tryz.ntmps33
 go_upto_region 2 with (fail)
 rw[←HW1.out]
 refine aB rfl (fun _=>True) [(0,.p),(1,.p),(2,.p),(3,.t),(4,.p),(5,.p),(6,.p),(7,.t),(8,.p),(9,.p),(10,.e false),(11,.p)] (by kernel_rfl) ?_
 have hS0:True:=trivial
 (repeat ((first|(refine eX (v:=?_) rfl rfl (fun w'=>?_) ?_;rotate_left;(go_simp;with_reducible rfl))|(refine eY (v:=?_) rfl rfl hS0 (fun w' hS=>?_) ?_;rotate_left;((try dsimp only at hS);go_simp;with_reducible rfl))|(refine fA (v:=?_) rfl rfl ?_ ?_;rotate_left;(go_simp;with_reducible rfl))|(refine bH rfl rfl ?_)|(refine bI rfl rfl hS0 ?_)|(refine bJ rfl rfl ?_));simp only[Act.put,lsA,lsB,bK]))
 (refine jc rfl rfl (fun K hK=>?_);go_simp)
 refine HP.out.mono ?_
 rintro e w2 ⟨rfl,rfl⟩
 (refine hK _ _ (fun h=>by cases h) ?_;clear hK K;(try simp only[Act.put,lsA,lsB,bK]))
 (repeat ((first|(refine eX (v:=?_) rfl rfl (fun w'=>?_) ?_;rotate_left;(go_simp;with_reducible rfl))|(refine eY (v:=?_) rfl rfl hS0 (fun w' hS=>?_) ?_;rotate_left;((try dsimp only at hS);go_simp;with_reducible rfl))|(refine fA (v:=?_) rfl rfl ?_ ?_;rotate_left;(go_simp;with_reducible rfl))|(refine bH rfl rfl ?_)|(refine bI rfl rfl hS0 ?_)|(refine bJ rfl rfl ?_));simp only[Act.put,lsA,lsB,bK]))
 refine bM ?_
 go_wp2
 go_ret
 exact⟨rfl,HD.out⟩
end Go.Proofs.YtgicfogmdfdjmaaGreatDoor
namespace PA
open Go RowKit
def encI (n:Int):List UInt8:=Lib.uvarint (Lib.zigzag n)
def encR (b:List UInt8):List UInt8:=Lib.uvarint b.length++b
abbrev RSt:=Except Int (List UInt8)
end PA
namespace PA
open Go
structure Iv where
 ln:Int
 ld:Int
 hn:Int
 hd:Int
 lo:Bool
 ho:Bool
 li:Bool
 hi:Bool
 deriving DecidableEq
inductive Fm where
 | mk (op n:Int) (ins:List Iv) (kids:List Fm)
namespace Fm
def op:Fm→Int|mk o _ _ _=>o
def num:Fm→Int|mk _ n _ _=>n
def ins:Fm→List Iv|mk _ _ i _=>i
def kids:Fm→List Fm|mk _ _ _ k=>k
theorem ind {P:Fm→Prop} (h:∀o n i k,(∀f∈k,P f)→P (mk o n i k)):∀f,P f
 | mk o n i k=>h o n i k fun f _=>ind h f
mutual
def size:Fm→Nat
 | mk _ _ _ k=>sizes k+1
def sizes:List Fm→Nat
 | []=>0
 | f::l=>size f+sizes l
end
mutual
def deep:Fm→Nat
 | mk _ _ _ k=>fD k+1
def fD:List Fm→Nat
 | []=>0
 | f::l=>max (deep f) (fD l)
end
mutual
def nodes:Fm→List Fm
 | mk o n i k=>mk o n i k::wL k
def wL:List Fm→List Fm
 | []=>[]
 | f::l=>nodes f++wL l
end
def formed (sp:List Iv→Bool):Fm→Bool
 | mk o n i k=>
  if (o≠2∧i≠[])∨(o≠2∧o≠1∧n≠0) then false
  else if o=0 then k.isEmpty
  else if o=1 then k.isEmpty&&decide (0≤n)&&decide (n<64)
  else if o=2 then k.isEmpty&&decide (0≤n)&&decide (n<32)&&sp i
  else if o=3∨o=6 then decide (k.length=1)
  else decide (o=4)||decide (o=5)
mutual
def whole (sp:List Iv→Bool):Fm→Bool
 | mk o n i k=>formed sp (mk o n i k)&&dS sp k
def dS (sp:List Iv→Bool):List Fm→Bool
 | []=>true
 | f::l=>whole sp f&&dS sp l
end
mutual
theorem GZ (sp:List Iv→Bool):∀f,whole sp f=(nodes f).all (formed sp)
 | mk o n i k=>by rw[whole,nodes,List.all_cons,uU sp k]
theorem uU (sp:List Iv→Bool):∀l,dS sp l=(wL l).all (formed sp)
 | []=>rfl
 | f::l=>by rw[dS,wL,List.all_append,GZ sp f,uU sp l]
end
mutual
theorem JB:∀f,(nodes f).length=size f
 | mk o n i k=>by rw[nodes,List.length_cons,yh k,size]
theorem yh:∀l,(wL l).length=sizes l
 | []=>rfl
 | f::l=>by rw[wL,List.length_append,JB f,yh l,sizes]
end
def MB (b:Bool):Int:=if b=true then 1 else 0
def gV (l:List Int):List UInt8:=Lib.uvarint l.length++l.flatMap encI
def dL (x:Iv):List Int:=[x.ln,x.ld,x.hn,x.hd,MB x.lo,MB x.ho,MB x.li,MB x.hi]
def Zp:Fm→List UInt8
 | mk o n i k=>encI o++(encI n++(encI (i.length:Int)++(i.flatMap (fun x=>gV (dL x))++encI (k.length:Int))))
def enc (f:Fm):List UInt8:=(nodes f).flatMap Zp
def valid (sp:List Iv→Bool) (f:Fm):Int:=if 96<size f∨8<deep f then 4 else if whole sp f=true then 0 else 1
end Fm
end PA
namespace PA
open Go Go.RowKit
def Ux:Rep Iv:=⟨fun _ cs x=>cs=[.int .i64 x.ln,.int .i64 x.ld,.int .i64 x.hn,.int .i64 x.hd,.bool x.lo,.bool x.ho,.bool x.li,.bool x.hi],fun _ h=>h⟩
mutual
def Uz (I:Mem):Fm→List Value→Prop
 | .mk o n i k,cs=>∃(a:Option Addr) (c:Nat) (b:Option Addr) (d:Nat),cs=[.int .i64 o,.int .i64 n,.slice a i.length c,.slice b k.length d]∧(Ux.slice 8).rel I [.slice a i.length c] i∧Cb b k.length d∧∃css,bT b css.flatten I∧G5 I k css
def G5 (I:Mem):List Fm→List (List Value)→Prop
 | [],css=>css=[]
 | f::l,css=>∃c t,css=c::t∧(Uz I f c∧c.length=4)∧G5 I l t
end
mutual
theorem DI {I J:Mem} (hl:Mem.le I J):∀(f:Fm) (cs:List Value),Uz I f cs→Uz J f cs
 | .mk _ _ _ k,_,⟨a,c,b,d,e,hi,hw,css,hc,hk⟩=>⟨a,c,b,d,e,(Ux.slice 8).mono hl hi,hw,css,fQ hl hc,zG hl k css hk⟩
theorem zG {I J:Mem} (hl:Mem.le I J):∀(l:List Fm) (css:List (List Value)),G5 I l css→G5 J l css
 | [],_,h=>h
 | f::l,_,⟨c,t,e,h1,h2⟩=>⟨c,t,e,⟨DI hl f c h1.1,h1.2⟩,zG hl l t h2⟩
end
def rF:Rep Fm:=⟨fun I cs f=>Uz I f cs,fun hl h=>DI hl _ _ h⟩
theorem rE {I:Mem}:∀{l:List Fm} {css:List (List Value)},G5 I l css↔dU (fun c x=>rF.rel I c x∧c.length=4) css l
 | [],[]=>⟨fun _=>trivial,fun _=>rfl⟩
 | [],_::_=>⟨fun h=>(by cases h),fun h=>False.elim h⟩
 | f::l,[]=>⟨fun ⟨_,_,h,_⟩=>(by cases h),fun h=>False.elim h⟩
 | f::l,c::t=>by
  constructor
  ·rintro⟨c',t',e,h1,h2⟩
   cases e
   exact⟨h1,rE.1 h2⟩
  ·rintro⟨h1,h2⟩
   exact⟨c,t,rfl,h1,rE.2 h2⟩
theorem gW {I:Mem} {cs:List Value} {o n:Int} {i:List Iv} {k:List Fm}:rF.rel I cs (.mk o n i k)↔∃(a:Option Addr) (c:Nat) (b:Option Addr) (d:Nat),cs=[.int .i64 o,.int .i64 n,.slice a i.length c,.slice b k.length d]∧(Ux.slice 8).rel I [.slice a i.length c] i∧(rF.slice 4).rel I [.slice b k.length d] k:=by
 constructor
 ·rintro⟨a,c,b,d,e,hi,hw,css,hc,hk⟩
  exact⟨a,c,b,d,e,hi,b,d,css.flatten,rfl,hw,hc,css,rfl,rE.1 hk⟩
 ·rintro⟨a,c,b,d,e,hi,b',d',cells,e2,hw,hc,css,rfl,hk⟩
  cases e2
  exact⟨a,c,b,d,e,hi,hw,css,hc,rE.2 hk⟩
end PA
namespace PA
open Go Go.RowKit
structure Cl where
 refs:List Int
 body:Fm
structure Ea where
 file:Int
 day:Int
structure Pa where
 k:Int
 d:Int
 n:Int
 f:Int
 o:Int
 p:Int
 q:Int
 u:Int
 m:Int
 sn:Int
 sd:Int
 td:List Fm
 tc:List Cl
 cl:List Cl
 ea:List Ea
 fx:Fm
def Fm.zero:Fm:=.mk 0 0 [] []
def Pa.zero:Pa:=⟨0,0,0,0,0,0,0,0,0,0,0,[],[],[],[],Fm.zero⟩
def Qb:Rep Ea:=⟨fun _ cs x=>cs=[.int .i64 x.file,.int .i64 x.day],fun _ h=>h⟩
def nI:Rep Cl:=⟨fun I cs x=>∃(a:Option Addr) (c:Nat) (b:List Value),cs=.slice a x.refs.length c::b∧(pF.slice 1).rel I [.slice a x.refs.length c] x.refs∧rF.rel I b x.body,
 fun hl ⟨a,c,b,e,h1,h2⟩=>⟨a,c,b,e,(pF.slice 1).mono hl h1,rF.mono hl h2⟩⟩
structure nT (I:Mem) (z:Ac) (x:Pa):Prop where
 k:z.k=x.k
 d:z.d=x.d
 n:z.n=x.n
 f:z.f=x.f
 o:z.o=x.o
 p:z.p=x.p
 q:z.q=x.q
 u:z.u=x.u
 m:z.m=x.m
 sn:z.sn=x.sn
 sd:z.sd=x.sd
 td:(rF.slice 4).rel I [z.td.v] x.td
 tc:(nI.slice 5).rel I [z.tc.v] x.tc
 cl:(nI.slice 5).rel I [z.cl.v] x.cl
 ea:(Qb.slice 2).rel I [z.ea.v] x.ea
 fx:rF.rel I [.int .i64 z.fo,.int .i64 z.fn,z.fi.v,z.fk.v] x.fx
theorem nT.mono {I J:Mem} {z:Ac} {x:Pa} (hl:Mem.le I J) (h:nT I z x):nT J z x:=
 ⟨h.k,h.d,h.n,h.f,h.o,h.p,h.q,h.u,h.m,h.sn,h.sd,(rF.slice 4).mono hl h.td,(nI.slice 5).mono hl h.tc,(nI.slice 5).mono hl h.cl,(Qb.slice 2).mono hl h.ea,rF.mono hl h.fx⟩
theorem aC {α:Type} (R:Rep α) (k:Nat) (I:Mem):(R.slice k).rel I [.slice none 0 0] []:=
 ⟨none,0,[],rfl,⟨Nat.le_refl _,Nat.zero_le _,fun _=>rfl⟩,.inl rfl,[],rfl,trivial⟩
theorem dB (I:Mem):rF.rel I [.int .i64 0,.int .i64 0,.slice none 0 0,.slice none 0 0] Fm.zero:=
 gW.2 ⟨none,0,none,0,rfl,aC _ _ _,aC _ _ _⟩
theorem nT.zero (I:Mem):nT I Ac.zero Pa.zero:=
 ⟨rfl,rfl,rfl,rfl,rfl,rfl,rfl,rfl,rfl,rfl,rfl,aC _ _ _,aC _ _ _,aC _ _ _,aC _ _ _,dB I⟩
def EK (x:Iv):Prop:=0≤x.ln∧x.ln≤4∧x.ld=1∧x.li=false∧((x.hi=true∧x.hn=0∧x.hd=0∧x.ho=false)∨(x.hi=false∧x.hd=1∧x.ln<x.hn∧x.hn≤8))
def nU (f:Fm):Prop:=∃n:Int,0≤n∧n<6∧f=.mk 1 n [] []
def zH (f:Fm):Prop:=∃(n:Int) (x:Iv),0≤n∧n<2∧EK x∧f=.mk 2 n [x] []
inductive bY:Fm→Prop
 | c {f}:nU f→bY f
 | v {f}:zH f→bY f
 | MC {f g}:nU f→zH g→bY (.mk 4 0 [] [f,g])
 | UA {f g}:nU f→zH g→bY (.mk 5 0 [] [f,g])
 | Xc {f g}:nU f→nU g→bY (.mk 5 0 [] [f,g])
 | Xd {f g}:nU f→nU g→bY (.mk 4 0 [] [f,.mk 6 0 [] [g]])
 | part {f}:nU f→bY (.mk 3 0 [] [f])
 | Xe {f g}:nU f→zH g→bY (.mk 4 0 [] [f,.mk 3 0 [] [g]])
def kJ (i:Nat) (r:List Int):Prop:=r=[]∨(∃j:Nat,j<i∧r=[(j:Int)])∨(i=2∧r=[0,1])
def nJ (l:List Cl):Prop:=1≤l.length∧l.length≤3∧∀(i:Nat) (h:i<l.length),bY l[i].body∧kJ i l[i].refs
def zI (td:List Fm) (tc:List Cl):Prop:=1≤td.length∧td.length≤2∧(∀f∈td,bY f)∧nJ tc
def dZ (N:Nat) (z:Int):Prop:=∃j:Nat,j<N∧z=5*(j:Int)
def JC (N:Nat) (l:List Ea):Prop:=l.length≤2∧(∀e∈l,dZ N e.file∧35600≤e.day∧e.day≤38001)∧l.Pairwise fun a b=>a.file≠b.file
def zJ (N:Nat) (y:Pa):Prop:=
 ∃(o p q:Int) (td:List Fm) (tc:List Cl) (ea:List Ea),y={ Pa.zero with f:=5*(N:Int),o:=o,p:=p,q:=q,td:=td,tc:=tc,ea:=ea } ∧
  (o=0∨o=1)∧(p=1∨p=2)∧(q=-1∨dZ N q)∧zI td tc∧JC N ea
def EL (n d:Int):Prop:=(n=1∧d=1)∨(n=1∧d=2)∨(n=1∧d=3)∨(n=2∧d=3)
inductive Other (N:Nat):Pa→Prop
 | plain {k f:Int}:(k=1∨k=2∨k=10∨k=11)→dZ N f→Other N { Pa.zero with k:=k,f:=f }
 | list {k f:Int} {cl:List Cl}:(k=3∨k=15)→dZ N f→nJ cl→Other N { Pa.zero with k:=k,f:=f,cl:=cl }
 | pay {f p q u m:Int}:dZ N f→(p=1∨p=2)→(q=0∨q=1)→((0≤u∧u≤5)∨(9≤u∧u≤11))→1≤m→m≤1000→Other N { Pa.zero with k:=4,f:=f,p:=p,q:=q,u:=u,m:=m }
 | small {p u:Int}:(p=1∨p=2)→(u=0∨u=1)→Other N { Pa.zero with k:=5,p:=p,u:=u }
 | order {k f u:Int}:(k=6∨k=7∨k=18∨k=9)→dZ N f→0≤u→u<60→(k≠9→u≤2)→Other N { Pa.zero with k:=k,f:=f,u:=u }
 | extend {f u m:Int}:dZ N f→0≤u→u≤2→1≤m→m≤4→Other N { Pa.zero with k:=8,f:=f,u:=u,m:=m }
 | JD {k f p:Int}:(k=12∨k=14)→dZ N f→1≤p→p≤4→Other N { Pa.zero with k:=k,f:=f,p:=p }
 | decide {f q u:Int} {cl:List Cl}:dZ N f→(q=0∨q=1)→((u=0∨u=1)∧cl=[]∨u=2∧nJ cl)→Other N { Pa.zero with k:=13,f:=f,q:=q,u:=u,cl:=cl }
 | transfer {f p q sn sd:Int}:dZ N f→1≤p→p≤3→p<q→q≤p+2→EL sn sd→Other N { Pa.zero with k:=16,f:=f,p:=p,q:=q,sn:=sn,sd:=sd }
 | MF {f p q u:Int}:dZ N f→1≤p→p≤3→p<q→q≤p+2→0≤u→u<2000→Other N { Pa.zero with k:=17,f:=f,p:=p,q:=q,u:=u }
 | art {g:Fm}:bY g→Other N { Pa.zero with k:=19,fx:=g }
 | closure {o u:Int}:(o=0∨o=1)→0≤u→u<20→Other N { Pa.zero with k:=20,o:=o,u:=u }
 | rule {o u m:Int}:(o=0∨o=1)→0≤u→u≤18→1≤m→m≤50→Other N { Pa.zero with k:=21,o:=o,u:=u,m:=m }
def bG (y:Pa) (d n:Int):Pa:={ y with d:=d,n:=n,u:=if y.k=9∨y.k=17∨y.k=20 then d+y.u else y.u }
def DJ (N:Nat) (x:Pa):Prop:=∃y d n,(zJ N y∨Other N y)∧35600≤d∧d≤38000∧x=bG y d n
def qo (l:List Pa):Nat:=(l.filter fun x=>x.k==0).length
def Made (l:List Pa):Prop:=∀(i:Nat) (h:i<l.length),DJ (qo (l.take i)) l[i]∧l[i].n=4*(i:Int)∧(i=0→l[i].k=0)
end PA
namespace Go.Proofs.YtgicfogmdfdjmaaGreatDoor
open Go.RowKit PA
theorem litI {W w:World} {A:aH} {I:Mem} (h:Sat W w (sep (kn I) A)) (ns:List Int) (t:TypeId) (hb:ns.length≤maxLen):
 ∃J,Mem.le I J∧(pF.slice 1).rel J [.slice (some ⟨w.heap.size,0,none⟩) ns.length ns.length] ns∧Sat W (w.alloc (.cells (ns.map iv).toArray t)) (sep (kn J) A):=by
 have h1:=(h.alloc (.cells (ns.map iv).toArray t)).settle
 obtain⟨J,hle,hp,h2⟩:=(show Sat W _ (sep (V6 w.heap.size (.cells (ns.map iv).toArray t)) (sep (kn I) A)) from h1).learn
 refine⟨J,hle,kH.2 ⟨_,_,rfl,⟨Nat.le_refl _,hb,fun h=>by cases h⟩,.inr ⟨w.heap.size,0,_,t,(0,0),rfl,hp,fun i u hu=>by simpa using hu⟩⟩,h2⟩
theorem nilI (I:Mem):(pF.slice 1).rel I [.slice none 0 0] []:=kH.2 ⟨none,0,rfl,⟨Nat.le_refl _,Nat.zero_le _,fun _=>rfl⟩,.inl rfl⟩
end Go.Proofs.YtgicfogmdfdjmaaGreatDoor
namespace PA
open Go Go.RowKit
section
variable {P:Program} {ops:Array Oper} {Q:Exit→Act→World→Prop} {S:World→Prop} {W:World}
theorem MN {o:Oper} {a:Act} {Pre:aH} {v1:Value} {Post:aH} (hg:Region.wanted o (yielded ops a.tmps)=true)
 (hr:∀(w:World) (A:aH),Sat W w (sep Pre A)→∃w',(execOp a.eval o).run P w=.ok (.value v1) w'∧Sat W w' (sep Post A)):gX P ops W o a Pre (fun v=>sep (fact (v=v1)) Post):=
 ⟨hg,fun w A h=>.inl (by
  obtain⟨w',h1,h2⟩:=hr w A h
  exact⟨v1,w',h1,by rw[aj];exact Sat.fact.2 ⟨rfl,h2⟩⟩)⟩
def TN (Pre Mid Post:aH) (v1 u1 v2:Value):List Value→aH
 | []=>Pre
 | [v]=>sep (fact (v=v1)) Mid
 | [v,u]=>sep (fact (v=v1∧u=u1)) Mid
 | v::u::x::r=>sep (fact (v=v1∧u=u1∧x=v2∧r=[])) Post
theorem QG {Pre Mid Post:aH} {v1 u1 v2:Value} {a0:Act} {i k j:Nat} {oi oj:Oper} {di:Option Tmp} (hdi:aY ops i=di) (hoi:ops[i]?=some oi) (hsi:∀cs b,oi.op≠.select cs b) (hoj:ops[j]?=some oj) (hsj:∀cs b,oj.op≠.select cs b)
 (hb:((Region.before ops).getD j 0).testBit i=true) (h1:gX P ops W oi a0 Pre (fun v=>sep (fact (v=v1)) Mid)) (hpl:lU ops k=true) (hF:uX P ops (a0.put di v1) [k] [u1])
 (h2:gX P ops W oj ((a0.put di v1).put (aY ops k) u1) Mid (fun v=>sep (fact (v=v2)) Post))
 (hw2:∀v u,Region.wanted oj (yielded ops ((a0.put di v).put (aY ops k) u).tmps)=true):
 sK P ops W a0 (TN Pre Mid Post v1 u1 v2) [] [(i,[k]),(j,[])]:=by
 subst hdi
 refine⟨⟨oi,hoi,hsi,h1⟩,fun y hy=>?_,fun k' hk'=>?_,fun v w B h=>?_,fun v us hus=>?_⟩
 ·rw[List.mem_singleton.1 hy];exact hb
 ·rw[List.mem_singleton.1 hk'];exact hpl
 ·have h':Sat W w (sep (sep (fact (v=v1)) Mid) B):=h
  rw[aj] at h'
  obtain⟨rfl,h3⟩:=Sat.fact.1 h'
  refine⟨[u1],hF,?_⟩
  show Sat W w (sep (sep (fact (v=v∧u1=u1)) Mid) B)
  rw[aj]
  exact Sat.fact.2 ⟨⟨rfl,rfl⟩,h3⟩
 ·match us,hus with
  | [u],_=>
   refine⟨⟨oj,hoj,hsj,hw2 v u,fun w A hS=>?_⟩,fun y hy=>(by cases hy),fun k' hk'=>(by cases hk'),fun v' w B h=>⟨[],trivial,h⟩,fun _ _ _=>trivial⟩
   have hS':Sat W w (sep (sep (fact (v=v1∧u=u1)) Mid) A):=hS
   rw[aj] at hS'
   obtain⟨⟨rfl,rfl⟩,hS2⟩:=Sat.fact.1 hS'
   have conv:∀(v':Value) (w':World),Sat W w' (sep (sep (fact (v'=v2)) Post) A)→Sat W w' (sep (TN Pre Mid Post v u v2 ([v,u]++[v'])) A):=fun v' w' h=>by
    show Sat W w' (sep (sep (fact (v=v∧u=u∧v'=v2∧([]:List Value)=[])) Post) A)
    rw[aj] at h ⊢
    obtain⟨h1,h2⟩:=Sat.fact.1 h
    exact Sat.fact.2 ⟨⟨rfl,rfl,h1,rfl⟩,h2⟩
   rcases h2.2 w A hS2 with ⟨v',w',h3,h4⟩|⟨f,args,w1,h3,h4⟩
   ·exact .inl ⟨v',w',h3,conv v' w' h4⟩
   ·refine .inr ⟨f,args,w1,h3,h4.mono ?_⟩
    rintro e w' ⟨v',rfl,h5⟩
    exact⟨v',rfl,conv v' w' h5⟩
theorem He {Pre Mid Post:aH} {v1 u1 v2:Value} {A:aH} {w:World} {i k j:Nat} {dn:List (Nat×Value)} (hdn:dn.map (·.1)=[i,k,j])
 (h:Sat W w (sep (TN Pre Mid Post v1 u1 v2 (dn.map (·.2))) A)):dn=[(i,v1),(k,u1),(j,v2)]∧Sat W w (sep Post A):=by
 match dn,hdn with
 | [(i',u),(k',x),(j',y)],hdn=>
  simp only[List.map_cons,List.map_nil,List.cons.injEq,and_true] at hdn
  obtain⟨rfl,rfl,rfl⟩:=hdn
  have h':Sat W w (sep (sep (fact (u=v1∧x=u1∧y=v2∧([]:List Value)=[])) Post) A):=h
  rw[aj] at h'
  obtain⟨⟨rfl,rfl,rfl,-⟩,h3⟩:=Sat.fact.1 h'
  exact⟨rfl,h3⟩
end
end PA
namespace PA
open Go Go.RowKit
section
variable {P:Program} {ops:Array Oper} {Q:Exit→Act→World→Prop} {S:World→Prop} {W:World}
theorem EW {s:pU}:∀{l:List pU},s∈l→∀A,∃X,wS l A=sep s.now X
 | [],h,_=>by cases h
 | u::l,h,A=>by
  rcases List.mem_cons.1 h with rfl|h
  ·exact⟨_,by rw[jI,mQ]⟩
  ·exact EW h (sep u.now A)
theorem Oe {ts:List TS} {nP:List pU} (h:oV ts nP) {t:TS} (ht:t∈ts):∃s∈nP,s.A=t.A:=by
 unfold oV at h
 have:(nums t.ids,t.A)∈nP.map (fun s=>(s.dn.map (·.1)++nums s.td,s.A)):=by rw[h];exact List.mem_map.2 ⟨t,ht,rfl⟩
 obtain⟨s,hs,e⟩:=List.mem_map.1 this
 exact⟨s,hs,(Prod.mk.inj e).2⟩
theorem J9 {a0:Act} {A:aH} {b:Bool} {K:Act→World→Prop} (ts:List TS) (hS:b=true→∃t∈ts,∀us w X,Sat W w (sep (t.A us) X)→S w) (hfin:Og ops W a0 K ts [] A):
 ∀(n:Nat) (nP:List pU) (E:List (Nat×List Nat)) (w:World),E.length=n→E.Perm (nP.flatMap (·.td))→oV ts nP→(∀s∈nP,sK P ops W a0 s.A s.dn s.td)→(nP.Pairwise fun s t=>Ko ops s.all t.all)→Sat W w (wS nP A) →
  tZ P ops Q S b n E K (puts ops (nP.flatMap (·.dn)) a0) w:=by
 intro n
 induction n with
 | zero=>
  intro nP E w hn hp hL _ _ hw
  have hE:=List.eq_nil_of_length_eq_zero hn
  subst hE
  have:=zS nP ts [] A hL (List.nil_perm.1 hp) hfin w hw
  rw[List.nil_append] at this
  exact this
 | succ n ih=>
  intro nP E w hn hp hL hg hap hw i hi hr
  obtain⟨s,hs,his⟩:=List.mem_flatMap.1 (hp.mem_iff.1 hi)
  obtain⟨S1,S2,rfl⟩:=List.append_of_mem hs
  obtain⟨dn,td,AT⟩:=s
  cases td with
  | nil=>simp at his
  | cons k td=>
   have hgs:=hg _ hs
   obtain⟨⟨o,ho,hsel,hd⟩,hch,hplain,htl,hnext⟩:=hgs
   have hik:i=k:=by
    rcases List.mem_cons.1 his with e|hm
    ·exact e
    ·exfalso
     have h1:=hch i hm
     have h2:k∈E:=hp.mem_iff.2 (List.mem_flatMap.2 ⟨_,hs,by simp⟩)
     have h3:=List.all_eq_true.1 hr k h2
     rw[h1] at h3
     cases h3
   subst hik
   have hall:∀j∈dn.map (·.1)++i.1::i.2,j∈pU.all ⟨dn,i::td,AT⟩:=fun j hj=>by
    unfold pU.all nums
    rw[List.flatMap_cons]
    rcases List.mem_append.1 hj with hj|hj
    ·exact List.mem_append_left _ hj
    ·exact List.mem_append_right _ (List.mem_append_left _ hj)
   have hpw:=List.pairwise_append.1 hap
   have hpc:=List.pairwise_cons.1 hpw.2.1
   have hl1:∀x∈S1.flatMap (·.dn),∀j∈dn.map (·.1)++i.1::i.2,apartB ops x.1 j=true:=fun x hx j hj=>by
    obtain⟨s1,hs1,hx1⟩:=List.mem_flatMap.1 hx
    exact hpw.2.2 s1 hs1 ⟨dn,i::td,AT⟩ (by simp) x.1 (List.mem_append_left _ (List.mem_map.2 ⟨x,hx1,rfl⟩)) j (hall j hj)
   have hl2:∀x∈S2.flatMap (·.dn),∀j∈dn.map (·.1)++i.1::i.2,apartB ops j x.1=true:=fun x hx j hj=>by
    obtain⟨s1,hs1,hx1⟩:=List.mem_flatMap.1 hx
    exact hpc.1 s1 hs1 j (hall j hj) x.1 (List.mem_append_left _ (List.mem_map.2 ⟨x,hx1,rfl⟩))
   have Ib:∀Qz:List (Nat×Value),(∀y∈Qz,y.1∈dn.map (·.1)++i.1::i.2)→puts ops ((S1++⟨Qz,td,AT⟩::S2).flatMap (·.dn)) a0=puts ops (S2.flatMap (·.dn)) (puts ops (S1.flatMap (·.dn)) (puts ops Qz a0)):=fun Qz XI=>by
    rw[List.flatMap_append,List.flatMap_cons,dF,dF]
    congr 1
    exact uf Qz _ (fun x hx y hy=>hl1 x hx y.1 (XI y hy)) a0
   have Ic:puts ops ((S1++⟨dn,i::td,AT⟩::S2).flatMap (·.dn)) a0=puts ops (S2.flatMap (·.dn)) (puts ops (S1.flatMap (·.dn)) (puts ops dn a0)):=by
    rw[←Ib dn (fun y hy=>List.mem_append_left _ (List.mem_map.2 ⟨y,hy,rfl⟩)),List.flatMap_append,List.flatMap_append,List.flatMap_cons,List.flatMap_cons]
   have hboth:∀x∈S1.flatMap (·.dn)++S2.flatMap (·.dn),∀j∈dn.map (·.1)++i.1::i.2,apartB ops x.1 j=true∨apartB ops j x.1=true:=fun x hx j hj=>by
    rcases List.mem_append.1 hx with hx|hx
    ·exact .inl (hl1 x hx j hj)
    ·exact .inr (hl2 x hx j hj)
   have hd':gX P ops W o (puts ops ((S1++⟨dn,i::td,AT⟩::S2).flatMap (·.dn)) a0) (AT (dn.map (·.2))) (fun v=>AT (dn.map (·.2)++[v])):=by
    rw[Ic,←dF]
    exact gX.puts ho hsel _ (fun x hx=>hboth x hx i.1 (by simp)) hd
   have hw2:Sat W w (sep (AT (dn.map (·.2))) (wS S2 (wS S1 A))):=by
    rw[lS,jI,mQ] at hw
    exact hw
   refine hd'.wpOp ho hw2 (fun v w' hv=>?_)
   refine⟨fun hb=>?_,?_⟩
   ·obtain⟨t,ht,hSt⟩:=hS hb
    obtain⟨s,hs,hsA⟩:=Oe hL ht
    rcases List.mem_append.1 hs with h|h
    ·obtain⟨X,hX⟩:=EW h A
     rw[hX,mQ] at hv
     have hv3:Sat W w' (sep (s.A (s.dn.map (·.2))) (sep (AT (dn.map (·.2)++[v])) (wS S2 X))):=hv.p1
     rw[hsA] at hv3
     exact hSt _ _ _ hv3
    ·rcases List.mem_cons.1 h with h|h
     ·have e:AT=t.A:=by rw[←hsA,h]
      rw[e] at hv
      exact hSt _ _ _ hv
     ·obtain⟨X,hX⟩:=EW h (wS S1 A)
      rw[hX] at hv
      have hv3:Sat W w' (sep (s.A (s.dn.map (·.2))) (sep (AT (dn.map (·.2)++[v])) X)):=hv.p1
      rw[hsA] at hv3
      exact hSt _ _ _ hv3
   ·obtain⟨us,hpu,hv2⟩:=htl v w' _ hv
    have EX:=zT hpu
    have hdo:aY ops i.1=o.dst:=by unfold aY;rw[ho];rfl
    have e1:(puts ops ((S1++⟨dn,i::td,AT⟩::S2).flatMap (·.dn)) a0).put o.dst v=puts ops (S1.flatMap (·.dn)++S2.flatMap (·.dn)) (puts ops (dn++[(i.1,v)]) a0):=by
     rw[Ic,←hdo,←dF,dF dn]
     show _=puts ops _ ((puts ops dn a0).put (aY ops i.1) v)
     exact (lT v _ (fun x hx=>hboth x hx i.1 (by simp)) _).symm
    rw[e1]
    refine qE i.2 us _ w' hplain (wU _ hplain (fun x hx j hj=>hboth x hx j (by simp[hj])) hpu) ?_
    have e2:puts ops (i.2.zip us) (puts ops (S1.flatMap (·.dn)++S2.flatMap (·.dn)) (puts ops (dn++[(i.1,v)]) a0))=puts ops ((S1++⟨dn++(i.1,v)::i.2.zip us,td,AT⟩::S2).flatMap (·.dn)) a0:=by
     rw[Ib (dn++(i.1,v)::i.2.zip us) (fun y hy=>?_)]
     ·rw[←dF (S1.flatMap (·.dn))]
      have e3:dn++(i.1,v)::i.2.zip us=(dn++[(i.1,v)])++i.2.zip us:=by simp
      rw[e3,dF (dn++[(i.1,v)])]
      have key:∀(z:List (Nat×Value)),(∀y∈z,y.1∈i.2)→∀(L:List (Nat×Value)),(∀x∈L,∀j∈dn.map (·.1)++i.1::i.2,apartB ops x.1 j=true∨apartB ops j x.1=true)→∀a:Act,puts ops z (puts ops L a)=puts ops L (puts ops z a):=by
       intro z
       induction z with
       | nil=>intro _ L _ a;rfl
       | cons y z ihz=>
        intro hz L hL a
        show puts ops z ((puts ops L a).put (aY ops y.1) y.2)=puts ops L (puts ops z (a.put (aY ops y.1) y.2))
        rw[←lT y.2 L (fun x hx=>hL x hx y.1 (List.mem_append_right _ (List.mem_cons_of_mem _ (hz y (by simp))))),ihz (fun u hu=>hz u (by simp[hu])) L hL]
      exact key _ (fun y hy=>by obtain⟨y1,y2⟩:=y;exact (List.of_mem_zip hy).1) _ hboth _
     ·rcases List.mem_append.1 hy with hy|hy
      ·exact List.mem_append_left _ (List.mem_map.2 ⟨y,hy,rfl⟩)
      ·rcases List.mem_cons.1 hy with rfl|hy
       ·simp
       ·obtain⟨y1,y2⟩:=y
        exact List.mem_append_right _ (List.mem_cons_of_mem _ (List.of_mem_zip hy).1)
    rw[e2]
    have hzm:((i.1,v)::i.2.zip us).map (·.1)=i.1::i.2:=by rw[List.map_cons,List.map_fst_zip (by omega)]
    have hzs:((i.1,v)::i.2.zip us).map (·.2)=v::us:=by rw[List.map_cons,List.map_snd_zip (by omega)]
    refine ih _ (E.erase i) w' ?_ ?_ ?_ ?_ ?_ ?_
    ·rw[List.length_erase_of_mem hi,hn];rfl
    ·have h1:((S1++⟨dn,i::td,AT⟩::S2).flatMap (·.td)).Perm (i::(S1++⟨dn++(i.1,v)::i.2.zip us,td,AT⟩::S2).flatMap (·.td)):=by
      simp only[List.flatMap_append,List.flatMap_cons]
      exact List.perm_middle
     have h2:=(hp.trans h1).erase i
     rw[List.erase_cons_head] at h2
     exact h2
    ·unfold oV at *
     rw[←hL]
     simp only[List.map_append,List.map_cons]
     rw[show i.1::(i.2.zip us).map (·.1)=i.1::i.2 by rw[←hzm];rfl]
     congr 2
     simp[nums]
    ·intro s hs'
     rcases List.mem_append.1 hs' with h|h
     ·exact hg s (List.mem_append_left _ h)
     ·rcases List.mem_cons.1 h with rfl|h
      ·exact hnext v us EX
      ·exact hg s (by simp[h])
    ·have hsame:pU.all ⟨dn++(i.1,v)::i.2.zip us,td,AT⟩=pU.all ⟨dn,i::td,AT⟩:=by
      unfold pU.all nums
      rw[List.map_append,hzm,List.flatMap_cons,List.append_assoc]
     refine List.pairwise_append.2 ⟨hpw.1,List.pairwise_cons.2 ⟨fun y hy=>?_,hpc.2⟩,fun x hx y hy=>?_⟩
     ·rw[hsame];exact hpc.1 y hy
     ·rcases List.mem_cons.1 hy with rfl|hy
      ·rw[hsame];exact hpw.2.2 x hx _ (List.mem_cons_self)
      ·exact hpw.2.2 x hx y (by simp[hy])
    ·rw[lS,jI,mQ]
     show Sat W w' (sep (AT ((dn++(i.1,v)::i.2.zip us).map (·.2))) (wS S2 (wS S1 A)))
     rw[List.map_append,hzs]
     exact hv2
theorem oH {a:Act} {w:World} {A:aH} {b:Bool} {l:List ig} {K:Act→World→Prop} (ts:List TS) (hS:b=true→∃t∈ts,∀us w X,Sat W w (sep (t.A us) X)→S w)
 (hap:vk ops (ts.map (fun t=>nums t.ids))=true) (hg:∀t∈ts,sK P ops W a t.A [] t.ids) (hw:Sat W w (ts.foldl (fun B t=>sep (t.A []) B) A)) (hfin:Og ops W a (jG P ops Q S l K) ts [] A):
 jG P ops Q S (.grp b (ts.flatMap (·.ids))::l) K a w:=by
 have XJ:wS (ts.map fun t=>(⟨[],t.ids,t.A⟩:pU)) A=ts.foldl (fun B t=>sep (t.A []) B) A:=by
  rw[wS,List.foldl_map];rfl
 have h:=J9 (P:=P) (Q:=Q) (S:=S) (b:=b) ts hS hfin _ (ts.map fun t=>(⟨[],t.ids,t.A⟩:pU)) (ts.flatMap (·.ids)) w rfl ?_ ?_ ?_ (ug ts hap) (by rw[XJ];exact hw)
 ·have e:(ts.map fun t=>(⟨[],t.ids,t.A⟩:pU)).flatMap (·.dn)=[]:=by
   induction ts with
   | nil=>rfl
   | cons t ts ih=>simp
  rw[e] at h
  exact h
 ·rw[List.flatMap_map]
 ·unfold oV;simp
 ·intro s hs
  obtain⟨t,ht,rfl⟩:=List.mem_map.1 hs
  exact hg t ht
end
end PA
namespace PA
open Go Go.RowKit
def QA (ops:Array Oper) (bf:Array Nat) (b:Bool) (E:List (Nat×List Nat)):Bool:=
 E.all (fun x=>x.2.all (fun j=>(bf.getD j 0).testBit x.1))&&E.all (fun x=>yu ops bf (x.2.map fun j=>(j,(.inr none:Kd)))) &&
 E.all (fun x=>E.all fun y=>x==y||(bf.getD x.1 0).testBit y.1||x.2.all fun u=>(mF b y).all fun v=>dA ops bf (u,.inr none) v)
section
variable {P:Program} {ops:Array Oper} {Q:Exit→Act→World→Prop} {S:World→Prop}
structure Oh (ops:Array Oper) (bf:Array Nat) (b:Bool) (E:List (Nat×List Nat)):Prop where
 own:∀x∈E,∀j∈x.2,(bf.getD j 0).testBit x.1=true
 seq:∀x∈E,x.2.Pairwise fun u v=>dA ops bf (u,.inr none) (v,.inr none)=true
 other:∀x∈E,∀y∈E,x≠y→(bf.getD x.1 0).testBit y.1=false→∀u∈x.2,∀v∈mF b y,dA ops bf (u,.inr none) v=true
theorem QB {bf:Array Nat} {b:Bool} {E:List (Nat×List Nat)} (h:QA ops bf b E=true):Oh ops bf b E:=by
 simp only[QA,Bool.and_eq_true,List.all_eq_true,Bool.or_eq_true,beq_iff_eq] at h
 obtain⟨⟨h1,h2⟩,h3⟩:=h
 refine⟨h1,fun x hx=>zU _ (h2 x hx),fun x hx y hy hne hnb u hu v hv=>?_⟩
 rcases h3 x hx y hy with (e|e)|h
 ·exact absurd e hne
 ·rw[hnb] at e;cases e
 ·exact h u hu v hv
theorem Oh.erase {bf:Array Nat} {b:Bool} {E:List (Nat×List Nat)} (h:Oh ops bf b E) (x:Nat×List Nat):Oh ops bf b (E.erase x):=
 ⟨fun y hy=>h.own y (List.mem_of_mem_erase hy),fun y hy=>h.seq y (List.mem_of_mem_erase hy),fun y hy z hz=>h.other y (List.mem_of_mem_erase hy) z (List.mem_of_mem_erase hz)⟩
structure WB (ops:Array Oper) (bf:Array Nat) (listed:Array Bool) (l:List ig):Prop where
 size:listed.size=ops.size
 mem:∀i,i∈(bU l).map (·.1)↔i<ops.size∧listed.getD i true=false
 nodup:((bU l).map (·.1)).Nodup
 pair:l.Pairwise fun x y=>∀u∈x.fl,∀v∈y.fl,dA ops bf u v=true
 dep:(bU l).Pairwise fun x y=>jD ops x.1 y.1=false
 self:∀x∈bU l,jD ops x.1 x.1=false
 grp:∀b E,ig.grp b E∈l→Oh ops bf b E
 closed:∀d r,r<ops.size→listed.getD d false=true→(bf.getD d 0).testBit r=true→listed.getD r false=true
theorem Oi (hsel:∀(j:Nat) (o:Oper) cs b,ops[j]?=some o→o.op≠.select cs b) (hQ:∀c a d v w,Q (.panic c) (a.put d v) w→Q (.panic c) a w)
 (hbf:jH ops (Region.before ops)=true) (hon:∀(j:Nat) (o:Oper),ops[j]?=some o→∀e∈o.after,Region.binds .any e=true→e.on<ops.size):
 ∀(n:Nat) (l:List ig) (listed:Array Bool),(bU l).length=n→WB ops (Region.before ops) listed l→∀(a:Act) (w:World),jG P ops Q S l (Q .normal) a w→wpAny P .any ops Q n listed a w:=by
 obtain⟨bf,hbe⟩:=aG (Region.before ops)
 have Ia:∀(listed:Array Bool) (i:Nat),listed.size=ops.size→i<ops.size→(listed.getD i false=true↔¬listed.getD i true=false):=fun listed i hs hi=>by
  simp[Array.getD,hs,hi]
 have nil:∀(listed:Array Bool) (l:List ig),bU l=[]→WB ops (Region.before ops) listed l→Region.ready .any ops listed=[]:=fun listed l hl hI=>by
  simp only[Region.ready,List.filter_eq_nil_iff,List.mem_range]
  intro i hi
  have h':¬listed.getD i true=false:=fun hh=>by have:=(hI.mem i).2 ⟨hi,hh⟩;rw[hl] at this;simp at this
  have h'':listed.getD i true=true:=by simpa using h'
  simp[h'']
 intro n
 induction n with
 | zero=>
  intro l listed hn hI a w h
  have hl:=List.eq_nil_of_length_eq_zero hn
  exact⟨nil _ l hl hI,wV l hl a w h⟩
 | succ n ih=>
  intro l listed hn hI a w h
  refine⟨fun hr=>?_,fun j hj=>?_⟩
  ·exfalso
   cases hfl:bU l with
   | nil=>rw[hfl] at hn;simp at hn
   | cons x xs=>
    have hx:=(hI.mem x.1).1 (by rw[hfl];simp)
    have hmem:x.1∈Region.ready .any ops listed:=by
     simp only[Region.ready,List.mem_filter,List.mem_range]
     refine⟨hx.1,?_⟩
     have:listed.getD x.1 true=false:=hx.2
     have ho:ops[x.1]?=some ops[x.1]:=Array.getElem?_eq_getElem hx.1
     simp only[this,Bool.not_false,Bool.true_and,ho,Option.map_some,Option.getD_some]
     rw[Array.all_eq_true]
     intro k hk
     have hmem:=Array.getElem_mem hk
     by_cases hb:Region.binds .any (ops[x.1].after[k])=true
     ·have hlt:=hon x.1 _ ho _ hmem hb
      have zO:jD ops x.1 (ops[x.1].after[k]).on=true:=by
       simp only[jD,ho,Array.any_eq_true]
       exact⟨k,hk,by simp[hb]⟩
      have hnot:(ops[x.1].after[k]).on∉(bU l).map (·.1):=by
       intro hm
       rw[hfl] at hm
       simp only[List.map_cons,List.mem_cons,List.mem_map] at hm
       rcases hm with hm|⟨y,hy,hm⟩
       ·have:=hI.self x (by rw[hfl];simp)
        rw[hm] at zO
        rw[zO] at this;cases this
       ·have hd:=hI.dep
        rw[hfl] at hd
        have:=(List.pairwise_cons.1 hd).1 y hy
        rw[hm,zO] at this
        cases this
      have h2:¬listed.getD (ops[x.1].after[k]).on true=false:=fun e=>hnot ((hI.mem _).2 ⟨hlt,e⟩)
      have:=(Ia listed _ hI.size hlt).2 h2
      simp[this]
     ·simp[hb]
    rw[hr] at hmem;cases hmem
  ·simp only[Region.ready,List.mem_filter,List.mem_range,Bool.and_eq_true,Bool.not_eq_true'] at hj
   obtain⟨hjs,hjl,hja⟩:=hj
   have hjm:=(hI.mem j).2 ⟨hjs,hjl⟩
   cases hoj:ops[j]? with
   | none=>simp[hoj] at hja
   | some oj=>
    simp only[hoj,Option.map_some,Option.getD_some] at hja
    have yw:∀d,jD ops j d=true→listed.getD d false=true:=fun d hd=>by
     simp only[jD,hoj,Array.any_eq_true] at hd
     obtain⟨k,hk,hd⟩:=hd
     simp only[Bool.and_eq_true,beq_iff_eq] at hd
     rw[Array.all_eq_true] at hja
     have:=hja k hk
     rw[hd.1] at this
     simpa[hd.2] using this
    have hbl:∀r,r<ops.size→((Region.before ops).getD j 0).testBit r=true→listed.getD r false=true:=fun r hr hb=>by
     simp only[jH,List.all_eq_true,List.mem_range] at hbf
     have:=hbf j hjs r hr
     simp only[hb,Bool.not_true,Bool.false_or,Bool.or_eq_true,List.any_eq_true,List.mem_range,Bool.and_eq_true] at this
     rcases this with h|⟨d,_,h1,h2⟩
     ·exact yw r h
     ·exact hI.closed d r hr (yw d h1) h2
    have hnotin:∀x∈bU l,((Region.before ops).getD j 0).testBit x.1=false:=fun x hx=>by
     have hxm:=(hI.mem x.1).1 (List.mem_map.2 ⟨x,hx,rfl⟩)
     cases hb:((Region.before ops).getD j 0).testBit x.1 with
     | false=>rfl
     | true=>exact absurd hxm.2 ((Ia listed x.1 hI.size hxm.1).1 (hbl x.1 hxm.1 hb))
    have hclosed:∀d r,r<ops.size→(listed.setIfInBounds j true).getD d false=true→((Region.before ops).getD d 0).testBit r=true→(listed.setIfInBounds j true).getD r false=true:=by
     intro d r hr hd hb
     by_cases e:r=j
     ·subst e;simp[Array.getD,hI.size,hr]
     ·have hg:(listed.setIfInBounds j true).getD r false=listed.getD r false:=getD_set_ne _ _ _ _ _ e
      rw[hg]
      by_cases e2:d=j
      ·subst e2;exact hbl r hr hb
      ·have hg2:(listed.setIfInBounds j true).getD d false=listed.getD d false:=getD_set_ne _ _ _ _ _ e2
       rw[hg2] at hd
       exact hI.closed d r hr hd hb
    have QC:(listed.setIfInBounds j true).getD j true=true:=by simp[Array.getD,hI.size,hjs]
    have Ie:∀(F:List Nat),(∀i,i∈F↔i∈(bU l).map (·.1)∧i≠j)→∀i,i∈F↔i<ops.size∧(listed.setIfInBounds j true).getD i true=false:=fun F hF i=>by
     rw[hF,hI.mem]
     by_cases e:i=j
     ·subst e;simp[QC]
     ·have hg:(listed.setIfInBounds j true).getD i true=listed.getD i true:=getD_set_ne _ _ _ _ _ e
      rw[hg];simp[e]
    obtain⟨⟨j',kj⟩,hxf,hje⟩:=List.mem_map.1 hjm
    obtain rfl:j'=j:=hje
    obtain⟨it,hit,hin⟩:=List.mem_flatMap.1 hxf
    obtain⟨l1,l2,rfl⟩:=List.append_of_mem hit
    have hpw:=List.pairwise_append.1 hI.pair
    have hfe:bU (l1++it::l2)=bU l1++(it.fl++bU l2):=by rw[dY,iF]
    have hok:∀x∈bU l1,dA ops (Region.before ops) x (j',kj)=true∧((Region.before ops).getD j' 0).testBit x.1=false:=fun x hx=>by
     obtain⟨y,hy,hxy⟩:=List.mem_flatMap.1 hx
     exact⟨hpw.2.2 y hy it (by simp) x hxy (j',kj) hin,hnotin x (by rw[hfe];exact List.mem_append_left _ hx)⟩
    have hnd:=hI.nodup
    rw[hfe] at hnd
    rw[jV] at h
    cases it with
    | one i k=>
     simp only[ig.fl,List.mem_singleton,Prod.mk.injEq] at hin
     obtain⟨rfl,rfl⟩:=hin
     refine wpOp_mono (fun a' w' ⟨h1,_,_⟩=>ih (l1++l2) (listed.setIfInBounds j' true) ?_ ?_ a' w' (by rw[jV];exact h1)) (DW (kj:=kj) hoj hsel hQ (jG P ops Q S (.one j' kj::l2) (Q .normal)) (jG P ops Q S l2 (Q .normal)) ?_ l1 hok a w h)
     ·rintro a w ⟨o,ho,h⟩
      rcases kj with b|_|_|_
      case inr.none=>obtain⟨v,hy,h⟩:=h;exact (hy w).wpOp ho ⟨h,fun h=>(by cases h),fun _=>rfl⟩
      case inr.some.true=>obtain⟨hS,v,hy,h⟩:=h;exact (hy w hS).wpOp ho ⟨h,fun h=>(by cases h),fun _=>rfl⟩
      case inr.some.false=>obtain⟨v,hy,h⟩:=h;exact hy.wpOp ho ⟨h,fun h=>(by cases h),fun _=>rfl⟩
      case inl=>exact wpOp_mono (fun a' w' ⟨h1,h2⟩=>⟨h2,fun hb=>h1 (by cases hb;rfl),fun hb=>(by simp[Kd.eff] at hb)⟩) h
     ·rw[hfe] at hn;rw[dY];simp[ig.fl] at hn ⊢;omega
     ·have hpf:List.Sublist (l1++l2) (l1++ig.one j' kj::l2):=List.Sublist.append_left (List.sublist_cons_self _ _) _
      have hsf:List.Sublist (bU (l1++l2)) (bU (l1++ig.one j' kj::l2)):=by
       rw[hfe,dY]
       exact List.Sublist.append_left (List.sublist_append_right _ _) _
      refine⟨by simp[hI.size],Ie _ fun i=>?_,?_,hI.pair.sublist hpf,hI.dep.sublist hsf,fun x hx=>hI.self x (hsf.subset hx),fun b E hm=>hI.grp b E (hpf.subset hm),hclosed⟩
      ·rw[hfe,dY]
       simp only[ig.fl,List.map_append,List.map_cons,List.map_nil,List.mem_append,List.mem_cons,List.not_mem_nil,or_false]
       have hn2:=hI.nodup
       rw[hfe] at hn2
       simp only[ig.fl,List.map_append,List.map_cons,List.map_nil,List.nodup_append,List.mem_append,List.mem_cons,List.not_mem_nil,or_false] at hn2
       constructor
       ·rintro (hi|hi)
        ·exact⟨.inl hi,fun e=>hn2.2.2 i hi j' (.inl rfl) e⟩
        ·exact⟨.inr (.inr hi),fun e=>hn2.2.1.2.2 j' rfl i hi e.symm⟩
       ·rintro⟨hi|hi|hi,hne⟩
        ·exact .inl hi
        ·exact absurd hi hne
        ·exact .inr hi
      ·exact hI.nodup.sublist (hsf.map _)
    | grp b E=>
     obtain⟨x,EY,XK⟩:=List.mem_flatMap.1 (show (j',kj)∈E.flatMap (mF b) from hin)
     have hG:=hI.grp b E (by simp)
     have hxm:(x.1,(.inl b:Kd))∈bU (l1++ig.grp b E::l2):=by
      rw[hfe]
      refine List.mem_append_right _ (List.mem_append_left _ ?_)
      exact List.mem_flatMap.2 ⟨x,EY,List.mem_cons_self⟩
     have hj':(j',kj)=(x.1,.inl b):=by
      rcases List.mem_cons.1 XK with e|hm
      ·exact e
      ·exfalso
       obtain⟨u,hu,e⟩:=List.mem_map.1 hm
       have e1:u=j':=congrArg Prod.fst e
       have h1:=hG.own x EY u hu
       have h2:=hnotin _ hxm
       rw[e1] at h1
       rw[h1] at h2
       cases h2
     obtain⟨rfl,rfl⟩:j'=x.1∧kj=.inl b:=Prod.mk.inj hj'
     obtain⟨E1,E2,XL,hEe,hEr⟩:=List.exists_erase_eq EY
     have hfl:bU (l1++ig.grp b E::l2)=bU l1++(E1.flatMap (mF b)++((x.1,.inl b)::((x.2.map fun j=>(j,(.inr none:Kd)))++E2.flatMap (mF b)))++bU l2):=by
      rw[hfe];show bU l1++(E.flatMap (mF b)++bU l2)=_
      rw[hEe,List.flatMap_append,List.flatMap_cons]
      simp[mF]
     have hfn:bU (l1++(x.2.map (fun j=>ig.one j (.inr none))++ig.grp b (E.erase x)::l2))=bU l1++((x.2.map fun j=>(j,(.inr none:Kd)))++(E1.flatMap (mF b)++E2.flatMap (mF b))++bU l2):=by
      rw[dY,dY,iF]
      show bU l1++(_++((E.erase x).flatMap (mF b)++bU l2))=_
      rw[hEr,List.flatMap_append]
      have:bU (x.2.map fun j=>ig.one j (.inr none))=x.2.map fun j=>(j,(.inr none:Kd)):=by
       unfold bU
       rw[List.flatMap_map]
       induction x.2 with
       | nil=>rfl
       | cons u us ih=>rw[List.flatMap_cons,ih];rfl
      rw[this]
      simp
     have hperm:(bU (l1++ig.grp b E::l2)).Perm ((x.1,.inl b)::bU (l1++(x.2.map (fun j=>ig.one j (.inr none))++ig.grp b (E.erase x)::l2))):=by
      rw[hfl,hfn]
      refine List.Perm.trans ?_ List.perm_middle
      refine List.Perm.append_left _ ?_
      refine List.Perm.append_right (bU l2) (show List.Perm _ ((x.1,(.inl b:Kd))::_) from List.Perm.trans List.perm_middle (List.Perm.cons _ ?_))
      rw[←List.append_assoc,←List.append_assoc]
      exact List.Perm.append_right _ List.perm_append_comm
     have hnd':=(hperm.map (fun y:Nat×Kd=>y.1)).nodup_iff.1 hI.nodup
     rw[List.map_cons] at hnd'
     obtain⟨hxn,XM⟩:=List.nodup_cons.1 hnd'
     have Oj:∀y∈E1,y∈E∧y≠x:=fun y hy=>⟨by rw[hEe];simp[hy],fun e=>XL (by rw[←e];exact hy)⟩
     have Ol:∀y∈E2,y∈E∧y≠x:=fun y hy=>by
      refine⟨by rw[hEe];simp[hy],fun e=>?_⟩
      have hn0:=hI.nodup
      rw[hfl] at hn0
      simp only[List.map_append,List.map_cons] at hn0
      have h3:=(List.nodup_append.1 (List.nodup_append.1 (List.nodup_append.1 hn0).2.1).1).2.1
      refine (List.nodup_cons.1 h3).1 (List.mem_append_right _ (List.mem_map.2 ⟨(x.1,.inl b),List.mem_flatMap.2 ⟨y,hy,by rw[e];exact List.mem_cons_self⟩,rfl⟩))
     have hfr:∀y∈E,((Region.before ops).getD x.1 0).testBit y.1=false:=fun y hy=>hnotin (y.1,.inl b) (by rw[hfe];refine List.mem_append_right _ (List.mem_append_left _ ?_);exact List.mem_flatMap.2 ⟨y,hy,List.mem_cons_self⟩)
     have vw:∀u∈x.2,∀v∈E1.flatMap (mF b)++E2.flatMap (mF b),dA ops (Region.before ops) (u,.inr none) v=true:=fun u hu v hv=>by
      rcases List.mem_append.1 hv with hv|hv
      ·obtain⟨y,hy,XO⟩:=List.mem_flatMap.1 hv
       exact hG.other x EY y (Oj y hy).1 (fun e=>(Oj y hy).2 e.symm) (hfr y (Oj y hy).1) u hu v XO
      ·obtain⟨y,hy,XO⟩:=List.mem_flatMap.1 hv
       exact hG.other x EY y (Ol y hy).1 (fun e=>(Ol y hy).2 e.symm) (hfr y (Ol y hy).1) u hu v XO
     have QD:∀{u v:Nat×Kd},dA ops (Region.before ops) u v=true→jD ops u.1 v.1=false:=fun h=>by
      simp only[dA,Bool.and_eq_true,Bool.not_eq_true'] at h
      exact h.1
     refine wpOp_mono (fun a' w' ⟨h1,_,_⟩=>ih (l1++(x.2.map (fun j=>ig.one j (.inr none))++ig.grp b (E.erase x)::l2)) (listed.setIfInBounds x.1 true) ?_ ?_ a' w' (by rw[jV];exact h1)) (DW (kj:=.inl b) hoj hsel hQ (jG P ops Q S (.grp b E::l2) (Q .normal)) (jG P ops Q S (x.2.map (fun j=>ig.one j (.inr none))++ig.grp b (E.erase x)::l2) (Q .normal)) ?_ l1 hok a w h)
     ·intro a w h
      have wW:(E.all fun r=>!((Region.before ops).getD x.1 0).testBit r.1)=true:=by
       rw[List.all_eq_true]
       intro r hr
       have h9:((Region.before ops).getD x.1 0).testBit r.1=false:=hnotin (r.1,.inl b) (by rw[hfe];refine List.mem_append_right _ (List.mem_append_left _ ?_);exact List.mem_flatMap.2 ⟨r,hr,List.mem_cons_self⟩)
       rw[h9];rfl
      have hlen:E.length=(E.erase x).length+1:=by
       have hp:0<E.length:=List.length_pos_of_mem EY
       rw[List.length_erase_of_mem EY];omega
      simp only[jG] at h
      rw[hlen] at h
      refine wpOp_mono (fun a' w' ⟨h1,h2⟩=>⟨QE (.grp b (E.erase x)::l2) (Q .normal) x.2 a' w' h2,fun hb=>h1 (by cases hb;rfl),fun hb=>(by simp[Kd.eff] at hb)⟩) (h x EY wW)
     ·have:=hperm.length_eq
      rw[List.length_cons] at this
      omega
     ·have hc:=List.pairwise_cons.1 hpw.2.1
      have hl1:∀y∈l1,∀u∈y.fl,∀v,v∈(x.2.map fun j=>(j,(.inr none:Kd)))∨v∈E1.flatMap (mF b)++E2.flatMap (mF b)→dA ops (Region.before ops) u v=true:=fun y hy u hu v hv=>by
       refine hpw.2.2 y hy (.grp b E) (by simp) u hu v ?_
       show v∈E.flatMap (mF b)
       rw[hEe,List.flatMap_append,List.flatMap_cons]
       rcases hv with hv|hv
       ·exact List.mem_append_right _ (List.mem_append_left _ (List.mem_cons_of_mem _ hv))
       ·rcases List.mem_append.1 hv with hv|hv
        ·exact List.mem_append_left _ hv
        ·exact List.mem_append_right _ (List.mem_append_right _ hv)
      have hl2:∀y∈l2,∀v∈y.fl,∀u,u∈(x.2.map fun j=>(j,(.inr none:Kd)))∨u∈E1.flatMap (mF b)++E2.flatMap (mF b)→dA ops (Region.before ops) u v=true:=fun y hy v hv u hu=>by
       refine hc.1 y hy u ?_ v hv
       show u∈E.flatMap (mF b)
       rw[hEe,List.flatMap_append,List.flatMap_cons]
       rcases hu with hu|hu
       ·exact List.mem_append_right _ (List.mem_append_left _ (List.mem_cons_of_mem _ hu))
       ·rcases List.mem_append.1 hu with hu|hu
        ·exact List.mem_append_left _ hu
        ·exact List.mem_append_right _ (List.mem_append_right _ hu)
      have hgf:ig.fl (.grp b (E.erase x))=E1.flatMap (mF b)++E2.flatMap (mF b):=by
       show (E.erase x).flatMap (mF b)=_
       rw[hEr,List.flatMap_append]
      have hone:∀y∈x.2.map (fun j=>ig.one j (.inr none)),∀u∈y.fl,u∈(x.2.map fun j=>(j,(.inr none:Kd))):=fun y hy u hu=>by
       obtain⟨j,hj,rfl⟩:=List.mem_map.1 hy
       rw[List.mem_singleton.1 hu]
       exact List.mem_map.2 ⟨j,hj,rfl⟩
      refine⟨by simp[hI.size],Ie _ fun k=>?_,XM,?_,?_,fun y hy=>hI.self y (hperm.symm.subset (List.mem_cons_of_mem _ hy)),?_,hclosed⟩
      ·have hmm:=(hperm.map (fun y:Nat×Kd=>y.1)).mem_iff (a:=k)
       rw[List.map_cons,List.mem_cons] at hmm
       rw[hmm]
       constructor
       ·intro hk
        exact⟨.inr hk,fun e=>hxn (by rw[←e];exact hk)⟩
       ·rintro⟨rfl|hk,hne⟩
        ·exact absurd rfl hne
        ·exact hk
      ·refine List.pairwise_append.2 ⟨hpw.1,List.pairwise_append.2 ⟨?_,List.pairwise_cons.2 ⟨fun y hy u hu v hv=>hl2 y hy v hv u (.inr (by rw[←hgf];exact hu)),hc.2⟩,fun y hy z hz u hu v hv=>?_⟩,fun y hy z hz u hu v hv=>?_⟩
       ·rw[List.pairwise_map]
        refine (hG.seq x EY).imp fun h u hu v hv=>?_
        rw[List.mem_singleton.1 hu,List.mem_singleton.1 hv]
        exact h
       ·have h1:=hone y hy u hu
        rcases List.mem_cons.1 hz with rfl|hz
        ·obtain⟨j,hj,rfl⟩:=List.mem_map.1 h1
         exact vw j hj v (by rw[←hgf];exact hv)
        ·exact hl2 z hz v hv u (.inl h1)
       ·rcases List.mem_append.1 hz with hz|hz
        ·exact hl1 y hy u hu v (.inl (hone z hz v hv))
        ·rcases List.mem_cons.1 hz with rfl|hz
         ·exact hl1 y hy u hu v (.inr (by rw[←hgf];exact hv))
         ·exact hpw.2.2 y hy z (by simp[hz]) u hu v hv
      ·have hd:=hI.dep
       rw[hfl] at hd
       rw[hfn]
       obtain⟨a1,a2,a3⟩:=List.pairwise_append.1 hd
       obtain⟨b1,b2,b3⟩:=List.pairwise_append.1 a2
       obtain⟨c1,c2,c3⟩:=List.pairwise_append.1 b1
       obtain⟨d1,d2⟩:=List.pairwise_cons.1 c2
       obtain⟨e1,e2,e3⟩:=List.pairwise_append.1 d2
       refine List.pairwise_append.2 ⟨a1,List.pairwise_append.2 ⟨List.pairwise_append.2 ⟨e1,List.pairwise_append.2 ⟨c1,e2,fun y hy z hz=>c3 y hy z (List.mem_cons_of_mem _ (List.mem_append_right _ hz))⟩,fun y hy z hz=>?_⟩,b2,fun y hy z hz=>b3 y ?_ z hz⟩,fun y hy z hz=>a3 y hy z ?_⟩
       ·obtain⟨j,hj,rfl⟩:=List.mem_map.1 hy
        exact QD (vw j hj z hz)
       ·rcases List.mem_append.1 hy with hy|hy
        ·exact List.mem_append_right _ (List.mem_cons_of_mem _ (List.mem_append_left _ hy))
        ·rcases List.mem_append.1 hy with hy|hy
         ·exact List.mem_append_left _ hy
         ·exact List.mem_append_right _ (List.mem_cons_of_mem _ (List.mem_append_right _ hy))
       ·rcases List.mem_append.1 hz with hz|hz
        ·rcases List.mem_append.1 hz with hz|hz
         ·exact List.mem_append_left _ (List.mem_append_right _ (List.mem_cons_of_mem _ (List.mem_append_left _ hz)))
         ·rcases List.mem_append.1 hz with hz|hz
          ·exact List.mem_append_left _ (List.mem_append_left _ hz)
          ·exact List.mem_append_left _ (List.mem_append_right _ (List.mem_cons_of_mem _ (List.mem_append_right _ hz)))
        ·exact List.mem_append_right _ hz
      ·intro b' E' hm
       rcases List.mem_append.1 hm with hm|hm
       ·exact hI.grp b' E' (List.mem_append_left _ hm)
       ·rcases List.mem_append.1 hm with hm|hm
        ·obtain⟨j,_,e⟩:=List.mem_map.1 hm
         cases e
        ·rcases List.mem_cons.1 hm with e|hm
         ·cases e
          exact hG.erase x
         ·exact hI.grp b' E' (by simp[hm])
def zV (ops:Array Oper) (bf:Array Nat):List ig→Bool
 | []=>true
 | .one _ _::l=>zV ops bf l
 | .grp b E::l=>QA ops bf b E&&zV ops bf l
theorem wX {bf:Array Nat}:∀(l:List ig),zV ops bf l=true→∀b E,ig.grp b E∈l→Oh ops bf b E
 | [],_,_,_,h=>by cases h
 | .one _ _::l,h,b,E,hm=>by
  rcases List.mem_cons.1 hm with e|hm
  ·cases e
  ·exact wX l h b E hm
 | .grp b' E'::l,h,b,E,hm=>by
  simp only[zV,Bool.and_eq_true] at h
  rcases List.mem_cons.1 hm with e|hm
  ·cases e
   exact QB h.1
  ·exact wX l h.2 b E hm
def MV (ops:Array Oper) (l:List ig):Bool:=
 Ig ops (Region.before ops) l&&QF ops (bU l)&&DV ops&&jH ops (Region.before ops)&&(bU l).length==ops.size&&nodupB ((bU l).map (·.1))&&((bU l).map (·.1)).all (fun i=>decide (i<ops.size))&&(List.range ops.size).all (fun i=>((bU l).map (·.1)).contains i) &&
 ops.all (fun o=>o.after.all fun e=>!Region.binds .any e||decide (e.on<ops.size))&&zV ops (Region.before ops) l
theorem fU {id:Nat} {a:Act} {w:World} (hm:P.follows .mixedOrders=true) (S:World→Prop) (l:List ig) (hok:MV ops l=true)
 (h:jG P ops (NoPanic Q) S l (Q .normal) a w.drew):(Code.region id ops true).wp P Q a w:=by
 simp only[MV,Bool.and_eq_true] at hok
 obtain⟨⟨⟨⟨⟨⟨⟨⟨⟨h1,h0⟩,h2⟩,h3⟩,h4⟩,h7⟩,h8⟩,h5⟩,h6⟩,h9⟩:=hok
 have hlen:(bU l).length=ops.size:=by simpa using h4
 have hall:∀i,i<ops.size→i∈(bU l).map (·.1):=fun i hi=>by
  simp only[List.all_eq_true,List.mem_range] at h5
  simpa using h5 i hi
 have hback:∀i,i∈(bU l).map (·.1)→i<ops.size:=fun i hi=>by
  rw[List.all_eq_true] at h8
  simpa using h8 i hi
 have hd:=EZ _ h0
 refine wp_region_noPanic (wp_region_any hm ?_)
 refine Oi (S:=S) ?_ ?_ h3 ?_ ops.size l _ hlen ?_ a w.drew h
 ·intro j o cs b ho hsel
  simp only[DV,Array.all_eq_true] at h2
  obtain⟨hj,rfl⟩:=Array.getElem?_eq_some_iff.1 ho
  have:=h2 j hj
  rw[hsel] at this
  cases this
 ·intro c a d v w hh;exact hh
 ·intro j o ho e he hb
  obtain⟨hj,rfl⟩:=Array.getElem?_eq_some_iff.1 ho
  rw[Array.all_eq_true] at h6
  have:=h6 j hj
  rw[Array.all_eq_true] at this
  obtain⟨k,hk,rfl⟩:=Array.mem_iff_getElem.1 he
  have:=this k hk
  simpa[hb] using this
 ·refine⟨by simp,fun i=>⟨fun hi=>?_,fun hi=>hall i hi.1⟩,oI _ h7,zW l h1,hd.1,hd.2,wX l h9,fun d r _ hd=>?_⟩
  ·have:=hback i hi
   exact⟨this,by simp[Array.getD,this]⟩
  ·exfalso
   simp only[Array.getD,Array.size_replicate] at hd
   split at hd<;>simp at hd
theorem JH {W:World} {Pre Mid Post:aH} {v1 v2:Value} {Cm:List Value} {a0:Act} {i j:Nat} {js:List Nat} {oi oj:Oper} {di dj:Option Tmp} (hdi:aY ops i=di) (hdj:aY ops j=dj) (hoi:ops[i]?=some oi) (hsi:∀cs b,oi.op≠.select cs b) (hoj:ops[j]?=some oj) (hsj:∀cs b,oj.op≠.select cs b)
 (hb:((Region.before ops).getD j 0).testBit i=true) (h1:gX P ops W oi a0 Pre (fun v=>sep (fact (v=v1)) Mid)) (h2:gX P ops W oj (a0.put di v1) Mid (fun v=>sep (fact (v=v2)) Post))
 (hw2:∀v,Region.wanted oj (yielded ops (a0.put di v).tmps)=true) (hpl:js.all (lU ops)=true) (hF:uX P ops ((a0.put di v1).put dj v2) js Cm):
 sK P ops W a0 (uV Pre Mid Post v1 v2 Cm) [] [(i,[]),(j,js)]:=by
 subst hdj
 exact rM hdi hoi hsi hoj hsj hb h1 h2 hw2 hpl hF
theorem DL {W:World} {Pre Mid Post:aH} {v1 u1 v2:Value} {a0:Act} {i k j:Nat} {oi oj:Oper} {di dk:Option Tmp} (hdi:aY ops i=di) (hdk:aY ops k=dk) (hoi:ops[i]?=some oi) (hsi:∀cs b,oi.op≠.select cs b) (hoj:ops[j]?=some oj) (hsj:∀cs b,oj.op≠.select cs b)
 (hb:((Region.before ops).getD j 0).testBit i=true) (h1:gX P ops W oi a0 Pre (fun v=>sep (fact (v=v1)) Mid)) (hpl:lU ops k=true) (hF:uX P ops (a0.put di v1) [k] [u1])
 (h2:gX P ops W oj ((a0.put di v1).put dk u1) Mid (fun v=>sep (fact (v=v2)) Post))
 (hw2:∀v u,Region.wanted oj (yielded ops ((a0.put di v).put dk u).tmps)=true):
 sK P ops W a0 (TN Pre Mid Post v1 u1 v2) [] [(i,[k]),(j,[])]:=by
 subst hdk
 exact QG hdi hoi hsi hoj hsj hb h1 hpl hF h2 hw2
theorem twoA_S {W:World} {Pre Mid Post:aH} {v1 v2:Value} {Cm:List Value} (h1:∀w X,Sat W w (sep Pre X)→S w) (h2:∀w X,Sat W w (sep Mid X)→S w) (h3:∀w X,Sat W w (sep Post X)→S w):∀us w X,Sat W w (sep (uV Pre Mid Post v1 v2 Cm us) X)→S w
 | [],w,X,h=>h1 w X h
 | [_],w,X,h=>by
  rw[uV,aj] at h
  exact h2 w X (Sat.fact.1 h).2
 | _::_::_,w,X,h=>by
  rw[uV,aj] at h
  exact h3 w X (Sat.fact.1 h).2
theorem Wi {W:World} {Pre Mid Post:aH} {v1 u1 v2:Value} (h1:∀w X,Sat W w (sep Pre X)→S w) (h2:∀w X,Sat W w (sep Mid X)→S w) (h3:∀w X,Sat W w (sep Post X)→S w):∀us w X,Sat W w (sep (TN Pre Mid Post v1 u1 v2 us) X)→S w
 | [],w,X,h=>h1 w X h
 | [_],w,X,h=>by
  rw[TN,aj] at h
  exact h2 w X (Sat.fact.1 h).2
 | [_,_],w,X,h=>by
  rw[TN,aj] at h
  exact h2 w X (Sat.fact.1 h).2
 | _::_::_::_,w,X,h=>by
  rw[TN,aj] at h
  exact h3 w X (Sat.fact.1 h).2
end
end PA
namespace Go.Proofs.YtgicfogmdfdjmaaGreatDoor
open Go.RowKit PA
theorem _root_.PA.MQ {k:IntKind} {a b:Int} (h:a=b):Ending.returned (.int k a)=.returned (.int k b):=by rw[h]
def KpB (n B:Nat) (W W':World):Prop:=Below n W W'∧W'.cell? ⟨B,0,none⟩=W.cell? ⟨B,0,none⟩
theorem KpB.refl (n B:Nat) (W:World):KpB n B W W:=⟨Below.refl _ _,rfl⟩
theorem KpB.trans {n B:Nat} {W W' W'':World} (h:KpB n B W W') (k:KpB n B W' W''):KpB n B W W'':=⟨h.1.trans k.1,k.2.trans h.2⟩
attribute [local go_sem] Oper.semAt_some
end Go.Proofs.YtgicfogmdfdjmaaGreatDoor
namespace Go.Proofs.YtgicfogmdfdjmaaGreatDoor
open Go.RowKit PA
attribute [local go_sem] Oper.semAt_some
end Go.Proofs.YtgicfogmdfdjmaaGreatDoor
namespace Go.Proofs.YtgicfogmdfdjmaaGreatDoor
open Go.RowKit PA
attribute [local go_sem] Oper.semAt_some
def wv (x:Nat):Value:=.int .i64 (wrap64 (x:Int))
end Go.Proofs.YtgicfogmdfdjmaaGreatDoor
namespace Go.Proofs.YtgicfogmdfdjmaaGreatDoor
open Go.RowKit PA
end Go.Proofs.YtgicfogmdfdjmaaGreatDoor
namespace Go.Proofs.YtgicfogmdfdjmaaGreatDoor
open Go.RowKit PA
end Go.Proofs.YtgicfogmdfdjmaaGreatDoor
namespace Go.Proofs.YtgicfogmdfdjmaaGreatDoor
open Go.RowKit PA
theorem fG:(Tryz.prog.info? 5).map (fun i=>(i.zero,i.size,i.bytes))=some (some (.int .u8 0),1,1):=by kernel_rfl
end Go.Proofs.YtgicfogmdfdjmaaGreatDoor
namespace Go.Proofs.YtgicfogmdfdjmaaGreatDoor
open Go.RowKit PA
theorem _root_.PA.Sat.Uw {W w:World} {A:aH} {E:Nat} {a:Option Addr} {n c:Nat} {xs:List Value} (h:Sat W w (sep (aN E 1 a n c xs) A)):∀b,a=some b→∀j u,xs[j]?=some u→w.cell? (b.add j)=some u:=by
 intro b hb j u hu
 obtain⟨g,e,hc⟩:=h.tJ (fun e=>by rw[e] at hu;simp at hu)
 rw[hb] at e;cases e
 have:=hc j u hu
 unfold Addr.add
 split
 ·rename_i e;subst e;exact this
 ·simpa using this
end Go.Proofs.YtgicfogmdfdjmaaGreatDoor
namespace Go.Proofs.YtgicfogmdfdjmaaGreatDoor
open Go.RowKit PA
theorem Gl (n:Int) (w:World) (h1:-9223372036854775808≤n) (h2:n≤9223372036854775807):Calls Tryz.prog 133 #[.int .i64 n] w fun e w'=>e=.returned (.int .u64 (Lib.zigzag n:Nat))∧w=w':=by
 by_cases h0:n<0
 ·go_enter Tryz.func133,Tryz.ntmps133
  go_wp2
  go_ret
  exact⟨MQ (by show 2*-(n+1)+1=_;unfold Lib.zigzag;rw[if_neg (by omega)];omega),rfl⟩
 ·go_enter Tryz.func133,Tryz.ntmps133
  go_wp2
  go_ret
  exact⟨MQ (by show 2*n=_;unfold Lib.zigzag;rw[if_pos (by omega)];omega),rfl⟩
end Go.Proofs.YtgicfogmdfdjmaaGreatDoor
