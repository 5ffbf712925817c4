/- Part of a proof. -/
import Derived.Test.YthfmaclnccdcbaaGreatDoorGActsValid9
import Derived.OrdersIn
import Derived.TacticsIn
namespace PA
open Go Go.Proofs.YthfmaclnccdcbaaGreatDoor
def bY (l:List Int) (i:Nat) (n:Int):Int:=match l[i]? with|some x=>dQ x n|none=>0
theorem aX (l:List Int) (i:Nat) (n:Int) (hn:0<n):0≤bY l i n∧bY l i n<n:=by
 unfold bY
 split
 ·exact iJ _ _ hn
 ·omega
end PA
namespace Go.Proofs.YthfmaclnccdcbaaGreatDoor
open Go.RowKit PA
def PL (I:Mem) (va:Value) (l:List Int):Prop:=(∃a c,va=.slice a l.length c)∧(oU.slice 1).rel I [va] l∧∀z∈l,Ol z
theorem PL.mono {I J:Mem} {va:Value} {l:List Int} (hl:Mem.le I J) (h:PL I va l):PL J va l:=⟨h.1,(oU.slice 1).mono hl h.2.1,h.2.2⟩
def bC (B:Nat) (va:Value) (pos day:Int) (fv:Value):aB:=blk B (.cells #[va,.int .i64 pos,.int .i64 day,fv] 86 (0,0))
theorem Oq {W w:World} {A:aB} {I:Mem} (va:Value) (l:List Int) (i:Nat) (n:Int) (hn0:0<n) (hn1:n≤1099511627776) (hi:i≤1000000) (hv:PL I va l) (h:Sat W w (sep (kn I) A)):
 Calls Tryz.prog 102 #[va,.int .i64 i,.int .i64 n] w fun e w'=>e=.returned (.int .i64 (bY l i n))∧w=w':=by
 obtain⟨⟨a,c,rfl⟩,hv,hl⟩:=hv
 obtain⟨a',c',e,hsw,hc⟩:=nU.1 hv
 simp only[Value.slice.injEq] at e
 obtain⟨rfl,-,rfl⟩:=e
 obtain⟨r,hr⟩:=aC (bY l i n)
 rw[←hr]
 unfold bY at hr
 have HR:=ah hr
 have hlen:(l.length:Int)≤9223372036854775807:=by
  have h1:=hsw.1;have h2:=hsw.2.1;unfold maxLen at h2;omega
 have hiI:(i:Int)≤1000000:=by omega
 by_cases hlt:i<l.length
 ·have hltz:¬(l.length:Int)≤(i:Int):=by omega
  have XZ:(i:Int)<(l.length:Int):=by omega
  obtain⟨b,o,rfl,hcell⟩:=nX hc (fun e=>by have:=congrArg List.length e;simp at this;rw[this] at hlt;simp at hlt)
  obtain⟨x,hx⟩:=aC (l[i])
  have c0:=hcell w h.ext i (PA.iv x) (by rw[List.getElem?_map,List.getElem?_eq_getElem hlt,hx];rfl)
  unfold PA.iv at c0
  have oV:=hl x (by rw[hx];exact List.getElem_mem hlt)
  have HX:Hid (r=dQ x n):=ah (by rw[HR.out,List.getElem?_eq_getElem hlt,hx])
  have HA:=ah (iy x n w oV.1 oV.2 (by omega) (by omega))
  obtain⟨ll,hll⟩:=aC (l.length)
  rw[←hll] at hlen hltz XZ ⊢
  clear hv hc hcell hl hr hx hll h hsw oV HR
  go_enter Tryz.func102,Tryz.ntmps102
  go_wp2_with fail
  refine HA.out.mono ?_
  rintro e w2 ⟨rfl,rfl⟩
  go_wp2
  go_ret
  exact⟨Np HX.out.symm,rfl⟩
 ·have hltz:(l.length:Int)≤(i:Int):=by omega
  have HX:Hid (r=0):=ah (by rw[HR.out,List.getElem?_eq_none (by omega)])
  obtain⟨ll,hll⟩:=aC (l.length)
  rw[←hll] at hlen hltz ⊢
  clear hv hc hl hr hll h hsw HR
  go_enter Tryz.func102,Tryz.ntmps102
  go_wp2
  go_ret
  exact⟨Np HX.out.symm,rfl⟩
theorem aP {W w:World} {A:aB} {I:Mem} {B:Nat} {day:Int} {fv:Value} (va:Value) (l:List Int) (i:Nat) (n:Int) (hn0:0<n) (hn1:n≤1099511627776) (hi:i<1000000) (hv:PL I va l) (h:Sat W w (sep (bC B va i day fv) (sep (kn I) A))):
 Calls Tryz.prog 57 #[.pointer (some ⟨B,0,none⟩),.int .i64 n] w fun e w'=>e=.returned (.int .i64 (bY l i n))∧Sat W w' (sep (bC B va ((i+1:Nat):Int) day fv) (sep (kn I) A)):=by
 unfold bC at h ⊢
 obtain⟨r,hr⟩:=aC (bY l i n)
 rw[←hr]
 have c1:w.cell? ⟨B,1,none⟩=some (.int .i64 i):=h.cell 1
 have f1:w.frozen? ⟨B,1,none⟩=false:=h.aF 1
 obtain⟨w1,hw1⟩:=aC (w.setCell ⟨B,1,none⟩ (.int .i64 ((i+1:Nat):Int)))
 have h1:=h.setCell 1 (.int .i64 ((i+1:Nat):Int))
 rw[←hw1] at h1
 have h1d:Sat W w1.drew (sep (blk B (.cells #[va,.int .i64 ((i+1:Nat):Int),.int .i64 day,fv] 86 (0,0))) (sep (kn I) A)):=h1.drew
 have hx:(i:Int)+1=((i+1:Nat):Int):=by omega
 obtain⟨i1,hi1⟩:=aC (((i+1:Nat):Int))
 rw[←hi1] at hw1 hx h1d ⊢
 have hiI:(i:Int)<1000000:=by omega
 have d0:w1.drew.cell? ⟨B,0,none⟩=some va:=h1d.cell 0
 have d1:w1.drew.cell? ⟨B,1,none⟩=some (.int .i64 i1):=h1d.cell 1
 have hx2:IntKind.i64.wrap (i1-1)=(i:Int):=by
  have:i1-1=(i:Int):=by omega
  rw[this];unfold IntKind.wrap;simp[IntKind.bits,IntKind.signed];omega
 have HP:=ah (Oq va l i n hn0 hn1 (by omega) hv h1d.p1)
 have HD:=ah h1d
 have HW1:=ah hw1
 rw[←hr] at HP
 clear hr h h1 h1d hi1 hw1
 go_enter Tryz.func57,Tryz.ntmps57
 go_upto_region 2 with (fail)
 rw[←HW1.out]
 refine aG rfl (fun _=>True) [(0,.p),(1,.p),(2,.p),(3,.t),(4,.p),(5,.p),(6,.p),(7,.t),(8,.p),(9,.p),(10,.e false),(11,.p)] (by kernel_rfl) ?_
 have hS0:True:=trivial
 (repeat ((first|(refine iK (v:=?_) rfl rfl (fun w'=>?_) ?_;rotate_left;(go_simp;with_reducible rfl))|(refine iL (v:=?_) rfl rfl hS0 (fun w' hS=>?_) ?_;rotate_left;((try dsimp only at hS);go_simp;with_reducible rfl))|(refine iM (v:=?_) rfl rfl ?_ ?_;rotate_left;(go_simp;with_reducible rfl))|(refine dF rfl rfl ?_)|(refine dG rfl rfl hS0 ?_)|(refine dH rfl rfl ?_));simp only[Act.put,lsA,lsB,bV]))
 (refine jK rfl rfl (fun K hK=>?_);go_simp)
 refine HP.out.mono ?_
 rintro e w2 ⟨rfl,rfl⟩
 (refine hK _ _ (fun h=>by cases h) ?_;clear hK K;(try simp only[Act.put,lsA,lsB,bV]))
 (repeat ((first|(refine iK (v:=?_) rfl rfl (fun w'=>?_) ?_;rotate_left;(go_simp;with_reducible rfl))|(refine iL (v:=?_) rfl rfl hS0 (fun w' hS=>?_) ?_;rotate_left;((try dsimp only at hS);go_simp;with_reducible rfl))|(refine iM (v:=?_) rfl rfl ?_ ?_;rotate_left;(go_simp;with_reducible rfl))|(refine dF rfl rfl ?_)|(refine dG rfl rfl hS0 ?_)|(refine dH rfl rfl ?_));simp only[Act.put,lsA,lsB,bV]))
 refine eF ?_
 go_wp2
 go_ret
 exact⟨rfl,HD.out⟩
end Go.Proofs.YthfmaclnccdcbaaGreatDoor
namespace PA
open Go Go.RowKit
section
variable {P:Program} {ops:Array Oper} {Q:Exit→Act→World→Prop} {S:World→Prop}
theorem JC {n:Nat} {row:String} {args:Array Value} {w:World} {R:Value→World→Prop} (h:Rows P row args w R):RowsIn Fence.wide n P row args w R:=
 fun c cs _=>let ⟨v,w',r,s⟩:=h c cs;⟨v,w',r,stepsIn_wide.2 s⟩
theorem Gn {l n i:Nat} {K:Act→World→Prop} {a:Act} {w:World} (hno:¬LetsOut Q) (hnd:∀o,ops[i]?=some o→∀c,o.op≠.defer c) (h:wpOp P ops Q i K a w):wpOpIn (Fence.wide.inRound l) n P ops Q i K a w:=by
 unfold wpOp at h
 unfold wpOpIn
 cases ho:ops[i]? with
 | none=>simpa[ho] using h
 | some o=>
  simp only[ho] at h ⊢
  split
  ·rename_i hw
   simp only[hw,if_true] at h
   rcases h with h|⟨-,h⟩
   ·refine⟨fun _ _=>trivial,?_⟩
    rw[show (Fence.wide.inRound l).round=some l from rfl,Oper.semAt_some l _ _ (hnd o ho)]
    unfold Oper.wp at h
    generalize (execOp a.eval o).run P w=r at *
    cases r with
    | ok x w'=>
     cases x<;>simp only[Oper.upon,Oper.uponIn] at h ⊢
     case value v=>exact h
     case skip=>exact h
     case defer d=>exact h
     case enter f args=>exact⟨fun hd=>(by simp[Fence.inRound,Fence.wide] at hd),callsIn_wide.2 h⟩
     case row row args=>exact⟨fun hd=>(by simp[Fence.inRound,Fence.wide] at hd),JC h⟩
    | halt x w'=>cases x<;>simp only[Oper.upon,Oper.uponIn] at h ⊢;exact h
   ·exact absurd h hno
  ·rename_i hw
   simp only[hw] at h
   exact⟨fun _ _=>trivial,h⟩
theorem rP {l n:Nat} {md:Region.Mode} (hno:¬LetsOut Q) (hnd:∀(i:Nat) o,ops[i]?=some o→∀c,o.op≠.defer c):∀(fuel:Nat) (listed:Array Bool) (a:Act) (w:World),wpAny P md ops Q fuel listed a w→wpAnyIn (Fence.wide.inRound l) n P md ops Q fuel listed a w
 | 0,_,_,_,h=>h
 | fuel+1,_,_,_,h=>⟨h.1,fun i hi=>Gn hno (hnd i) (wpOp_mono (fun a w h=>rP hno hnd fuel _ a w h) (h.2 i hi))⟩
theorem qy (h:¬LetsOut Q):¬LetsOut (NoPanic Q):=fun ⟨a,w,hq⟩=>h ⟨a,w,hq⟩
def NY (ops:Array Oper):Bool:=ops.all fun o=>match o.op with|.defer ..=>false|_=>true
theorem BH (h:NY ops=true):∀(i:Nat) o,ops[i]?=some o→∀c,o.op≠.defer c:=by
 intro i o ho c hc
 simp only[NY,Array.all_eq_true] at h
 obtain⟨hi,rfl⟩:=Array.getElem?_eq_some_iff.1 ho
 have:=h i hi
 rw[hc] at this
 cases this
theorem y9 {l n id:Nat} {a:Act} {w:World} (hm:P.follows .mixedOrders=true) (S:World→Prop) (L:List (Nat×Kd)) (hok:(zJ ops (Region.before ops) L&&NY ops)=true) (hno:¬LetsOut Q)
 (h:wpC P ops (NoPanic Q) S L a w.drew):(Code.region id ops true).wpIn (Fence.wide.inRound l) n P Q a w:=by
 rw[Bool.and_eq_true] at hok
 obtain⟨hok,hnd⟩:=hok
 simp only[zJ,Bool.and_eq_true] at hok
 obtain⟨⟨⟨⟨⟨⟨⟨h1,h2⟩,h3⟩,h4⟩,h7⟩,h8⟩,h5⟩,h6⟩:=hok
 have hlen:L.length=ops.size:=by simpa using h4
 have hall:∀i,i<ops.size→i∈L.map (·.1):=fun i hi=>by
  simp only[List.all_eq_true,List.mem_range] at h5
  simpa using h5 i hi
 have hback:∀i,i∈L.map (·.1)→i<ops.size:=fun i hi=>by
  rw[List.all_eq_true] at h8
  simpa using h8 i hi
 have hp:=uN L h1
 refine wpIn_mono (wpIn_region_any hm (rP (qy hno) (BH hnd) ops.size _ a _ ?_)) NoPanic.imp
 refine Js (bf:=Region.before ops) (S:=S) ?_ ?_ h3 ?_ ops.size L _ hlen ?_ a w.drew h
 ·intro j o cs b ho hsel
  simp only[Bj,Array.all_eq_true] at h2
  obtain⟨hj,rfl⟩:=Array.getElem?_eq_some_iff.1 ho
  have:=h2 j hj
  rw[hsel] at this
  cases this
 ·intro c a d v w hh;exact hh
 ·intro j o ho e he hb
  obtain⟨hj,rfl⟩:=Array.getElem?_eq_some_iff.1 ho
  rw[Array.all_eq_true] at h6
  have:=h6 j hj
  rw[Array.all_eq_true] at this
  obtain⟨k,hk,rfl⟩:=Array.mem_iff_getElem.1 he
  have:=this k hk
  simpa[hb] using this
 ·refine⟨by simp,fun i=>⟨fun hi=>?_,fun hi=>hall i hi.1⟩,lY _ h7,hp.1,hp.2,fun d r _ hd=>?_⟩
  ·have:=hback i hi
   exact⟨this,by simp[Array.getD,this]⟩
  ·exfalso
   simp only[Array.getD,Array.size_replicate] at hd
   split at hd<;>simp at hd
end
end PA
namespace PA
open Go Go.RowKit
section
variable {P:Program} {ops:Array Oper} {Q:Exit→Act→World→Prop} {S:World→Prop}
theorem vU {l n id:Nat} {a:Act} {w:World} (hm:P.follows .mixedOrders=true) (S:World→Prop) (L:List jP) (hok:(wG ops L&&NY ops)=true) (hno:¬LetsOut Q)
 (h:lD P ops (NoPanic Q) S L (Q .normal) a w.drew):(Code.region id ops true).wpIn (Fence.wide.inRound l) n P Q a w:=by
 rw[Bool.and_eq_true] at hok
 obtain⟨hok,hnd⟩:=hok
 simp only[wG,Bool.and_eq_true] at hok
 obtain⟨⟨⟨⟨⟨⟨⟨⟨⟨h1,h0⟩,h2⟩,h3⟩,h4⟩,h7⟩,h8⟩,h5⟩,h6⟩,h9⟩:=hok
 have hlen:(dW L).length=ops.size:=by simpa using h4
 have hall:∀i,i<ops.size→i∈(dW L).map (·.1):=fun i hi=>by
  simp only[List.all_eq_true,List.mem_range] at h5
  simpa using h5 i hi
 have hback:∀i,i∈(dW L).map (·.1)→i<ops.size:=fun i hi=>by
  rw[List.all_eq_true] at h8
  simpa using h8 i hi
 have hd:=Gj _ h0
 refine wpIn_mono (wpIn_region_any hm (rP (qy hno) (BH hnd) ops.size _ a _ ?_)) NoPanic.imp
 refine Ew (S:=S) ?_ ?_ h3 ?_ ops.size L _ hlen ?_ a w.drew h
 ·intro j o cs b ho hsel
  simp only[Bj,Array.all_eq_true] at h2
  obtain⟨hj,rfl⟩:=Array.getElem?_eq_some_iff.1 ho
  have:=h2 j hj
  rw[hsel] at this
  cases this
 ·intro c a d v w hh;exact hh
 ·intro j o ho e he hb
  obtain⟨hj,rfl⟩:=Array.getElem?_eq_some_iff.1 ho
  rw[Array.all_eq_true] at h6
  have:=h6 j hj
  rw[Array.all_eq_true] at this
  obtain⟨k,hk,rfl⟩:=Array.mem_iff_getElem.1 he
  have:=this k hk
  simpa[hb] using this
 ·refine⟨by simp,fun i=>⟨fun hi=>?_,fun hi=>hall i hi.1⟩,lY _ h7,Bv L h1,hd.1,hd.2,sH L h9,fun d r _ hd=>?_⟩
  ·have:=hback i hi
   exact⟨this,by simp[Array.getD,this]⟩
  ·exfalso
   simp only[Array.getD,Array.size_replicate] at hd
   split at hd<;>simp at hd
end
end PA
