/- Part of a proof. -/
import Derived.Test.YthfmaclnccdcbaaGreatDoorGActsOrder12
import Derived.OrdersIn
import Derived.TacticsIn
namespace PA
open Go Go.RowKit
section
variable {P:Program} {ops:Array Oper} {Q:Exit→Act→World→Prop}
def KD (ops:Array Oper) (bf:Array Nat) (l:List kL):Bool:=
 KY ops bf l&&TA ops (eF l)&&Dz ops&&nS ops bf&&(eF l).length==ops.size&&nodupB ((eF l).map (·.1))&&((eF l).map (·.1)).all (fun i=>decide (i<ops.size))&&(List.range ops.size).all (fun i=>((eF l).map (·.1)).contains i) &&
 ops.all (fun o=>o.after.all fun e=>!Region.binds .any e||decide (e.on<ops.size))&&yU ops bf l
theorem wY {id:Nat} {a:Act} {w:World} (hm:P.follows .mixedOrders=true) (S:World→Prop) (l:List kL) (bf:Array Nat) (hbf:Region.before ops=bf) (hok:KD ops bf l=true)
 (h:mZ P ops (NoPanic Q) S l (Q .normal) a w.drew):(Code.region id ops true).wp P Q a w:=
 eY hm S l (by unfold xO;rw[hbf];exact hok) h
variable {S:World→Prop} {W:World}
def Jj (P:Program) (o:Oper) (a:Act) (w:World) (Post:Value→World→Prop):Prop:=sD P o a w Post∨∃w',(execOp a.eval o).run P w=.ok .skip w'∧Post undef w'
theorem Jj.go {i:Nat} {o:Oper} {a:Act} {w:World} {Post:Value→World→Prop} (ho:ops[i]?=some o) (hg:o.guard=none) (h:Jj P o a w Post) {K:Act→World→Prop}
 (hK:∀v w',Post v w'→K (a.put o.dst v) w'):Go.wpOp P ops Q i K a w:=by
 rcases h with h|⟨w',h1,h2⟩
 ·exact h.go ho hg hK
 ·unfold Go.wpOp
  have hw:Region.wanted o (yielded ops a.tmps)=true:=by unfold Region.wanted;rw[hg]
  simp only[ho,hw,if_true];refine .inl ?_;unfold Oper.wp;rw[h1];exact hK undef w' h2
theorem jT {a0:Act} {b:Bool} {K:Act→World→Prop} (E0:List Nat) (D:Nat→List Nat) (T:(Nat→Option Value)→aC)
 (hB:dagB ops E0 D=true) (hdst:FK ops E0=true) (hS:b=true→∀f w,Sat W w (T f)→S w)
 (hop:∀x∈E0,∀(f:Nat→Option Value) (w:World) (o:Oper),ops[x]?=some o→f x=none→(∀d∈D x,(f d).isSome=true)→(∀y∈E0,(f y).isSome=true→∀d∈D y,(f d).isSome=true)→Sat W w (T f) →
  Jj P o (cZ ops (E0.filter fun y=>(D x).contains y) f a0) w (fun v w'=>Sat W w' (T (fG f x v))))
 (hfin:∀(f:Nat→Option Value) (w:World),(∀x∈E0,(f x).isSome=true)→Sat W w (T f)→K (cZ ops E0 f a0) w):
 ∀(n:Nat) (E:List Nat) (f:Nat→Option Value) (w:World),E.length=n→E.Nodup→(∀x,x∈E↔x∈E0∧f x=none)→(∀y∈E0,(f y).isSome=true→∀d∈D y,(f d).isSome=true)→Sat W w (T f) →
  ou P ops Q S b n (E.map fun x=>(x,[])) K (cZ ops E0 f a0) w:=by
 obtain⟨hpw,hnd⟩:=Cb E0 hdst;have hB':=List.all_eq_true.1 hB;intro n
 induction n with
 | zero=>
  intro E f w hl _ hE _ hT;have he:=List.eq_nil_of_length_eq_zero hl;subst he;refine hfin f w (fun x hx=>?_) hT;cases hf:f x with
  | some v=>rfl
  | none=>have:=(hE x).2 ⟨hx,hf⟩;cases this
 | succ n ih=>
  intro E f w hl hn hE hcl hT;rintro⟨x,js⟩ hxm wL;obtain⟨x',hx',e⟩:=List.mem_map.1 hxm;cases e;obtain⟨hx0,hfx⟩:=(hE x).1 hx';have hb:=hB' x hx0;simp only[Bool.and_eq_true,List.all_eq_true] at hb;obtain⟨hb1,hb2⟩:=hb;cases ho:ops[x]? with
  | none=>rw[ho] at hb1;cases hb1
  | some o=>
   rw[ho] at hb1;simp only[Bool.and_eq_true,List.all_eq_true,Bool.or_eq_true] at hb1;obtain⟨⟨hg,hs⟩,hlook⟩:=hb1;have hg':o.guard=none:=by simpa using hg
   have hs':∀cs b,o.op≠.select cs b:=fun cs b e=>by rw[e] at hs;cases hs
   have fE:∀d∈D x,(f d).isSome=true:=fun d hd=>by
    have h1:=hb2 d hd;simp only[List.contains_iff_mem] at h1;cases hf:f d with
    | some v=>rfl
    | none=>
     have hdE:=(hE d).2 ⟨h1.1,hf⟩;have:=List.all_eq_true.1 wL (d,[]) (List.mem_map.2 ⟨d,hdE,rfl⟩);simp only[h1.2] at this;cases this
   have hd1:=hop x hx0 f w o ho hfx fE hcl hT;have hex:execOp (cZ ops E0 f a0).eval o=execOp (cZ ops (E0.filter fun y=>(D x).contains y) f a0).eval o:=by
    refine execOp_congr o hs' fun z hz=>?_
    cases z with
    | tmp t=>
     refine mO _ E0 a0 a0 rfl rfl fun y hy hk hdt=>?_
     have:=hlook y hy;rw[hk,hdt] at this;simp only[Bool.false_eq_true,false_or,Bool.not_eq_true',List.contains_eq_mem,decide_eq_false_iff_not] at this;exact this (List.mem_append_left _ (List.mem_filterMap.2 ⟨.tmp t,by simpa using hz,rfl⟩))
    | _=>rfl
   have hd2:Jj P o (cZ ops E0 f a0) w (fun v w'=>Sat W w' (T (fG f x v))):=by
    unfold Jj sD at hd1 ⊢;rw[hex];exact hd1
   refine hd2.go ho hg' fun v w' hT'=>⟨fun hb=>hS hb _ w' hT',?_⟩
   show ou P ops Q S b n _ K _ w';have hdo:o.dst=aS ops x:=by unfold aS;rw[ho];rfl
   rw[hdo,←DY E0 hx0 hpw hnd hfx];have hel:((E.map fun x=>(x,([]:List Nat))).erase (x,[]))=(E.erase x).map fun x=>(x,([]:List Nat)):=by
    clear hl hn hE hxm wL hx'
    induction E with
    | nil=>rfl
    | cons y E ihE=>
     rw[List.map_cons,List.erase_cons,List.erase_cons]
     by_cases e:y=x
     ·subst e;simp
     ·have e1:(y==x)=false:=by simpa using e
      have e2:((y,([]:List Nat))==(x,[]))=false:=by simp[e]
      rw[e1,e2];simp only[Bool.false_eq_true,if_false,List.map_cons,ihE]
   rw[hel];refine ih (E.erase x) (fG f x v) w' (by rw[List.length_erase_of_mem hx',hl];rfl) (hn.erase x) (fun y=>?_) (fun y hy hys d hd=>?_) hT'
   ·rw[hn.mem_erase_iff,hE]
    by_cases e:y=x
    ·subst e;simp[dw]
    ·rw[aK e];simp[e]
   ·by_cases e:d=x
    ·subst e;rw[dw];rfl
    ·rw[aK e]
     by_cases e2:y=x
     ·subst e2;exact fE d hd
     ·rw[aK e2] at hys
      exact hcl y hy hys d hd
end
end PA
namespace PA
open Go Go.RowKit
section
variable {W w:World} {A:aC} {t g N:Nat} {f:Nat→Rt}
end
end PA
namespace PA
open Go Go.Proofs.YthfmaclnccdcbaaGreatDoor
def dD (l:List Int) (i:Nat) (n:Int):Int:=match l[i]? with|some x=>fV x n|none=>0
theorem bD (l:List Int) (i:Nat) (n:Int) (hn:0<n):0≤dD l i n∧dD l i n<n:=by
 unfold dD;split
 ·exact iY _ _ hn
 ·omega
end PA
namespace Go.Proofs.YthfmaclnccdcbaaGreatDoor
open Go.RowKit PA
def Qq (I:Mem) (va:Value) (l:List Int):Prop:=(∃a c,va=.slice a l.length c)∧(qX.slice 1).rel I [va] l∧∀z∈l,Qo z
theorem Qq.mono {I J:Mem} {va:Value} {l:List Int} (hl:Mem.le I J) (h:Qq I va l):Qq J va l:=⟨h.1,(qX.slice 1).mono hl h.2.1,h.2.2⟩
def bH (B:Nat) (va:Value) (pos day:Int) (fv:Value):aC:=blk B (.cells #[va,.int .i64 pos,.int .i64 day,fv] 86 (0,0))
theorem Rl {W w:World} {A:aC} {I:Mem} (va:Value) (l:List Int) (i:Nat) (n:Int) (hn0:0<n) (hn1:n≤1099511627776) (hi:i≤1000000) (hv:Qq I va l) (h:Sat W w (sep (kn I) A)):
 Calls Tryz.prog 102 #[va,.int .i64 i,.int .i64 n] w fun e w'=>e=.returned (.int .i64 (dD l i n))∧w=w':=by
 obtain⟨⟨a,c,rfl⟩,hv,hl⟩:=hv;obtain⟨a',c',e,hsw,hc⟩:=qo.1 hv;simp only[Value.slice.injEq] at e;obtain⟨rfl,-,rfl⟩:=e;obtain⟨r,hr⟩:=aB (dD l i n);rw[←hr];unfold dD at hr;have HR:=ah hr;have hlen:(l.length:Int)≤9223372036854775807:=by
  have h1:=hsw.1;have h2:=hsw.2.1;unfold maxLen at h2;omega
 have hiI:(i:Int)≤1000000:=by omega
 by_cases hlt:i<l.length
 ·have hltz:¬(l.length:Int)≤(i:Int):=by omega
  have abM:(i:Int)<(l.length:Int):=by omega
  obtain⟨b,o,rfl,hcell⟩:=pO hc (fun e=>by have:=congrArg List.length e;simp at this;rw[this] at hlt;simp at hlt);obtain⟨x,hx⟩:=aB (l[i]);have c0:=hcell w h.ext i (PA.iv x) (by rw[List.getElem?_map,List.getElem?_eq_getElem hlt,hx];rfl);unfold PA.iv at c0;have qQ:=hl x (by rw[hx];exact List.getElem_mem hlt);have HX:Hid (r=fV x n):=ah (by rw[HR.out,List.getElem?_eq_getElem hlt,hx]);have HA:=ah (jJ x n w qQ.1 qQ.2 (by omega) (by omega));obtain⟨ll,hll⟩:=aB (l.length);rw[←hll] at hlen hltz abM ⊢;clear hv hc hcell hl hr hx hll h hsw qQ HR
  go_enter Tryz.func102,Tryz.ntmps102
  go_wp2_with fail
  refine HA.out.mono ?_;rintro e w2 ⟨rfl,rfl⟩
  go_wp2
  go_ret
  exact⟨P9 HX.out.symm,rfl⟩
 ·have hltz:(l.length:Int)≤(i:Int):=by omega
  have HX:Hid (r=0):=ah (by rw[HR.out,List.getElem?_eq_none (by omega)]);obtain⟨ll,hll⟩:=aB (l.length);rw[←hll] at hlen hltz ⊢;clear hv hc hl hr hll h hsw HR
  go_enter Tryz.func102,Tryz.ntmps102
  go_wp2
  go_ret
  exact⟨P9 HX.out.symm,rfl⟩
theorem aQ {W w:World} {A:aC} {I:Mem} {B:Nat} {day:Int} {fv:Value} (va:Value) (l:List Int) (i:Nat) (n:Int) (hn0:0<n) (hn1:n≤1099511627776) (hi:i<1000000) (hv:Qq I va l) (h:Sat W w (sep (bH B va i day fv) (sep (kn I) A))):
 Calls Tryz.prog 57 #[.pointer (some ⟨B,0,none⟩),.int .i64 n] w fun e w'=>e=.returned (.int .i64 (dD l i n))∧Sat W w' (sep (bH B va ((i+1:Nat):Int) day fv) (sep (kn I) A)):=by
 unfold bH at h ⊢;obtain⟨r,hr⟩:=aB (dD l i n);rw[←hr];have c1:w.cell? ⟨B,1,none⟩=some (.int .i64 i):=h.cell 1;have f1:w.frozen? ⟨B,1,none⟩=false:=h.aH 1;obtain⟨w1,hw1⟩:=aB (w.setCell ⟨B,1,none⟩ (.int .i64 ((i+1:Nat):Int)));have h1:=h.setCell 1 (.int .i64 ((i+1:Nat):Int));rw[←hw1] at h1;have h1d:Sat W w1.drew (sep (blk B (.cells #[va,.int .i64 ((i+1:Nat):Int),.int .i64 day,fv] 86 (0,0))) (sep (kn I) A)):=h1.drew;have hx:(i:Int)+1=((i+1:Nat):Int):=by omega
 obtain⟨i1,hi1⟩:=aB (((i+1:Nat):Int));rw[←hi1] at hw1 hx h1d ⊢;have hiI:(i:Int)<1000000:=by omega
 have d0:w1.drew.cell? ⟨B,0,none⟩=some va:=h1d.cell 0;have d1:w1.drew.cell? ⟨B,1,none⟩=some (.int .i64 i1):=h1d.cell 1;have hx2:IntKind.i64.wrap (i1-1)=(i:Int):=by
  have:i1-1=(i:Int):=by omega
  rw[this];unfold IntKind.wrap;simp[IntKind.bits,IntKind.signed];omega
 have HP:=ah (Rl va l i n hn0 hn1 (by omega) hv h1d.p1);have HD:=ah h1d;have HW1:=ah hw1;rw[←hr] at HP;clear hr h h1 h1d hi1 hw1
 go_enter Tryz.func57,Tryz.ntmps57
 go_upto_region 2 with (fail)
 rw[←HW1.out];refine aG rfl (fun _=>True) [(0,.p),(1,.p),(2,.p),(3,.t),(4,.p),(5,.p),(6,.p),(7,.t),(8,.p),(9,.p),(10,.e false),(11,.p)] (by kernel_rfl) ?_;have hS0:True:=trivial;refine bF ?_
 (refine jH rfl rfl (fun K hK=>?_);go_simp)
 refine HP.out.mono ?_;rintro e w2 ⟨rfl,rfl⟩;refine dQ ?_;clear hK K;refine bF ?_;refine dN ?_
 go_wp2
 go_ret
 exact⟨rfl,HD.out⟩
end Go.Proofs.YthfmaclnccdcbaaGreatDoor
namespace PA
open Go Go.RowKit
section
variable {P:Program} {ops:Array Oper} {Q:Exit→Act→World→Prop} {S:World→Prop}
theorem Lu {n:Nat} {row:String} {args:Array Value} {w:World} {R:Value→World→Prop} (h:Rows P row args w R):RowsIn Fence.wide n P row args w R:=
 fun c cs _=>let ⟨v,w',r,s⟩:=h c cs;⟨v,w',r,stepsIn_wide.2 s⟩
theorem I8 {l n i:Nat} {K:Act→World→Prop} {a:Act} {w:World} (hno:¬LetsOut Q) (hnd:∀o,ops[i]?=some o→∀c,o.op≠.defer c) (h:wpOp P ops Q i K a w):wpOpIn (Fence.wide.inRound l) n P ops Q i K a w:=by
 unfold wpOp at h;unfold wpOpIn;cases ho:ops[i]? with
 | none=>simpa[ho] using h
 | some o=>
  simp only[ho] at h ⊢;split
  ·rename_i hw
   simp only[hw,if_true] at h;rcases h with h|⟨-,h⟩
   ·refine⟨fun _ _=>trivial,?_⟩
    rw[show (Fence.wide.inRound l).round=some l from rfl,Oper.semAt_some l _ _ (hnd o ho)];unfold Oper.wp at h;generalize (execOp a.eval o).run P w=r at *;cases r with
    | ok x w'=>
     cases x<;>simp only[Oper.upon,Oper.uponIn] at h ⊢
     case value v=>exact h
     case skip=>exact h
     case defer d=>exact h
     case enter f args=>exact⟨fun hd=>(by simp[Fence.inRound,Fence.wide] at hd),callsIn_wide.2 h⟩
     case row row args=>exact⟨fun hd=>(by simp[Fence.inRound,Fence.wide] at hd),Lu h⟩
    | halt x w'=>cases x<;>simp only[Oper.upon,Oper.uponIn] at h ⊢;exact h
   ·exact absurd h hno
  ·rename_i hw
   simp only[hw] at h;exact⟨fun _ _=>trivial,h⟩
theorem sN {l n:Nat} {md:Region.Mode} (hno:¬LetsOut Q) (hnd:∀(i:Nat) o,ops[i]?=some o→∀c,o.op≠.defer c):∀(fuel:Nat) (listed:Array Bool) (a:Act) (w:World),wpAny P md ops Q fuel listed a w→wpAnyIn (Fence.wide.inRound l) n P md ops Q fuel listed a w
 | 0,_,_,_,h=>h
 | fuel+1,_,_,_,h=>⟨h.1,fun i hi=>I8 hno (hnd i) (wpOp_mono (fun a w h=>sN hno hnd fuel _ a w h) (h.2 i hi))⟩
theorem rU (h:¬LetsOut Q):¬LetsOut (NoPanic Q):=fun ⟨a,w,hq⟩=>h ⟨a,w,hq⟩
def PS (ops:Array Oper):Bool:=ops.all fun o=>match o.op with|.defer ..=>false|_=>true
theorem Dy (h:PS ops=true):∀(i:Nat) o,ops[i]?=some o→∀c,o.op≠.defer c:=by
 intro i o ho c hc;simp only[PS,Array.all_eq_true] at h;obtain⟨hi,rfl⟩:=Array.getElem?_eq_some_iff.1 ho;have:=h i hi;rw[hc] at this;cases this
theorem AA {l n id:Nat} {a:Act} {w:World} (hm:P.follows .mixedOrders=true) (S:World→Prop) (L:List (Nat×Kd)) (hok:(AP ops (Region.before ops) L&&PS ops)=true) (hno:¬LetsOut Q)
 (h:wpC P ops (NoPanic Q) S L a w.drew):(Code.region id ops true).wpIn (Fence.wide.inRound l) n P Q a w:=by
 rw[Bool.and_eq_true] at hok;obtain⟨hok,hnd⟩:=hok;simp only[AP,Bool.and_eq_true] at hok;obtain⟨⟨⟨⟨⟨⟨⟨h1,h2⟩,h3⟩,h4⟩,h7⟩,h8⟩,h5⟩,h6⟩:=hok;have hlen:L.length=ops.size:=by simpa using h4
 have hall:∀i,i<ops.size→i∈L.map (·.1):=fun i hi=>by
  simp only[List.all_eq_true,List.mem_range] at h5;simpa using h5 i hi
 have hback:∀i,i∈L.map (·.1)→i<ops.size:=fun i hi=>by
  rw[List.all_eq_true] at h8;simpa using h8 i hi
 have hp:=wP L h1;refine wpIn_mono (wpIn_region_any hm (sN (rU hno) (Dy hnd) ops.size _ a _ ?_)) NoPanic.imp;refine Ju (bf:=Region.before ops) (S:=S) ?_ ?_ h3 ?_ ops.size L _ hlen ?_ a w.drew h
 ·intro j o cs b ho hsel
  simp only[Dz,Array.all_eq_true] at h2;obtain⟨hj,rfl⟩:=Array.getElem?_eq_some_iff.1 ho;have:=h2 j hj;rw[hsel] at this;cases this
 ·intro c a d v w hh;exact hh
 ·intro j o ho e he hb
  obtain⟨hj,rfl⟩:=Array.getElem?_eq_some_iff.1 ho;rw[Array.all_eq_true] at h6;have:=h6 j hj;rw[Array.all_eq_true] at this;obtain⟨k,hk,rfl⟩:=Array.mem_iff_getElem.1 he;have:=this k hk;simpa[hb] using this
 ·refine⟨by simp,fun i=>⟨fun hi=>?_,fun hi=>hall i hi.1⟩,nP _ h7,hp.1,hp.2,fun d r _ hd=>?_⟩
  ·have:=hback i hi
   exact⟨this,by simp[Array.getD,this]⟩
  ·exfalso
   simp only[Array.getD,Array.size_replicate] at hd;split at hd<;>simp at hd
end
end PA
namespace PA
open Go Go.RowKit
section
variable {P:Program} {ops:Array Oper} {Q:Exit→Act→World→Prop} {S:World→Prop}
theorem yx {l n id:Nat} {a:Act} {w:World} (hm:P.follows .mixedOrders=true) (S:World→Prop) (L:List kL) (hok:(xO ops L&&PS ops)=true) (hno:¬LetsOut Q)
 (h:mZ P ops (NoPanic Q) S L (Q .normal) a w.drew):(Code.region id ops true).wpIn (Fence.wide.inRound l) n P Q a w:=by
 rw[Bool.and_eq_true] at hok;obtain⟨hok,hnd⟩:=hok;simp only[xO,Bool.and_eq_true] at hok;obtain⟨⟨⟨⟨⟨⟨⟨⟨⟨h1,h0⟩,h2⟩,h3⟩,h4⟩,h7⟩,h8⟩,h5⟩,h6⟩,h9⟩:=hok;have hlen:(eF L).length=ops.size:=by simpa using h4
 have hall:∀i,i<ops.size→i∈(eF L).map (·.1):=fun i hi=>by
  simp only[List.all_eq_true,List.mem_range] at h5;simpa using h5 i hi
 have hback:∀i,i∈(eF L).map (·.1)→i<ops.size:=fun i hi=>by
  rw[List.all_eq_true] at h8;simpa using h8 i hi
 have hd:=Hq _ h0;refine wpIn_mono (wpIn_region_any hm (sN (rU hno) (Dy hnd) ops.size _ a _ ?_)) NoPanic.imp;refine FC (S:=S) ?_ ?_ h3 ?_ ops.size L _ hlen ?_ a w.drew h
 ·intro j o cs b ho hsel
  simp only[Dz,Array.all_eq_true] at h2;obtain⟨hj,rfl⟩:=Array.getElem?_eq_some_iff.1 ho;have:=h2 j hj;rw[hsel] at this;cases this
 ·intro c a d v w hh;exact hh
 ·intro j o ho e he hb
  obtain⟨hj,rfl⟩:=Array.getElem?_eq_some_iff.1 ho;rw[Array.all_eq_true] at h6;have:=h6 j hj;rw[Array.all_eq_true] at this;obtain⟨k,hk,rfl⟩:=Array.mem_iff_getElem.1 he;have:=this k hk;simpa[hb] using this
 ·refine⟨by simp,fun i=>⟨fun hi=>?_,fun hi=>hall i hi.1⟩,nP _ h7,DT L h1,hd.1,hd.2,uQ L h9,fun d r _ hd=>?_⟩
  ·have:=hback i hi
   exact⟨this,by simp[Array.getD,this]⟩
  ·exfalso
   simp only[Array.getD,Array.size_replicate] at hd;split at hd<;>simp at hd
end
end PA
namespace PA
open Go
theorem Gx:∀(k:Nat) (i n q:Nat) (r:List UInt8),i+k=9→q<2*128 ^ k→(0<i→0<q)→uw i n (Lib.uvarint q++r)=.ok (n+q*128 ^ i,r)
 | 0,i,n,q,r,hi,hq,hp=>by
  rw[Lib.uvarint_small (by omega)];have hq1:q.toUInt8.toNat=q:=by simp;omega
  show uw i n (q.toUInt8::r)=_;rw[uw,if_neg (by rw[hq1];have:=hp (by omega);omega),if_pos (by rw[hq1];omega),hq1]
 | k+1,i,n,q,r,hi,hq,hp=>by
  by_cases hs:q<128
  ·rw[Lib.uvarint_small hs]
   have hq1:q.toUInt8.toNat=q:=by simp;omega
   show uw i n (q.toUInt8::r)=_;rw[uw,if_neg (by rw[hq1];omega),if_pos (by rw[hq1];exact hs),hq1]
  ·rw[Lib.uvarint_big (by omega),List.cons_append]
   have hq1:(q % 128+128).toUInt8.toNat=q % 128+128:=by simp;omega
   rw[uw,if_neg (by rw[hq1];omega),if_neg (by rw[hq1];omega),hq1];rw[Gx k (i+1) _ (q / 128) r (by omega) (by rw[Nat.pow_succ] at hq;omega) (fun _=>by omega)];have e:(q % 128+128-128)*128 ^ i+q / 128*128 ^ (i+1)=q*128 ^ i:=by
    rw[Nat.pow_succ,Nat.add_sub_cancel];generalize 128 ^ i=P;have h1:q / 128*(P*128)=(128*(q / 128))*P:=by rw[Nat.mul_comm P 128,←Nat.mul_assoc,Nat.mul_comm (q / 128) 128]
    rw[h1,←Nat.add_mul,Nat.mod_add_div]
   rw[Nat.add_assoc,e]
theorem LU (q:Nat) (r:List UInt8) (hq:q<18446744073709551616):uintP (Lib.uvarint q++r)=.ok (q,r):=by
 have h9:(2:Nat)*128 ^ 9=18446744073709551616:=by decide
 have:=Gx 9 0 0 q r rfl (by rw[h9];exact hq) (fun h=>absurd h (Nat.lt_irrefl 0));rw[Nat.pow_zero,Nat.mul_one,Nat.zero_add] at this;exact this
end PA
