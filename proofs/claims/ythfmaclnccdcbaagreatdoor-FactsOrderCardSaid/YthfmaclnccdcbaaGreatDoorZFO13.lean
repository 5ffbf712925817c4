/- Part of a proof. -/
import Derived.Test.YthfmaclnccdcbaaGreatDoorZFO8
import Derived.Great.BuildSlice
import Derived.OrdersIn
import Derived.TacticsIn
namespace PA
open Go Go.RowKit
section
section
variable {P:Program} {ops:Array Oper} {Q:Exit→Act→World→Prop}
def Nj (ops:Array Oper) (bf:Array Nat) (l:List lu):Bool:=
 NI ops bf l&&VX ops (fA l)&&EF ops&&oU ops bf&&(fA l).length==ops.size&&nodupB ((fA l).map (·.1))&&((fA l).map (·.1)).all (fun i=>decide (i<ops.size))&&(List.range ops.size).all (fun i=>((fA l).map (·.1)).contains i) &&
 ops.all (fun o=>o.after.all fun e=>!Region.binds .any e||decide (e.on<ops.size))&&zZ ops bf l
theorem yw {id:Nat} {a:Act} {w:World} (hm:P.follows .mixedOrders=true) (S:World→Prop) (l:List lu) (bf:Array Nat) (hbf:Region.before ops=bf) (hok:Nj ops bf l=true)
 (h:ou P ops (NoPanic Q) S l (Q .normal) a w.drew):(Code.region id ops true).wp P Q a w:=
 fE hm S l (by unfold yO;rw[hbf];exact hok) h
variable {S:World→Prop} {W:World}
def KP (P:Program) (o:Oper) (a:Act) (w:World) (Post:Value→World→Prop):Prop:=uh P o a w Post∨∃w',(execOp a.eval o).run P w=.ok .skip w'∧Post undef w'
theorem KP.go {i:Nat} {o:Oper} {a:Act} {w:World} {Post:Value→World→Prop} (ho:ops[i]?=some o) (hg:o.guard=none) (h:KP P o a w Post) {K:Act→World→Prop}
 (hK:∀v w',Post v w'→K (a.put o.dst v) w'):Go.wpOp P ops Q i K a w:=by
 rcases h with h|⟨w',h1,h2⟩
 ·exact h.go ho hg hK
 ·unfold Go.wpOp
  have hw:Region.wanted o (yielded ops a.tmps)=true:=by unfold Region.wanted;rw[hg]
  simp only[ho,hw,if_true];refine .inl ?_;unfold Oper.wp;rw[h1];exact hK undef w' h2
theorem kL {a0:Act} {b:Bool} {K:Act→World→Prop} (E0:List Nat) (D:Nat→List Nat) (T:(Nat→Option Value)→aB)
 (hB:dagB ops E0 D=true) (hdst:He ops E0=true) (hS:b=true→∀f w,Sat W w (T f)→S w)
 (hop:∀x∈E0,∀(f:Nat→Option Value) (w:World) (o:Oper),ops[x]?=some o→f x=none→(∀d∈D x,(f d).isSome=true)→(∀y∈E0,(f y).isSome=true→∀d∈D y,(f d).isSome=true)→Sat W w (T f) →
  KP P o (dB ops (E0.filter fun y=>(D x).contains y) f a0) w (fun v w'=>Sat W w' (T (fO f x v))))
 (hfin:∀(f:Nat→Option Value) (w:World),(∀x∈E0,(f x).isSome=true)→Sat W w (T f)→K (dB ops E0 f a0) w):
 ∀(n:Nat) (E:List Nat) (f:Nat→Option Value) (w:World),E.length=n→E.Nodup→(∀x,x∈E↔x∈E0∧f x=none)→(∀y∈E0,(f y).isSome=true→∀d∈D y,(f d).isSome=true)→Sat W w (T f) →
  pI P ops Q S b n (E.map fun x=>(x,[])) K (dB ops E0 f a0) w:=by
 obtain⟨hpw,hnd⟩:=DY E0 hdst;have hB':=List.all_eq_true.1 hB;intro n
 induction n with
 | zero=>
  intro E f w hl _ hE _ hT;have he:=Ju hl;subst he;refine hfin f w (fun x hx=>?_) hT;cases hf:f x with
  | some v=>rfl
  | none=>have:=(hE x).2 ⟨hx,hf⟩;cases this
 | succ n ih=>
  intro E f w hl hn hE hcl hT;rintro⟨x,js⟩ hxm xP;obtain⟨x',hx',e⟩:=List.mem_map.1 hxm;cases e;obtain⟨hx0,hfx⟩:=(hE x).1 hx';have hb:=hB' x hx0;simp only[Bool.and_eq_true,List.all_eq_true] at hb;obtain⟨hb1,hb2⟩:=hb;cases ho:ops[x]? with
  | none=>rw[ho] at hb1;cases hb1
  | some o=>
   rw[ho] at hb1;simp only[Bool.and_eq_true,List.all_eq_true,Bool.or_eq_true] at hb1;obtain⟨⟨hg,hs⟩,hlook⟩:=hb1;have hg':o.guard=none:=by simpa using hg
   have hs':∀cs b,o.op≠.select cs b:=fun cs b e=>by rw[e] at hs;cases hs
   have fK:∀d∈D x,(f d).isSome=true:=fun d hd=>by
    have h1:=hb2 d hd;simp only[List.contains_iff_mem] at h1;cases hf:f d with
    | some v=>rfl
    | none=>
     have hdE:=(hE d).2 ⟨h1.1,hf⟩;have:=List.all_eq_true.1 xP (d,[]) (List.mem_map.2 ⟨d,hdE,rfl⟩);simp only[h1.2] at this;cases this
   have hd1:=hop x hx0 f w o ho hfx fK hcl hT;have hex:execOp (dB ops E0 f a0).eval o=execOp (dB ops (E0.filter fun y=>(D x).contains y) f a0).eval o:=by
    refine execOp_congr o hs' fun z hz=>?_
    cases z with
    | tmp t=>
     refine nV _ E0 a0 a0 rfl rfl fun y hy hk hdt=>?_
     have:=hlook y hy;rw[hk,hdt] at this;simp only[Bool.false_eq_true,false_or,Bool.not_eq_true',List.contains_eq_mem,decide_eq_false_iff_not] at this;exact this (zC _ (List.mem_filterMap.2 ⟨.tmp t,by simpa using hz,rfl⟩))
    | _=>rfl
   have hd2:KP P o (dB ops E0 f a0) w (fun v w'=>Sat W w' (T (fO f x v))):=by
    unfold KP uh at hd1 ⊢;rw[hex];exact hd1
   refine hd2.go ho hg' fun v w' hT'=>⟨fun hb=>hS hb _ w' hT',?_⟩
   show pI P ops Q S b n _ K _ w';have hdo:o.dst=aU ops x:=by unfold aU;rw[ho];rfl
   rw[hdo,←ES E0 hx0 hpw hnd hfx];have hel:((E.map fun x=>(x,([]:List Nat))).erase (x,[]))=(E.erase x).map fun x=>(x,([]:List Nat)):=by
    clear hl hn hE hxm xP hx'
    induction E with
    | nil=>rfl
    | cons y E ihE=>
     rw[mM,List.erase_cons,List.erase_cons];by_cases e:y=x
     ·subst e;simp
     ·have e1:(y==x)=false:=by simpa using e
      have e2:((y,([]:List Nat))==(x,[]))=false:=by simp[e]
      rw[e1,e2];simp only[Bool.false_eq_true,if_false,mM,ihE]
   rw[hel];refine ih (E.erase x) (fO f x v) w' (by rw[List.length_erase_of_mem hx',hl];rfl) (hn.erase x) (fun y=>?_) (fun y hy hys d hd=>?_) hT'
   ·rw[hn.mem_erase_iff,hE]
    by_cases e:y=x
    ·subst e;simp[dG]
    ·rw[aN e];simp[e]
   ·by_cases e:d=x
    ·subst e;rw[dG];rfl
    ·rw[aN e]
     by_cases e2:y=x
     ·subst e2;exact fK d hd
     ·rw[aN e2] at hys
      exact hcl y hy hys d hd
end
end
def wm (w:World):Mem:=fun b=>w.heap[b]?
theorem Sat.ZP (W:World):Sat W W (sep (kn (wm W)) emp):=
 ⟨rfl,rfl,rfl,wm W,Mem.no,fun _ _ h=>h,fun _ _ h=>h,fun _ _ h=>(by simp[Mem.no] at h),Mem.no,Mem.no,fun _=>.inl rfl,(Mem.qH _).symm,⟨rfl,bW _⟩,rfl⟩
theorem ru {I:Mem} {v:Value} {ns:List Int}:(sO.slice 1).rel I [v] ns↔∃a c,v=.slice a ns.length c∧Ld a ns.length c∧dF a (ns.map iv) I:=by
 constructor
 ·rintro⟨a,c,cells,h1,h2,h3,h4⟩
  cases h1;rw[(Ir _ _ _).1 h4] at h3;exact⟨a,c,rfl,h2,h3⟩
 ·rintro⟨a,c,rfl,h2,h3⟩
  exact⟨a,c,_,rfl,h2,h3,(Ir _ _ _).2 rfl⟩
theorem Pm {w:World} {x:Addr} {us:List Value} (h:∀j u,us[j]?=some u→w.cell? (x.add j)=some u):dF (some x) us (wm w):=by
 cases us with
 | nil=>exact .inl rfl
 | cons u us=>
  right;have h0:=h 0 u rfl;have e0:x.add 0=x:=rfl;rw[e0] at h0;obtain⟨b,o,sp⟩:=x;unfold World.cell? at h0;dsimp only at h0;cases hb:w.heap[b]? with
  | none=>rw[hb] at h0;cases h0
  | some ob=>
   rw[hb] at h0;cases ob with
   | cells c t f=>
    dsimp only at h0;cases sp with
    | some q=>simp at h0
    | none=>
     refine⟨b,o,c,t,f,rfl,hb,fun i v hv=>?_⟩;have hi:=h i v hv;have e:(⟨b,o,none⟩:Addr).add i=⟨b,o+i,none⟩:=by unfold Addr.add;split<;>simp_all
     rw[e] at hi;unfold World.cell? at hi;dsimp only at hi;rw[hb] at hi;simpa using hi
   | _=>cases h0
end PA
namespace Go.Proofs.YthfmaclnccdcbaaGreatDoor
open Go.RowKit PA
def SY (n:Int):Prop:=-9223372036854775808≤n∧n≤9223372036854775807
def Q5 (w:World) (a:Option Addr) (len cap:Nat) (zs:List Int):Prop:=
 (a=none∧len=0∧cap=0∧zs=[]) ∨
 ∃x,a=some x∧len≤cap∧cap≤maxLen∧zs.length=cap∧(∀i,i<zs.length→w.cell? (x.add i)=some (.int .i64 (zs.getD i 0)))∧∀n∈zs,(Lit.int .i64 n).wf=true
theorem argI {w:World} {a:Option Addr} {len cap:Nat} {zs:List Int} (h:Q5 w a len cap zs):
 ∃l:List Int,len=l.length∧(sO.slice 1).rel (wm w) [.slice a len cap] l∧∀n∈l,SY n:=by
 rcases h with ⟨rfl,rfl,rfl,rfl⟩|⟨x,rfl,h1,h2,h3,h4,h5⟩
 ·exact⟨[],rfl,ru.2 ⟨none,0,rfl,⟨Nat.le_refl _,Nat.zero_le _,fun _=>rfl⟩,.inl rfl⟩,fun n hn=>by cases hn⟩
 ·have hl:len=(zs.take len).length:=by simp;omega
  refine⟨zs.take len,hl,ru.2 ⟨some x,cap,by rw[←hl],⟨by rw[←hl];exact h1,h2,fun e=>by cases e⟩,Pm fun j u hu=>?_⟩,fun n hn=>?_⟩
  ·rw[List.getElem?_map,List.getElem?_take] at hu
   split at hu
   ·rename_i hj
    have hjz:j<zs.length:=by omega
    rw[iM hjz] at hu;rw[h4 j hjz,←hu,List.getD_eq_getElem?_getD,iM hjz];rfl
   ·cases hu
  ·exact Hu (h5 n (List.mem_of_mem_take hn))
end Go.Proofs.YthfmaclnccdcbaaGreatDoor
namespace PA
section
open Go Go.RowKit
section
variable {W w:World} {A:aB} {t g N:Nat} {f:Nat→Rt}
end
end
section
open Go Go.Proofs.YthfmaclnccdcbaaGreatDoor
def dH (l:List Int) (i:Nat) (n:Int):Int:=match l[i]? with|some x=>jT x n|none=>0
theorem bF (l:List Int) (i:Nat) (n:Int) (hn:0<n):0≤dH l i n∧dH l i n<n:=by
 unfold dH;split
 ·exact rY _ _ hn
 ·omega
end
end PA
namespace Go.Proofs.YthfmaclnccdcbaaGreatDoor
open Go.RowKit PA
def OM (I:Mem) (va:Value) (l:List Int):Prop:=(∃a c,va=.slice a l.length c)∧(sO.slice 1).rel I [va] l∧∀z∈l,SY z
theorem OM.mono {I J:Mem} {va:Value} {l:List Int} (hl:Mem.le I J) (h:OM I va l):OM J va l:=⟨h.1,(sO.slice 1).mono hl h.2.1,h.2.2⟩
def bM (B:Nat) (va:Value) (pos day:Int) (fv:Value):aB:=blk B (.cells #[va,.int .i64 pos,.int .i64 day,fv] 86 (0,0))
theorem Ii {W w:World} {A:aB} {I:Mem} (va:Value) (l:List Int) (i:Nat) (n:Int) (hn0:0<n) (hn1:n≤1099511627776) (hi:i≤1000000) (hv:OM I va l) (h:Sat W w (sep (kn I) A)):
 Calls Tryz.prog 102 #[va,.int .i64 i,.int .i64 n] w fun e w'=>e=.returned (.int .i64 (dH l i n))∧w=w':=by
 obtain⟨⟨a,c,rfl⟩,hv,hl⟩:=hv;obtain⟨a',c',e,hsw,hc⟩:=ru.1 hv;simp only[Value.slice.injEq] at e;obtain⟨rfl,-,rfl⟩:=e;obtain⟨r,hr⟩:=aC (dH l i n);rw[←hr];unfold dH at hr;have HR:=ah hr;have hlen:(l.length:Int)≤9223372036854775807:=by
  have h1:=hsw.1;have h2:=hsw.2.1;unfold maxLen at h2;omega
 have hiI:(i:Int)≤1000000:=by omega
 by_cases hlt:i<l.length
 ·have hltz:¬(l.length:Int)≤(i:Int):=by omega
  have adJ:(i:Int)<(l.length:Int):=by omega
  obtain⟨b,o,rfl,hcell⟩:=lD hc (fun e=>by have:=congrArg List.length e;simp at this;rw[this] at hlt;simp at hlt);obtain⟨x,hx⟩:=aC (l[i]);have c0:=hcell w h.ext i (PA.iv x) (by rw[List.getElem?_map,iM hlt,hx];rfl);unfold PA.iv at c0;have oO:=hl x (by rw[hx];exact List.getElem_mem hlt);have HX:Hid (r=jT x n):=ah (by rw[HR.out,iM hlt,hx]);have HA:=ah (lX x n w oO.1 oO.2 (by omega) (by omega));obtain⟨ll,hll⟩:=aC (l.length);rw[←hll] at hlen hltz adJ ⊢;clear hv hc hcell hl hr hx hll h hsw oO HR;go_enter Tryz.func102,Tryz.ntmps102;go_wp2_with fail;refine HA.out.mono ?_;rintro e w2 ⟨rfl,rfl⟩;go_wp2;go_ret;exact⟨SB HX.out.symm,rfl⟩
 ·have hltz:(l.length:Int)≤(i:Int):=by omega
  have HX:Hid (r=0):=ah (by rw[HR.out,List.getElem?_eq_none (by omega)]);obtain⟨ll,hll⟩:=aC (l.length);rw[←hll] at hlen hltz ⊢;clear hv hc hl hr hll h hsw HR;go_enter Tryz.func102,Tryz.ntmps102;go_wp2;go_ret;exact⟨SB HX.out.symm,rfl⟩
theorem aS {W w:World} {A:aB} {I:Mem} {B:Nat} {day:Int} {fv:Value} (va:Value) (l:List Int) (i:Nat) (n:Int) (hn0:0<n) (hn1:n≤1099511627776) (hi:i<1000000) (hv:OM I va l) (h:Sat W w (sep (bM B va i day fv) (sep (kn I) A))):
 Calls Tryz.prog 57 #[.pointer (some ⟨B,0,none⟩),.int .i64 n] w fun e w'=>e=.returned (.int .i64 (dH l i n))∧Sat W w' (sep (bM B va ((i+1:Nat):Int) day fv) (sep (kn I) A)):=by
 unfold bM at h ⊢;obtain⟨r,hr⟩:=aC (dH l i n);rw[←hr];have c1:w.cell? ⟨B,1,none⟩=some (.int .i64 i):=h.cell 1;have f1:w.frozen? ⟨B,1,none⟩=false:=h.aI 1;obtain⟨w1,hw1⟩:=aC (w.setCell ⟨B,1,none⟩ (.int .i64 ((i+1:Nat):Int)));have h1:=h.setCell 1 (.int .i64 ((i+1:Nat):Int));rw[←hw1] at h1;have h1d:Sat W w1.drew (sep (blk B (.cells #[va,.int .i64 ((i+1:Nat):Int),.int .i64 day,fv] 86 (0,0))) (sep (kn I) A)):=h1.drew;have hx:(i:Int)+1=((i+1:Nat):Int):=by omega
 obtain⟨i1,hi1⟩:=aC (((i+1:Nat):Int));rw[←hi1] at hw1 hx h1d ⊢;have hiI:(i:Int)<1000000:=by omega
 have d0:w1.drew.cell? ⟨B,0,none⟩=some va:=h1d.cell 0;have d1:w1.drew.cell? ⟨B,1,none⟩=some (.int .i64 i1):=h1d.cell 1;have hx2:IntKind.i64.wrap (i1-1)=(i:Int):=by
  have:i1-1=(i:Int):=by omega
  rw[this];unfold IntKind.wrap;simp[IntKind.bits,IntKind.signed];omega
 have HP:=ah (Ii va l i n hn0 hn1 (by omega) hv h1d.p1);have HD:=ah h1d;have HW1:=ah hw1;rw[←hr] at HP;clear hr h h1 h1d hi1 hw1;go_enter Tryz.func57,Tryz.ntmps57;go_upto_region 2 with fail;rw[←HW1.out];refine aG rfl (fun _=>True) [(0,.p),(1,.p),(2,.p),(3,.t),(4,.p),(5,.p),(6,.p),(7,.t),(8,.p),(9,.p),(10,.e false),(11,.p)] (by kernel_rfl) ?_;have hS0:True:=trivial;refine bG ?_
 (refine jJ rfl rfl (fun K hK=>?_);go_simp)
 refine HP.out.mono ?_;rintro e w2 ⟨rfl,rfl⟩;refine dY ?_;clear hK K;refine bG ?_;refine dJ ?_;go_wp2;go_ret;exact⟨rfl,HD.out⟩
theorem litI {W w:World} {A:aB} {I:Mem} (h:Sat W w (sep (kn I) A)) (ns:List Int) (t:TypeId) (hb:ns.length≤maxLen):
 ∃J,Mem.le I J∧(sO.slice 1).rel J [.slice (some ⟨w.heap.size,0,none⟩) ns.length ns.length] ns∧Sat W (w.alloc (.cells (ns.map iv).toArray t)) (sep (kn J) A):=by
 have h1:=(h.alloc (.cells (ns.map iv).toArray t)).settle;obtain⟨J,hle,hp,h2⟩:=(show Sat W _ (sep (imm w.heap.size (.cells (ns.map iv).toArray t)) (sep (kn I) A)) from h1).learn;refine⟨J,hle,ru.2 ⟨_,_,rfl,⟨Nat.le_refl _,hb,fun h=>by cases h⟩,.inr ⟨w.heap.size,0,_,t,(0,0),rfl,hp,fun i u hu=>by simpa using hu⟩⟩,h2⟩
theorem nilI (I:Mem):(sO.slice 1).rel I [.slice none 0 0] []:=ru.2 ⟨none,0,rfl,⟨Nat.le_refl _,Nat.zero_le _,fun _=>rfl⟩,.inl rfl⟩
theorem wJ {α:Type} {R:Rep α} {k:Nat} {W w:World} {A:aB} {I:Mem} (h:Sat W w (sep (kn I) A)) (cs:List Value) (xs:List α) (t:TypeId) (hr:(R.rows k).rel I cs xs) (hb:xs.length≤maxLen):
 ∃J,Mem.le I J∧(R.slice k).rel J [.slice (some ⟨w.heap.size,0,none⟩) xs.length xs.length] xs∧Sat W (w.alloc (.cells cs.toArray t)) (sep (kn J) A):=by
 have h1:=(h.alloc (.cells cs.toArray t)).settle;obtain⟨J,hle,hp,h2⟩:=(show Sat W _ (sep (imm w.heap.size (.cells cs.toArray t)) (sep (kn I) A)) from h1).learn;refine⟨J,hle,⟨_,_,cs,rfl,⟨Nat.le_refl _,hb,fun h=>by cases h⟩,.inr ⟨w.heap.size,0,_,t,(0,0),rfl,hp,fun i u hu=>by simpa using hu⟩,(R.rows k).mono hle hr⟩,h2⟩
theorem jg {α:Type} {R:Rep α} {k:Nat} {I:Mem} {c:List Value} {x:α} (h:R.rel I c x) (hk:c.length=k):(R.rows k).rel I c [x]:=⟨[c],by simp,⟨h,hk⟩,trivial⟩
theorem o9 {α:Type} {R:Rep α} {k:Nat} {I:Mem} {c d:List Value} {x y:α} (h:R.rel I c x) (hk:c.length=k) (h':R.rel I d y) (hk':d.length=k):(R.rows k).rel I (c++d) [x,y]:=⟨[c,d],by simp,⟨h,hk⟩,⟨h',hk'⟩,trivial⟩
theorem Sz (I:Mem) (o n:Int):rF.rel I [.int .i64 o,.int .i64 n,.slice none 0 0,.slice none 0 0] (.mk o n [] []):=
 dW.2 ⟨none,0,none,0,rfl,aF _ _ _,aF _ _ _⟩
theorem jH {I:Mem} {o n:Int} {b:Option Addr} {d:Nat} {ks:List Fm} (h:(rF.slice 4).rel I [.slice b ks.length d] ks):rF.rel I [.int .i64 o,.int .i64 n,.slice none 0 0,.slice b ks.length d] (.mk o n [] ks):=
 dW.2 ⟨none,0,b,d,rfl,aF _ _ _,h⟩
theorem rF_ivs {I:Mem} {o n:Int} {b:Option Addr} {d:Nat} {is:List Iv} (h:(Yr.slice 8).rel I [.slice b is.length d] is):rF.rel I [.int .i64 o,.int .i64 n,.slice b is.length d,.slice none 0 0] (.mk o n is []):=
 dW.2 ⟨b,d,none,0,rfl,h,aF _ _ _⟩
theorem iQ:(Tryz.prog.info? 34).map (fun i=>(i.zero,i.size,i.bytes))=some (some (.agg #[.int .i64 0,.int .i64 0,.slice none 0 0,.slice none 0 0]),4,64):=by kernel_rfl
def Y2 (n:Nat) (p:Array (Nat×Value)):Sem Value:=Instr.buildSlice 27 n p
theorem iF (n:Nat) (p:Array (Nat×Value)):Instr.buildSlice 27 n p=Y2 n p:=rfl
theorem DN (w:World) (c0 c1 c2 c3:Value):(Y2 1 #[(0,.agg #[c0,c1,c2,c3])]).run Tryz.prog w=.ok (.slice (some ⟨w.heap.size,0,none⟩) 1 1) (w.alloc (.cells #[c0,c1,c2,c3] 34)):=by
 obtain⟨i,h1,h2,h3,h4⟩:=info_parts iQ;exact run_buildSlice w 27 34 1 _ _ i _ Tryz.underlying27 h1 h2 (by rw[h3];omega) (by rw[h3];omega) (by rw[h3];kernel_rfl)
theorem bsFm2 (w:World) (c0 c1 c2 c3 d0 d1 d2 d3:Value):(Y2 2 #[(0,.agg #[c0,c1,c2,c3]),(1,.agg #[d0,d1,d2,d3])]).run Tryz.prog w=.ok (.slice (some ⟨w.heap.size,0,none⟩) 2 2) (w.alloc (.cells #[c0,c1,c2,c3,d0,d1,d2,d3] 34)):=by
 obtain⟨i,h1,h2,h3,h4⟩:=info_parts iQ;exact run_buildSlice w 27 34 2 _ _ i _ Tryz.underlying27 h1 h2 (by rw[h3];omega) (by rw[h3];omega) (by rw[h3];kernel_rfl)
end Go.Proofs.YthfmaclnccdcbaaGreatDoor
namespace PA
section
open Go Go.RowKit
section
variable {P:Program} {ops:Array Oper} {Q:Exit→Act→World→Prop} {S:World→Prop}
theorem N8 {n:Nat} {row:String} {args:Array Value} {w:World} {R:Value→World→Prop} (h:Rows P row args w R):RowsIn Fence.wide n P row args w R:=
 fun c cs _=>let ⟨v,w',r,s⟩:=h c cs;⟨v,w',r,stepsIn_wide.2 s⟩
theorem Kw {l n i:Nat} {K:Act→World→Prop} {a:Act} {w:World} (hno:¬LetsOut Q) (hnd:∀o,ops[i]?=some o→∀c,o.op≠.defer c) (h:wpOp P ops Q i K a w):wpOpIn (Fence.wide.inRound l) n P ops Q i K a w:=by
 unfold wpOp at h;unfold wpOpIn;cases ho:ops[i]? with
 | none=>simpa[ho] using h
 | some o=>
  simp only[ho] at h ⊢;split
  ·rename_i hw
   simp only[hw,if_true] at h;rcases h with h|⟨-,h⟩
   ·refine⟨fun _ _=>trivial,?_⟩
    rw[show (Fence.wide.inRound l).round=some l from rfl,Oper.semAt_some l _ _ (hnd o ho)];unfold Oper.wp at h;generalize (execOp a.eval o).run P w=r at *;cases r with
    | ok x w'=>
     cases x<;>simp only[Oper.upon,Oper.uponIn] at h ⊢
     case value v=>exact h
     case skip=>exact h
     case defer d=>exact h
     case enter f args=>exact⟨fun hd=>(by simp[Fence.inRound,Fence.wide] at hd),callsIn_wide.2 h⟩
     case row row args=>exact⟨fun hd=>(by simp[Fence.inRound,Fence.wide] at hd),N8 h⟩
    | halt x w'=>cases x<;>simp only[Oper.upon,Oper.uponIn] at h ⊢;exact h
   ·exact absurd h hno
  ·rename_i hw
   simp only[hw] at h;exact⟨fun _ _=>trivial,h⟩
theorem uq {l n:Nat} {md:Region.Mode} (hno:¬LetsOut Q) (hnd:∀(i:Nat) o,ops[i]?=some o→∀c,o.op≠.defer c):∀(fuel:Nat) (listed:Array Bool) (a:Act) (w:World),wpAny P md ops Q fuel listed a w→wpAnyIn (Fence.wide.inRound l) n P md ops Q fuel listed a w
 | 0,_,_,_,h=>h
 | fuel+1,_,_,_,h=>⟨h.1,fun i hi=>Kw hno (hnd i) (wpOp_mono (fun a w h=>uq hno hnd fuel _ a w h) (h.2 i hi))⟩
theorem tN (h:¬LetsOut Q):¬LetsOut (NoPanic Q):=fun ⟨a,w,hq⟩=>h ⟨a,w,hq⟩
def RV (ops:Array Oper):Bool:=ops.all fun o=>match o.op with|.defer ..=>false|_=>true
theorem ED (h:RV ops=true):∀(i:Nat) o,ops[i]?=some o→∀c,o.op≠.defer c:=by
 intro i o ho c hc;simp only[RV,Array.all_eq_true] at h;obtain⟨hi,rfl⟩:=Array.getElem?_eq_some_iff.1 ho;have:=h i hi;rw[hc] at this;cases this
theorem BZ {l n id:Nat} {a:Act} {w:World} (hm:P.follows .mixedOrders=true) (S:World→Prop) (L:List (Nat×Kd)) (hok:(CO ops (Region.before ops) L&&RV ops)=true) (hno:¬LetsOut Q)
 (h:wpC P ops (NoPanic Q) S L a w.drew):(Code.region id ops true).wpIn (Fence.wide.inRound l) n P Q a w:=by
 rw[Bool.and_eq_true] at hok;obtain⟨hok,hnd⟩:=hok;simp only[CO,Bool.and_eq_true] at hok;obtain⟨⟨⟨⟨⟨⟨⟨h1,h2⟩,h3⟩,h4⟩,h7⟩,h8⟩,h5⟩,h6⟩:=hok;have hlen:L.length=ops.size:=by simpa using h4
 have hall:∀i,i<ops.size→i∈L.map (·.1):=fun i hi=>by
  simp only[List.all_eq_true,List.mem_range] at h5;simpa using h5 i hi
 have hback:∀i,i∈L.map (·.1)→i<ops.size:=fun i hi=>by
  rw[List.all_eq_true] at h8;simpa using h8 i hi
 have hp:=xY L h1;refine wpIn_mono (wpIn_region_any hm (uq (tN hno) (ED hnd) ops.size _ a _ ?_)) NoPanic.imp;refine Le (bf:=Region.before ops) (S:=S) ?_ ?_ h3 ?_ ops.size L _ hlen ?_ a w.drew h
 ·intro j o cs b ho hsel
  simp only[EF,Array.all_eq_true] at h2;obtain⟨hj,rfl⟩:=Array.getElem?_eq_some_iff.1 ho;have:=h2 j hj;rw[hsel] at this;cases this
 ·intro c a d v w hh;exact hh
 ·intro j o ho e he hb
  obtain⟨hj,rfl⟩:=Array.getElem?_eq_some_iff.1 ho;rw[Array.all_eq_true] at h6;have:=h6 j hj;rw[Array.all_eq_true] at this;obtain⟨k,hk,rfl⟩:=Array.mem_iff_getElem.1 he;have:=this k hk;simpa[hb] using this
 ·refine⟨by simp,fun i=>⟨fun hi=>?_,fun hi=>hall i hi.1⟩,oQ _ h7,hp.1,hp.2,fun d r _ hd=>?_⟩
  ·have:=hback i hi
   exact⟨this,by simp[Array.getD,this]⟩
  ·exfalso
   simp only[Array.getD,Array.size_replicate] at hd;split at hd<;>simp at hd
end
end
section
open Go Go.RowKit
section
variable {P:Program} {ops:Array Oper} {Q:Exit→Act→World→Prop} {S:World→Prop}
theorem zy {l n id:Nat} {a:Act} {w:World} (hm:P.follows .mixedOrders=true) (S:World→Prop) (L:List lu) (hok:(yO ops L&&RV ops)=true) (hno:¬LetsOut Q)
 (h:ou P ops (NoPanic Q) S L (Q .normal) a w.drew):(Code.region id ops true).wpIn (Fence.wide.inRound l) n P Q a w:=by
 rw[Bool.and_eq_true] at hok;obtain⟨hok,hnd⟩:=hok;simp only[yO,Bool.and_eq_true] at hok;obtain⟨⟨⟨⟨⟨⟨⟨⟨⟨h1,h0⟩,h2⟩,h3⟩,h4⟩,h7⟩,h8⟩,h5⟩,h6⟩,h9⟩:=hok;have hlen:(fA L).length=ops.size:=by simpa using h4
 have hall:∀i,i<ops.size→i∈(fA L).map (·.1):=fun i hi=>by
  simp only[List.all_eq_true,List.mem_range] at h5;simpa using h5 i hi
 have hback:∀i,i∈(fA L).map (·.1)→i<ops.size:=fun i hi=>by
  rw[List.all_eq_true] at h8;simpa using h8 i hi
 have hd:=Je _ h0;refine wpIn_mono (wpIn_region_any hm (uq (tN hno) (ED hnd) ops.size _ a _ ?_)) NoPanic.imp;refine G5 (S:=S) ?_ ?_ h3 ?_ ops.size L _ hlen ?_ a w.drew h
 ·intro j o cs b ho hsel
  simp only[EF,Array.all_eq_true] at h2;obtain⟨hj,rfl⟩:=Array.getElem?_eq_some_iff.1 ho;have:=h2 j hj;rw[hsel] at this;cases this
 ·intro c a d v w hh;exact hh
 ·intro j o ho e he hb
  obtain⟨hj,rfl⟩:=Array.getElem?_eq_some_iff.1 ho;rw[Array.all_eq_true] at h6;have:=h6 j hj;rw[Array.all_eq_true] at this;obtain⟨k,hk,rfl⟩:=Array.mem_iff_getElem.1 he;have:=this k hk;simpa[hb] using this
 ·refine⟨by simp,fun i=>⟨fun hi=>?_,fun hi=>hall i hi.1⟩,oQ _ h7,EM L h1,hd.1,hd.2,vP L h9,fun d r _ hd=>?_⟩
  ·have:=hback i hi
   exact⟨this,by simp[Array.getD,this]⟩
  ·exfalso
   simp only[Array.getD,Array.size_replicate] at hd;split at hd<;>simp at hd
end
end
section
open Go
theorem ZB {n:Int} (h:n.natAbs≤1099511627776):okR ⟨n,1⟩=true:=uS n 1 (by omega) (by omega) h (by simp)
theorem FC {n:Int} (h1:-8≤n) (h2:n≤8):fD ⟨n,1⟩=true:=by
 unfold fD;rw[ZB (by omega),decide_eq_true (by show n≤1073741824;omega),decide_eq_true (by show -1073741824≤n;omega)];rfl
theorem Ws {x:Iv} (h:Di x):ig x=true:=by
 obtain⟨h1,h2,h3,h4,h5⟩:=h;obtain⟨ln,ld,hn,hd,lo,ho,li,hi⟩:=x;simp only at h1 h2 h3 h4 h5;subst h3 h4;have e1:∀hn hd lo ho li hi,fD (Iv.lw ⟨ln,1,hn,hd,lo,ho,li,hi⟩)=true:=fun _ _ _ _ _ _=>FC (n:=ln) (by omega) (by omega)
 rcases h5 with ⟨rfl,rfl,rfl,rfl⟩|⟨rfl,rfl,h6,h7⟩
 ·unfold ig;rw[e1];simp[zR,Iv.up]
 ·have e2:fD (Iv.up ⟨ln,1,hn,1,lo,ho,false,false⟩)=true:=FC (n:=hn) (by omega) (by omega)
  have e3:eqR (Iv.lw ⟨ln,1,hn,1,lo,ho,false,false⟩) (Iv.up ⟨ln,1,hn,1,lo,ho,false,false⟩)=false:=by
   unfold eqR Iv.lw Iv.up;rw[show (ln==hn)=false by simpa using (by omega:¬ln=hn)];rfl
  have e4:Qg (Iv.lw ⟨ln,1,hn,1,lo,ho,false,false⟩) (Iv.up ⟨ln,1,hn,1,lo,ho,false,false⟩)=true:=by
   unfold Qg Iv.lw Iv.up;exact decide_eq_true (show ln*1<hn*1 by omega)
  unfold ig;rw[e1,e2,e3,e4];simp
theorem ZO {x:Iv} (h:ig x=true):rU [x]=true:=by
 have e:BU [x] 1=true:=by rw[rJ,Ap];simp[tZ,h]
 unfold rU KO;rw[show ([x]:List Iv).length=1 from rfl,e];simp
theorem fM {f:Fm} (h:pW f):Fm.whole rU f=true∧f.size=1∧f.deep=1∧f.dO=[f]∧f.parts=[f]:=by
 obtain⟨n,h1,h2,rfl⟩:=h;refine⟨?_,by simp[Fm.size,Fm.sizes],by simp[Fm.deep,Fm.dK],by simp[Fm.dO],by simp[Fm.parts,Fm.op]⟩;simp[Fm.whole,Fm.formed,Fm.dN];omega
theorem mD {f:Fm} (h:AB f):Fm.whole rU f=true∧f.size=1∧f.deep=1∧f.dO=[f]∧f.parts=[f]:=by
 obtain⟨n,x,h1,h2,hx,rfl⟩:=h;refine⟨?_,by simp[Fm.size,Fm.sizes],by simp[Fm.deep,Fm.dK],by simp[Fm.dO],by simp[Fm.parts,Fm.op]⟩;have:=ZO (Ws hx);simp[Fm.whole,Fm.formed,Fm.dN,this];omega
structure FmG (f:Fm):Prop where
 wh:Fm.whole rU f=true
 sz:f.size≤4
 dp:f.deep≤3
theorem D9 {f:Fm} (h:dA f):FmG f:=by
 cases h with
 | c h=>obtain⟨a,b,c,-⟩:=fM h;exact⟨a,by omega,by omega⟩
 | v h=>obtain⟨a,b,c,-⟩:=mD h;exact⟨a,by omega,by omega⟩
 | GZ h g=>obtain⟨a,b,c,-⟩:=fM h;obtain⟨a',b',c',-⟩:=mD g;exact⟨by simp[Fm.whole,Fm.formed,Fm.dN,a,a'],by simp[Fm.size,Fm.sizes,b,b'],by simp[Fm.deep,Fm.dK,c,c']⟩
 | Un h g=>obtain⟨a,b,c,-⟩:=fM h;obtain⟨a',b',c',-⟩:=mD g;exact⟨by simp[Fm.whole,Fm.formed,Fm.dN,a,a'],by simp[Fm.size,Fm.sizes,b,b'],by simp[Fm.deep,Fm.dK,c,c']⟩
 | Xj h g=>obtain⟨a,b,c,-⟩:=fM h;obtain⟨a',b',c',-⟩:=fM g;exact⟨by simp[Fm.whole,Fm.formed,Fm.dN,a,a'],by simp[Fm.size,Fm.sizes,b,b'],by simp[Fm.deep,Fm.dK,c,c']⟩
 | VH h g=>obtain⟨a,b,c,-⟩:=fM h;obtain⟨a',b',c',-⟩:=fM g;exact⟨by simp[Fm.whole,Fm.formed,Fm.dN,a,a'],by simp[Fm.size,Fm.sizes,b,b'],by simp[Fm.deep,Fm.dK,c,c']⟩
 | part h=>obtain⟨a,b,c,-⟩:=fM h;exact⟨by simp[Fm.whole,Fm.formed,Fm.dN,a],by simp[Fm.size,Fm.sizes,b],by simp[Fm.deep,Fm.dK,c]⟩
 | VI h g=>obtain⟨a,b,c,-⟩:=fM h;obtain⟨a',b',c',-⟩:=mD g;exact⟨by simp[Fm.whole,Fm.formed,Fm.dN,a,a'],by simp[Fm.size,Fm.sizes,b,b'],by simp[Fm.deep,Fm.dK,c,c']⟩
theorem V9 {f:Fm} (h1:Fm.whole rU f=true) (h2:f.size≤96) (h3:f.deep≤8):kQ f=0:=by
 unfold kQ Fm.valid;rw[if_neg (by omega),if_pos h1]
theorem Jk {f:Fm} (h:dA f):kQ f=0:=by
 have:=D9 h;exact V9 this.wh (by have:=this.sz;omega) (by have:=this.dp;omega)
structure oC (n:Nat) (f:Fm):Prop where
 wh:Fm.dN rU f.parts=true
 sz:Fm.sizes f.parts≤n
 dp:Fm.dK f.parts≤3
theorem oC.up {m n:Nat} {f:Fm} (h:oC m f) (hmn:m≤n):oC n f:=⟨h.wh,Nat.le_trans h.sz hmn,h.dp⟩
theorem FK (sp:List Iv→Bool):∀a b:List Fm,Fm.dN sp (a++b)=(Fm.dN sp a&&Fm.dN sp b)
 | [],b=>by simp[Fm.dN]
 | f::a,b=>by rw[pV,Fm.dN,Fm.dN,FK sp a b,Bool.and_assoc]
theorem Iy:∀a b:List Fm,Fm.sizes (a++b)=Fm.sizes a+Fm.sizes b
 | [],b=>by simp[Fm.sizes]
 | f::a,b=>by rw[pV,Fm.sizes,Fm.sizes,Iy a b];omega
theorem G9:∀a b:List Fm,Fm.dK (a++b)=max (Fm.dK a) (Fm.dK b)
 | [],b=>by simp[Fm.dK]
 | f::a,b=>by rw[pV,Fm.dK,Fm.dK,G9 a b];omega
theorem sK (a b:Fm):(fC a b).parts=a.parts++b.parts:=by simp[fC,Fm.parts,Fm.op,Fm.kids]
theorem NJ {m n:Nat} {a b:Fm} (ha:oC m a) (hb:oC n b):oC (m+n) (fC a b):=by
 constructor
 ·rw[sK,FK,ha.wh,hb.wh];rfl
 ·rw[sK,Iy];have:=ha.sz;have:=hb.sz;omega
 ·rw[sK,G9];have:=ha.dp;have:=hb.dp;omega
theorem ZH {m n:Nat} {a b:Fm} (ha:oC m a) (hb:oC n b) (h:m+n≤90):kQ (fC a b)=0:=by
 have hp:=NJ ha hb;have e:=sK a b;refine V9 ?_ ?_ ?_
 ·have:=hp.wh;rw[e] at this;simp[fC,Fm.whole,Fm.formed,this]
 ·have:=hp.sz;rw[e] at this;rw[fC,Fm.size];omega
 ·have:=hp.dp;rw[e] at this;rw[fC,Fm.deep];omega
theorem qP {f:Fm} (h:Fm.whole rU f=true∧f.size=1∧f.deep=1∧f.dO=[f]∧f.parts=[f]):oC 4 f:=by
 obtain⟨a,b,c,-,e⟩:=h;constructor<;>rw[e]<;>simp[Fm.dN,Fm.sizes,Fm.dK,a,b,c]
theorem iJ {f:Fm} (h:dA f):(∀t∈f.dO,oC 4 t)∧f.dO.length≤2:=by
 cases h with
 | c h=>
  have k:=fM h;have al:=qP k;rw[k.2.2.2.1];exact⟨by intro t ht;rw[vW ht];exact al,by simp⟩
 | v h=>
  have k:=mD h;have al:=qP k;rw[k.2.2.2.1];exact⟨by intro t ht;rw[vW ht];exact al,by simp⟩
 | GZ h g=>
  obtain⟨a,b,c,-⟩:=fM h;obtain⟨a',b',c',-⟩:=mD g;rw[Fm.dO,if_neg (by decide)];refine⟨fun t ht=>?_,by simp⟩;rw[vW ht];constructor<;>simp[Fm.parts,Fm.op,Fm.kids,Fm.dN,Fm.sizes,Fm.dK,a,b,c,a',b',c']
 | Un h g=>
  have k:=fM h;have k':=mD g;have al:=qP k;have al':=qP k';rw[Fm.dO,if_pos rfl,Fm.aZ,Fm.aZ,Fm.aZ,k.2.2.2.1,k'.2.2.2.1];refine⟨fun t ht=>?_,by simp⟩;simp at ht;rcases ht with rfl|rfl
  ·exact al
  ·exact al'
 | Xj h g=>
  have k:=fM h;have k':=fM g;have al:=qP k;have al':=qP k';rw[Fm.dO,if_pos rfl,Fm.aZ,Fm.aZ,Fm.aZ,k.2.2.2.1,k'.2.2.2.1];refine⟨fun t ht=>?_,by simp⟩;simp at ht;rcases ht with rfl|rfl
  ·exact al
  ·exact al'
 | VH h g=>
  obtain⟨a,b,c,-⟩:=fM h;obtain⟨a',b',c',-⟩:=fM g;rw[Fm.dO,if_neg (by decide)];refine⟨fun t ht=>?_,by simp⟩;rw[vW ht];constructor<;>simp[Fm.parts,Fm.op,Fm.kids,Fm.whole,Fm.formed,Fm.dN,Fm.size,Fm.sizes,Fm.deep,Fm.dK,a,b,c,a',b',c']
 | part h=>
  obtain⟨a,b,c,-⟩:=fM h;rw[Fm.dO,if_neg (by decide)];refine⟨fun t ht=>?_,by simp⟩;rw[vW ht];constructor<;>simp[Fm.parts,Fm.op,Fm.whole,Fm.formed,Fm.dN,Fm.size,Fm.sizes,Fm.deep,Fm.dK,a,b,c]
 | VI h g=>
  obtain⟨a,b,c,-⟩:=fM h;obtain⟨a',b',c',-⟩:=mD g;rw[Fm.dO,if_neg (by decide)];refine⟨fun t ht=>?_,by simp⟩;rw[vW ht];constructor<;>simp[Fm.parts,Fm.op,Fm.kids,Fm.whole,Fm.formed,Fm.dN,Fm.size,Fm.sizes,Fm.deep,Fm.dK,a,b,c,a',b',c']
theorem vJ {m n:Nat} {t:List Fm} (hn:∀b∈t,oC n b) (hmn:m+n≤90):∀{x:List Fm},(∀a∈x,oC m a)→∃y,eX x t=some y∧y.length=x.length*t.length∧∀c∈y,oC (m+n) c
 | [],_=>⟨[],rfl,by simp,by simp⟩
 | a::x,h=>by
  obtain⟨y,h1,h2,h3⟩:=vJ hn hmn (x:=x) (fun c hc=>h c (tY _ hc));have hall:(t.all fun b=>decide (kQ (fC a b)=0))=true:=List.all_eq_true.2 fun b hb=>decide_eq_true (ZH (h a (List.mem_cons_self ..)) (hn b hb) hmn)
  refine⟨t.map (fC a)++y,?_,?_,?_⟩
  ·unfold eX;rw[if_pos hall,h1];rfl
  ·rw[dM,List.length_map,h2,oP,Nat.add_mul];omega
  ·intro c hc
   rcases List.mem_append.1 hc with hc|hc
   ·obtain⟨b,hb,rfl⟩:=List.mem_map.1 hc
    exact NJ (h a (List.mem_cons_self ..)) (hn b hb)
   ·exact h3 c hc
theorem Du {l:List Cl} {k:Nat} {c:Cl} (hc:l[k]?=some c) (hr:c.refs=[]) (hF:dA c.body):∃y,fU l k=some y∧y.length≤2∧∀f∈y,oC 4 f:=by
 refine⟨c.body.dO,?_,(iJ hF).2,(iJ hF).1⟩;unfold fU;rw[hc];simp only;unfold tX;rw[if_pos hr,if_pos (by have:=(iJ hF).2;omega)]
theorem Dv {l:List Cl} {k j m n:Nat} {c:Cl} {y:List Fm} (hc:l[k]?=some c) (hr:c.refs=[(j:Int)]) (hj:j<k) (hF:dA c.body) (hy:fU l j=some y) (hyl:y.length≤n) (hya:∀f∈y,oC m f) (hm:m+4≤90) (hn:n*2≤64):
 ∃z,fU l k=some z∧z.length≤n*2∧∀f∈z,oC (m+4) f:=by
 obtain⟨z,h1,h2,h3⟩:=vJ (iJ hF).1 hm hya;have hl:y.length*c.body.dO.length≤n*2:=Nat.mul_le_mul hyl (iJ hF).2;refine⟨z,?_,by omega,h3⟩;unfold fU;rw[hc];simp only;unfold tX;rw[if_neg (by rw[hr];simp),hr];unfold eH;simp only[Int.toNat_natCast,if_pos hj,hy];rw[if_neg (by simp;omega),h1];simp[eH]
theorem VF {l:List Cl} {k:Nat} {c:Cl} {y0 y1:List Fm} (hc:l[k]?=some c) (hr:c.refs=[0,1]) (hk:2≤k) (hF:dA c.body) (hy0:fU l 0=some y0) (hl0:y0.length≤4) (ha0:∀f∈y0,oC 8 f) (hy1:fU l 1=some y1) (hl1:y1.length≤4) (ha1:∀f∈y1,oC 8 f):
 ∃z,fU l k=some z∧z.length≤16∧∀f∈z,oC 12 f:=by
 obtain⟨z0,h1,h2,h3⟩:=vJ (m:=8) (n:=4) (iJ hF).1 (by omega) ha0;obtain⟨z1,g1,g2,g3⟩:=vJ (m:=8) (n:=4) (iJ hF).1 (by omega) ha1;have e0:y0.length*c.body.dO.length≤4*2:=Nat.mul_le_mul hl0 (iJ hF).2;have e1:y1.length*c.body.dO.length≤4*2:=Nat.mul_le_mul hl1 (iJ hF).2;refine⟨z0++z1,?_,by rw[dM];omega,fun f hf=>?_⟩
 ·unfold fU;rw[hc];simp only;unfold tX;rw[if_neg (by rw[hr];simp),hr]
  unfold eH;simp only[show (0:Int).toNat=0 from rfl,if_pos (show 0<k by omega),hy0];rw[if_neg (by simp;omega),h1];simp only[tK];unfold eH;simp only[show (1:Int).toNat=1 from rfl,if_pos (show 1<k by omega),hy1];rw[if_neg (by omega),g1];simp[eH]
 ·rcases List.mem_append.1 hf with hf|hf
  ·exact h3 f hf
  ·exact g3 f hf
theorem PN {l:List Cl} (h:kR l):∀k,k<l.length→∃y,fU l k=some y∧y.length≤16∧∀f∈y,oC 12 f:=by
 obtain⟨h1,h2,h3⟩:=h;have g0:∃y,fU l 0=some y∧y.length≤2∧∀f∈y,oC 4 f:=by
  obtain⟨hF,hr⟩:=h3 0 h1;refine Du (iM h1) ?_ hF;rcases hr with hr|⟨j,hj,-⟩|⟨hj,-⟩
  ·exact hr
  ·omega
  ·omega
 obtain⟨y0,a1,a2,a3⟩:=g0;have g1:1<l.length→∃y,fU l 1=some y∧y.length≤4∧∀f∈y,oC 8 f:=by
  intro hk;obtain⟨hF,hr⟩:=h3 1 hk;rcases hr with hr|⟨j,hj,hr⟩|⟨hj,-⟩
  ·obtain⟨y,b1,b2,b3⟩:=Du (iM hk) hr hF
   exact⟨y,b1,by omega,fun f hf=>(b3 f hf).up (by omega)⟩
  ·obtain rfl:j=0:=by omega
   exact Dv (iM hk) hr (by omega) hF a1 a2 a3 (by omega) (by omega)
  ·omega
 have g2:2<l.length→∃y,fU l 2=some y∧y.length≤16∧∀f∈y,oC 12 f:=by
  intro hk;obtain⟨y1,c1,c2,c3⟩:=g1 (by omega);obtain⟨hF,hr⟩:=h3 2 hk;rcases hr with hr|⟨j,hj,hr⟩|⟨-,hr⟩
  ·obtain⟨y,b1,b2,b3⟩:=Du (iM hk) hr hF
   exact⟨y,b1,by omega,fun f hf=>(b3 f hf).up (by omega)⟩
  ·rcases (by omega:j=0∨j=1) with rfl|rfl
   ·obtain⟨z,b1,b2,b3⟩:=Dv (iM hk) hr (by omega) hF a1 a2 a3 (by omega) (by omega)
    exact⟨z,b1,by omega,fun f hf=>(b3 f hf).up (by omega)⟩
   ·obtain⟨z,b1,b2,b3⟩:=Dv (iM hk) hr (by omega) hF c1 c2 c3 (by omega) (by omega)
    exact⟨z,b1,by omega,fun f hf=>(b3 f hf).up (by omega)⟩
  ·exact VF (iM hk) hr (by omega) hF a1 (by omega) (fun f hf=>(a3 f hf).up (by omega)) c1 c2 c3
 intro k hk;rcases (by omega:k=0∨k=1∨k=2) with rfl|rfl|rfl
 ·exact⟨y0,a1,by omega,fun f hf=>(a3 f hf).up (by omega)⟩
 ·obtain⟨y,b1,b2,b3⟩:=g1 hk
  exact⟨y,b1,by omega,fun f hf=>(b3 f hf).up (by omega)⟩
 ·exact g2 hk
theorem Bd {l:List Cl} (h:kR l):∀n,n≤l.length→∃s,jZ l n=some s∧s≤16*n
 | 0,_=>⟨0,rfl,by omega⟩
 | n+1,hn=>by
  obtain⟨s,h1,h2⟩:=Bd h n (by omega);obtain⟨y,g1,g2,-⟩:=PN h n (by omega);exact⟨s+y.length,by rw[jZ,h1];simp only;rw[g1],by omega⟩
theorem Ro:∀(l:List Cl) (i:Nat),(∀(k:Nat) (hk:k<l.length),l[k].refs.length≤8∧kK l[k].refs (i+k)=true∧kQ l[k].body=0)→rZ i l=0
 | [],_,_=>rfl
 | c::l,i,h=>by
  obtain⟨h1,h2,h3⟩:=h 0 (by simp);simp only[List.getElem_cons_zero,Nat.add_zero] at h1 h2 h3;unfold rZ;rw[if_neg (by omega),if_neg (by rw[h2];decide),if_neg (by rw[h3];decide)];refine Ro l (i+1) fun k hk=>?_
  have:=h (k+1) (by simp;omega);simp only[List.getElem_cons_succ] at this;rw[show i+1+k=i+(k+1) by omega];exact this
theorem qp {i:Nat} {r:List Int} (h:lW i r):r.length≤2∧kK r i=true:=by
 rcases h with rfl|⟨j,hj,rfl⟩|⟨rfl,rfl⟩
 ·exact⟨by simp,rfl⟩
 ·refine⟨by simp,?_⟩
  unfold kK;rw[show ([(j:Int)]:List Int).length=1 from rfl,o8,yg];simp[qF];omega
 ·exact⟨by simp,by decide⟩
theorem D7 {l:List Cl} (h:kR l):qQ l=0:=by
 unfold qQ;rw[if_neg (by have:=h.2.1;omega)];refine Ro l 0 fun k hk=>?_
 obtain⟨hF,hr⟩:=h.2.2 k hk;rw[Nat.zero_add];exact⟨by have:=(qp hr).1;omega,(qp hr).2,Jk hF⟩
theorem Zf {l:List Fm} (h:∀f∈l,kQ f=0):lI l=0:=by
 induction l with
 | nil=>rfl
 | cons f l ih=>
  unfold lI;rw[if_neg (by rw[h f (List.mem_cons_self ..)];decide)];exact ih fun g hg=>h g (tY _ hg)
theorem XF {l:List Fm} (h:∀f∈l,f.dO.length≤2):(Fm.aZ l).length≤2*l.length:=by
 induction l with
 | nil=>simp[Fm.aZ]
 | cons f l ih=>
  rw[Fm.aZ,dM,oP];have:=h f (List.mem_cons_self ..);have:=ih fun g hg=>h g (tY _ hg)
  omega
theorem Zh {td:List Fm} {tc:List Cl} (h:AA td tc):FT td tc=0:=by
 obtain⟨h1,h2,h3,h4⟩:=h;obtain⟨s,g1,g2⟩:=Bd h4 tc.length (by omega);have ht:=XF (l:=td) fun f hf=>(iJ (h3 f hf)).2
 have hc:=h4.2.1;unfold FT;rw[if_neg (by omega),if_neg (by rw[Zf fun f hf=>Jk (h3 f hf)];decide),if_neg (by rw[D7 h4];decide),g1];simp only;rw[if_neg (by omega)]
theorem Y9 {N:Nat} {l:List Ea} (hN:N≤800) (h:IJ N l):mX (5*(N:Int)) l l.length=true:=by
 obtain⟨h1,h2,h3⟩:=h;unfold mX;refine List.all_eq_true.2 fun k hk=>?_
 have hk:=List.mem_range.1 hk;obtain⟨⟨j,hj,hf⟩,hd1,hd2⟩:=h2 l[k] (List.getElem_mem hk);unfold Jf;rw[iM hk];simp only;have hany:((l.take k).any fun g=>decide (g.file=l[k].file))=false:=by
  rw[List.any_eq_false];intro g hg;obtain⟨i,hi,rfl⟩:=List.mem_iff_getElem.1 hg;rw[List.length_take] at hi;rw[List.getElem_take];have:=List.pairwise_iff_getElem.1 h3 i k (by omega) hk (by omega);simpa using this
 rw[hany];unfold aP;simp;omega
theorem MH {N:Nat} {x:Pa} (hN:N≤100) (h:KR N x) (hn:0≤x.n∧x.n≤1000000):bC x=true:=by
 obtain⟨y,d,n,hy,hd1,hd2,rfl⟩:=h;have hn':0≤n∧n≤1000000:=hn;rcases hy with ⟨o,p,q,td,tc,ea,rfl,ho,hp,hq,hT,hE⟩|hy
 ·have e1:=Zh hT
  have e2:=Y9 (by omega) hE;have e3:=hE.1;have Zn:¬q=5*(N:Int)∧-1≤q∧q≤4095:=by
   rcases hq with rfl|⟨j,hj,rfl⟩
   ·omega
   ·omega
  simp[bC,bH,aP,iH,ku,bT,aQ,qm,Pa.zero,Fm.zero,Fm.op,Fm.num,Fm.ins,Fm.kids,e1,e2];omega
 ·have ac4:True:=trivial
  cases hy with
  | plain hk hf=>
   obtain⟨j,hj,rfl⟩:=hf;rcases hk with rfl|rfl|rfl|rfl<;>(simp[bC,bH,aP,iH,ku,bT,aQ,Pa.zero,Fm.zero,Fm.op,Fm.num,Fm.ins,Fm.kids];omega)
  | list hk hf hc=>
   obtain⟨j,hj,rfl⟩:=hf;have e1:=D7 hc;have e2:=hc.1;rcases hk with rfl|rfl<;>(simp[bC,bH,aP,iH,ku,bT,aQ,gZ,Pa.zero,Fm.zero,Fm.op,Fm.num,Fm.ins,Fm.kids,e1];omega)
  | pay hf hp hq hu hm1 hm2=>
   obtain⟨j,hj,rfl⟩:=hf;simp[bC,bH,aP,iH,ku,bT,aQ,Pa.zero,Fm.zero,Fm.op,Fm.num,Fm.ins,Fm.kids];omega
  | small hp hu=>
   simp[bC,bH,aP,iH,ku,bT,aQ,Pa.zero,Fm.zero,Fm.op,Fm.num,Fm.ins,Fm.kids];omega
  | order hk hf hu1 hu2 hu3=>
   obtain⟨j,hj,rfl⟩:=hf;rcases hk with rfl|rfl|rfl|rfl<;>(simp[bC,bH,aP,iH,ku,bT,aQ,jB,Pa.zero,Fm.zero,Fm.op,Fm.num,Fm.ins,Fm.kids];omega)
  | extend hf hu1 hu2 hm1 hm2=>
   obtain⟨j,hj,rfl⟩:=hf;simp[bC,bH,aP,iH,ku,bT,aQ,Pa.zero,Fm.zero,Fm.op,Fm.num,Fm.ins,Fm.kids];omega
  | JB hk hf hp1 hp2=>
   obtain⟨j,hj,rfl⟩:=hf;rcases hk with rfl|rfl<;>(simp[bC,bH,aP,iH,ku,bT,aQ,Pa.zero,Fm.zero,Fm.op,Fm.num,Fm.ins,Fm.kids];omega)
  | decide hf hq hu=>
   obtain⟨j,hj,rfl⟩:=hf;rcases hu with ⟨hu,rfl⟩|⟨rfl,hc⟩
   ·rcases hu with rfl|rfl<;>(simp[bC,bH,aP,iH,ku,bT,aQ,Pa.zero,Fm.zero,Fm.op,Fm.num,Fm.ins,Fm.kids];omega)
   ·have e1:=D7 hc
    have e2:=hc.1;simp[bC,bH,aP,iH,ku,bT,aQ,gZ,Pa.zero,Fm.zero,Fm.op,Fm.num,Fm.ins,Fm.kids,e1];omega
  | @transfer f p q sn sd hf hp1 hp2 hq1 hq2 hs=>
   obtain⟨j,hj,rfl⟩:=hf;have e1:nK sn sd=true:=by
    rcases hs with ⟨rfl,rfl⟩|⟨rfl,rfl⟩|⟨rfl,rfl⟩|⟨rfl,rfl⟩
    ·unfold nK;rw[uS 1 1 (by omega) (by omega) (by decide) (by decide)];rfl
    ·unfold nK;rw[uS 1 2 (by omega) (by omega) (by decide) (by decide)];rfl
    ·unfold nK;rw[uS 1 3 (by omega) (by omega) (by decide) (by decide)];rfl
    ·unfold nK;rw[uS 2 3 (by omega) (by omega) (by decide) (by decide)];rfl
   simp[bC,bH,aP,iH,ku,bT,aQ,oZ,Pa.zero,Fm.zero,Fm.op,Fm.num,Fm.ins,Fm.kids,e1];omega
  | Js hf hp1 hp2 hq1 hq2 hu1 hu2=>
   obtain⟨j,hj,rfl⟩:=hf;simp[bC,bH,aP,iH,ku,bT,aQ,oZ,jB,Pa.zero,Fm.zero,Fm.op,Fm.num,Fm.ins,Fm.kids];omega
  | art hg=>
   have e1:=Jk hg;simp[bC,bH,aP,iH,ku,bT,aQ,Pa.zero,Fm.zero,Fm.op,Fm.num,Fm.ins,Fm.kids,e1];omega
  | closure ho hu1 hu2=>
   simp[bC,bH,aP,iH,ku,bT,aQ,jB,Pa.zero,Fm.zero,Fm.op,Fm.num,Fm.ins,Fm.kids];omega
  | rule ho hu1 hu2 hm1 hm2=>
   simp[bC,bH,aP,iH,ku,bT,aQ,Pa.zero,Fm.zero,Fm.op,Fm.num,Fm.ins,Fm.kids];omega
end
section
open Go Go.RowKit
def jP (r:Int):Prop:=-9223372036854775808≤r∧r≤9223372036854775807
end
end PA
