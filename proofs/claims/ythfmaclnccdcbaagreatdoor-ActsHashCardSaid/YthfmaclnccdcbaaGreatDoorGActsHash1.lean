/- Part of a proof. -/
import Derived.Test.YthfmaclnccdcbaaGreatDoorGActsHash0
import Derived.Deep.RegionHeld3
import Derived.Tactics
import Derived.Lib.ConvBytes
import Derived.Test.YthfmaclnccdcbaaGreatDoorRows
import Derived.BigQuiet
import Derived.Deep.QuietTactic
import Derived.LoopTactic
import Derived.OpenShut
import Derived.Laws.BytesString
import Derived.Great.BuildSlice
namespace PA
open Go Go.RowKit
abbrev Kd:=Sum Bool (Option Bool)
abbrev Kd.e (b:Bool):Kd:=Sum.inl b
abbrev Kd.p:Kd:=Sum.inr none
abbrev Kd.s:Kd:=Sum.inr (some true)
abbrev Kd.t:Kd:=Sum.inr (some false)
def Kd.eff:Kd→Bool|.inl _=>true|.inr _=>false
def Qy (P:Program) (ops:Array Oper) (o:Oper) (v:Value) (a:Act) (w:World):Prop:=
 (Region.wanted o (yielded ops a.tmps)=true∧(execOp a.eval o).run P w=.ok (.value v) w) ∨
 (Region.wanted o (yielded ops a.tmps)=false∧v=undef)
def Alk (ops:Array Oper) (o:Oper) (a b:Act):Prop:=execOp b.eval o=execOp a.eval o∧Region.wanted o (yielded ops b.tmps)=Region.wanted o (yielded ops a.tmps)
section
variable {P:Program} {ops:Array Oper} {Q:Exit→Act→World→Prop} {S:World→Prop}
theorem Qy.alk {o:Oper} {v:Value} {a b:Act} {w:World} (h:Qy P ops o v a w) (hk:Alk ops o a b):Qy P ops o v b w:=by
 unfold Qy at *;rw[hk.1,hk.2];exact h
theorem Qy.wpOp {i:Nat} {o:Oper} {v:Value} {a:Act} {w:World} (hi:ops[i]?=some o) (hy:Qy P ops o v a w) {K:Act→World→Prop} (h:K (a.put o.dst v) w):wpOp P ops Q i K a w:=by
 unfold Go.wpOp;simp only[hi];rcases hy with ⟨hw,hv⟩|⟨hw,rfl⟩
 ·simp only[hw,if_true,Oper.wp,hv,Oper.upon];exact .inl h
 ·simp only[hw,Bool.false_eq_true,if_false];exact h
theorem Gy {j:Nat} {oi oj:Oper} {v:Value} (hj:ops[j]?=some oj) (hap:oi.apart ops oj=true)
 (hsi:∀cs b,oi.op≠.select cs b) (hsj:∀cs b,oj.op≠.select cs b)
 (hQ:∀c a d v w,Q (.panic c) (a.put d v) w→Q (.panic c) a w) {K:Act→World→Prop} {a:Act} {w:World}
 (h:wpOp P ops Q j K (a.put oi.dst v) w):
 wpOp P ops Q j (fun a' w'=>Alk ops oi a a'∧K (a'.put oi.dst v) w') a w:=by
 obtain⟨h1,h2,h3⟩:=Oper.apart_spec hap;have keep:∀u,Alk ops oi a (a.put oj.dst u):=fun u=>⟨execOp_put oi hsi a oj.dst u h3,wanted_put oi a oj.dst u h3⟩
 unfold wpOp at *;simp only[hj] at *;rw[wanted_put oj a oi.dst v h1] at h;split
 ·rename_i hw
  simp only[hw,if_true] at h;rcases h with h|⟨hasks,hlets⟩
  case inr=>exact .inr ⟨by unfold Oper.asks at *;rw[execOp_put oj hsj a oi.dst v h1] at hasks;exact hasks,hlets⟩
  refine .inl ?_;unfold Oper.wp at *;rw[execOp_put oj hsj a oi.dst v h1] at h;generalize (execOp a.eval oj).run P w=r at *;cases r with
  | ok n w'=>
   cases n<;>simp only[Oper.upon] at h ⊢
   case value u=>exact⟨keep u,by rw[←Act.put_comm a v u h2];exact h⟩
   case skip=>exact⟨keep _,by rw[←Act.put_comm a v undef h2];exact h⟩
   case defer d=>
    refine⟨⟨execOp_put oi hsi { a with defers:=d::a.defers } oj.dst undef h3,wanted_put oi { a with defers:=d::a.defers } oj.dst undef h3⟩,?_⟩;rw[←Act.put_comm _ v undef h2,←Act.put_defers];exact h
   case enter f args=>
    refine Calls.mono h fun e w'' he=>?_
    cases e with
    | returned u=>exact⟨keep u,by rw[←Act.put_comm a v u h2];exact he⟩
    | panicked c=>exact hQ _ _ _ _ _ he
    | outgrown=>exact he
   case row row args=>exact Rows.mono h fun u w'' he=>⟨keep u,by rw[←Act.put_comm a v u h2];exact he⟩
  | halt x w'=>
   cases x<;>simp only[Oper.upon] at h ⊢
   case panic u=>exact hQ _ _ _ _ _ h
 ·rename_i hw
  simp only[hw] at h;exact⟨keep _,by rw[←Act.put_comm a v undef h2];exact h⟩
def wpC (P:Program) (ops:Array Oper) (Q:Exit→Act→World→Prop) (S:World→Prop):List (Nat×Kd)→Act→World→Prop
 | [],a,w=>Q .normal a w
 | (i,k)::l,a,w=>∃o,ops[i]?=some o∧match k with
  | .inr none=>∃v,(∀w',Qy P ops o v a w')∧wpC P ops Q S l (a.put o.dst v) w
  | .inr (some true)=>S w∧∃v,(∀w',S w'→Qy P ops o v a w')∧wpC P ops Q S l (a.put o.dst v) w
  | .inr (some false)=>∃v,Qy P ops o v a w∧wpC P ops Q S l (a.put o.dst v) w
  | .inl b=>wpOp P ops Q i (fun a' w'=>(b=true→S w')∧wpC P ops Q S l a' w') a w
def lK (ops:Array Oper) (j r:Nat):Bool:=match ops[j]? with|some o=>o.after.any fun e=>Region.binds .any e&&e.on==r|none=>false
def fQ (ops:Array Oper) (bf:Array Nat) (x y:Nat×Kd):Bool:=
 !lK ops x.1 y.1&&((bf.getD y.1 0).testBit x.1 ||
  (!x.2.eff&&(match ops[x.1]?,ops[y.1]? with|some o,some u=>o.apart ops u|_,_=>false) &&
   (match x.2,y.2 with|.inr (some false),.inl _=>false|.inr (some true),.inl b=>b|_,_=>true)))
def Dv (ops:Array Oper) (bf:Array Nat):List (Nat×Kd)→Bool
 | []=>true
 | x::l=>l.all (fQ ops bf x)&&!lK ops x.1 x.1&&Dv ops bf l
def Du (ops:Array Oper):Bool:=ops.all fun o=>match o.op with|.select ..=>false|_=>true
def nV (ops:Array Oper) (bf:Array Nat):Bool:=
 (List.range ops.size).all fun j=>(List.range ops.size).all fun r=>!(bf.getD j 0).testBit r||lK ops j r||(List.range ops.size).any fun d=>lK ops j d&&(bf.getD d 0).testBit r
def nodupB:List Nat→Bool
 | []=>true
 | x::l=>!l.contains x&&nodupB l
theorem nU:∀(l:List Nat),nodupB l=true→l.Nodup
 | [],_=>List.nodup_nil
 | x::l,h=>by
  simp only[nodupB,Bool.and_eq_true,Bool.not_eq_true'] at h;exact List.nodup_cons.2 ⟨by simpa using h.1,nU l h.2⟩
def AV (ops:Array Oper) (bf:Array Nat) (l:List (Nat×Kd)):Bool:=
 Dv ops bf l&&Du ops&&nV ops bf&&(l.map (·.1)).length==ops.size&&nodupB (l.map (·.1))&&(l.map (·.1)).all (fun i=>decide (i<ops.size))&&(List.range ops.size).all (fun i=>(l.map (·.1)).contains i) &&
 ops.all (fun o=>o.after.all fun e=>!Region.binds .any e||decide (e.on<ops.size))
theorem pull {j:Nat} {kj:Kd} {bf:Array Nat} (hsel:∀(j:Nat) (o:Oper) cs b,ops[j]?=some o→o.op≠.select cs b) (hQ:∀c a d v w,Q (.panic c) (a.put d v) w→Q (.panic c) a w) (l2:List (Nat×Kd)):
 ∀(l1:List (Nat×Kd)),(∀x∈l1,fQ ops bf x (j,kj)=true∧(bf.getD j 0).testBit x.1=false)→∀(a:Act) (w:World),wpC P ops Q S (l1++(j,kj)::l2) a w →
  wpOp P ops Q j (fun a' w'=>wpC P ops Q S (l1++l2) a' w'∧(kj=.e true→S w')∧(kj.eff=false→w'=w)) a w
 | [],_,a,w,h=>by
  obtain⟨o,ho,h⟩:=h;rcases kj with b|_|_|_
  case inr.none=>obtain⟨v,hy,h⟩:=h;exact (hy w).wpOp ho ⟨h,fun h=>(by cases h),fun _=>rfl⟩
  case inr.some.true=>obtain⟨hS,v,hy,h⟩:=h;exact (hy w hS).wpOp ho ⟨h,fun h=>(by cases h),fun _=>rfl⟩
  case inr.some.false=>obtain⟨v,hy,h⟩:=h;exact hy.wpOp ho ⟨h,fun h=>(by cases h),fun _=>rfl⟩
  case inl=>exact wpOp_mono (fun a' w' ⟨h1,h2⟩=>⟨h2,fun hb=>h1 (by cases hb;rfl),fun hb=>(by simp[Kd.eff] at hb)⟩) h
 | (r,kr)::l1,hl,a,w,h=>by
  obtain⟨o,ho,h⟩:=h;obtain⟨hp,hnd⟩:=hl (r,kr) (by simp);simp only[fQ,hnd,Bool.false_or,Bool.and_eq_true,ho] at hp;obtain⟨_,⟨hne,hap⟩,hk⟩:=hp;cases hj:ops[j]? with
  | none=>simp[hj] at hap
  | some oj=>
   simp only[hj] at hap;have ih:=pull hsel hQ l2 l1 (fun x hx=>hl x (by simp[hx]));have go:∀(v:Value),wpC P ops Q S (l1++(j,kj)::l2) (a.put o.dst v) w →
    wpOp P ops Q j (fun a' w'=>Alk ops o a a'∧wpC P ops Q S (l1++l2) (a'.put o.dst v) w'∧(kj=.e true→S w')∧(kj.eff=false→w'=w)) a w:=fun v hv=>
    Gy hj hap (fun cs b=>hsel r o cs b ho) (fun cs b=>hsel j oj cs b hj) hQ (ih _ _ hv)
   rcases kr with b|_|_|_
   case inr.none=>
    obtain⟨v,hy,h⟩:=h;exact wpOp_mono (fun a' w' ⟨h1,h2,h3,h4⟩=>⟨⟨o,ho,v,fun w'=>(hy w').alk h1,h2⟩,h3,h4⟩) (go v h)
   case inr.some.true=>
    obtain⟨hS,v,hy,h⟩:=h;refine wpOp_mono (fun a' w' ⟨h1,h2,h3,h4⟩=>⟨⟨o,ho,?_,v,fun w' hw'=>(hy w' hw').alk h1,h2⟩,h3,h4⟩) (go v h);rcases kj with b|_
    ·exact h3 (by simp at hk;rw[hk])
    ·rw[h4 rfl];exact hS
   case inr.some.false=>
    obtain⟨v,hy,h⟩:=h;refine wpOp_mono (fun a' w' ⟨h1,h2,h3,h4⟩=>⟨⟨o,ho,v,?_,h2⟩,h3,h4⟩) (go v h);rcases kj with b|_
    ·simp at hk
    ·rw[h4 rfl];exact hy.alk h1
   case inl=>simp[Kd.eff] at hne
theorem getD_set_ne (l:Array Bool) (i j:Nat) (x y:Bool) (h:i≠j):(l.setIfInBounds j x).getD i y=l.getD i y:=by
 rw[Array.getD_eq_getD_getElem?,Array.getD_eq_getD_getElem?,Array.getElem?_setIfInBounds_ne (Ne.symm h)]
structure InvC (ops:Array Oper) (bf:Array Nat) (listed:Array Bool) (l:List (Nat×Kd)):Prop where
 size:listed.size=ops.size
 mem:∀i,i∈l.map (·.1)↔i<ops.size∧listed.getD i true=false
 nodup:(l.map (·.1)).Nodup
 pair:l.Pairwise fun x y=>fQ ops bf x y=true
 self:∀x∈l,lK ops x.1 x.1=false
 closed:∀d r,r<ops.size→listed.getD d false=true→(bf.getD d 0).testBit r=true→listed.getD r false=true
theorem Jw {bf:Array Nat} (hsel:∀(j:Nat) (o:Oper) cs b,ops[j]?=some o→o.op≠.select cs b) (hQ:∀c a d v w,Q (.panic c) (a.put d v) w→Q (.panic c) a w)
 (hbf:nV ops bf=true) (hon:∀(j:Nat) (o:Oper),ops[j]?=some o→∀e∈o.after,Region.binds .any e=true→e.on<ops.size):
 ∀(n:Nat) (l:List (Nat×Kd)) (listed:Array Bool),l.length=n→InvC ops bf listed l→∀(a:Act) (w:World),wpC P ops Q S l a w→wpAny P .any ops Q n listed a w:=by
 have TW:∀(listed:Array Bool) (i:Nat),listed.size=ops.size→i<ops.size→(listed.getD i false=true↔¬listed.getD i true=false):=fun listed i hs hi=>by
  simp[Array.getD,hs,hi]
 have nil:∀(listed:Array Bool),InvC ops bf listed []→Region.ready .any ops listed=[]:=fun listed hI=>by
  simp only[Region.ready,List.filter_eq_nil_iff,List.mem_range];intro i hi;have h':¬listed.getD i true=false:=fun hh=>by have:=(hI.mem i).2 ⟨hi,hh⟩;simp at this
  have h'':listed.getD i true=true:=by simpa using h'
  simp[h'']
 intro n
 induction n with
 | zero=>
  intro l listed hn hI a w h;obtain rfl:=List.eq_nil_of_length_eq_zero hn;exact⟨nil _ hI,h⟩
 | succ n ih=>
  intro l listed hn hI a w h;refine⟨fun hr=>?_,fun j hj=>?_⟩
  ·match l,hn with
   | x::l,_=>
    exfalso;have hx:=(hI.mem x.1).1 (by simp);obtain⟨o,ho,_⟩:=h;have hmem:x.1∈Region.ready .any ops listed:=by
     simp only[Region.ready,List.mem_filter,List.mem_range];refine⟨hx.1,?_⟩;have:listed.getD x.1 true=false:=hx.2;simp only[this,Bool.not_false,Bool.true_and,ho,Option.map_some,Option.getD_some];rw[Array.all_eq_true];intro k hk;have hmem:=Array.getElem_mem hk
     by_cases hb:Region.binds .any o.after[k]=true
     ·have hlt:=hon x.1 o ho _ hmem hb
      have NZ:lK ops x.1 o.after[k].on=true:=by
       simp only[lK,ho,Array.any_eq_true];exact⟨k,hk,by simp[hb]⟩
      have hnot:o.after[k].on∉(x::l).map (·.1):=by
       intro hm;simp only[List.map_cons,List.mem_cons,List.mem_map] at hm;rcases hm with hm|⟨y,hy,hm⟩
       ·have:=hI.self x (by simp)
        rw[←hm] at this;rw[←hm] at NZ;rw[NZ] at this;cases this
       ·have:=(List.pairwise_cons.1 hI.pair).1 y hy
        simp only[fQ,Bool.and_eq_true,Bool.not_eq_true',hm,NZ] at this;exact absurd this.1 (by simp)
      have h2:¬listed.getD o.after[k].on true=false:=fun e=>hnot ((hI.mem _).2 ⟨hlt,e⟩)
      have:=(TW listed _ hI.size hlt).2 h2;simp[this]
     ·simp[hb]
    rw[hr] at hmem;cases hmem
  ·simp only[Region.ready,List.mem_filter,List.mem_range,Bool.and_eq_true,Bool.not_eq_true'] at hj
   obtain⟨hjs,hjl,hja⟩:=hj;have hjm:=(hI.mem j).2 ⟨hjs,hjl⟩;obtain⟨y,hy,rfl⟩:=List.mem_map.1 hjm;obtain⟨l1,l2,rfl⟩:=List.append_of_mem hy;obtain⟨j,kj⟩:=y;cases hoj:ops[j]? with
   | none=>simp[hoj] at hja
   | some oj=>
    simp only[hoj,Option.map_some,Option.getD_some] at hja;have J9:∀d,lK ops j d=true→listed.getD d false=true:=fun d hd=>by
     simp only[lK,hoj,Array.any_eq_true] at hd;obtain⟨k,hk,hd⟩:=hd;simp only[Bool.and_eq_true,beq_iff_eq] at hd;rw[Array.all_eq_true] at hja;have:=hja k hk;rw[hd.1] at this;simpa[hd.2] using this
    have hbl:∀r,r<ops.size→(bf.getD j 0).testBit r=true→listed.getD r false=true:=fun r hr hb=>by
     simp only[nV,List.all_eq_true,List.mem_range] at hbf;have:=hbf j hjs r hr;simp only[hb,Bool.not_true,Bool.false_or,Bool.or_eq_true,List.any_eq_true,List.mem_range,Bool.and_eq_true] at this;rcases this with h|⟨d,_,h1,h2⟩
     ·exact J9 r h
     ·exact hI.closed d r hr (J9 d h1) h2
    have hnotin:∀x∈l1,(bf.getD j 0).testBit x.1=false:=fun x hx=>by
     have hxm:=(hI.mem x.1).1 (by simp;exact .inl ⟨x.2,hx⟩);cases hb:(bf.getD j 0).testBit x.1 with
     | false=>rfl
     | true=>exact absurd hxm.2 ((TW listed x.1 hI.size hxm.1).1 (hbl x.1 hxm.1 hb))
    have hpw:=List.pairwise_append.1 hI.pair;refine wpOp_mono (fun a' w' ⟨h1,_,_⟩=>ih (l1++l2) (listed.setIfInBounds j true) ?_ ?_ a' w' h1) (pull hsel hQ l2 l1 (fun x hx=>⟨hpw.2.2 x hx (j,kj) (by simp),hnotin x hx⟩) a w h)
    ·simp at hn ⊢;omega
    ·have hnd:=hI.nodup
     simp only[lD,List.map_cons,List.nodup_append,List.nodup_cons,List.mem_cons] at hnd;refine⟨by simp[hI.size],fun i=>?_,?_,?_,fun x hx=>hI.self x (by simp at hx ⊢;rcases hx with h|h<;>simp[h]),?_⟩
     ·have:=hI.mem i
      simp only[lD,List.map_cons,List.mem_append,List.mem_cons] at this ⊢
      by_cases e:i=j
      ·subst e
       constructor
       ·rintro (hi|hi)
        ·exact absurd rfl (hnd.2.2 i hi i (.inl rfl))
        ·exact absurd hi hnd.2.1.1
       ·rintro⟨h1,h2⟩
        simp[Array.getD,hI.size,h1] at h2
      ·have hg:(listed.setIfInBounds j true).getD i true=listed.getD i true:=getD_set_ne _ _ _ _ _ e
       rw[hg,←this];simp[e]
     ·simp only[lD,List.nodup_append]
      exact⟨hnd.1,hnd.2.1.2,fun x hx y hy=>hnd.2.2 x hx y (.inr hy)⟩
     ·refine List.pairwise_append.2 ⟨hpw.1,(List.pairwise_cons.1 hpw.2.1).2,fun x hx y hy=>hpw.2.2 x hx y (by simp[hy])⟩
     ·intro d r hr hd hb
      by_cases e:r=j
      ·subst e;simp[Array.getD,hI.size,hr]
      ·have hg:(listed.setIfInBounds j true).getD r false=listed.getD r false:=getD_set_ne _ _ _ _ _ e
       rw[hg]
       by_cases e2:d=j
       ·subst e2;exact hbl r hr hb
       ·have hg2:(listed.setIfInBounds j true).getD d false=listed.getD d false:=getD_set_ne _ _ _ _ _ e2
        rw[hg2] at hd;exact hI.closed d r hr hd hb
theorem wI {bf:Array Nat}:∀(l:List (Nat×Kd)),Dv ops bf l=true→(l.Pairwise fun x y=>fQ ops bf x y=true)∧∀x∈l,lK ops x.1 x.1=false
 | [],_=>⟨.nil,fun _ h=>(by cases h)⟩
 | x::l,h=>by
  simp only[Dv,Bool.and_eq_true,List.all_eq_true,Bool.not_eq_true'] at h;have ih:=wI l h.2;refine⟨List.pairwise_cons.2 ⟨h.1.1,ih.1⟩,fun y hy=>?_⟩;rcases List.mem_cons.1 hy with rfl|hy
  ·exact h.1.2
  ·exact ih.2 y hy
theorem aJ {id:Nat} {a:Act} {w:World} (hm:P.follows .mixedOrders=true) (S:World→Prop) (l:List (Nat×Kd)) (hok:AV ops (Region.before ops) l=true)
 (h:wpC P ops (NoPanic Q) S l a w.drew):(Code.region id ops true).wp P Q a w:=by
 simp only[AV,Bool.and_eq_true] at hok;obtain⟨⟨⟨⟨⟨⟨⟨h1,h2⟩,h3⟩,h4⟩,h7⟩,h8⟩,h5⟩,h6⟩:=hok;have hlen:l.length=ops.size:=by simpa using h4
 have hall:∀i,i<ops.size→i∈l.map (·.1):=fun i hi=>by
  simp only[List.all_eq_true,List.mem_range] at h5;simpa using h5 i hi
 have hback:∀i,i∈l.map (·.1)→i<ops.size:=fun i hi=>by
  rw[List.all_eq_true] at h8;simpa using h8 i hi
 have hp:=wI l h1;refine wp_region_noPanic (wp_region_any hm ?_);refine Jw (bf:=Region.before ops) (S:=S) ?_ ?_ h3 ?_ ops.size l _ hlen ?_ a w.drew h
 ·intro j o cs b ho hsel
  simp only[Du,Array.all_eq_true] at h2;obtain⟨hj,rfl⟩:=Array.getElem?_eq_some_iff.1 ho;have:=h2 j hj;rw[hsel] at this;cases this
 ·intro c a d v w hh;exact hh
 ·intro j o ho e he hb
  obtain⟨hj,rfl⟩:=Array.getElem?_eq_some_iff.1 ho;rw[Array.all_eq_true] at h6;have:=h6 j hj;rw[Array.all_eq_true] at this;obtain⟨k,hk,rfl⟩:=Array.mem_iff_getElem.1 he;have:=this k hk;simpa[hb] using this
 ·refine⟨by simp,fun i=>⟨fun hi=>?_,fun hi=>hall i hi.1⟩,nU _ h7,hp.1,hp.2,fun d r _ hd=>?_⟩
  ·have:=hback i hi
   exact⟨this,by simp[Array.getD,this]⟩
  ·exfalso
   simp only[Array.getD,Array.size_replicate] at hd;split at hd<;>simp at hd
end
end PA
namespace PA
open Go Go.RowKit
section
variable {P:Program} {ops:Array Oper} {Q:Exit→Act→World→Prop} {S:World→Prop} {i:Nat} {l:List (Nat×Kd)} {a:Act} {w:World} {o:Oper} {v:Value}
theorem C_p (ho:ops.toList[i]?=some o) (hg:Region.wanted o (yielded ops a.tmps)=true) (hv:∀w',(execOp a.eval o).run P w'=.ok (.value v) w') (h:wpC P ops Q S l (a.put o.dst v) w):wpC P ops Q S ((i,.p)::l) a w:=
 have ho':=(Array.getElem?_toList (xs:=ops) (i:=i)).symm.trans ho
 ⟨o,ho',v,fun w'=>.inl ⟨hg,hv w'⟩,h⟩
theorem C_s (ho:ops.toList[i]?=some o) (hg:Region.wanted o (yielded ops a.tmps)=true) (hS:S w) (hv:∀w',S w'→(execOp a.eval o).run P w'=.ok (.value v) w') (h:wpC P ops Q S l (a.put o.dst v) w):wpC P ops Q S ((i,.s)::l) a w:=
 have ho':=(Array.getElem?_toList (xs:=ops) (i:=i)).symm.trans ho
 ⟨o,ho',hS,v,fun w' hw=>.inl ⟨hg,hv w' hw⟩,h⟩
theorem C_t (ho:ops.toList[i]?=some o) (hg:Region.wanted o (yielded ops a.tmps)=true) (hv:(execOp a.eval o).run P w=.ok (.value v) w) (h:wpC P ops Q S l (a.put o.dst v) w):wpC P ops Q S ((i,.t)::l) a w:=
 have ho':=(Array.getElem?_toList (xs:=ops) (i:=i)).symm.trans ho
 ⟨o,ho',v,.inl ⟨hg,hv⟩,h⟩
theorem C_po (ho:ops.toList[i]?=some o) (hg:Region.wanted o (yielded ops a.tmps)=false) (h:wpC P ops Q S l (a.put o.dst undef) w):wpC P ops Q S ((i,.p)::l) a w:=
 have ho':=(Array.getElem?_toList (xs:=ops) (i:=i)).symm.trans ho
 ⟨o,ho',undef,fun _=>.inr ⟨hg,rfl⟩,h⟩
theorem C_so (ho:ops.toList[i]?=some o) (hg:Region.wanted o (yielded ops a.tmps)=false) (hS:S w) (h:wpC P ops Q S l (a.put o.dst undef) w):wpC P ops Q S ((i,.s)::l) a w:=
 have ho':=(Array.getElem?_toList (xs:=ops) (i:=i)).symm.trans ho
 ⟨o,ho',hS,undef,fun _ _=>.inr ⟨hg,rfl⟩,h⟩
theorem C_to (ho:ops.toList[i]?=some o) (hg:Region.wanted o (yielded ops a.tmps)=false) (h:wpC P ops Q S l (a.put o.dst undef) w):wpC P ops Q S ((i,.t)::l) a w:=
 have ho':=(Array.getElem?_toList (xs:=ops) (i:=i)).symm.trans ho
 ⟨o,ho',undef,.inr ⟨hg,rfl⟩,h⟩
theorem C_eo {b:Bool} (ho:ops.toList[i]?=some o) (hg:Region.wanted o (yielded ops a.tmps)=false) (hS:b=true→S w) (h:wpC P ops Q S l (a.put o.dst undef) w):wpC P ops Q S ((i,.e b)::l) a w:=
 have ho':=(Array.getElem?_toList (xs:=ops) (i:=i)).symm.trans ho
 ⟨o,ho',by unfold wpOp;simp only[ho',hg,Bool.false_eq_true,if_false];exact⟨hS,h⟩⟩
theorem kT {b:Bool} (ho:ops.toList[i]?=some o) (hg:Region.wanted o (yielded ops a.tmps)=true)
 (h:∀K:Act→World→Prop,(∀a w,(b=true→S w)→wpC P ops Q S l a w→K a w)→o.wp P a w K Q):wpC P ops Q S ((i,.e b)::l) a w:=
 have ho':=(Array.getElem?_toList (xs:=ops) (i:=i)).symm.trans ho
 ⟨o,ho',by unfold wpOp;simp only[ho',hg,if_true];exact .inl (h _ fun _ _ h1 h2=>⟨h1,h2⟩)⟩
theorem fC (h:Q .normal a w):wpC P ops (NoPanic Q) S [] a w:=h
end
end PA
namespace PA
open Go Go.RowKit
theorem dh {G G2:Prop} (h:G2) (f:G2→G:=by intro hZ;(repeat ((first|(refine C_p (v:=?_) rfl rfl (fun w'=>?_) ?_;rotate_left;(go_simp;with_reducible rfl))|(refine C_s (v:=?_) rfl rfl hS0 (fun w' hS=>?_) ?_;rotate_left;((try dsimp only at hS);go_simp;with_reducible rfl))|(refine C_t (v:=?_) rfl rfl ?_ ?_;rotate_left;(go_simp;with_reducible rfl))|(refine C_po rfl rfl ?_)|(refine C_so rfl rfl hS0 ?_)|(refine C_to rfl rfl ?_));simp only[Act.put,lsA,lsB,lC]));exact hZ):G:=f h
theorem fA {G G2:Prop} (h:G2) (f:G2→G:=by intro hZ;(refine hK _ _ (fun h=>by cases h) ?_;(try simp only[Act.put,lsA,lsB,lC]));exact hZ):G:=f h
end PA
namespace PA
open Go Go.RowKit
def X9 (a:Option Addr) (n c:Nat):Prop:=n≤c∧c≤maxLen∧(a=none→c=0)
structure Rep (α:Type) where
 rel:Mem→List Value→α→Prop
 mono:∀{I J cs x},Mem.le I J→rel I cs x→rel J cs x
def gG {α β:Type} (p:α→β→Prop):List α→List β→Prop
 | [],[]=>True
 | a::l,b::m=>p a b∧gG p l m
 | _,_=>False
theorem gG.wk {α β:Type} {p q:α→β→Prop} (h:∀a b,p a b→q a b):∀{l:List α} {m:List β},gG p l m→gG q l m
 | [],[],_=>trivial
 | _::_,_::_,hh=>⟨h _ _ hh.1,gG.wk h hh.2⟩
 | [],_::_,hh=>hh.elim
 | _::_,[],hh=>hh.elim
theorem gG.length {α β:Type} {p:α→β→Prop}:∀{l:List α} {m:List β},gG p l m→l.length=m.length
 | [],[],_=>rfl
 | _::l,_::m,hh=>by simp[gG.length hh.2]
 | [],_::_,hh=>hh.elim
 | _::_,[],hh=>hh.elim
theorem gG.append {α β:Type} {p:α→β→Prop}:∀{l l':List α} {m m':List β},gG p l m→gG p l' m'→gG p (l++l') (m++m')
 | [],_,[],_,_,h=>h
 | _::_,_,_::_,_,hh,h=>⟨hh.1,gG.append hh.2 h⟩
 | [],_,_::_,_,hh,_=>hh.elim
 | _::_,_,[],_,hh,_=>hh.elim
theorem gG.drop {α β:Type} {p:α→β→Prop}:∀{l:List α} {m:List β} (k:Nat),gG p l m→gG p (l.drop k) (m.drop k)
 | l,m,0,h=>by simpa using h
 | [],[],_+1,h=>h
 | _::_,_::_,k+1,h=>by simpa using gG.drop k h.2
 | [],_::_,_+1,hh=>hh.elim
 | _::_,[],_+1,hh=>hh.elim
theorem gG.take {α β:Type} {p:α→β→Prop}:∀{l:List α} {m:List β} (k:Nat),gG p l m→gG p (l.take k) (m.take k)
 | l,m,0,h=>by simp[gG]
 | [],[],_+1,h=>by simp[gG]
 | _::_,_::_,k+1,h=>by simp only[List.take_succ_cons];exact⟨h.1,gG.take k h.2⟩
 | [],_::_,_+1,hh=>hh.elim
 | _::_,[],_+1,hh=>hh.elim
theorem gG.get {α β:Type} {p:α→β→Prop}:∀{l:List α} {m:List β},gG p l m→∀(i:Nat) (hl:i<l.length) (hm:i<m.length),p l[i] m[i]
 | _::_,_::_,h,0,_,_=>h.1
 | _::_,_::_,h,i+1,hl,hm=>gG.get h.2 i (by simpa using hl) (by simpa using hm)
section
variable {α:Type}
def Rep.is (R:Rep α) (cs:List Value) (x:α):aA:=yY (fun I=>R.rel I cs x) fun _ _ hl h=>R.mono hl h
def Rep.rows (R:Rep α) (k:Nat):Rep (List α) where
 rel I cs xs:=∃css:List (List Value),cs=css.flatten∧gG (fun c x=>R.rel I c x∧c.length=k) css xs
 mono hl:=fun ⟨css,h1,h2⟩=>⟨css,h1,h2.wk fun _ _ h=>⟨R.mono hl h.1,h.2⟩⟩
def Rep.slice (R:Rep α) (k:Nat):Rep (List α) where
 rel I cs xs:=∃a c cells,cs=[.slice a xs.length c]∧X9 a xs.length c∧iL a cells I∧(R.rows k).rel I cells xs
 mono hl:=fun ⟨a,c,cells,h1,h2,h3,h4⟩=>⟨a,c,cells,h1,h2,(by
  rcases h3 with h|⟨b,o,cs,t,f,e1,e2,e3⟩
  ·exact .inl h
  ·exact .inr ⟨b,o,cs,t,f,e1,hl _ _ e2,e3⟩),(R.rows k).mono hl h4⟩
end
def YR:Rep UInt8:=⟨fun _ cs b=>cs=[.int .u8 b.toNat],fun _ h=>h⟩
def qY:Rep Int:=⟨fun _ cs n=>cs=[.int .i64 n],fun _ h=>h⟩
def dB:Rep (List UInt8):=YR.slice 1
def bv (b:UInt8):Value:=.int .u8 b.toNat
def iv (n:Int):Value:=.int .i64 n
theorem Cc:∀(l:List Value),(l.map fun v=>[v]).flatten=l
 | []=>rfl
 | v::l=>by simp[Cc l]
theorem wL (I:Mem):∀(cs:List Value) (bs:List UInt8),(YR.rows 1).rel I cs bs↔cs=bs.map bv:=by
 intro cs bs;constructor
 ·rintro⟨css,rfl,h⟩
  induction bs generalizing css with
  | nil=>cases css with
   | nil=>rfl
   | cons _ _=>exact h.elim
  | cons b bs ih=>cases css with
   | nil=>exact h.elim
   | cons c css=>
    have h1:c=[.int .u8 b.toNat]:=h.1.1;simp only[List.flatten_cons,ih css h.2,h1,List.map_cons,bv];rfl
 ·rintro rfl
  refine⟨bs.map fun b=>[bv b],?_,?_⟩
  ·rw[←Cc (bs.map bv)];simp[Function.comp_def]
  ·induction bs with
   | nil=>trivial
   | cons b bs ih=>exact⟨⟨rfl,rfl⟩,ih⟩
theorem Gn (I:Mem):∀(cs:List Value) (bs:List Int),(qY.rows 1).rel I cs bs↔cs=bs.map iv:=by
 intro cs bs;constructor
 ·rintro⟨css,rfl,h⟩
  induction bs generalizing css with
  | nil=>cases css with
   | nil=>rfl
   | cons _ _=>exact h.elim
  | cons b bs ih=>cases css with
   | nil=>exact h.elim
   | cons c css=>
    have h1:c=[.int .i64 b]:=h.1.1;simp only[List.flatten_cons,ih css h.2,h1,List.map_cons,iv];rfl
 ·rintro rfl
  refine⟨bs.map fun b=>[iv b],?_,?_⟩
  ·rw[←Cc (bs.map iv)];simp[Function.comp_def]
  ·induction bs with
   | nil=>trivial
   | cons b bs ih=>exact⟨⟨rfl,rfl⟩,ih⟩
section
variable {W w:World} {A:aA}
theorem Sat.TG {a:Option Addr} {c:Nat} {bs:List UInt8} (h:Sat W w (sep (U0 a (bs.map bv)) A)) (hw:X9 a bs.length c):Sat W w (sep (dB.is [.slice a bs.length c] bs) A):=by
 refine h.wk ?_;rintro I m ⟨x,y,h5,h6,⟨h7,h8⟩,h9⟩;exact⟨x,y,h5,h6,⟨h7,a,c,_,rfl,hw,h8,(wL _ _ _).2 rfl⟩,h9⟩
theorem Sat.fJ {E k:Nat} {a:Option Addr} {n c:Nat} {xs:List Value} (h:Sat W w (sep (aT E k a n c xs) A)):X9 a n c:=by
 rcases h.gY with ⟨rfl,rfl,rfl,rfl,_⟩|⟨g,cur,rfl,h1,h2,h3,_⟩
 ·exact⟨Nat.le_refl _,Nat.zero_le _,fun _=>rfl⟩
 ·exact⟨h2,h3,fun h=>(by cases h)⟩
theorem Sat.G8 {E:Nat} {a:Option Addr} {n c:Nat} {bs:List UInt8} (h:Sat W w (sep (aT E 1 a n c (bs.map bv)) A)):n=bs.length∧Sat W w (sep (dB.is [.slice a n c] bs) A):=by
 have hn:n=bs.length:=by have:=h.uP.1;simp at this;exact this.symm
 subst hn;exact⟨rfl,h.dV.TG h.fJ⟩
end
theorem mZ {α:Type} {R:Rep α} {k:Nat} {I:Mem} {cs c:List Value} {xs:List α} {x:α} (h:(R.rows k).rel I cs xs) (hx:R.rel I c x) (hk:c.length=k):(R.rows k).rel I (cs++c) (xs++[x]):=by
 obtain⟨css,rfl,h2⟩:=h;exact⟨css++[c],by simp,h2.append ⟨⟨hx,hk⟩,trivial⟩⟩
theorem Sat.snoc {W w:World} {A:aA} {α:Type} {R:Rep α} {k:Nat} {cs c:List Value} {xs:List α} {x:α} (h:Sat W w (sep ((R.rows k).is cs xs) (sep (R.is c x) A))) (hk:c.length=k):Sat W w (sep ((R.rows k).is (cs++c) (xs++[x])) A):=by
 refine h.wk ?_;rintro I m ⟨x1,y1,d1,e1,⟨rfl,h1⟩,x2,y2,d2,rfl,⟨rfl,h2⟩,h3⟩;refine⟨Mem.no,y2,fun _=>.inl rfl,by rw[e1,Mem.qF],⟨rfl,mZ h1 h2 hk⟩,h3⟩
theorem gG.mem {α β:Type} {p:α→β→Prop}:∀{l:List α} {m:List β},gG p l m→∀a∈l,∃b,p a b
 | a::l,b::m,h,x,hx=>by
  rcases List.mem_cons.1 hx with rfl|hx
  ·exact⟨b,h.1⟩
  ·exact gG.mem h.2 x hx
 | [],_,_,_,hx=>by cases hx
def iG (k:Int) (e:MapEntry):Bool:=match e.key with|.int _ n=>n==k|_=>false
structure fV (es:List MapEntry) (f:Int→Option Value):Prop where
 keys:∀e∈es,∃k,e.key=.int .i64 k
 nodup:es.Pairwise fun x y=>x.key≠y.key
 get:∀k,(es.find? (iG k)).map (·.val)=f k
def kF (b:Nat) (f:Int→Option Value) (n:Nat):aA:=ex fun s:Array MapEntry×Nat=>sep (fact (fV s.1.toList f∧s.1.size=n)) (blk b (.map s.1 s.2))
def lN {α:Type} (f:Int→Option α) (k:Int) (v:Option α):Int→Option α:=fun x=>if x=k then v else f x
theorem Cb (k:Int):∀(es:List MapEntry),(∀e∈es,∃n,e.key=.int .i64 n)→∀i,∃r,Instr.findNow (.int .i64) (.int .i64 k) es i=some r ∧
 r.map (·.2)=(es.find? (iG k)).map (·.val)∧∀j v,r=some (j,v)→i≤j∧∃e,es[j-i]?=some e∧e.key=.int .i64 k∧e.val=v
 | [],_,i=>⟨none,rfl,rfl,fun _ _ h=>(by cases h)⟩
 | e::es,h,i=>by
  obtain⟨n,hn⟩:=h e (by simp);simp only[Instr.findNow,hn,Instr.sameNow,if_true]
  by_cases hk:k=n
  ·subst hk
   refine⟨some (i,e.val),by simp,by simp[iG,hn],?_⟩;rintro j v h;cases h;exact⟨Nat.le_refl _,e,by simp,hn,rfl⟩
  ·obtain⟨r,h1,h2,h3⟩:=Cb k es (fun x hx=>h x (by simp[hx])) (i+1)
   have:(k==n)=false:=by simp[hk]
   refine⟨r,by simp[this,h1],?_,?_⟩
   ·rw[h2]
    have:iG k e=false:=by simp[iG,hn];omega
    simp[this]
   ·intro j v hr
    obtain⟨h4,e',h5,h6⟩:=h3 j v hr;refine⟨by omega,e',?_,h6⟩;rw[show j-i=(j-(i+1))+1 by omega];simpa using h5
section
variable {P:Program} {W w:World} {A:aA}
theorem Sat.yU {b:Nat} {f:Int→Option Value} {n:Nat} (h:Sat W w (sep (kF b f n) A)):∃es clock,fV es.toList f∧es.size=n∧Sat W w (sep (blk b (.map es clock)) A):=by
 rw[kF,fP,Sat.ex] at h;obtain⟨⟨es,clock⟩,h⟩:=h;rw[aj] at h;have h':=Sat.fact.1 h;exact⟨es,clock,h'.1.1,h'.1.2,h'.2⟩
theorem Sat.Hz {b:Nat} {f:Int→Option Value} {n:Nat} {es:Array MapEntry} {clock:Nat} (h:Sat W w (sep (blk b (.map es clock)) A)) (h1:fV es.toList f) (h2:es.size=n):Sat W w (sep (kF b f n) A):=by
 rw[kF,fP,Sat.ex];refine⟨(es,clock),?_⟩;rw[aj];exact Sat.fact.2 ⟨⟨h1,h2⟩,h⟩
theorem fV.nil:fV [] (fun _=>none):=⟨fun _ h=>(by cases h),.nil,fun _=>rfl⟩
theorem fV.push {es:List MapEntry} {f:Int→Option Value} (h:fV es f) (k:Int) (v:Value) (c:Nat) (hk:f k=none):fV (es++[{ key:=.int .i64 k,val:=v,born:=c }]) (lN f k (some v)):=by
 have hno:∀e∈es,e.key≠.int .i64 k:=fun e he hke=>by
  have h1:=h.get k;rw[hk] at h1;cases hf:es.find? (iG k) with
  | some x=>rw[hf] at h1;cases h1
  | none=>rw[List.find?_eq_none] at hf;exact hf e he (by simp[iG,hke])
 refine⟨fun e he=>?_,List.pairwise_append.2 ⟨h.nodup,by simp,fun x hx y hy=>?_⟩,fun x=>?_⟩
 ·rcases List.mem_append.1 he with he|he
  ·exact h.keys e he
  ·simp at he;subst he;exact⟨k,rfl⟩
 ·simp at hy;subst hy;exact hno x hx
 ·rw[List.find?_append]
  have h1:=h.get x
  by_cases e:x=k
  ·subst e
   rw[hk] at h1;have hf:es.find? (iG x)=none:=by
    cases hf:es.find? (iG x) with
    | none=>rfl
    | some _=>rw[hf] at h1;cases h1
   simp[hf,iG,lN]
  ·have:(if k=x then some ({ key:=.int .i64 k,val:=v,born:=c }:MapEntry) else none)=none:=if_neg (fun h=>e h.symm)
   simp[iG,lN,e,←h1,beq_false_of_ne (fun h=>e h.symm:k≠x)]
theorem TN {es:List MapEntry} (hnd:es.Pairwise fun x y=>x.key≠y.key) {j:Nat} {e:MapEntry} {k:Int} (hj:es[j]?=some e) (hek:e.key=.int .i64 k):
 ∀x∈es,x.key=.int .i64 k→∃j',es[j']?=some x∧j'=j:=by
 intro x hx hxk;obtain⟨i,hi,rfl⟩:=List.mem_iff_getElem.1 hx;refine⟨i,List.getElem?_eq_getElem hi,?_⟩;obtain⟨hj1,rfl⟩:=List.getElem?_eq_some_iff.1 hj;rcases Nat.lt_trichotomy i j with h|h|h
 ·exact absurd (hxk.trans hek.symm) (List.pairwise_iff_getElem.1 hnd i j hi hj1 h)
 ·exact h
 ·exact absurd (hek.trans hxk.symm) (List.pairwise_iff_getElem.1 hnd j i hj1 hi h)
theorem fV.erase {es:List MapEntry} {f:Int→Option Value} (h:fV es f) (k:Int) {j:Nat} {e:MapEntry} (hj:es[j]?=some e) (he:e.key=.int .i64 k):fV (es.eraseIdx j) (lN f k none):=by
 have hsub:=List.eraseIdx_sublist es j;obtain⟨hj1,hj2⟩:=List.getElem?_eq_some_iff.1 hj;have hno:∀x∈es.eraseIdx j,x.key≠.int .i64 k:=fun x hx hxk=>by
  obtain⟨i,hne,hi⟩:=List.mem_eraseIdx_iff_getElem?.1 hx;obtain⟨j',h1,h2⟩:=TN h.nodup hj he x (hsub.mem hx) hxk;obtain⟨hi1,hi2⟩:=List.getElem?_eq_some_iff.1 hi;rcases Nat.lt_trichotomy i j with h3|h3|h3
  ·exact List.pairwise_iff_getElem.1 h.nodup i j hi1 hj1 h3 (by rw[hi2,hj2,hxk,he])
  ·exact hne h3
  ·exact List.pairwise_iff_getElem.1 h.nodup j i hj1 hi1 h3 (by rw[hi2,hj2,hxk,he])
 refine⟨fun x hx=>h.keys x (hsub.mem hx),h.nodup.sublist hsub,fun x=>?_⟩
 by_cases e':x=k
 ·subst e'
  have:(es.eraseIdx j).find? (iG x)=none:=by
   rw[List.find?_eq_none];intro y hy hky;obtain⟨n,hn⟩:=h.keys y (hsub.mem hy);simp[iG,hn] at hky;subst hky;exact hno y hy hn
  simp[this,lN]
 ·rw[show lN f k none x=f x by simp[lN,e'],←h.get x]
  have hsplit:es=es.take j++e::es.drop (j+1):=by
   rw[←hj2,←List.drop_eq_getElem_cons hj1,List.take_append_drop]
  have hke:iG x e=false:=by simp[iG,he];exact fun h=>e' h.symm
  rw[List.eraseIdx_eq_take_drop_succ]
  conv=>rhs;rw[hsplit]
  simp[List.find?_append,hke]
theorem iI {K:TypeId} {k:Int} (hK:P.underlying K=some (.int .i64)) (b:Bool) (w:World):(Instr.checkKey b 10000 K (.int .i64 k)).run P w=.ok () w:=by
 have:∀n,(Instr.checkKey b (n+1) K (.int .i64 k)).run P w=.ok () w:=fun n=>by simp[Instr.checkKey,run_underlying hK]
 exact this 9999
theorem run_getObj_map {b:Nat} {es:Array MapEntry} {clock:Nat} (h:w.heap[b]?=some (.map es clock)):(getObj b).run P w=.ok (.map es clock) w:=by
 simp[getObj,Sem.run,h]
theorem lU {K:TypeId} {k:Int} {es:List MapEntry} {f:Int→Option Value} (hK:P.underlying K=some (.int .i64)) (hr:fV es f) (w:World):
 ∃r,(Instr.findKey K (.int .i64 k) es).run P w=.ok r w∧r.map (·.2)=f k∧∀j v,r=some (j,v)→∃e,es[j]?=some e∧e.key=.int .i64 k∧e.val=v:=by
 obtain⟨r,h1,h2,h3⟩:=Cb k es hr.keys 0;refine⟨r,?_,by rw[h2,hr.get],fun j v h=>by simpa using (h3 j v h).2⟩;simp[Instr.findKey,run_underlying hK,h1]
theorem lV {T K E:TypeId} {z:Value} (hT:P.underlying T=some (.map K E)) (hK:P.underlying K=some (.int .i64)) (hz:∀w,(zeroValue E).run P w=.ok z w)
 {b:Nat} {f:Int→Option Value} {n:Nat} (h:Sat W w (sep (kF b f n) A)) (k:Int) (ok:Bool):
 (Instr.lookup T (.map (some b)) (.int .i64 k) ok).run P w=.ok (if ok then .tuple #[(f k).getD z,.bool (f k).isSome] else (f k).getD z) w:=by
 obtain⟨es,clock,h1,h2,h3⟩:=h.yU;obtain⟨r,e1,e2,e3⟩:=lU (P:=P) (k:=k) hK h1 w;have hg:=run_getObj_map (P:=P) h3.aO;rw[←e2];cases r with
 | none=>cases ok<;>simp[Instr.lookup,run_underlying hT,hg,iI hK,e1,hz]
 | some r=>obtain⟨i,v⟩:=r;cases ok<;>simp[Instr.lookup,run_underlying hT,hg,iI hK,e1]
theorem run_setObj_map {b:Nat} {es:Array MapEntry} {clock:Nat} (h:w.heap[b]?=some (.map es clock)) (o:Obj):(setObj b o).run P w=.ok () { w with heap:=w.heap.setIfInBounds b o }:=by
 simp[setObj,Sem.run,h]
theorem Sat.setObj {b:Nat} {o:Obj} (h:Sat W w (sep (blk b o) A)) (o':Obj):Sat W { w with heap:=w.heap.setIfInBounds b o' } (sep (blk b o') A):=
 h.change rfl rfl rfl (by simp[h.lt]) fun k hk _=>by simp[Ne.symm hk]
theorem D6 {T K E:TypeId} (hT:P.underlying T=some (.map K E)) (hK:P.underlying K=some (.int .i64)) {b:Nat} {f:Int→Option Value} {n:Nat} (h:Sat W w (sep (kF b f n) A)) (k:Int) (v:Value) (hk:f k=none):
 ∃w',(Instr.mapUpdate T (.map (some b)) (.int .i64 k) v).run P w=.ok () w'∧Sat W w' (sep (kF b (lN f k (some v)) (n+1)) A):=by
 obtain⟨es,clock,h1,h2,h3⟩:=h.yU;obtain⟨r,e1,e2,e3⟩:=lU (P:=P) (k:=k) hK h1 w;have hg:=run_getObj_map (P:=P) h3.aO;rw[hk] at e2;obtain rfl:r=none:=by cases r with|none=>rfl|some _=>cases e2
 refine⟨_,by simp[Instr.mapUpdate,run_underlying hT,hg,iI hK,e1,run_setObj_map (P:=P) h3.aO];rfl,(h3.setObj _).Hz ?_ (by simp[h2])⟩;simpa using h1.push k v clock hk
theorem fV.modify {es:List MapEntry} {f:Int→Option Value} (h:fV es f) (k:Int) (v:Value) {j:Nat} {e:MapEntry} (hj:es[j]?=some e) (he:e.key=.int .i64 k):
 fV (es.modify j fun x=>{ x with key:=.int .i64 k,val:=v }) (lN f k (some v)):=by
 obtain⟨hj1,hj2⟩:=List.getElem?_eq_some_iff.1 hj;have hsplit:es=es.take j++e::es.drop (j+1):=by
  rw[←hj2,←List.drop_eq_getElem_cons hj1,List.take_append_drop]
 have hmod:(es.modify j fun x=>{ x with key:=.int .i64 k,val:=v })=es.take j++{ e with key:=.int .i64 k,val:=v }::es.drop (j+1):=by
  rw[List.modify_eq_take_cons_drop hj1,hj2]
 have hnd:=h.nodup;rw[hsplit] at hnd;rw[hmod];have hp:=List.pairwise_append.1 hnd;have hc:=List.pairwise_cons.1 hp.2.1;refine⟨fun x hx=>?_,List.pairwise_append.2 ⟨hp.1,List.pairwise_cons.2 ⟨fun y hy=>?_,hc.2⟩,fun x hx y hy=>?_⟩,fun x=>?_⟩
 ·simp only[List.mem_append,List.mem_cons] at hx
  rcases hx with hx|rfl|hx
  ·exact h.keys x (List.mem_of_mem_take hx)
  ·exact⟨k,rfl⟩
  ·exact h.keys x (List.mem_of_mem_drop hx)
 ·have:=hc.1 y hy;rw[he] at this;exact this
 ·rcases List.mem_cons.1 hy with rfl|hy
  ·have:=hp.2.2 x hx e (by simp);rw[he] at this;exact this
  ·exact hp.2.2 x hx y (by simp[hy])
 ·by_cases e':x=k
  ·subst e'
   have hno:(es.take j).find? (iG x)=none:=by
    rw[List.find?_eq_none];intro y hy hky;obtain⟨n,hn⟩:=h.keys y (List.mem_of_mem_take hy);simp[iG,hn] at hky;subst hky;exact hp.2.2 y hy e (by simp) (hn.trans he.symm)
   simp[List.find?_append,hno,iG,lN]
  ·rw[show lN f k (some v) x=f x by simp[lN,e'],←h.get x]
   have h1:iG x e=false:=by simp[iG,he];exact fun h=>e' h.symm
   have h2:iG x { e with key:=.int .i64 k,val:=v }=false:=by simp[iG];exact fun h=>e' h.symm
   conv=>rhs;rw[hsplit]
   simp[List.find?_append,h1,h2]
theorem IW (n:Nat) (k:Int):Instr.sameBits n (.int .i64 k) (.int .i64 k)=true:=by cases n<;>simp[Instr.sameBits]
end
end PA
namespace PA
open Go Go.RowKit
def kn (I:Mem):aA:=yY (Mem.le I) fun _ _ hl h b o hb=>hl _ _ (h b o hb)
def Ext (I:Mem) (w:World):Prop:=∀b o,I b=some o→w.heap[b]?=some o
section
variable {W w w':World} {A:aA} {I J:Mem}
theorem Sat.ext (h:Sat W w (sep (kn I) A)):Ext I w:=h.F6
theorem Sat.know (h:Sat W w A):∃I,Sat W w (sep (kn I) A):=by
 obtain⟨h1,h2,h3,I,m,h4,h5,h6,h7⟩:=h;exact⟨I,h1,h2,h3,I,m,h4,h5,h6,Mem.no,m,fun _=>.inl rfl,(Mem.qF _).symm,⟨rfl,Mem.le_refl I⟩,h7⟩
theorem Sat.learn {p:Mem→Prop} {hp:∀I J,Mem.le I J→p I→p J} (h:Sat W w (sep (yY p hp) (sep (kn I) A))):∃J,Mem.le I J∧p J∧Sat W w (sep (kn J) A):=by
 obtain⟨h1,h2,h3,J,m,h4,h5,h6,x,y,h7,rfl,⟨rfl,hp'⟩,x',y',h8,rfl,⟨rfl,hle⟩,h9⟩:=h;refine⟨J,hle,hp',h1,h2,h3,J,_,h4,h5,h6,Mem.no,y',fun _=>.inl rfl,?_,⟨rfl,Mem.le_refl J⟩,h9⟩;rw[Mem.qF]
theorem Sat.Ic (h:Sat W w (sep (kn J) A)) (hle:Mem.le I J):Sat W w (sep (kn I) A):=by
 refine h.wk ?_;rintro K m ⟨x,y,h7,rfl,⟨rfl,hle'⟩,h9⟩;exact⟨Mem.no,y,fun _=>.inl rfl,rfl,⟨rfl,fun b o hb=>hle' _ _ (hle _ _ hb)⟩,h9⟩
theorem eH {I J K:Mem} (h:Mem.le I J) (k:Mem.le J K):Mem.le I K:=fun _ _ hb=>k _ _ (h _ _ hb)
theorem Sat.of_below (h:Sat W w A) (hb:Below w.heap.size w w'):Sat W w' A:=by
 obtain⟨h1,h2,h3,I,m,h4,h5,h6,h7⟩:=h;obtain⟨b1,b2,b3,b4,b5⟩:=hb;have keep:∀b o,w.heap[b]?=some o→w'.heap[b]?=some o:=fun b o ho=>(b5 b (Array.getElem?_eq_some_iff.1 ho).1).trans ho
 exact⟨b1.trans h1,b2.trans h2,b3.trans h3,I,m,h4,fun b o ho=>keep _ _ (h5 b o ho),fun b o ho=>⟨keep _ _ (h6 b o ho).1,(h6 b o ho).2⟩,h7⟩
theorem jk {a:Option Addr} {xs:List Value} (h:iL a xs I) (hne:xs≠[]):∃b o,a=some ⟨b,o,none⟩∧∀w',Ext I w'→∀i u,xs[i]?=some u→w'.cell? ⟨b,o+i,none⟩=some u:=by
 rcases h with h|⟨b,o,cs,t,f,h1,h2,h3⟩
 ·exact absurd h hne
 ·exact⟨b,o,h1,fun w' he i u hu=>by rw[cell_of_row w' b (o+i) cs t f (he _ _ h2)];exact h3 i u hu⟩
theorem cells_lt {a:Option Addr} {xs:List Value} (h:iL a xs I) (he:Ext I w) (hne:xs≠[]):∃b o,a=some ⟨b,o,none⟩∧b<w.heap.size:=by
 rcases h with h|⟨b,o,cs,t,f,h1,h2,h3⟩
 ·exact absurd h hne
 ·exact⟨b,o,h1,(Array.getElem?_eq_some_iff.1 (he _ _ h2)).1⟩
theorem qM {a:Option Addr} {xs:List Value} (hl:Mem.le I J) (h:iL a xs I):iL a xs J:=by
 rcases h with h|⟨b,o,cs,t,f,h1,h2,h3⟩
 ·exact .inl h
 ·exact .inr ⟨b,o,cs,t,f,h1,hl _ _ h2,h3⟩
theorem jJ {v:Value} {bs:List UInt8}:dB.rel I [v] bs↔∃a c,v=.slice a bs.length c∧X9 a bs.length c∧iL a (bs.map bv) I:=by
 constructor
 ·rintro⟨a,c,cells,h1,h2,h3,h4⟩
  cases h1;rw[(wL _ _ _).1 h4] at h3;exact⟨a,c,rfl,h2,h3⟩
 ·rintro⟨a,c,rfl,h2,h3⟩
  exact⟨a,c,_,rfl,h2,h3,(wL _ _ _).2 rfl⟩
theorem zI {a:Option Addr} {bs:List UInt8} (h:iL a (bs.map bv) I) (hne:bs≠[]):∃b o,a=some ⟨b,o,none⟩∧∀w',Ext I w'→∀i (hi:i<bs.length),w'.cell? ⟨b,o+i,none⟩=some (.int .u8 (bs[i].toNat:Nat)):=by
 obtain⟨b,o,e,hc⟩:=jk h (by simpa using hne);exact⟨b,o,e,fun w' he i hi=>hc w' he i _ (by rw[List.getElem?_map,List.getElem?_eq_getElem hi];rfl)⟩
end
theorem gW (w:World) (cs:List Value) (t:TypeId):∀j u,cs[j]?=some u→(w.alloc (.cells cs.toArray t)).cell? ((⟨w.heap.size,0,none⟩:Addr).add j)=some u:=by
 intro j u h;have:(⟨w.heap.size,0,none⟩:Addr).add j=⟨w.heap.size,j,none⟩:=by unfold Addr.add;split<;>simp_all
 rw[this,World.cell?_alloc_new];simpa using h
theorem P6 {w:World} {b:Addr} {xs:List Value} (h:∀j u,xs[j]?=some u→w.cell? (b.add j)=some u) (o:Obj):∀j u,xs[j]?=some u→(w.alloc o).cell? (b.add j)=some u:=by
 intro j u hu;have:=h j u hu;rw[World.cell?_alloc_lt w o _ (World.block_lt_of_cell? w _ this)];exact this
theorem Nw (bs:List UInt8):∀u∈bs.map bv,u.oneCell'=true:=by
 intro u hu;obtain⟨b,_,rfl⟩:=List.mem_map.1 hu;rfl
theorem Sat.NG {W w:World} {A:aA} {I:Mem} (h:Sat W w (sep (kn I) A)) (e:TypeId) (s:ByteArray) (hs:s.size≤maxLen):
 ∃J,Mem.le I J∧dB.rel J [.slice (some ⟨w.heap.size,0,none⟩) s.size (grownCap w s.size 0 e)] s.data.toList∧Sat W (Lib.bytesWorld w e s) (sep (kn J) A):=by
 have hlen:s.data.toList.length=s.size:=by simp
 have h1:Sat W (Lib.bytesWorld w e s) (sep (blk w.heap.size _) (sep (kn I) A)):=
  h.grow rfl rfl rfl (Lib.bytesWorld_at_new w e s) (Nat.le_refl _) fun k hk=>Lib.bytesWorld_at_old w e s k hk
 obtain⟨J,hle,hp,hS⟩:=h1.settle.learn;have hcap:=jP w s.size 0 e hs;refine⟨J,hle,?_,hS⟩;refine jJ.2 ⟨some ⟨w.heap.size,0,none⟩,grownCap w s.size 0 e,by rw[hlen],⟨by rw[hlen];exact hcap.1,hcap.2,fun h=>(by cases h)⟩,.inr ⟨w.heap.size,0,_,_,_,rfl,hp,fun i u hu=>?_⟩⟩;have hi:i<s.data.size:=by
  have:=(List.getElem?_eq_some_iff.1 hu).1;simpa using this
 simp only[Nat.zero_add,Lib.bytesCells];rw[Array.getElem?_append_left (by simpa using hi),Array.getElem?_map];rw[List.getElem?_map,Array.getElem?_toList] at hu;exact hu
theorem Bc {I:Mem} {w:World} {a:Option Addr} {xs:List Value} (h:iL a xs I) (he:Ext I w):∀b,a=some b→∀j u,xs[j]?=some u→w.cell? (b.add j)=some u:=by
 intro b hb j u hu;obtain⟨b',o,e,hc⟩:=jk h (fun e=>by rw[e] at hu;simp at hu);rw[hb] at e;cases e;have:=hc w he j u hu;unfold Addr.add;split
 ·rename_i e;subst e;simpa using this
 ·exact this
end PA
namespace PA
open Go Go.RowKit
def VO:Rep Iv:=⟨fun _ cs x=>cs=[.int .i64 x.ln,.int .i64 x.ld,.int .i64 x.hn,.int .i64 x.hd,.bool x.lo,.bool x.ho,.bool x.li,.bool x.hi],fun _ h=>h⟩
mutual
def Xw (I:Mem):Fm→List Value→Prop
 | .mk o n i k,cs=>∃(a:Option Addr) (c:Nat) (b:Option Addr) (d:Nat),cs=[.int .i64 o,.int .i64 n,.slice a i.length c,.slice b k.length d]∧(VO.slice 8).rel I [.slice a i.length c] i∧X9 b k.length d∧∃css,iL b css.flatten I∧LH I k css
def LH (I:Mem):List Fm→List (List Value)→Prop
 | [],css=>css=[]
 | f::l,css=>∃c t,css=c::t∧(Xw I f c∧c.length=4)∧LH I l t
end
mutual
theorem Gj {I J:Mem} (hl:Mem.le I J):∀(f:Fm) (cs:List Value),Xw I f cs→Xw J f cs
 | .mk _ _ _ k,_,⟨a,c,b,d,e,hi,hw,css,hc,hk⟩=>⟨a,c,b,d,e,(VO.slice 8).mono hl hi,hw,css,qM hl hc,DX hl k css hk⟩
theorem DX {I J:Mem} (hl:Mem.le I J):∀(l:List Fm) (css:List (List Value)),LH I l css→LH J l css
 | [],_,h=>h
 | f::l,_,⟨c,t,e,h1,h2⟩=>⟨c,t,e,⟨Gj hl f c h1.1,h1.2⟩,DX hl l t h2⟩
end
def rF:Rep Fm:=⟨fun I cs f=>Xw I f cs,fun hl h=>Gj hl _ _ h⟩
theorem uQ {I:Mem}:∀{l:List Fm} {css:List (List Value)},LH I l css↔gG (fun c x=>rF.rel I c x∧c.length=4) css l
 | [],[]=>⟨fun _=>trivial,fun _=>rfl⟩
 | [],_::_=>⟨fun h=>(by cases h),fun h=>False.elim h⟩
 | f::l,[]=>⟨fun ⟨_,_,h,_⟩=>(by cases h),fun h=>False.elim h⟩
 | f::l,c::t=>by
  constructor
  ·rintro⟨c',t',e,h1,h2⟩
   cases e;exact⟨h1,uQ.1 h2⟩
  ·rintro⟨h1,h2⟩
   exact⟨c,t,rfl,h1,uQ.2 h2⟩
theorem dP {I:Mem} {cs:List Value} {o n:Int} {i:List Iv} {k:List Fm}:rF.rel I cs (.mk o n i k)↔∃(a:Option Addr) (c:Nat) (b:Option Addr) (d:Nat),cs=[.int .i64 o,.int .i64 n,.slice a i.length c,.slice b k.length d]∧(VO.slice 8).rel I [.slice a i.length c] i∧(rF.slice 4).rel I [.slice b k.length d] k:=by
 constructor
 ·rintro⟨a,c,b,d,e,hi,hw,css,hc,hk⟩
  exact⟨a,c,b,d,e,hi,b,d,css.flatten,rfl,hw,hc,css,rfl,uQ.1 hk⟩
 ·rintro⟨a,c,b,d,e,hi,b',d',cells,e2,hw,hc,css,rfl,hk⟩
  cases e2;exact⟨a,c,b,d,e,hi,hw,css,hc,uQ.2 hk⟩
end PA
namespace PA
open Go Go.RowKit
structure Cl where
 refs:List Int
 body:Fm
structure Ea where
 file:Int
 day:Int
structure Pa where
 k:Int
 d:Int
 n:Int
 f:Int
 o:Int
 p:Int
 q:Int
 u:Int
 m:Int
 sn:Int
 sd:Int
 td:List Fm
 tc:List Cl
 cl:List Cl
 ea:List Ea
 fx:Fm
def Fm.zero:Fm:=.mk 0 0 [] []
def Pa.zero:Pa:=⟨0,0,0,0,0,0,0,0,0,0,0,[],[],[],[],Fm.zero⟩
def MQ:Rep Ea:=⟨fun _ cs x=>cs=[.int .i64 x.file,.int .i64 x.day],fun _ h=>h⟩
def kK:Rep Cl:=⟨fun I cs x=>∃(a:Option Addr) (c:Nat) (b:List Value),cs=.slice a x.refs.length c::b∧(qY.slice 1).rel I [.slice a x.refs.length c] x.refs∧rF.rel I b x.body,
 fun hl ⟨a,c,b,e,h1,h2⟩=>⟨a,c,b,e,(qY.slice 1).mono hl h1,rF.mono hl h2⟩⟩
structure mM (I:Mem) (z:Ac) (x:Pa):Prop where
 k:z.k=x.k
 d:z.d=x.d
 n:z.n=x.n
 f:z.f=x.f
 o:z.o=x.o
 p:z.p=x.p
 q:z.q=x.q
 u:z.u=x.u
 m:z.m=x.m
 sn:z.sn=x.sn
 sd:z.sd=x.sd
 td:(rF.slice 4).rel I [z.td.v] x.td
 tc:(kK.slice 5).rel I [z.tc.v] x.tc
 cl:(kK.slice 5).rel I [z.cl.v] x.cl
 ea:(MQ.slice 2).rel I [z.ea.v] x.ea
 fx:rF.rel I [.int .i64 z.fo,.int .i64 z.fn,z.fi.v,z.fk.v] x.fx
theorem mM.mono {I J:Mem} {z:Ac} {x:Pa} (hl:Mem.le I J) (h:mM I z x):mM J z x:=
 ⟨h.k,h.d,h.n,h.f,h.o,h.p,h.q,h.u,h.m,h.sn,h.sd,(rF.slice 4).mono hl h.td,(kK.slice 5).mono hl h.tc,(kK.slice 5).mono hl h.cl,(MQ.slice 2).mono hl h.ea,rF.mono hl h.fx⟩
theorem aB {α:Type} (R:Rep α) (k:Nat) (I:Mem):(R.slice k).rel I [.slice none 0 0] []:=
 ⟨none,0,[],rfl,⟨Nat.le_refl _,Nat.zero_le _,fun _=>rfl⟩,.inl rfl,[],rfl,trivial⟩
theorem dQ (I:Mem):rF.rel I [.int .i64 0,.int .i64 0,.slice none 0 0,.slice none 0 0] Fm.zero:=
 dP.2 ⟨none,0,none,0,rfl,aB _ _ _,aB _ _ _⟩
theorem mM.zero (I:Mem):mM I Ac.zero Pa.zero:=
 ⟨rfl,rfl,rfl,rfl,rfl,rfl,rfl,rfl,rfl,rfl,rfl,aB _ _ _,aB _ _ _,aB _ _ _,aB _ _ _,dQ I⟩
def Bj (x:Iv):Prop:=0≤x.ln∧x.ln≤4∧x.ld=1∧x.li=false∧((x.hi=true∧x.hn=0∧x.hd=0∧x.ho=false)∨(x.hi=false∧x.hd=1∧x.ln<x.hn∧x.hn≤8))
def oK (f:Fm):Prop:=∃n:Int,0≤n∧n<6∧f=.mk 1 n [] []
def zy (f:Fm):Prop:=∃(n:Int) (x:Iv),0≤n∧n<2∧Bj x∧f=.mk 2 n [x] []
inductive bY:Fm→Prop
 | c {f}:oK f→bY f
 | v {f}:zy f→bY f
 | Fq {f g}:oK f→zy g→bY (.mk 4 0 [] [f,g])
 | Ru {f g}:oK f→zy g→bY (.mk 5 0 [] [f,g])
 | UM {f g}:oK f→oK g→bY (.mk 5 0 [] [f,g])
 | Tj {f g}:oK f→oK g→bY (.mk 4 0 [] [f,.mk 6 0 [] [g]])
 | part {f}:oK f→bY (.mk 3 0 [] [f])
 | Tm {f g}:oK f→zy g→bY (.mk 4 0 [] [f,.mk 3 0 [] [g]])
def kZ (i:Nat) (r:List Int):Prop:=r=[]∨(∃j:Nat,j<i∧r=[(j:Int)])∨(i=2∧r=[0,1])
def jZ (l:List Cl):Prop:=1≤l.length∧l.length≤3∧∀(i:Nat) (h:i<l.length),bY l[i].body∧kZ i l[i].refs
def zo (td:List Fm) (tc:List Cl):Prop:=1≤td.length∧td.length≤2∧(∀f∈td,bY f)∧jZ tc
def fD (N:Nat) (z:Int):Prop:=∃j:Nat,j<N∧z=5*(j:Int)
def Gz (N:Nat) (l:List Ea):Prop:=l.length≤2∧(∀e∈l,fD N e.file∧35600≤e.day∧e.day≤38001)∧l.Pairwise fun a b=>a.file≠b.file
def Bg (N:Nat) (y:Pa):Prop:=
 ∃(o p q:Int) (td:List Fm) (tc:List Cl) (ea:List Ea),y={ Pa.zero with f:=5*(N:Int),o:=o,p:=p,q:=q,td:=td,tc:=tc,ea:=ea } ∧
  (o=0∨o=1)∧(p=1∨p=2)∧(q=-1∨fD N q)∧zo td tc∧Gz N ea
def MR (n d:Int):Prop:=(n=1∧d=1)∨(n=1∧d=2)∨(n=1∧d=3)∨(n=2∧d=3)
inductive Other (N:Nat):Pa→Prop
 | plain {k f:Int}:(k=1∨k=2∨k=10∨k=11)→fD N f→Other N { Pa.zero with k:=k,f:=f }
 | list {k f:Int} {cl:List Cl}:(k=3∨k=15)→fD N f→jZ cl→Other N { Pa.zero with k:=k,f:=f,cl:=cl }
 | pay {f p q u m:Int}:fD N f→(p=1∨p=2)→(q=0∨q=1)→((0≤u∧u≤5)∨(9≤u∧u≤11))→1≤m→m≤1000→Other N { Pa.zero with k:=4,f:=f,p:=p,q:=q,u:=u,m:=m }
 | small {p u:Int}:(p=1∨p=2)→(u=0∨u=1)→Other N { Pa.zero with k:=5,p:=p,u:=u }
 | order {k f u:Int}:(k=6∨k=7∨k=18∨k=9)→fD N f→0≤u→u<60→(k≠9→u≤2)→Other N { Pa.zero with k:=k,f:=f,u:=u }
 | extend {f u m:Int}:fD N f→0≤u→u≤2→1≤m→m≤4→Other N { Pa.zero with k:=8,f:=f,u:=u,m:=m }
 | Iq {k f p:Int}:(k=12∨k=14)→fD N f→1≤p→p≤4→Other N { Pa.zero with k:=k,f:=f,p:=p }
 | decide {f q u:Int} {cl:List Cl}:fD N f→(q=0∨q=1)→((u=0∨u=1)∧cl=[]∨u=2∧jZ cl)→Other N { Pa.zero with k:=13,f:=f,q:=q,u:=u,cl:=cl }
 | transfer {f p q sn sd:Int}:fD N f→1≤p→p≤3→p<q→q≤p+2→MR sn sd→Other N { Pa.zero with k:=16,f:=f,p:=p,q:=q,sn:=sn,sd:=sd }
 | Ig {f p q u:Int}:fD N f→1≤p→p≤3→p<q→q≤p+2→0≤u→u<2000→Other N { Pa.zero with k:=17,f:=f,p:=p,q:=q,u:=u }
 | art {g:Fm}:bY g→Other N { Pa.zero with k:=19,fx:=g }
 | closure {o u:Int}:(o=0∨o=1)→0≤u→u<20→Other N { Pa.zero with k:=20,o:=o,u:=u }
 | rule {o u m:Int}:(o=0∨o=1)→0≤u→u≤18→1≤m→m≤50→Other N { Pa.zero with k:=21,o:=o,u:=u,m:=m }
def aY (y:Pa) (d n:Int):Pa:={ y with d:=d,n:=n,u:=if y.k=9∨y.k=17∨y.k=20 then d+y.u else y.u }
def Jm (N:Nat) (x:Pa):Prop:=∃y d n,(Bg N y∨Other N y)∧35600≤d∧d≤38000∧x=aY y d n
def Ai (l:List Pa):Nat:=(l.filter fun x=>x.k==0).length
def Made (l:List Pa):Prop:=∀(i:Nat) (h:i<l.length),Jm (Ai (l.take i)) l[i]∧l[i].n=4*(i:Int)∧(i=0→l[i].k=0)
end PA
namespace PA
open Go Go.RowKit
def iT (r:Int):Prop:=-9223372036854775808≤r∧r≤9223372036854775807
def vO (x:Pa) (h:Int) (b:Int):Pa:=
 if h=0 then {x with k:=b} else if h=1 then {x with d:=b} else if h=2 then {x with n:=b} else if h=3 then {x with f:=b} else if h=4 then {x with o:=b}
 else if h=5 then {x with p:=b} else if h=6 then {x with q:=b} else if h=7 then {x with u:=b} else if h=8 then {x with m:=b} else if h=9 then {x with sn:=b,sd:=2}
 else if h=10 then {x with td:=[.mk b 0 [] []],tc:=[]} else if h=11 then {x with cl:=[⟨[b],Fm.zero⟩]} else if h=12 then {x with ea:=x.ea++[⟨b,5⟩,⟨4095,b⟩]}
 else {x with fx:=.mk b 1 [] []}
end PA
namespace PA
open Go Go.RowKit
section
variable {W w:World} {A:aA}
end
end PA
namespace Go.Proofs.YthfmaclnccdcbaaGreatDoor
open Go.RowKit PA
theorem uI {a:Int} (h:(Lit.int .i64 a).wf=true):-9223372036854775808≤a∧a≤9223372036854775807:=bounds_i64 h
def iy (n m:Int):Int:=(if n<0 then -(n+1) else n) % m
theorem nJ (n m:Int) (h:0<m):0≤iy n m∧iy n m<m:=by
 unfold iy;exact⟨Int.emod_nonneg _ (by omega),Int.emod_lt_of_pos _ h⟩
theorem Qc {a b:Int} (h:a=b):Ending.returned (.int .i64 a)=.returned (.int .i64 b):=by rw[h]
set_option maxHeartbeats 400000 in
theorem oM (n m:Int) (w:World) (hn:-9223372036854775808≤n) (hn2:n≤9223372036854775807) (hm:1≤m) (hm2:m≤9223372036854775807):
 Calls Tryz.prog 16 #[.int .i64 n,.int .i64 m] w fun e w'=>e=.returned (.int .i64 (iy n m))∧w=w':=by
 by_cases h:n<0
 ·go_enter Tryz.func16,Tryz.ntmps16
  go_wp2
  go_ret
  exact⟨Qc (by unfold iy;rw[if_pos h,←Int.neg_tmod,Int.tmod_eq_emod_of_nonneg (by omega)]),rfl⟩
 ·go_enter Tryz.func16,Tryz.ntmps16
  go_wp2
  go_ret
  exact⟨Qc (by unfold iy;rw[if_neg (by omega)]),rfl⟩
end Go.Proofs.YthfmaclnccdcbaaGreatDoor
namespace PA
open Go Go.RowKit
def wm (w:World):Mem:=fun b=>w.heap[b]?
theorem Sat.XB (W:World):Sat W W (sep (kn (wm W)) emp):=
 ⟨rfl,rfl,rfl,wm W,Mem.no,fun _ _ h=>h,fun _ _ h=>h,fun _ _ h=>(by simp[Mem.no] at h),Mem.no,Mem.no,fun _=>.inl rfl,(Mem.qF _).symm,⟨rfl,Mem.le_refl _⟩,rfl⟩
theorem qm {I:Mem} {v:Value} {ns:List Int}:(qY.slice 1).rel I [v] ns↔∃a c,v=.slice a ns.length c∧X9 a ns.length c∧iL a (ns.map iv) I:=by
 constructor
 ·rintro⟨a,c,cells,h1,h2,h3,h4⟩
  cases h1;rw[(Gn _ _ _).1 h4] at h3;exact⟨a,c,rfl,h2,h3⟩
 ·rintro⟨a,c,rfl,h2,h3⟩
  exact⟨a,c,_,rfl,h2,h3,(Gn _ _ _).2 rfl⟩
theorem Ny {w:World} {x:Addr} {us:List Value} (h:∀j u,us[j]?=some u→w.cell? (x.add j)=some u):iL (some x) us (wm w):=by
 cases us with
 | nil=>exact .inl rfl
 | cons u us=>
  right;have h0:=h 0 u rfl;have e0:x.add 0=x:=rfl;rw[e0] at h0;obtain⟨b,o,sp⟩:=x;unfold World.cell? at h0;dsimp only at h0;cases hb:w.heap[b]? with
  | none=>rw[hb] at h0;cases h0
  | some ob=>
   rw[hb] at h0;cases ob with
   | cells c t f=>
    dsimp only at h0;cases sp with
    | some q=>simp at h0
    | none=>
     refine⟨b,o,c,t,f,rfl,hb,fun i v hv=>?_⟩;have hi:=h i v hv;have e:(⟨b,o,none⟩:Addr).add i=⟨b,o+i,none⟩:=by unfold Addr.add;split<;>simp_all
     rw[e] at hi;unfold World.cell? at hi;dsimp only at hi;rw[hb] at hi;simpa using hi
   | _=>cases h0
end PA
namespace Go.Proofs.YthfmaclnccdcbaaGreatDoor
open Go.RowKit PA
def Qu (n:Int):Prop:=-9223372036854775808≤n∧n≤9223372036854775807
def XZ (w:World) (a:Option Addr) (len cap:Nat) (zs:List Int):Prop:=
 (a=none∧len=0∧cap=0∧zs=[]) ∨
 ∃x,a=some x∧len≤cap∧cap≤maxLen∧zs.length=cap∧(∀i,i<zs.length→w.cell? (x.add i)=some (.int .i64 (zs.getD i 0)))∧∀n∈zs,(Lit.int .i64 n).wf=true
theorem argI {w:World} {a:Option Addr} {len cap:Nat} {zs:List Int} (h:XZ w a len cap zs):
 ∃l:List Int,len=l.length∧(qY.slice 1).rel (wm w) [.slice a len cap] l∧∀n∈l,Qu n:=by
 rcases h with ⟨rfl,rfl,rfl,rfl⟩|⟨x,rfl,h1,h2,h3,h4,h5⟩
 ·exact⟨[],rfl,qm.2 ⟨none,0,rfl,⟨Nat.le_refl _,Nat.zero_le _,fun _=>rfl⟩,.inl rfl⟩,fun n hn=>by cases hn⟩
 ·have hl:len=(zs.take len).length:=by simp;omega
  refine⟨zs.take len,hl,qm.2 ⟨some x,cap,by rw[←hl],⟨by rw[←hl];exact h1,h2,fun e=>by cases e⟩,Ny fun j u hu=>?_⟩,fun n hn=>?_⟩
  ·rw[List.getElem?_map,List.getElem?_take] at hu
   split at hu
   ·rename_i hj
    have hjz:j<zs.length:=by omega
    rw[List.getElem?_eq_getElem hjz] at hu;rw[h4 j hjz,←hu,List.getD_eq_getElem?_getD,List.getElem?_eq_getElem hjz];rfl
   ·cases hu
  ·exact uI (h5 n (List.mem_of_mem_take hn))
end Go.Proofs.YthfmaclnccdcbaaGreatDoor
namespace Go.Proofs.YthfmaclnccdcbaaGreatDoor
open Go.RowKit PA
theorem Xl {W w:World} {A:aA} {I:Mem} (h:Sat W w (sep (kn I) A)) (ns:List Int) (t:TypeId) (hb:ns.length≤maxLen):
 ∃J,Mem.le I J∧(qY.slice 1).rel J [.slice (some ⟨w.heap.size,0,none⟩) ns.length ns.length] ns∧Sat W (w.alloc (.cells (ns.map iv).toArray t)) (sep (kn J) A):=by
 have h1:=(h.alloc (.cells (ns.map iv).toArray t)).settle;obtain⟨J,hle,hp,h2⟩:=(show Sat W _ (sep (imm w.heap.size (.cells (ns.map iv).toArray t)) (sep (kn I) A)) from h1).learn;refine⟨J,hle,qm.2 ⟨_,_,rfl,⟨Nat.le_refl _,hb,fun h=>by cases h⟩,.inr ⟨w.heap.size,0,_,t,(0,0),rfl,hp,fun i u hu=>by simpa using hu⟩⟩,h2⟩
theorem nilI (I:Mem):(qY.slice 1).rel I [.slice none 0 0] []:=qm.2 ⟨none,0,rfl,⟨Nat.le_refl _,Nat.zero_le _,fun _=>rfl⟩,.inl rfl⟩
end Go.Proofs.YthfmaclnccdcbaaGreatDoor
namespace Go.Proofs.YthfmaclnccdcbaaGreatDoor
open Go.RowKit PA
theorem rW {α:Type} {R:Rep α} {k:Nat} {W w:World} {A:aA} {I:Mem} (h:Sat W w (sep (kn I) A)) (cs:List Value) (xs:List α) (t:TypeId) (hr:(R.rows k).rel I cs xs) (hb:xs.length≤maxLen):
 ∃J,Mem.le I J∧(R.slice k).rel J [.slice (some ⟨w.heap.size,0,none⟩) xs.length xs.length] xs∧Sat W (w.alloc (.cells cs.toArray t)) (sep (kn J) A):=by
 have h1:=(h.alloc (.cells cs.toArray t)).settle;obtain⟨J,hle,hp,h2⟩:=(show Sat W _ (sep (imm w.heap.size (.cells cs.toArray t)) (sep (kn I) A)) from h1).learn;refine⟨J,hle,⟨_,_,cs,rfl,⟨Nat.le_refl _,hb,fun h=>by cases h⟩,.inr ⟨w.heap.size,0,_,t,(0,0),rfl,hp,fun i u hu=>by simpa using hu⟩,(R.rows k).mono hle hr⟩,h2⟩
theorem gZ {α:Type} {R:Rep α} {k:Nat} {I:Mem} {c:List Value} {x:α} (h:R.rel I c x) (hk:c.length=k):(R.rows k).rel I c [x]:=⟨[c],by simp,⟨h,hk⟩,trivial⟩
theorem ou {α:Type} {R:Rep α} {k:Nat} {I:Mem} {c d:List Value} {x y:α} (h:R.rel I c x) (hk:c.length=k) (h':R.rel I d y) (hk':d.length=k):(R.rows k).rel I (c++d) [x,y]:=⟨[c,d],by simp,⟨h,hk⟩,⟨h',hk'⟩,trivial⟩
theorem Ba (I:Mem) (o n:Int):rF.rel I [.int .i64 o,.int .i64 n,.slice none 0 0,.slice none 0 0] (.mk o n [] []):=
 dP.2 ⟨none,0,none,0,rfl,aB _ _ _,aB _ _ _⟩
theorem jw {I:Mem} {o n:Int} {b:Option Addr} {d:Nat} {ks:List Fm} (h:(rF.slice 4).rel I [.slice b ks.length d] ks):rF.rel I [.int .i64 o,.int .i64 n,.slice none 0 0,.slice b ks.length d] (.mk o n [] ks):=
 dP.2 ⟨none,0,b,d,rfl,aB _ _ _,h⟩
theorem rF_ivs {I:Mem} {o n:Int} {b:Option Addr} {d:Nat} {is:List Iv} (h:(VO.slice 8).rel I [.slice b is.length d] is):rF.rel I [.int .i64 o,.int .i64 n,.slice b is.length d,.slice none 0 0] (.mk o n is []):=
 dP.2 ⟨b,d,none,0,rfl,h,aB _ _ _⟩
theorem iF:(Tryz.prog.info? 34).map (fun i=>(i.zero,i.size,i.bytes))=some (some (.agg #[.int .i64 0,.int .i64 0,.slice none 0 0,.slice none 0 0]),4,64):=by kernel_rfl
def WE (n:Nat) (p:Array (Nat×Value)):Sem Value:=Instr.buildSlice 27 n p
theorem ig (n:Nat) (p:Array (Nat×Value)):Instr.buildSlice 27 n p=WE n p:=rfl
theorem BN (w:World) (c0 c1 c2 c3:Value):(WE 1 #[(0,.agg #[c0,c1,c2,c3])]).run Tryz.prog w=.ok (.slice (some ⟨w.heap.size,0,none⟩) 1 1) (w.alloc (.cells #[c0,c1,c2,c3] 34)):=by
 obtain⟨i,h1,h2,h3,h4⟩:=info_parts iF;exact run_buildSlice w 27 34 1 _ _ i _ Tryz.underlying27 h1 h2 (by rw[h3];omega) (by rw[h3];omega) (by rw[h3];kernel_rfl)
theorem bsFm2 (w:World) (c0 c1 c2 c3 d0 d1 d2 d3:Value):(WE 2 #[(0,.agg #[c0,c1,c2,c3]),(1,.agg #[d0,d1,d2,d3])]).run Tryz.prog w=.ok (.slice (some ⟨w.heap.size,0,none⟩) 2 2) (w.alloc (.cells #[c0,c1,c2,c3,d0,d1,d2,d3] 34)):=by
 obtain⟨i,h1,h2,h3,h4⟩:=info_parts iF;exact run_buildSlice w 27 34 2 _ _ i _ Tryz.underlying27 h1 h2 (by rw[h3];omega) (by rw[h3];omega) (by rw[h3];kernel_rfl)
end Go.Proofs.YthfmaclnccdcbaaGreatDoor
