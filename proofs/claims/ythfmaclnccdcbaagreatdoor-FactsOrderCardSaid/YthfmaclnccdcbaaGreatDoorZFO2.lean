/- Part of a proof. -/
import Derived.Test.YthfmaclnccdcbaaGreatDoorZFO1
import Derived.Lib.AppendStr
import Derived.BigQuiet
import Derived.Deep.QuietTactic
import Derived.LoopTactic
import Derived.OpenShut
import Derived.Laws.BytesString
import Derived.RangeFuncSeq
import Derived.RangeFuncRecord
import Derived.RangeFuncIn
import Derived.OwnWalkIn
namespace PA
section
open Go Go.RowKit
section
variable {P:Program} {ops:Array Oper} {Q:Exit→Act→World→Prop} {S:World→Prop} {W:World}
def jf (P:Program) (ops:Array Oper) (W:World) (o:Oper) (a:Act) (Pre:aB) (Post:Value→aB):Prop:=
 Region.wanted o (yielded ops a.tmps)=true∧∀(w:World) (A:aB),Sat W w (sep Pre A) →
  (∃v w',(execOp a.eval o).run P w=.ok (.value v) w'∧Sat W w' (sep (Post v) A)) ∨
  (∃f args w1,(execOp a.eval o).run P w=.ok (.enter f args) w1∧Calls P f args w1 fun e w'=>∃v,e=.returned v∧Sat W w' (sep (Post v) A))
theorem jf.put {o:Oper} {a:Act} {Pre:aB} {Post:Value→aB} (h:jf P ops W o a Pre Post) (hs:∀cs b,o.op≠.select cs b) {d:Option Tmp} (hd:∀t,d=some t→t∉o.looksAt ops) (v:Value):jf P ops W o (a.put d v) Pre Post:=by
 unfold jf at *;rw[execOp_put o hs a d v hd,wanted_put o a d v hd];exact h
theorem jf.wpOp {i:Nat} {o:Oper} {a:Act} {Pre:aB} {Post:Value→aB} (ho:ops[i]?=some o) (h:jf P ops W o a Pre Post) {w:World} {A:aB} (hw:Sat W w (sep Pre A)) {K:Act→World→Prop}
 (hK:∀v w',Sat W w' (sep (Post v) A)→K (a.put o.dst v) w'):Go.wpOp P ops Q i K a w:=by
 unfold Go.wpOp;simp only[ho,h.1,if_true];refine .inl ?_;unfold Oper.wp;rcases h.2 w A hw with ⟨v,w',h1,h2⟩|⟨f,args,w1,h1,h2⟩
 ·rw[h1];exact hK v w' h2
 ·rw[h1]
  refine Calls.mono h2 ?_;rintro e w' ⟨v,rfl,h3⟩;exact hK v w' h3
def aU (ops:Array Oper) (i:Nat):Option Tmp:=(ops[i]?).bind (·.dst)
def puts (ops:Array Oper) (l:List (Nat×Value)) (a:Act):Act:=l.foldl (fun a x=>a.put (aU ops x.1) x.2) a
theorem jD (l m:List (Nat×Value)) (a:Act):puts ops (l++m) a=puts ops m (puts ops l a):=by simp[puts]
def apartB (ops:Array Oper) (i j:Nat):Bool:=match ops[i]?,ops[j]? with|some o,some u=>o.apart ops u|_,_=>false
theorem oG {i j:Nat} (h:apartB ops i j=true):(∀d,aU ops i=some d→aU ops j≠some d)∧(∀d,aU ops j=some d→aU ops i≠some d):=by
 unfold apartB at h;unfold aU;cases hi:ops[i]? with
 | none=>rw[hi] at h;cases h
 | some o=>
  cases hj:ops[j]? with
  | none=>rw[hi,hj] at h;cases h
  | some u=>
   rw[hi,hj] at h;obtain⟨h1,h2,h3⟩:=Oper.apart_spec h;exact⟨fun d hd=>h2 d hd,fun d hd he=>h2 d he hd⟩
theorem Il {i:Nat} (v:Value):∀(l:List (Nat×Value)),(∀x∈l,apartB ops i x.1=true)→∀a:Act,puts ops l (a.put (aU ops i) v)=(puts ops l a).put (aU ops i) v
 | [],_,_=>rfl
 | x::l,h,a=>by
  show puts ops l ((a.put (aU ops i) v).put (aU ops x.1) x.2)=(puts ops l (a.put (aU ops x.1) x.2)).put (aU ops i) v;rw[Act.put_comm a v x.2 (oG (h x (by simp))).1,Il v l (fun y hy=>h y (by simp[hy]))]
theorem ET (l:List (Nat×Value)):∀(m:List (Nat×Value)),(∀x∈m,∀y∈l,apartB ops x.1 y.1=true)→∀a:Act,puts ops l (puts ops m a)=puts ops m (puts ops l a)
 | [],_,_=>rfl
 | x::m,h,a=>by
  show puts ops l (puts ops m (a.put (aU ops x.1) x.2))=puts ops m ((puts ops l a).put (aU ops x.1) x.2);rw[ET l m (fun y hy=>h y (by simp[hy])),Il x.2 l (h x (by simp))]
theorem jf.puts {o:Oper} {i:Nat} {Pre:aB} {Post:Value→aB} (ho:ops[i]?=some o) (hs:∀cs b,o.op≠.select cs b):∀(l:List (Nat×Value)),(∀x∈l,apartB ops x.1 i=true∨apartB ops i x.1=true)→∀{a:Act},jf P ops W o a Pre Post→jf P ops W o (puts ops l a) Pre Post
 | [],_,_,h=>h
 | x::l,hl,a,h=>by
  refine jf.puts ho hs l (fun y hy=>hl y (by simp[hy])) (h.put hs ?_ x.2);intro t ht;unfold aU at ht;cases hx:ops[x.1]? with
  | none=>rw[hx] at ht;cases ht
  | some u=>
   rw[hx] at ht;rcases hl x (by simp) with h1|h1
   ·unfold apartB at h1
    rw[hx,ho] at h1;exact (Oper.apart_spec h1).1 t ht
   ·unfold apartB at h1
    rw[hx,ho] at h1;exact (Oper.apart_spec h1).2.2 t ht
structure Thr where
 ids:List Nat
 A:List Value→aB
structure St where
 dn:List (Nat×Value)
 td:List Nat
 A:List Value→aB
def St.now (s:St):aB:=s.A (s.dn.map (·.2))
def VJ (ops:Array Oper) (l m:List Nat):Prop:=∀i∈l,∀j∈m,apartB ops i j=true
def St.all (s:St):List Nat:=s.dn.map (·.1)++s.td
def Rh (ops:Array Oper) (l m:List Nat):Bool:=l.all fun i=>m.all fun j=>apartB ops i j
def CX (ops:Array Oper):List (List Nat)→Bool
 | []=>true
 | l::ls=>ls.all (Rh ops l)&&CX ops ls
end
end
section
open Go Go.RowKit
inductive lu where
 | one (i:Nat) (k:Kd)
 | grp (b:Bool) (E:List (Nat×List Nat))
def BJ (b:Bool) (x:Nat×List Nat):List (Nat×Kd):=(x.1,.inl b)::x.2.map fun j=>(j,.inr none)
def lu.fl:lu→List (Nat×Kd)
 | .one i k=>[(i,k)]
 | .grp b E=>E.flatMap (BJ b)
def fA (l:List lu):List (Nat×Kd):=l.flatMap lu.fl
theorem kE (x:lu) (l:List lu):fA (x::l)=x.fl++fA l:=by simp[fA]
theorem kD (l m:List lu):fA (l++m)=fA l++fA m:=by simp[fA]
def wpT (P:Program) (ops:Array Oper) (K:Act→World→Prop):List Nat→Act→World→Prop
 | [],a,w=>K a w
 | j::js,a,w=>∃o,ops[j]?=some o∧∃v,(∀w',Td P ops o v a w')∧wpT P ops K js (a.put o.dst v) w
def pI (P:Program) (ops:Array Oper) (Q:Exit→Act→World→Prop) (S:World→Prop) (b:Bool):Nat→List (Nat×List Nat)→(Act→World→Prop)→Act→World→Prop
 | 0,_,K,a,w=>K a w
 | n+1,E,K,a,w=>∀x∈E,(E.all fun r=>!((Region.before ops).getD x.1 0).testBit r.1)=true →
  wpOp P ops Q x.1 (fun a' w'=>(b=true→S w')∧wpT P ops (pI P ops Q S b n (E.erase x) K) x.2 a' w') a w
def ou (P:Program) (ops:Array Oper) (Q:Exit→Act→World→Prop) (S:World→Prop):List lu→(Act→World→Prop)→Act→World→Prop
 | [],K,a,w=>K a w
 | .one i k::l,K,a,w=>∃o,ops[i]?=some o∧match k with
  | .inr none=>∃v,(∀w',Td P ops o v a w')∧ou P ops Q S l K (a.put o.dst v) w
  | .inr (some true)=>S w∧∃v,(∀w',S w'→Td P ops o v a w')∧ou P ops Q S l K (a.put o.dst v) w
  | .inr (some false)=>∃v,Td P ops o v a w∧ou P ops Q S l K (a.put o.dst v) w
  | .inl b=>wpOp P ops Q i (fun a' w'=>(b=true→S w')∧ou P ops Q S l K a' w') a w
 | .grp b E::l,K,a,w=>pI P ops Q S b E.length E (ou P ops Q S l K) a w
section
variable {P:Program} {ops:Array Oper} {Q:Exit→Act→World→Prop} {S:World→Prop}
structure okG (ops:Array Oper) (bf:Array Nat) (b:Bool) (E:List (Nat×List Nat)):Prop where
 own:∀x∈E,∀j∈x.2,(bf.getD j 0).testBit x.1=true
 seq:∀x∈E,x.2.Pairwise fun u v=>gq ops bf (u,.inr none) (v,.inr none)=true
 other:∀x∈E,∀y∈E,x≠y→∀u∈x.2,∀v∈BJ b y,gq ops bf (u,.inr none) v=true
theorem ND {bf:Array Nat}:∀(js:List Nat),EG ops bf (js.map fun j=>(j,(.inr none:Kd)))=true→js.Pairwise fun u v=>gq ops bf (u,.inr none) (v,.inr none)=true
 | [],_=>.nil
 | j::js,h=>by
  simp only[mM,EG,Bool.and_eq_true,List.all_eq_true] at h;refine List.pairwise_cons.2 ⟨fun y hy=>h.1.1 _ (List.mem_map.2 ⟨y,hy,rfl⟩),ND js h.2⟩
theorem okG.erase {bf:Array Nat} {b:Bool} {E:List (Nat×List Nat)} (h:okG ops bf b E) (x:Nat×List Nat):okG ops bf b (E.erase x):=
 ⟨fun y hy=>h.own y (List.mem_of_mem_erase hy),fun y hy=>h.seq y (List.mem_of_mem_erase hy),fun y hy z hz=>h.other y (List.mem_of_mem_erase hy) z (List.mem_of_mem_erase hz)⟩
theorem aaV (l:List lu) (K:Act→World→Prop):∀(js:List Nat) (a:Act) (w:World),wpT P ops (ou P ops Q S l K) js a w→ou P ops Q S (js.map (fun j=>.one j (.inr none))++l) K a w
 | [],_,_,h=>h
 | j::js,a,w,h=>by
  obtain⟨o,ho,v,hy,h⟩:=h;exact⟨o,ho,v,hy,aaV l K js _ w h⟩
theorem yu (l m:List lu) (K:Act→World→Prop):ou P ops Q S (l++m) K=ou P ops Q S l (ou P ops Q S m K):=by
 induction l with
 | nil=>rfl
 | cons x l ih=>
  funext a w;cases x with
  | one i k=>rcases k with b|_|_|_<;>simp only[pV,ou,ih]
  | grp b E=>simp only[pV,ou,ih]
theorem IE {K:Act→World→Prop}:∀(l:List lu),fA l=[]→∀(a:Act) (w:World),ou P ops Q S l K a w→K a w
 | [],_,_,_,h=>h
 | .one i k::l,he,_,_,_=>by simp[kE,lu.fl] at he
 | .grp b E::l,he,a,w,h=>by
  rw[kE,List.append_eq_nil_iff] at he;have hE:E=[]:=by
   cases E with
   | nil=>rfl
   | cons x E=>have:=he.1;simp[lu.fl,BJ] at this
  subst hE;exact IE l he.2 a w h
theorem Sj {j:Nat} {kj:Kd} {oj:Oper} {bf:Array Nat} (hj:ops[j]?=some oj) (hsel:∀(j:Nat) (o:Oper) cs b,ops[j]?=some o→o.op≠.select cs b) (hQ:∀c a d v w,Q (.panic c) (a.put d v) w→Q (.panic c) a w)
 (T T':Act→World→Prop) (hT:∀a w,T a w→wpOp P ops Q j (fun a' w'=>T' a' w'∧(kj=.e true→S w')∧(kj.eff=false→w'=w)) a w):
 ∀(l1:List lu),(∀x∈fA l1,gq ops bf x (j,kj)=true∧(bf.getD j 0).testBit x.1=false)→∀(a:Act) (w:World),ou P ops Q S l1 T a w →
  wpOp P ops Q j (fun a' w'=>ou P ops Q S l1 T' a' w'∧(kj=.e true→S w')∧(kj.eff=false→w'=w)) a w
 | [],_,a,w,h=>hT a w h
 | .grp b E::l1,hl,a,w,h=>by
  have hE:E=[]:=by
   cases E with
   | nil=>rfl
   | cons r E=>
    obtain⟨hp,hnd⟩:=hl (r.1,.inl b) (by simp[kE,lu.fl,BJ]);simp only[gq,hnd,Bool.false_or,Bool.and_eq_true,Kd.eff,Bool.not_true,Bool.false_and] at hp;exact absurd hp.2 (by simp)
  subst hE;exact wpOp_mono (fun a' w' h=>h) (Sj hj hsel hQ T T' hT l1 (fun x hx=>hl x (by rw[kE];exact Bl _ hx)) a w h)
 | .one r kr::l1,hl,a,w,h=>by
  obtain⟨o,ho,h⟩:=h;obtain⟨hp,hnd⟩:=hl (r,kr) (by simp[kE,lu.fl]);simp only[gq,hnd,Bool.false_or,Bool.and_eq_true,ho,hj] at hp;obtain⟨_,⟨hne,hap⟩,hk⟩:=hp;have ih:=Sj hj hsel hQ T T' hT l1 (fun x hx=>hl x (by rw[kE];exact Bl _ hx));have go:∀(v:Value),ou P ops Q S l1 T (a.put o.dst v) w →
   wpOp P ops Q j (fun a' w'=>Alk ops o a a'∧ou P ops Q S l1 T' (a'.put o.dst v) w'∧(kj=.e true→S w')∧(kj.eff=false→w'=w)) a w:=fun v hv=>
   IG hj hap (fun cs b=>hsel r o cs b ho) (fun cs b=>hsel j oj cs b hj) hQ (ih _ _ hv)
  rcases kr with b|_|_|_;case inr.none=>
   obtain⟨v,hy,h⟩:=h;exact wpOp_mono (fun a' w' ⟨h1,h2,h3,h4⟩=>⟨⟨o,ho,v,fun w'=>(hy w').alk h1,h2⟩,h3,h4⟩) (go v h)
  case inr.some.true=>
   obtain⟨hS,v,hy,h⟩:=h;refine wpOp_mono (fun a' w' ⟨h1,h2,h3,h4⟩=>⟨⟨o,ho,?_,v,fun w' hw'=>(hy w' hw').alk h1,h2⟩,h3,h4⟩) (go v h);rcases kj with b|_
   ·exact h3 (by simp at hk;rw[hk])
   ·rw[h4 rfl];exact hS
  case inr.some.false=>
   obtain⟨v,hy,h⟩:=h;refine wpOp_mono (fun a' w' ⟨h1,h2,h3,h4⟩=>⟨⟨o,ho,v,?_,h2⟩,h3,h4⟩) (go v h);rcases kj with b|_
   ·simp at hk
   ·rw[h4 rfl];exact hy.alk h1
  case inl=>simp[Kd.eff] at hne
structure InvJ (ops:Array Oper) (bf:Array Nat) (listed:Array Bool) (l:List lu):Prop where
 size:listed.size=ops.size
 mem:∀i,i∈(fA l).map (·.1)↔i<ops.size∧listed.getD i true=false
 nodup:((fA l).map (·.1)).Nodup
 pair:l.Pairwise fun x y=>∀u∈x.fl,∀v∈y.fl,gq ops bf u v=true
 dep:(fA l).Pairwise fun x y=>mW ops x.1 y.1=false
 self:∀x∈fA l,mW ops x.1 x.1=false
 grp:∀b E,lu.grp b E∈l→okG ops bf b E
 closed:∀d r,r<ops.size→listed.getD d false=true→(bf.getD d 0).testBit r=true→listed.getD r false=true
def NI (ops:Array Oper) (bf:Array Nat):List lu→Bool
 | []=>true
 | x::l=>l.all (fun y=>x.fl.all fun u=>y.fl.all fun v=>gq ops bf u v)&&NI ops bf l
theorem EM {bf:Array Nat}:∀(l:List lu),NI ops bf l=true→l.Pairwise fun x y=>∀u∈x.fl,∀v∈y.fl,gq ops bf u v=true
 | [],_=>.nil
 | x::l,h=>by
  simp only[NI,Bool.and_eq_true,List.all_eq_true] at h;exact List.pairwise_cons.2 ⟨fun y hy u hu v hv=>h.1 y hy u hu v hv,EM l h.2⟩
variable {i:Nat} {l:List lu} {a:Act} {w:World} {o:Oper} {v:Value} {K:Act→World→Prop}
theorem J_p (ho:ops.toList[i]?=some o) (hg:Region.wanted o (yielded ops a.tmps)=true) (hv:∀w',(execOp a.eval o).run P w'=.ok (.value v) w') (h:ou P ops Q S l K (a.put o.dst v) w):ou P ops Q S (.one i .p::l) K a w:=
 have ho':=(Array.getElem?_toList (xs:=ops) (i:=i)).symm.trans ho
 ⟨o,ho',v,fun w'=>.inl ⟨hg,hv w'⟩,h⟩
theorem J_s (ho:ops.toList[i]?=some o) (hg:Region.wanted o (yielded ops a.tmps)=true) (hS:S w) (hv:∀w',S w'→(execOp a.eval o).run P w'=.ok (.value v) w') (h:ou P ops Q S l K (a.put o.dst v) w):ou P ops Q S (.one i .s::l) K a w:=
 have ho':=(Array.getElem?_toList (xs:=ops) (i:=i)).symm.trans ho
 ⟨o,ho',hS,v,fun w' hw=>.inl ⟨hg,hv w' hw⟩,h⟩
theorem J_t (ho:ops.toList[i]?=some o) (hg:Region.wanted o (yielded ops a.tmps)=true) (hv:(execOp a.eval o).run P w=.ok (.value v) w) (h:ou P ops Q S l K (a.put o.dst v) w):ou P ops Q S (.one i .t::l) K a w:=
 have ho':=(Array.getElem?_toList (xs:=ops) (i:=i)).symm.trans ho
 ⟨o,ho',v,.inl ⟨hg,hv⟩,h⟩
theorem J_po (ho:ops.toList[i]?=some o) (hg:Region.wanted o (yielded ops a.tmps)=false) (h:ou P ops Q S l K (a.put o.dst undef) w):ou P ops Q S (.one i .p::l) K a w:=
 have ho':=(Array.getElem?_toList (xs:=ops) (i:=i)).symm.trans ho
 ⟨o,ho',undef,fun _=>.inr ⟨hg,rfl⟩,h⟩
theorem J_so (ho:ops.toList[i]?=some o) (hg:Region.wanted o (yielded ops a.tmps)=false) (hS:S w) (h:ou P ops Q S l K (a.put o.dst undef) w):ou P ops Q S (.one i .s::l) K a w:=
 have ho':=(Array.getElem?_toList (xs:=ops) (i:=i)).symm.trans ho
 ⟨o,ho',hS,undef,fun _ _=>.inr ⟨hg,rfl⟩,h⟩
theorem J_to (ho:ops.toList[i]?=some o) (hg:Region.wanted o (yielded ops a.tmps)=false) (h:ou P ops Q S l K (a.put o.dst undef) w):ou P ops Q S (.one i .t::l) K a w:=
 have ho':=(Array.getElem?_toList (xs:=ops) (i:=i)).symm.trans ho
 ⟨o,ho',undef,.inr ⟨hg,rfl⟩,h⟩
theorem J_e {b:Bool} (ho:ops.toList[i]?=some o) (hg:Region.wanted o (yielded ops a.tmps)=true)
 (h:∀K':Act→World→Prop,(∀a w,(b=true→S w)→ou P ops Q S l K a w→K' a w)→o.wp P a w K' Q):ou P ops Q S (.one i (.e b)::l) K a w:=
 have ho':=(Array.getElem?_toList (xs:=ops) (i:=i)).symm.trans ho
 ⟨o,ho',by unfold wpOp;simp only[ho',hg,if_true];exact .inl (h _ fun _ _ h1 h2=>⟨h1,h2⟩)⟩
theorem wM (h:K a w):ou P ops Q S [] K a w:=h
end
end
section
open Go Go.RowKit
theorem mG {G G2:Prop} (h:G2) (f:G2→G:=by intro hZ;(repeat ((first|(refine J_p (v:=?_) rfl rfl (fun w'=>?_) ?_;rotate_left;(go_simp;with_reducible rfl))|(refine J_s (v:=?_) rfl rfl hS0 (fun w' hS=>?_) ?_;rotate_left;((try dsimp only at hS);go_simp;with_reducible rfl))|(refine J_t (v:=?_) rfl rfl ?_ ?_;rotate_left;(go_simp;with_reducible rfl))|(refine J_po rfl rfl ?_)|(refine J_so rfl rfl hS0 ?_)|(refine J_to rfl rfl ?_));simp only[Act.put,lsA,lsB,lq]));exact hZ):G:=f h
end
section
open Go Go.RowKit
section
variable {P:Program} {ops:Array Oper} {Q:Exit→Act→World→Prop} {S:World→Prop} {W:World}
def tailA {Y:Type} (Pre:aB) (ok:Y→Value→Prop) (Post:Y→aB) (F:Value→List Value):List Value→aB
 | []=>Pre
 | v::us=>ex fun y:Y=>sep (fact (ok y v∧us=(F v).take us.length)) (Post y)
def y8 (P:Program) (ops:Array Oper):Act→List Nat→List Value→Prop
 | _,[],[]=>True
 | a,j::js,u::us=>(∃o,ops[j]?=some o∧(∀w,(execOp a.eval o).run P w=.ok (.value u) w))∧y8 P ops (a.put (aU ops j) u) js us
 | _,_,_=>False
def o7 (ops:Array Oper) (j:Nat):Bool:=match ops[j]? with|some o=>o.guard.isNone&&(match o.op with|.select ..=>false|_=>true)|none=>false
theorem NR:∀{js:List Nat} {us:List Value} {a:Act},y8 P ops a js us→us.length=js.length
 | [],[],_,_=>rfl
 | [],_::_,_,h=>h.elim
 | _::_,[],_,h=>h.elim
 | j::js,u::us,a,h=>by rw[oP,oP,NR h.2]
theorem BF {K:Act→World→Prop}:∀(js:List Nat) (us:List Value) (a:Act) (w:World),(∀j∈js,o7 ops j=true)→y8 P ops a js us→K (puts ops (js.zip us) a) w→wpT P ops K js a w
 | [],us,a,w,_,h,hk=>by
  cases us with
  | nil=>exact hk
  | cons=>exact h.elim
 | j::js,[],_,_,_,h,_=>h.elim
 | j::js,u::us,a,w,hp,h,hk=>by
  obtain⟨⟨o,ho,hr⟩,h2⟩:=h;have WE:=hp j (by simp);unfold o7 at WE;rw[ho] at WE;simp only[Bool.and_eq_true] at WE;refine⟨o,ho,u,fun w'=>.inl ⟨?_,hr w'⟩,?_⟩
  ·unfold Region.wanted
   cases hg:o.guard with
   | none=>rfl
   | some x=>rw[hg] at WE;exact absurd WE.1 (by simp)
  ·have hd:aU ops j=o.dst:=by unfold aU;rw[ho];rfl
   rw[←hd];exact BF js us _ w (fun k hk=>hp k (by simp[hk])) h2 hk
theorem yc {i:Nat} (v:Value):∀(l:List (Nat×Value)),(∀x∈l,apartB ops x.1 i=true∨apartB ops i x.1=true)→∀a:Act,puts ops l (a.put (aU ops i) v)=(puts ops l a).put (aU ops i) v
 | [],_,_=>rfl
 | x::l,h,a=>by
  show puts ops l ((a.put (aU ops i) v).put (aU ops x.1) x.2)=(puts ops l (a.put (aU ops x.1) x.2)).put (aU ops i) v;have hd:∀d,aU ops i=some d→aU ops x.1≠some d:=by
   rcases h x (by simp) with h1|h1
   ·exact (oG h1).2
   ·exact (oG h1).1
  rw[Act.put_comm a v x.2 hd,yc v l (fun y hy=>h y (by simp[hy]))]
theorem Xq {js:List Nat} {k:Nat} {v:Value}:∀{us:List Value} {a:Act},(∀j∈js,o7 ops j=true)→(∀j∈js,apartB ops k j=true∨apartB ops j k=true)→y8 P ops a js us→y8 P ops (a.put (aU ops k) v) js us:=by
 induction js with
 | nil=>intro us a _ _ h;cases us with
  | nil=>trivial
  | cons=>exact h.elim
 | cons j js ih=>
  intro us a hp hap h;cases us with
  | nil=>exact h.elim
  | cons u us=>
   obtain⟨⟨o,ho,hr⟩,h2⟩:=h;have WE:=hp j (by simp);unfold o7 at WE;rw[ho] at WE;simp only[Bool.and_eq_true] at WE;have hsel:∀cs b,o.op≠.select cs b:=fun cs b hs=>by rw[hs] at WE;exact absurd WE.2 (by simp)
   have hlook:∀d,aU ops k=some d→d∉o.looksAt ops:=fun d hd=>by
    unfold aU at hd;cases hk:ops[k]? with
    | none=>rw[hk] at hd;cases hd
    | some z=>
     rw[hk] at hd;rcases hap j (by simp) with h1|h1
     ·unfold apartB at h1
      rw[hk,ho] at h1;exact (Oper.apart_spec h1).1 d hd
     ·unfold apartB at h1
      rw[hk,ho] at h1;exact (Oper.apart_spec h1).2.2 d hd
   refine⟨⟨o,ho,fun w=>?_⟩,?_⟩
   ·rw[execOp_put o hsel a _ v hlook];exact hr w
   ·have:=ih (fun i hi=>hp i (by simp[hi])) (fun i hi=>hap i (by simp[hi])) h2
    have hd:∀d,aU ops k=some d→aU ops j≠some d:=by
     rcases hap j (by simp) with h1|h1
     ·exact (oG h1).1
     ·exact (oG h1).2
    rw[Act.put_comm a v u hd];exact this
theorem Ik {js:List Nat} {us:List Value}:∀(l:List (Nat×Value)),(∀j∈js,o7 ops j=true)→(∀x∈l,∀j∈js,apartB ops x.1 j=true∨apartB ops j x.1=true)→∀{a:Act},y8 P ops a js us→y8 P ops (puts ops l a) js us
 | [],_,_,_,h=>h
 | x::l,hp,hap,a,h=>Ik l hp (fun y hy=>hap y (by simp[hy])) (Xq hp (hap x (by simp)) h)
def nums (ids:List (Nat×List Nat)):List Nat:=ids.flatMap fun x=>x.1::x.2
structure ThG where
 ids:List (Nat×List Nat)
 A:List Value→aB
structure AL where
 dn:List (Nat×Value)
 td:List (Nat×List Nat)
 A:List Value→aB
def AL.now (s:AL):aB:=s.A (s.dn.map (·.2))
def J8 (xu:List AL) (B:aB):aB:=xu.foldl (fun B s=>sep s.now B) B
theorem rM (s:AL) (xu:List AL) (B:aB):J8 (s::xu) B=J8 xu (sep s.now B):=rfl
theorem FD (s t:List AL) (B:aB):J8 (s++t) B=J8 t (J8 s B):=by simp[J8]
theorem zi (X:aB):∀(xu:List AL) (B:aB),J8 xu (sep X B)=sep X (J8 xu B)
 | [],_=>rfl
 | s::xu,B=>by rw[rM,rM,au,zi X xu]
def Bf (P:Program) (ops:Array Oper) (W:World) (a0:Act) (A:List Value→aB):List (Nat×Value)→List (Nat×List Nat)→Prop
 | _,[]=>True
 | dn,x::td=>(∃o,ops[x.1]?=some o∧(∀cs b,o.op≠.select cs b)∧jf P ops W o (puts ops dn a0) (A (dn.map (·.2))) (fun v=>A (dn.map (·.2)++[v])))∧(∀y∈td,((Region.before ops).getD y.1 0).testBit x.1=true)∧(∀j∈x.2,o7 ops j=true) ∧
  (∀v w B,Sat W w (sep (A (dn.map (·.2)++[v])) B)→∃us,y8 P ops (puts ops (dn++[(x.1,v)]) a0) x.2 us∧Sat W w (sep (A (dn.map (·.2)++v::us)) B)) ∧
  ∀v us,us.length=x.2.length→Bf P ops W a0 A (dn++(x.1,v)::x.2.zip us) td
def Zb (ops:Array Oper) (W:World) (a0:Act) (K:Act→World→Prop):List ThG→List (Nat×Value)→aB→Prop
 | [],D,B=>∀w,Sat W w B→K (puts ops D a0) w
 | t::ts,D,B=>∀dn:List (Nat×Value),dn.map (·.1)=nums t.ids→Zb ops W a0 K ts (D++dn) (sep (t.A (dn.map (·.2))) B)
def yD (ts:List ThG) (xu:List AL):Prop:=xu.map (fun s=>(s.dn.map (·.1)++nums s.td,s.A))=ts.map fun t=>(nums t.ids,t.A)
theorem Xd {l:List (Nat×List Nat)} (h:l=[]):nums l=[]:=by rw[h];rfl
theorem MF {a0:Act} {K:Act→World→Prop}:∀(xu:List AL) (ts:List ThG) (D:List (Nat×Value)) (B:aB),yD ts xu→xu.flatMap (·.td)=[]→Zb ops W a0 K ts D B→∀w,Sat W w (J8 xu B)→K (puts ops (D++xu.flatMap (·.dn)) a0) w
 | [],ts,D,B,hL,_,hf,w,hS=>by
  have:ts=[]:=by unfold yD at hL;simp at hL;exact hL
  subst this;simpa using hf w hS
 | s::xu,ts,D,B,hL,ht,hf,w,hS=>by
  cases ts with
  | nil=>unfold yD at hL;simp at hL
  | cons t ts=>
   unfold yD at hL;simp only[mM,List.cons.injEq,Prod.mk.injEq] at hL;obtain⟨⟨h1,h2⟩,h3⟩:=hL;simp only[List.flatMap_cons,List.append_eq_nil_iff] at ht;rw[Xd ht.1,List.append_nil] at h1;have:=hf s.dn h1;rw[←h2] at this;have h4:=MF xu ts (D++s.dn) _ h3 ht.2 this w (by rw[rM] at hS;exact hS);rw[List.flatMap_cons,←kZ];exact h4
def AL.all (s:AL):List Nat:=s.dn.map (·.1)++nums s.td
theorem EN:∀(ts:List ThG),CX ops (ts.map (fun t=>nums t.ids))=true→(ts.map fun t=>(⟨[],t.ids,t.A⟩:AL)).Pairwise fun s t=>VJ ops s.all t.all
 | [],_=>.nil
 | t::ts,h=>by
  simp only[mM,CX,Bool.and_eq_true,List.all_eq_true] at h;refine List.pairwise_cons.2 ⟨fun s hs=>?_,EN ts h.2⟩;obtain⟨u,hu,rfl⟩:=List.mem_map.1 hs;have:=h.1 (nums u.ids) (List.mem_map.2 ⟨u,hu,rfl⟩);simp only[Rh,List.all_eq_true] at this;intro i hi j hj;exact this i (by simpa[AL.all] using hi) j (by simpa[AL.all] using hj)
theorem xI {Y:Type} {Pre:aB} {ok:Y→Value→Prop} {Post:Y→aB} {F:Value→List Value} {a0:Act} {i:Nat} {js:List Nat} {o:Oper} (ho:ops[i]?=some o) (hs:∀cs b,o.op≠.select cs b)
 (hd:jf P ops W o a0 Pre (fun v=>ex fun y:Y=>sep (fact (ok y v)) (Post y))) (hpl:js.all (o7 ops)=true) (hF:∀y v,ok y v→y8 P ops (a0.put (aU ops i) v) js (F v)):
 Bf P ops W a0 (tailA Pre ok Post F) [] [(i,js)]:=by
 refine⟨⟨o,ho,hs,?_⟩,fun y hy=>(by cases hy),fun j hj=>List.all_eq_true.1 hpl j hj,fun v w B h=>?_,fun _ _ _=>trivial⟩
 ·refine⟨hd.1,fun w A hS=>?_⟩
  have conv:∀(v:Value) (w':World),Sat W w' (sep (ex fun y:Y=>sep (fact (ok y v)) (Post y)) A)→Sat W w' (sep (tailA Pre ok Post F ([]++[v])) A):=fun v w' h=>by
   rw[tK,tailA,fP,Sat.ex];rw[fP,Sat.ex] at h;obtain⟨y,h⟩:=h;refine⟨y,?_⟩;rw[aj] at h ⊢;obtain⟨h1,h2⟩:=Sat.fact.1 h;exact Sat.fact.2 ⟨⟨h1,rfl⟩,h2⟩
  rcases hd.2 w A hS with ⟨v,w',h1,h2⟩|⟨f,args,w1,h1,h2⟩
  ·exact .inl ⟨v,w',h1,conv v w' h2⟩
  ·refine .inr ⟨f,args,w1,h1,h2.mono ?_⟩
   rintro e w' ⟨v,rfl,h3⟩;exact⟨v,rfl,conv v w' h3⟩
 ·have h':Sat W w (sep (tailA Pre ok Post F [v]) B):=h
  rw[tailA,fP,Sat.ex] at h';obtain⟨y,h'⟩:=h';rw[aj] at h';obtain⟨⟨hok,-⟩,h2⟩:=Sat.fact.1 h';have hp:=hF y v hok;refine⟨F v,hp,?_⟩;show Sat W w (sep (tailA Pre ok Post F (v::F v)) B);rw[tailA,fP,Sat.ex];refine⟨y,?_⟩;rw[aj];exact Sat.fact.2 ⟨⟨hok,by rw[List.take_length]⟩,h2⟩
theorem yt {Y:Type} {Pre:aB} {ok:Y→Value→Prop} {Post:Y→aB} {F:Value→List Value} {A:aB} {w:World} {i:Nat} {js:List Nat} {dn:List (Nat×Value)} (hdn:dn.map (·.1)=i::js) (hl:∀v,(F v).length=js.length)
 (h:Sat W w (sep (tailA Pre ok Post F (dn.map (·.2))) A)):∃(v:Value) (y:Y),dn=(i,v)::js.zip (F v)∧ok y v∧Sat W w (sep (Post y) A):=by
 cases dn with
 | nil=>simp at hdn
 | cons x dn=>
  obtain⟨k,v⟩:=x;simp only[mM,List.cons.injEq] at hdn h;obtain⟨rfl,hj⟩:=hdn;rw[tailA,fP,Sat.ex] at h;obtain⟨y,h⟩:=h;rw[aj] at h;obtain⟨⟨h1,h2⟩,h3⟩:=Sat.fact.1 h;refine⟨v,y,?_,h1,h3⟩;have hlen:(dn.map (·.2)).length=(F v).length:=by rw[hl,←hj];simp
  rw[hlen,List.take_length] at h2;rw[←h2,←hj];congr 1;clear h2 hlen h h3 hj
  induction dn with
  | nil=>rfl
  | cons z dn ih=>simp[←ih]
end
end
section
open Go Go.RowKit
section
variable {P:Program} {ops:Array Oper} {Q:Exit→Act→World→Prop} {S:World→Prop} {W:World}
theorem yG {o:Oper} {a:Act} {Pre:aB} {Post:Value→aB} (hg:Region.wanted o (yielded ops a.tmps)=true) (f:FuncId) (args:Array Value) (hr:∀w,(execOp a.eval o).run P w=.ok (.enter f args) w)
 (hc:∀(w:World) (A:aB),Sat W w (sep Pre A)→Calls P f args w fun e w'=>∃v,e=.returned v∧Sat W w' (sep (Post v) A)):jf P ops W o a Pre Post:=
 ⟨hg,fun w A h=>.inr ⟨f,args,w,hr w,hc w A h⟩⟩
theorem zW {o:Oper} {a:Act} {ob:Obj} (hg:Region.wanted o (yielded ops a.tmps)=true) (hr:∀w,(execOp a.eval o).run P w=.ok (.value (.pointer (some ⟨w.heap.size,0,none⟩))) (w.alloc ob)):
 jf P ops W o a emp (fun v=>ex fun g:Nat=>sep (fact (v=.pointer (some ⟨g,0,none⟩))) (blk g ob)):=
 ⟨hg,fun w A h=>.inl ⟨_,_,hr w,by
  rw[jc] at h;rw[fP,Sat.ex];exact⟨w.heap.size,by rw[aj];exact Sat.fact.2 ⟨rfl,h.alloc ob⟩⟩⟩⟩
def Oy (Pre Mid Post:aB) (v1 v2:Value) (FU:List Value):List Value→aB
 | []=>Pre
 | [u]=>sep (fact (u=v1)) Mid
 | u::x::r=>sep (fact (u=v1∧x=v2∧r=FU.take r.length)) Post
theorem TR {Pre Mid Post:aB} {v1 v2:Value} {FU:List Value} {a0:Act} {i j:Nat} {js:List Nat} {oi oj:Oper} {di:Option Tmp} (hdi:aU ops i=di) (hoi:ops[i]?=some oi) (hsi:∀cs b,oi.op≠.select cs b) (hoj:ops[j]?=some oj) (hsj:∀cs b,oj.op≠.select cs b)
 (hb:((Region.before ops).getD j 0).testBit i=true) (h1:jf P ops W oi a0 Pre (fun v=>sep (fact (v=v1)) Mid)) (h2:jf P ops W oj (a0.put di v1) Mid (fun v=>sep (fact (v=v2)) Post))
 (hw2:∀v,Region.wanted oj (yielded ops (a0.put di v).tmps)=true) (hpl:js.all (o7 ops)=true) (hF:y8 P ops ((a0.put di v1).put (aU ops j) v2) js FU):
 Bf P ops W a0 (Oy Pre Mid Post v1 v2 FU) [] [(i,[]),(j,js)]:=by
 subst hdi;refine⟨⟨oi,hoi,hsi,h1⟩,fun y hy=>?_,fun j hj=>(by cases hj),fun v w B h=>⟨[],trivial,h⟩,fun v us hus=>?_⟩
 ·rw[vW hy];exact hb
 ·have af7:us=[]:=Ju hus
  subst af7;refine⟨⟨oj,hoj,hsj,hw2 v,fun w A hS=>?_⟩,fun y hy=>(by cases hy),fun k hk=>List.all_eq_true.1 hpl k hk,fun v' w B h=>?_,fun _ _ _=>trivial⟩
  ·have hS':Sat W w (sep (sep (fact (v=v1)) Mid) A):=hS
   rw[aj] at hS';obtain⟨rfl,hS2⟩:=Sat.fact.1 hS';have conv:∀(v':Value) (w':World),Sat W w' (sep (sep (fact (v'=v2)) Post) A)→Sat W w' (sep (Oy Pre Mid Post v v2 FU ([v]++[v'])) A):=fun v' w' h=>by
    show Sat W w' (sep (sep (fact (v=v∧v'=v2∧[]=FU.take ([]:List Value).length)) Post) A);rw[aj] at h ⊢;obtain⟨h1,h2⟩:=Sat.fact.1 h;exact Sat.fact.2 ⟨⟨rfl,h1,by simp⟩,h2⟩
   rcases h2.2 w A hS2 with ⟨v',w',h3,h4⟩|⟨f,args,w1,h3,h4⟩
   ·exact .inl ⟨v',w',h3,conv v' w' h4⟩
   ·refine .inr ⟨f,args,w1,h3,h4.mono ?_⟩
    rintro e w' ⟨v',rfl,h5⟩;exact⟨v',rfl,conv v' w' h5⟩
  ·have h':Sat W w (sep (sep (fact (v=v1∧v'=v2∧[]=FU.take ([]:List Value).length)) Post) B):=h
   rw[aj] at h';obtain⟨⟨rfl,rfl,-⟩,h3⟩:=Sat.fact.1 h';refine⟨FU,hF,?_⟩;show Sat W w (sep (sep (fact (v=v∧v'=v'∧FU=FU.take FU.length)) Post) B);rw[aj];exact Sat.fact.2 ⟨⟨rfl,rfl,by rw[List.take_length]⟩,h3⟩
theorem UC {Pre Mid Post:aB} {v1 v2:Value} {FU:List Value} {A:aB} {w:World} {i j:Nat} {js:List Nat} {dn:List (Nat×Value)} (hdn:dn.map (·.1)=i::j::js) (hl:FU.length=js.length)
 (h:Sat W w (sep (Oy Pre Mid Post v1 v2 FU (dn.map (·.2))) A)):dn=(i,v1)::(j,v2)::js.zip FU∧Sat W w (sep Post A):=by
 match dn,hdn with
 | (i',u)::(j',x)::dn,hdn=>
  simp only[mM,List.cons.injEq] at hdn;obtain⟨rfl,rfl,hj⟩:=hdn;have h':Sat W w (sep (sep (fact (u=v1∧x=v2∧dn.map (·.2)=FU.take (dn.map (·.2)).length)) Post) A):=h;rw[aj] at h';obtain⟨⟨rfl,rfl,h2⟩,h3⟩:=Sat.fact.1 h';refine⟨?_,h3⟩;have hlen:(dn.map (·.2)).length=FU.length:=by rw[hl,←hj];simp
  rw[hlen,List.take_length] at h2;rw[←h2,←hj];congr 1;congr 1;clear h2 hlen h h' h3 hj hl
  induction dn with
  | nil=>rfl
  | cons z dn ih=>simp[←ih]
end
end
section
section
variable {α:Type}
def uf (f:Nat→α) (i j:Nat):Nat→α:=fun k=>if k=i then f j else if k=j then f i else f k
theorem Oo (f:Nat→α) (i j:Nat):uf f i j=uf f j i:=by
 funext k;unfold uf;by_cases h1:k=i
 ·by_cases h2:k=j
  ·rw[if_pos h1,if_pos h2,←h1,←h2]
  ·rw[if_pos h1,if_neg h2,if_pos h1]
 ·rw[if_neg h1]
  by_cases h2:k=j
  ·rw[if_pos h2,if_pos h2]
  ·rw[if_neg h2,if_neg h2,if_neg h1]
inductive Sw (a b:Nat) (f:Nat→α):(Nat→α)→Prop where
 | refl:Sw a b f f
 | step (g:Nat→α) (i j:Nat):Sw a b f g→a≤i→i<b→a≤j→j<b→Sw a b f (uf g i j)
theorem Sw.trans {a b:Nat} {f g h:Nat→α} (h1:Sw a b f g) (h2:Sw a b g h):Sw a b f h:=by
 induction h2 with
 | refl=>exact h1
 | step g' i j _ p1 p2 p3 p4 ih=>exact .step g' i j ih p1 p2 p3 p4
theorem Sw.mono {a b a' b':Nat} {f g:Nat→α} (h1:a'≤a) (h2:b≤b') (h:Sw a b f g):Sw a' b' f g:=by
 induction h with
 | refl=>exact .refl
 | step g' i j _ p1 p2 p3 p4 ih=>exact .step g' i j ih (by omega) (by omega) (by omega) (by omega)
theorem Sw.out {a b:Nat} {f g:Nat→α} (h:Sw a b f g) {k:Nat} (hk:k<a∨b≤k):g k=f k:=by
 induction h with
 | refl=>rfl
 | step g' i j _ p1 p2 p3 p4 ih=>
  unfold uf;rw[if_neg (by omega),if_neg (by omega)];exact ih
theorem Sw.at {a b:Nat} {f g:Nat→α} (h:Sw a b f g):∀k,a≤k→k<b→∃j,a≤j∧j<b∧g k=f j:=by
 induction h with
 | refl=>exact fun k h1 h2=>⟨k,h1,h2,rfl⟩
 | step g' i j _ p1 p2 p3 p4 ih=>
  intro k h1 h2;unfold uf;split
  ·exact ih j p3 p4
  ·split
   ·exact ih i p1 p2
   ·exact ih k h1 h2
theorem Oq (n:Nat) (f:Nat→α) (i j:Nat) (hi:i<n) (hj:j<n):((List.range n).map (uf f i j)).Perm ((List.range n).map f):=by
 have e:(List.range n).map (uf f i j)=(((List.range n).map f).set i (((List.range n).map f)[j]'(by simpa using hj))).set j (((List.range n).map f)[i]'(by simpa using hi)):=by
  apply List.ext_getElem
  ·simp
  ·intro k h1 h2
   simp only[List.getElem_map,List.getElem_range,List.getElem_set,uf];by_cases e1:k=j
   ·subst e1
    by_cases e2:k=i
    ·subst e2;simp
    ·simp[e2]
   ·by_cases e2:k=i
    ·subst e2;simp[Ne.symm e1]
    ·simp[e1,e2,Ne.symm e1,Ne.symm e2]
 rw[e];exact List.set_set_perm _ _
theorem Sw.perm {n:Nat} {f g:Nat→α} (h:Sw 0 n f g):((List.range n).map g).Perm ((List.range n).map f):=by
 induction h with
 | refl=>exact .refl _
 | step g' i j _ p1 p2 p3 p4 ih=>exact (Oq n g' i j p2 p4).trans ih
def QG (f:Nat→α) (a b:Nat):Nat→Nat→α
 | 0=>f
 | n+1=>uf (QG f a b n) (a+n) (b+n)
theorem zh (f:Nat→α) (a b:Nat):∀n,a+n≤b→∀k,QG f a b n k=if a≤k∧k<a+n then f (b+(k-a)) else if b≤k∧k<b+n then f (a+(k-b)) else f k
 | 0,h,k=>by rw[QG,if_neg (by omega),if_neg (by omega)]
 | n+1,h,k=>by
  have ih:=zh f a b n (by omega);have e0:QG f a b (n+1) k=if k=a+n then QG f a b n (b+n) else if k=b+n then QG f a b n (a+n) else QG f a b n k:=rfl
  rw[e0,ih k,ih (a+n),ih (b+n)]
  (repeat' split)<;>first|rfl|(exfalso;omega)|(congr 1;omega)
theorem J7 (f:Nat→α) (a b lo hi:Nat) (h1:lo≤a) (h2:lo≤b):∀n,a+n≤hi→b+n≤hi→Sw lo hi f (QG f a b n)
 | 0,_,_=>.refl
 | n+1,h3,h4=>.step _ _ _ (J7 f a b lo hi h1 h2 n (by omega) (by omega)) (by omega) (by omega) (by omega) (by omega)
def Cj (f:Nat→α) (a m b:Nat) (g:Nat→α):Prop:=(∀t,t<b-m→g (a+t)=f (m+t))∧(∀t,t<m-a→g (a+(b-m)+t)=f (a+t))∧∀k,k<a∨b≤k→g k=f k
structure Dt (f:Nat→α) (a m b i j:Nat) (g:Nat→α):Prop where
 hi:i≤m-a
 hj:j≤b-m
 ok:∀T:Nat→α,Cj f a m b T→(∀k,k<m-i∨m+j≤k→g k=T k)∧(∀t,t<j→T (m-i+t)=g (m+t))∧(∀t,t<i→T (m-i+j+t)=g (m-i+t))
 sw:Sw a b f g
theorem Dt.start (f:Nat→α) (a m b:Nat) (h1:a≤m) (h2:m≤b):Dt f a m b (m-a) (b-m) f:=by
 refine⟨Nat.le_refl _,Nat.le_refl _,fun T hT=>⟨fun k hk=>(hT.2.2 k (by omega)).symm,fun t ht=>?_,fun t ht=>?_⟩,.refl⟩
 ·rw[←hT.1 t ht];congr 1;omega
 ·rw[show m-(m-a)+(b-m)+t=a+(b-m)+t by omega,hT.2.1 t ht];congr 1;omega
theorem Dt.big {f g:Nat→α} {a m b i j:Nat} (h:Dt f a m b i j g) (h1:a≤m) (h2:m≤b) (hij:j<i):Dt f a m b (i-j) j (QG g (m-i) m j):=by
 have hi:=h.hi;have hj:=h.hj;have hs:=zh g (m-i) m j (by omega);refine⟨by omega,hj,fun T hT=>?_,h.sw.trans (J7 g (m-i) m a b (by omega) (by omega) j (by omega) (by omega))⟩;obtain⟨o1,o2,o3⟩:=h.ok T hT;refine⟨fun k hk=>?_,fun t ht=>?_,fun t ht=>?_⟩
 ·rw[hs k]
  by_cases e1:m-i≤k∧k<m-i+j
  ·rw[if_pos e1,←o2 (k-(m-i)) (by omega)];congr 1;omega
  ·rw[if_neg e1,if_neg (by omega)];exact o1 k (by omega)
 ·rw[hs (m+t),if_neg (by omega),if_pos (by omega)]
  have:=o3 t (by omega);rw[show m-(i-j)+t=m-i+j+t by omega,this];congr 1;omega
 ·rw[hs,if_neg (by omega),if_neg (by omega)]
  have:=o3 (j+t) (by omega);rw[show m-(i-j)+j+t=m-i+j+(j+t) by omega,this];congr 1;omega
theorem Dt.small {f g:Nat→α} {a m b i j:Nat} (h:Dt f a m b i j g) (h1:a≤m) (h2:m≤b) (hij:i<j):Dt f a m b i (j-i) (QG g (m-i) (m+j-i) i):=by
 have hi:=h.hi;have hj:=h.hj;have hs:=zh g (m-i) (m+j-i) i (by omega);refine⟨hi,by omega,fun T hT=>?_,h.sw.trans (J7 g (m-i) (m+j-i) a b (by omega) (by omega) i (by omega) (by omega))⟩;obtain⟨o1,o2,o3⟩:=h.ok T hT;refine⟨fun k hk=>?_,fun t ht=>?_,fun t ht=>?_⟩
 ·rw[hs k]
  by_cases e1:m+j-i≤k∧k<m+j-i+i
  ·rw[if_neg (by omega),if_pos e1,←o3 (k-(m+j-i)) (by omega)];congr 1;omega
  ·rw[if_neg (by omega),if_neg e1];exact o1 k (by omega)
 ·rw[hs (m+t),if_neg (by omega),if_neg (by omega)]
  exact o2 t (by omega)
 ·rw[hs,if_pos (by omega)]
  have:=o2 (j-i+t) (by omega);rw[show m-i+(j-i)+t=m-i+(j-i+t) by omega,this];congr 1;omega
theorem Dt.done {f g:Nat→α} {a m b i:Nat} (h:Dt f a m b i i g) (h1:a≤m) (h2:m≤b):Cj f a m b (QG g (m-i) m i)∧Sw a b f (QG g (m-i) m i):=by
 have hi:=h.hi;have hj:=h.hj;have hs:=zh g (m-i) m i (by omega);refine⟨?_,h.sw.trans (J7 g (m-i) m a b (by omega) (by omega) i (by omega) (by omega))⟩;have hex:∃T,Cj f a m b T:=⟨fun k=>if k<a∨b≤k then f k else if k<a+(b-m) then f (m+(k-a)) else f (a+(k-(a+(b-m)))),fun t ht=>by
  simp only[];rw[if_neg (by omega),if_pos (by omega)];congr 1;omega,fun t ht=>by
  simp only[];rw[if_neg (by omega),if_neg (by omega)];congr 1;omega,fun k hk=>by simp only[];rw[if_pos hk]⟩
 obtain⟨T,hT⟩:=hex;obtain⟨o1,o2,o3⟩:=h.ok T hT;have e:QG g (m-i) m i=T:=by
  funext k;rw[hs k];by_cases e1:m-i≤k∧k<m-i+i
  ·rw[if_pos e1,←o2 (k-(m-i)) (by omega)];congr 1;omega
  ·rw[if_neg e1]
   by_cases e2:m≤k∧k<m+i
   ·rw[if_pos e2]
    have:=o3 (k-m) (by omega);rw[←this];congr 1;omega
   ·rw[if_neg e2];exact o1 k (by omega)
 rw[e];exact hT
variable (c:α→α→Int)
def eU (a b:Nat) (f:Nat→α):Prop:=∀i j,a≤i→i<j→j<b→c (f i) (f j)≤0
structure Total (c:α→α→Int):Prop where
 trans:∀x y z,c x y≤0→c y z≤0→c x z≤0
 flip:∀x y,c y x=-c x y
variable {c}
theorem eU.sub {a b a' b':Nat} {f:Nat→α} (h:eU c a b f) (h1:a≤a') (h2:b'≤b):eU c a' b' f:=fun i j p1 p2 p3=>h i j (by omega) p2 (by omega)
theorem eU.congr {a b:Nat} {f g:Nat→α} (h:eU c a b f) (e:∀k,a≤k→k<b→g k=f k):eU c a b g:=fun i j p1 p2 p3=>by rw[e i p1 (by omega),e j (by omega) p3];exact h i j p1 p2 p3
theorem eU.list {n:Nat} {f:Nat→α} (h:eU c 0 n f):((List.range n).map f).Pairwise fun x y=>c x y≤0:=by
 rw[List.pairwise_map];refine List.Pairwise.imp_of_mem (R:=fun i j=>i<j) ?_ List.pairwise_lt_range;intro i j _ hj hij;exact h i j (by omega) hij (by simpa using hj)
theorem WT {a j b:Nat} {f:Nat→α} (hT:Total c) (h1:eU c a j f) (h2:eU c j b f) (h3:∀p q,a≤p→p<j→j<q→q<b→c (f p) (f q)≤0) (hj:j=a∨0≤c (f j) (f (j-1))) (hab:a≤j) (hjb:j<b):eU c a b f:=by
 intro p q hp hpq hq;rcases Nat.lt_or_ge q j with e|e
 ·exact h1 p q hp hpq e
 ·rcases Nat.lt_or_ge p j with e2|e2
  ·rcases Nat.lt_or_ge j q with e3|e3
   ·exact h3 p q hp e2 e3 hq
   ·obtain rfl:q=j:=by omega
    rcases hj with e4|e4
    ·omega
    ·have hlast:c (f (q-1)) (f q)≤0:=by have:=hT.flip (f (q-1)) (f q);omega
     rcases Nat.lt_or_ge p (q-1) with e5|e5
     ·exact hT.trans _ _ _ (h1 p (q-1) hp e5 (by omega)) hlast
     ·obtain rfl:p=q-1:=by omega
      exact hlast
  ·exact h2 p q e2 hpq hq
theorem XC {a m b:Nat} {f:Nat→α} (h1:eU c a m f) (h2:eU c m b f) (h3:∀p q,a≤p→p<m→m≤q→q<b→c (f p) (f q)≤0):eU c a b f:=by
 intro p q hp hpq hq;rcases Nat.lt_or_ge q m with e|e
 ·exact h1 p q hp hpq e
 ·rcases Nat.lt_or_ge p m with e2|e2
  ·exact h3 p q hp e2 e hq
  ·exact h2 p q e2 hpq hq
theorem QH {a mid b:Nat} {g g1 g2:Nat→α} (hx:∀p q,a≤p→p<mid→mid≤q→q<b→c (g p) (g q)≤0)
 (s1:Sw a mid g g1) (k1:eU c a mid g1) (s2:Sw mid b g1 g2) (k2:eU c mid b g2):eU c a b g2:=by
 refine XC (m:=mid) (k1.congr fun k p1 p2=>s2.out (.inl p2)) k2 fun p q p1 p2 p3 p4=>?_
 obtain⟨i,i1,i2,e1⟩:=s1.at p p1 p2;obtain⟨j,j1,j2,e2⟩:=s2.at q p3 p4;rw[s2.out (.inl p2),e1,e2,s1.out (.inr j1)];exact hx i j i1 i2 j1 j2
theorem Uh {a m b mid start en:Nat} {f g:Nat→α} (hT:Total c) (h1:eU c a m f) (h2:eU c m b f) (ha:a≤start) (hs:start≤m) (he:m≤en) (hb:en≤b) (hsm:start≤mid) (hm:en+start=mid+m)
 (hlo:start=a∨en=b∨c (f (start-1)) (f en)≤0) (hup:start=m∨en=m∨c (f (en-1)) (f start)≤0) (hg:Cj f start m en g):
 eU c a start g∧eU c start mid g∧eU c mid en g∧eU c en b g∧∀p q,a≤p→p<mid→mid≤q→q<b→c (g p) (g q)≤0:=by
 obtain⟨g1,g2,g3⟩:=hg;have e1:∀k,k<start→g k=f k:=fun k hk=>g3 k (.inl hk)
 have e2:∀k,start≤k→k<mid→g k=f (m+(k-start)):=fun k p1 p2=>by rw[←g1 (k-start) (by omega)];congr 1;omega
 have e3:∀k,mid≤k→k<en→g k=f (start+(k-mid)):=fun k p1 p2=>by rw[←g2 (k-mid) (by omega)];congr 1;omega
 have e4:∀k,en≤k→g k=f k:=fun k hk=>g3 k (.inr hk)
 have le:∀{x y:α},x=y→c x y≤0:=fun {x y} e=>by subst e;have:=hT.flip x x;omega
 refine⟨fun p q p1 p2 p3=>?_,fun p q p1 p2 p3=>?_,fun p q p1 p2 p3=>?_,fun p q p1 p2 p3=>?_,fun p q p1 p2 p3 p4=>?_⟩
 ·rw[e1 p (by omega),e1 q p3];exact h1 p q p1 p2 (by omega)
 ·rw[e2 p p1 (by omega),e2 q (by omega) p3];exact h2 _ _ (by omega) (by omega) (by omega)
 ·rw[e3 p p1 (by omega),e3 q (by omega) p3];exact h1 _ _ (by omega) (by omega) (by omega)
 ·rw[e4 p p1,e4 q (by omega)];exact h2 _ _ (by omega) p2 p3
 ·have WZ:∀i j,a≤i→i≤j→j<m→c (f i) (f j)≤0:=fun i j q1 q2 q3=>by
   rcases Nat.lt_or_ge i j with e|e
   ·exact h1 i j q1 e q3
   ·exact le (by congr 1;omega)
  have W9:∀i j,m≤i→i≤j→j<b→c (f i) (f j)≤0:=fun i j q1 q2 q3=>by
   rcases Nat.lt_or_ge i j with e|e
   ·exact h2 i j q1 e q3
   ·exact le (by congr 1;omega)
  rcases Nat.lt_or_ge p start with x|x
  ·rw[e1 p x]
   rcases Nat.lt_or_ge q en with y|y
   ·rw[e3 q p3 y];exact WZ _ _ p1 (by omega) (by omega)
   ·rw[e4 q y]
    rcases hlo with z|z|z
    ·omega
    ·omega
    ·exact hT.trans _ _ _ (WZ p (start-1) p1 (by omega) (by omega)) (hT.trans _ _ _ z (W9 en q (by omega) y p4))
  ·rw[e2 p x p2]
   rcases Nat.lt_or_ge q en with y|y
   ·rw[e3 q p3 y]
    rcases hup with z|z|z
    ·omega
    ·omega
    ·exact hT.trans _ _ _ (W9 _ (en-1) (by omega) (by omega) (by omega)) (hT.trans _ _ _ z (WZ start _ ha (by omega) (by omega)))
   ·rw[e4 q y];exact W9 _ _ (by omega) (by omega) p4
theorem XG {a b i:Nat} {f g:Nat→α} (hT:Total c) (h2:eU c (a+1) b f) (ha:a+1≤i) (hi:i≤b) (hlo:∀k,a+1≤k→k<i→c (f k) (f a)≤0) (hup:∀k,i≤k→k<b→0≤c (f k) (f a)) (hg:Cj f a (a+1) i g):eU c a b g:=by
 obtain⟨g1,g2,g3⟩:=hg;have e1:∀k,a≤k→k<i-1→g k=f (k+1):=fun k p1 p2=>by have:=g1 (k-a) (by omega);rw[show a+(k-a)=k by omega] at this;rw[this];congr 1;omega
 have e2:g (i-1)=f a:=by have:=g2 0 (by omega);rw[show a+(i-(a+1))+0=i-1 by omega] at this;rw[this];rfl
 have e3:∀k,i≤k→g k=f k:=fun k hk=>g3 k (.inr hk)
 intro p q p1 p2 p3;rcases Nat.lt_or_ge q (i-1) with x|x
 ·rw[e1 p p1 (by omega),e1 q (by omega) x];exact h2 _ _ (by omega) (by omega) (by omega)
 ·rcases Nat.lt_or_ge q i with y|y
  ·obtain rfl:q=i-1:=by omega
   rw[e2,e1 p p1 p2];exact hlo _ (by omega) (by omega)
  ·rw[e3 q y]
   rcases Nat.lt_or_ge p (i-1) with z|z
   ·rw[e1 p p1 z];exact h2 _ _ (by omega) (by omega) p3
   ·rcases Nat.lt_or_ge p i with v|v
    ·obtain rfl:p=i-1:=by omega
     rw[e2];have:=hup q y p3;have:=hT.flip (f q) (f a);omega
    ·rw[e3 p v];exact h2 _ _ (by omega) p2 p3
theorem PD {a m i:Nat} {f g:Nat→α} (hT:Total c) (h1:eU c a m f) (ha:a≤i) (hi:i≤m) (hlo:∀k,a≤k→k<i→0≤c (f m) (f k)) (hup:∀k,i≤k→k<m→c (f m) (f k)≤0) (hg:Cj f i m (m+1) g):eU c a (m+1) g:=by
 obtain⟨g1,g2,g3⟩:=hg;have e1:∀k,k<i→g k=f k:=fun k hk=>g3 k (.inl hk)
 have e2:g i=f m:=g1 0 (by omega);have e3:∀k,i<k→k<m+1→g k=f (k-1):=fun k p1 p2=>by have:=g2 (k-(i+1)) (by omega);rw[show i+(m+1-m)+(k-(i+1))=k by omega] at this;rw[this];congr 1;omega
 intro p q p1 p2 p3;rcases Nat.lt_trichotomy q i with x|x|x
 ·rw[e1 p (by omega),e1 q x];exact h1 _ _ p1 p2 (by omega)
 ·subst x;rw[e2,e1 p p2];have:=hlo p p1 p2;have:=hT.flip (f m) (f p);omega
 ·rw[e3 q x p3]
  rcases Nat.lt_trichotomy p i with y|y|y
  ·rw[e1 p y];exact h1 _ _ p1 (by omega) (by omega)
  ·subst y;rw[e2];exact hup _ (by omega) (by omega)
  ·rw[e3 p y (by omega)];exact h1 _ _ (by omega) (by omega) (by omega)
structure La (c:α→α→Int) (a i j:Nat) (f:Nat→α):Prop where
 lo:eU c a j f
 hi:eU c j (i+1) f
 ac:∀p q,a≤p→p<j→j<q→q<i+1→c (f p) (f q)≤0
theorem La.start {a i:Nat} {f:Nat→α} (h:eU c a i f):La c a i i f:=⟨h,fun p q p1 p2 p3=>by omega,fun p q p1 p2 p3 p4=>by omega⟩
theorem La.step {a i j:Nat} {f:Nat→α} (h:La c a i j f) (h1:a<j) (h2:j≤i) (hlt:c (f j) (f (j-1))<0):La c a i (j-1) (uf f j (j-1)):=by
 have e1:∀k,k<j-1→uf f j (j-1) k=f k:=fun k hk=>by unfold uf;rw[if_neg (by omega),if_neg (by omega)]
 have e2:uf f j (j-1) (j-1)=f j:=by unfold uf;rw[if_neg (by omega),if_pos rfl]
 have e3:uf f j (j-1) j=f (j-1):=by unfold uf;rw[if_pos rfl]
 have e4:∀k,j<k→uf f j (j-1) k=f k:=fun k hk=>by unfold uf;rw[if_neg (by omega),if_neg (by omega)]
 refine⟨fun p q p1 p2 p3=>?_,fun p q p1 p2 p3=>?_,fun p q p1 p2 p3 p4=>?_⟩
 ·rw[e1 p (by omega),e1 q (by omega)];exact h.lo p q p1 p2 (by omega)
 ·rcases Nat.lt_trichotomy p j with x|x|x
  ·obtain rfl:p=j-1:=by omega
   rw[e2];rcases Nat.lt_trichotomy q j with y|y|y
   ·omega
   ·subst y;rw[e3];omega
   ·rw[e4 q y];exact h.hi j q (Nat.le_refl _) y p3
  ·subst x
   rw[e3,e4 q p2];exact h.ac (p-1) q (by omega) (by omega) p2 p3
  ·rw[e4 p x,e4 q (by omega)];exact h.hi p q (by omega) p2 p3
 ·rw[e1 p (by omega)]
  rcases Nat.lt_trichotomy q j with y|y|y
  ·omega
  ·subst y;rw[e3];exact h.lo p (q-1) p1 (by omega) (by omega)
  ·rw[e4 q y];exact h.ac p q p1 (by omega) y p4
theorem La.stop {a i j:Nat} {f:Nat→α} (hT:Total c) (h:La c a i j f) (h1:a≤j) (h2:j≤i) (hj:j=a∨0≤c (f j) (f (j-1))):eU c a (i+1) f:=WT hT h.lo h.hi h.ac hj h1 (by omega)
def DF (D:α→α→Prop) (n:Nat) (f:Nat→α):Prop:=∀i j,i<n→j<n→i≠j→D (f i) (f j)
theorem DF.sw1 {D:α→α→Prop} {n:Nat} {f:Nat→α} (h:DF D n f) {i j:Nat} (hi:i<n) (hj:j<n):DF D n (uf f i j):=by
 intro p q hp hq hne;unfold uf
 (repeat' split)<;>first|(exfalso;omega)|(apply h<;>omega)|skip
 all_goals (subst_vars;first|(exfalso;omega)|(apply h<;>omega))
theorem DF.sw {D:α→α→Prop} {n a b:Nat} {f g:Nat→α} (h:DF D n f) (hs:Sw a b f g) (hb:b≤n):DF D n g:=by
 induction hs with
 | refl=>exact h
 | step g' i j _ p1 p2 p3 p4 ih=>exact ih.sw1 (by omega) (by omega)
theorem DF.ZA {D:α→α→Prop} [Inhabited α] (hD:∀x y,D x y→D y x) {l:List α} (h:l.Pairwise D):DF D l.length fun i=>l.getD i default:=by
 intro i j hi hj hne;have hp:=List.pairwise_iff_getElem.1 h;simp only[List.getD_eq_getElem?_getD,List.getElem?_eq_getElem hi,List.getElem?_eq_getElem hj,Option.getD_some];rcases Nat.lt_or_ge i j with e|e
 ·exact hp i j hi hj e
 ·exact hD _ _ (hp j i hj hi (by omega))
theorem xU [Inhabited α] (l:List α):(List.range l.length).map (fun i=>l.getD i default)=l:=by
 apply List.ext_getElem
 ·simp
 ·intro i h1 h2
  simp[List.getElem?_eq_getElem h2]
end
end
section
section
variable {α:Type} {c:α→α→Int}
theorem Cj.up0 (f:Nat→α) (a:Nat):Cj f a (a+1) (a+1) f:=⟨fun t ht=>by omega,fun t ht=>by congr 1;omega,fun k _=>rfl⟩
theorem Cj.up {f g:Nat→α} {a k:Nat} (h:Cj f a (a+1) (k+1) g) (hk:a≤k):Cj f a (a+1) (k+2) (uf g k (k+1)):=by
 obtain⟨g1,g2,g3⟩:=h;have e2:g k=f a:=by have:=g2 0 (by omega);rw[show a+(k+1-(a+1))+0=k by omega] at this;exact this
 refine⟨fun t ht=>?_,fun t ht=>?_,fun x hx=>?_⟩
 ·unfold uf
  by_cases e:a+t=k
  ·rw[if_pos e,g3 (k+1) (.inr (Nat.le_refl _))];congr 1;omega
  ·rw[if_neg e,if_neg (by omega)];exact g1 t (by omega)
 ·unfold uf
  rw[if_neg (by omega),if_pos (by omega),e2];congr 1;omega
 ·unfold uf
  rw[if_neg (by omega),if_neg (by omega)];exact g3 x (by omega)
theorem Cj.down0 (f:Nat→α) (m:Nat):Cj f m m (m+1) f:=⟨fun t ht=>rfl,fun t ht=>by omega,fun k _=>rfl⟩
theorem Cj.down {f g:Nat→α} {m k:Nat} (h:Cj f k m (m+1) g) (h0:0<k) (hk:k≤m):Cj f (k-1) m (m+1) (uf g k (k-1)):=by
 obtain⟨g1,g2,g3⟩:=h;have e2:g k=f m:=g1 0 (by omega);refine⟨fun t ht=>?_,fun t ht=>?_,fun x hx=>?_⟩
 ·unfold uf
  rw[if_neg (by omega),if_pos (by omega),e2];congr 1;omega
 ·unfold uf
  by_cases e:k-1+(m+1-m)+t=k
  ·rw[if_pos e,g3 (k-1) (.inl (by omega))];congr 1;omega
  ·rw[if_neg e,if_neg (by omega)]
   have:=g2 (t-1) (by omega);rw[show k+(m+1-m)+(t-1)=k-1+(m+1-m)+t by omega] at this;rw[this];congr 1;omega
 ·unfold uf
  rw[if_neg (by omega),if_neg (by omega)];exact g3 x (by omega)
theorem Cj.none1 (f:Nat→α) (m b:Nat):Cj f m m b f:=⟨fun t _=>rfl,fun t ht=>by omega,fun k _=>rfl⟩
theorem Cj.none2 (f:Nat→α) (a m:Nat):Cj f a m m f:=⟨fun t ht=>by omega,fun t _=>by congr 1;omega,fun k _=>rfl⟩
structure Bs (c:α→α→Int) (lo hi i j:Nat) (f:Nat→α) (x:α):Prop where
 h1:lo≤i
 h2:i≤j
 h3:j≤hi
 lo:∀k,lo≤k→k<i→c (f k) x≤0
 up:∀k,j≤k→k<hi→0≤c (f k) x
theorem Bs.start {lo hi:Nat} (h:lo≤hi) (f:Nat→α) (x:α):Bs c lo hi lo hi f x:=⟨Nat.le_refl _,h,Nat.le_refl _,fun k p1 p2=>by omega,fun k p1 p2=>by omega⟩
theorem Bs.right {lo hi i j:Nat} {f:Nat→α} {x:α} (hT:Total c) (hs:eU c lo hi f) (h:Bs c lo hi i j f x) {m:Nat} (h1:i≤m) (h2:m<j) (hm:c (f m) x≤0):Bs c lo hi (m+1) j f x:=by
 refine⟨by have:=h.h1;omega,by omega,h.h3,fun k p1 p2=>?_,h.up⟩;rcases Nat.lt_or_ge k m with e|e
 ·exact hT.trans _ _ _ (hs k m p1 e (by have:=h.h3;omega)) hm
 ·obtain rfl:k=m:=by omega
  exact hm
theorem Bs.left {lo hi i j:Nat} {f:Nat→α} {x:α} (hT:Total c) (hs:eU c lo hi f) (h:Bs c lo hi i j f x) {m:Nat} (h1:i≤m) (h2:m<j) (hm:0≤c (f m) x):Bs c lo hi i m f x:=by
 refine⟨h.h1,h1,by have:=h.h3;omega,h.lo,fun k p1 p2=>?_⟩;rcases Nat.lt_or_ge m k with e|e
 ·have h3:=hs m k (by have:=h.h1;omega) e p2
  have h4:=hT.flip (f m) x;have h5:=hT.trans _ _ _ (show c x (f m)≤0 by omega) h3;have h6:=hT.flip (f k) x;omega
 ·obtain rfl:k=m:=by omega
  exact hm
end
end
section
open Go Go.RowKit
section
variable {P:Program} {W w:World} {A:aB}
theorem qG (s:ByteArray):Lib.strCells s=s.data.toList.map bv:=rfl
theorem yj (t u ty E:Nat) (i:TypeInfo) (ht:P.underlying t=some (.slice E)) (hu:P.underlying u=some .string) (hi:P.info? E=some i) (hz:i.zero=some (.int .u8 0))
 (hk:i.size=1) (hb:i.bytes=1) {a:Option Addr} {n c:Nat} {xs:List Value} (h:Sat W w (sep (aT E 1 a n c xs) A)) (s:ByteArray) (h63:n+s.size≤140737488355328):
 ∃a' c' w',(Builtin.append_ #[t,u] ty #[.slice a n c,.string s]).run P w=.ok (.slice a' (n+s.size) c') w'∧Sat W w' (sep (aT E 1 a' (n+s.size) c' (xs++s.data.toList.map bv)) A):=by
 have hsl:(s.data.toList.map bv).length=s.size:=by simp
 have hmx:n+s.size≤maxLen:=by unfold maxLen;omega
 rcases h.iD with ⟨rfl,rfl,rfl,rfl,h0⟩|⟨g,cur,rfl,hlen,hnc,hcm,hcs,htake,hS⟩
 ·by_cases hm:s.size=0
  ·have hn:s.data.toList.map bv=[]:=Ju (by rw[hsl];exact hm)
   refine⟨none,0,w,?_,by rw[hm,hn];exact h⟩;have hf:=Lib.run_firstCells_string (P:=P) w 1 s;rw[hm] at hf;simp[Builtin.append_,run_underlying ht,run_underlying hu,Go.sizeOf,typeInfo,hi,hk,Builtin.lenOf,hm,hf]
  ·have hr:=run_append_nil_string (P:=P) w t u ty E i (.int .u8 0) ht hu hi hz s (by omega) (by omega) (by rw[hb];omega)
   have e1:(s.data.map fun b=>Value.int .u8 b.toNat)=(s.data.toList.map bv).toArray:=by
    apply Array.ext';simp[bv]
   rw[e1] at hr;have hcap:=lZ w s.size 0 E (by omega);refine⟨_,_,_,by rw[Nat.zero_add];exact hr,?_⟩;refine ((h0.drew.alloc _).lJ (0+s.size) _ 1 ([]++s.data.toList.map bv) (by simp) (by omega) hcap.2 ?_ ?_)
   ·have hz1:(Value.int IntKind.u8 0).cells.size=1:=rfl
    simp only[Array.size_append,List.size_toArray,jh,hz1,hsl];omega
   ·simp
 ·simp only[Nat.mul_one] at hlen hcs htake
  by_cases hroom:n+s.size≤c
  ·have hr:=Lib.run_append_room_string (P:=P) w t u ty E i ht hu hi hk g n c cur hS.aO s hroom (by omega)
   refine⟨_,_,_,hr,(hS.setRow _).lJ (n+s.size) c 1 _ (by rw[dM,hlen,hsl];omega) hroom hcm ?_ ?_⟩
   ·simp only[qG,List.size_toArray,dM,List.length_take,List.length_drop,Array.length_toList,hsl]
    omega
   ·rw[qG,htake]
    have hl2:(xs++s.data.toList.map bv).length=(n+s.size)*1:=by rw[dM,hlen,hsl];omega
    rw[←hl2];exact List.take_left
  ·have hr:=Lib.run_append_grow_string (P:=P) w t u ty E i (.int .u8 0) ht hu hi hz ⟨g,0,none⟩ n c xs (by rw[hk];omega) (fun j u hu=>by
    obtain⟨g',e,hc⟩:=h.Ah (fun e=>by rw[e] at hu;simp at hu);cases e;have:=hc j u hu;unfold Addr.add;split
    ·rename_i e;subst e;exact this
    ·simpa using this) s (by omega) (by omega) (by rw[hb];exact growslice_fits (by omega) (by omega))
   have hcap:=lZ w (n+s.size) c E hmx;refine⟨_,_,_,hr,((hS.forget.drew).alloc _).lJ (n+s.size) _ 1 _ (by rw[dM,hlen,hsl];omega) hcap.1 hcap.2 ?_ ?_⟩
   ·have hz1:(Value.int IntKind.u8 0).cells.size=1:=rfl
    simp only[qG,Array.size_append,List.size_toArray,jh,hz1,hsl,hlen];omega
   ·have hl2:(xs++s.data.toList.map bv).length=(n+s.size)*1:=by rw[dM,hlen,hsl];omega
    rw[←hl2,qG];simp only[Array.toList_append,kZ];rw[←kZ];exact List.take_left
theorem yx {ops:Array Oper} {rest:List Oper} {o:Oper} {ac:Act} {Q:Exit→Act→World→Prop} (hgd:o.guard=none) (sl y:Operand) (t u:TypeId)
 (ho:o.op=.call { callee:=.builtin .append,args:=#[sl,y],argTypes:=#[t,u] })
 (E:Nat) (ht:P.underlying t=some (.slice E)) (hu:P.underlying u=some .string) (hi:(P.info? E).map (fun i=>(i.zero,i.size,i.bytes))=some (some (.int .u8 0),1,1))
 {a:Option Addr} {n c:Nat} {xs:List Value} (hs:ac.eval sl=.slice a n c) (h:Sat W w (sep (aT E 1 a n c xs) A))
 (s:ByteArray) (hy:ac.eval y=.string s) (h63:n+s.size≤140737488355328)
 (hK:∀a' c' w',Sat W w' (sep (aT E 1 a' (n+s.size) c' (xs++s.data.toList.map bv)) A)→wpList P ops Q rest (ac.put o.dst (.slice a' (n+s.size) c')) w'):wpList P ops Q (o::rest) ac w:=by
 obtain⟨i,hi1,hi2,hi3,hi4⟩:=info_parts hi;obtain⟨a',c',w',hr,hS⟩:=yj t u o.type E i ht hu hi1 hi2 hi3 hi4 h s h63;refine wpList_plain hgd fun _ hk=>Au ?_ (hk _ _ (hK _ _ _ hS))
 simp only[execOp,ho,resolve,invoke,builtin];simp[hs,hy,hr]
end
end
section
open Go Go.RowKit
section
variable {W w:World} {A:aB}
end
end
end PA
namespace Go.Proofs.YthfmaclnccdcbaaGreatDoor
open Go.RowKit PA
theorem Hu {a:Int} (h:(Lit.int .i64 a).wf=true):-9223372036854775808≤a∧a≤9223372036854775807:=bounds_i64 h
def jT (n m:Int):Int:=(if n<0 then -(n+1) else n) % m
theorem rY (n m:Int) (h:0<m):0≤jT n m∧jT n m<m:=by
 unfold jT;exact⟨Int.emod_nonneg _ (by omega),Int.emod_lt_of_pos _ h⟩
theorem SB {a b:Int} (h:a=b):Ending.returned (.int .i64 a)=.returned (.int .i64 b):=by rw[h]
theorem Xu {a b:Bool} (h:a=b):Ending.returned (.bool a)=.returned (.bool b):=by rw[h]
set_option maxHeartbeats 400000 in
theorem lX (n m:Int) (w:World) (hn:-9223372036854775808≤n) (hn2:n≤9223372036854775807) (hm:1≤m) (hm2:m≤9223372036854775807):
 Calls Tryz.prog 16 #[.int .i64 n,.int .i64 m] w fun e w'=>e=.returned (.int .i64 (jT n m))∧w=w':=by
 by_cases h:n<0
 ·go_enter Tryz.func16,Tryz.ntmps16
  go_wp2;go_ret;exact⟨SB (by unfold jT;rw[if_pos h,←Int.neg_tmod,Int.tmod_eq_emod_of_nonneg (by omega)]),rfl⟩
 ·go_enter Tryz.func16,Tryz.ntmps16
  go_wp2;go_ret;exact⟨SB (by unfold jT;rw[if_neg (by omega)]),rfl⟩
theorem Rn {bs:List UInt8} {i:Nat} (h:i<bs.length):(bs.map bv)[i]?=some (.int .u8 (bs[i].toNat:Int)):=by
 rw[List.getElem?_map,iM h];rfl
set_option maxHeartbeats 1000000 in
theorem Fq {W w:World} {A:aB} (v u:Value) (x y:List UInt8) (h:Sat W w (sep (bZ.is [v] x) (sep (bZ.is [u] y) A))):
 Calls Tryz.prog 71 #[v,u] w fun e w'=>e=.returned (.bool (decide (x=y)))∧Sat W w' (sep (bZ.is [v] x) (sep (bZ.is [u] y) A)):=by
 obtain⟨a,c,rfl,hw1,hx⟩:=h.DU;obtain⟨b',d,rfl,hw2,hy⟩:=h.p1.DU;have hl1:(x.length:Int)≤9223372036854775807:=by have:=hw1.1;have:=hw1.2.1;unfold maxLen at this;omega
 have hl2:(y.length:Int)≤9223372036854775807:=by have:=hw2.1;have:=hw2.2.1;unfold maxLen at this;omega
 obtain⟨nx,hnx⟩:=aC (x.length);obtain⟨ny,hny⟩:=aC (y.length);rw[←hnx] at hl1 hw1;rw[←hny] at hl2 hw2;have HX:=ah hx;have HY:=ah hy;have rP:=ah hnx;have HNY:=ah hny;rw[←hnx,←hny] at h;have H:=ah h;rw[←hnx,←hny];clear h hx hy hw1 hw2;by_cases hne:nx=ny
 ·subst hne
  clear hnx hny;go_enter Tryz.func71,Tryz.ntmps71;go_wp2;go_loopw [5] (fun i wr=>∃k:Nat,k≤nx∧i=.int .i64 k∧x.take k=y.take k∧∃n,wr=w.drewN n) (fun i _=>nx-(intOf i).toNat)
  case atStart=>exact⟨0,Nat.zero_le _,rfl,rfl,0,rfl⟩
  case round=>
   obtain⟨k,hk,rfl,htk,nd,rfl⟩:=hrel;have HT:=ah htk;clear htk;by_cases hlt:k<nx
   ·have k1:k<x.length:=by have:=rP.out;omega
    have k2:k<y.length:=by have:=HNY.out;omega
    obtain⟨b1,o1,rfl,hc1⟩:=HX.out.Qy (by intro e;have:=congrArg List.length e;rw[List.length_map,List.length_nil] at this;omega);obtain⟨b2,o2,rfl,hc2⟩:=HY.out.Qy (by intro e;have:=congrArg List.length e;rw[List.length_map,List.length_nil] at this;omega);have g1:=hc1 k _ (Rn k1);have g2:=hc2 k _ (Rn k2);clear hc1 hc2;by_cases hxy:x[k]=y[k]
    ·have b1:((x[k].toNat:Int) !=(y[k].toNat:Int))=false:=by rw[hxy];simp
     have UR:=ah hxy;clear hxy;go_wp2_with fail;refine aG rfl (fun _=>True) [(0,.p),(1,.p),(2,.p),(3,.t),(4,.p),(5,.p),(6,.p),(7,.t),(8,.p)] (by kernel_rfl) ?_;have hS0:True:=trivial;refine bG ?_;refine dJ ?_;go_wp2;go_roundw;case rel=>exact⟨k+1,by omega,by go_num,by rw[List.take_succ_eq_append_getElem k1,List.take_succ_eq_append_getElem k2,HT.out,UR.out],nd+1,rfl⟩
     case measure=>simp[intOf];omega
    ·have b1:((x[k].toNat:Int) !=(y[k].toNat:Int))=true:=by simp;intro e;exact hxy (UInt8.toNat_inj.1 (by exact_mod_cast e))
     have UR:=ah hxy;clear hxy;go_wp2_with fail;refine aG rfl (fun _=>True) [(0,.p),(1,.p),(2,.p),(3,.t),(4,.p),(5,.p),(6,.p),(7,.t),(8,.p)] (by kernel_rfl) ?_;have hS0:True:=trivial;refine bG ?_;refine dJ ?_;go_wp2;go_ret;refine⟨Xu (Eq.symm (decide_eq_false (fun e=>UR.out (by subst e;rfl)))),H.out.alike rfl rfl rfl rfl⟩
   ·go_wp2
    go_ret;have hkn:k=nx:=by omega
    refine⟨Xu (Eq.symm (decide_eq_true ?_)),H.out.alike rfl rfl rfl rfl⟩;have:=HT.out;rw[hkn] at this;rw[List.take_of_length_le (by have:=rP.out;omega),List.take_of_length_le (by have:=HNY.out;omega)] at this;exact this
 ·have b1:((nx:Int) !=(ny:Int))=true:=by simp;omega
  go_enter Tryz.func71,Tryz.ntmps71;go_wp2;go_ret;refine⟨Xu (Eq.symm (decide_eq_false (fun e=>hne ?_))),H.out⟩;rw[rP.out,HNY.out,e]
end Go.Proofs.YthfmaclnccdcbaaGreatDoor
namespace PA
open Go Go.RowKit
theorem Sat.putObj {W w:World} {A:aB} {l:Nat} {o:Obj} (h:Sat W w (sep (blk l o) A)) (o':Obj):Sat W (w.putObj l o') (sep (blk l o') A):=
 h.change rfl rfl rfl (World.putObj_heap_same h.lt) fun _ hk _=>World.putObj_heap_other hk
section
variable {α:Type} {F:Fence} {P:Program}
def Takes (F:Fence) (n:Nat) (P:Program) (W:World) (l:Nat) (encs:α→Array Value) (Fx:α→aB) (N:Nat) (R:List α→aB):Prop:=
 ∀(pre:List α) (x:α) (w:World) (B:aB),pre.length<N→Sat W w (sep (R pre) (sep (Fx x) B)) →
  YieldAt F n P l (encs x) w fun e w'=>e=.returned (.bool true)∧Sat W w' (sep (R (pre++[x])) B)
def Gives (F:Fence) (n:Nat) (P:Program) (W:World) (gf:Nat) (lb:Array Value) (encs:α→Array Value) (Fx:α→aB) (N:Nat) (S:List α→Prop) (Pre Post:aB):Prop:=
 ∀(l:Nat) (R:List α→aB) (w:World),Takes F (n-1) P W l encs Fx N R→Sat W w (sep (R []) Pre) →
  CallsIn F n P gf (#[.func (.yield l) #[] #[]]++lb) w fun e w'=>(∃v,e=.returned v)∧∃xs,S xs∧Sat W w' (sep (R xs) Post)
def Round (W:World) (A:aB):Exit→Act→World→Prop
 | .normal,_,w=>Sat W w A
 | _,_,_=>False
theorem Cb {F:Fence} {n':Nat} {P:Program} {W w:World} {A:aB} {ops:Array Oper} {rest:List Oper} {o:Oper} {ac:Act} {Q:Exit→Act→World→Prop} (hgd:o.guard=none) (s y:Operand) (t:TypeId)
 (ho:o.op=.call { callee:=.builtin .append,args:=#[s,y],argTypes:=#[t,t] })
 (E k KN:Nat) (z:Value) (ht:P.underlying t=some (.slice E)) (hi:(P.info? E).map (fun i=>(i.zero,i.size,i.bytes))=some (some z,k,KN)) (hzs:z.cells.size=k)
 {a:Option Addr} {n c:Nat} {xs:List Value} (hs:ac.eval s=.slice a n c) (h:Sat W w (sep (aT E k a n c xs) A))
 {x:Option Addr} {m cc:Nat} (hy:ac.eval y=.slice x m cc) (news:List Value) (hl:news.length=m*k) (hx0:x=none→m=0) (hx:∀b,x=some b→∀j u,news[j]?=some u→w.cell? (b.add j)=some u)
 (h1:∀u∈news,u.oneCell'=true) (hby:(n+m)*KN≤140737488355328) (h63:n+m≤maxLen)
 (hK:∀a' c' w',Sat W w' (sep (aT E k a' (n+m) c' (xs++news)) A)→wpListIn F n' P ops Q rest (ac.put o.dst (.slice a' (n+m) c')) w'):wpListIn F n' P ops Q (o::rest) ac w:=by
 refine wpListIn_plain hgd fun K hK'=>?_
 obtain⟨i,hi1,hi2,hi3,hi4⟩:=info_parts hi;obtain⟨a',c',w',hr,hS⟩:=pq t o.type E k KN i z ht hi1 hi2 hi3 hi4 hzs h x m cc news hl hx0 hx h1 h63 hby;unfold Oper.wpIn;refine⟨?_,?_⟩
 ·simp[Oper.about,ho,resolve,Target.leads,Sem.run_pure]
 ·rw[Oper.semAt_plain F _ _ (by rw[ho];intro c hc';cases hc')]
  rw[qg s y t t ho (by rw[hs,hy];exact hr)];exact hK' _ _ (hK a' c' w' hS)
end
end PA
