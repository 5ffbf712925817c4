/- Part of a proof. -/
import Derived.Test.YtgicfogmdfdjmaaGreatDoorGTitleOwners1
namespace Go.Proofs.YtgicfogmdfdjmaaGreatDoor
open Go.RowKit PA
def Dc (S:lC):Int→Option Value:=fun k=>(S k).map QN
theorem zi (S:lC) (p:Int) (r:Rt):qj (Dc S) p (some (QN r))=Dc (iQ S p r):=by
 funext x
 unfold qj Dc iQ
 split<;>rfl
def mJ (p:Nat) (app:Int) (S:lC):aH:=ex fun bn:Nat×Nat=>sep (blk p (.cells #[.int .i64 app,.map (some bn.1)] 78 (0,0))) (jO bn.1 (Dc S) bn.2)
section
variable {W w:World} {A:aH} {p:Nat} {app:Int} {S:lC}
theorem Ae (h:Sat W w (sep (mJ p app S) A)):∃b n,Sat W w (sep (blk p (.cells #[.int .i64 app,.map (some b)] 78 (0,0))) (sep (jO b (Dc S) n) A)):=by
 rw[mJ,dG,Sat.ex] at h
 obtain⟨⟨b,n⟩,h⟩:=h
 rw[aj] at h
 exact⟨b,n,h⟩
theorem Af {b n:Nat} (h:Sat W w (sep (blk p (.cells #[.int .i64 app,.map (some b)] 78 (0,0))) (sep (jO b (Dc S) n) A))):Sat W w (sep (mJ p app S) A):=by
 rw[mJ,dG,Sat.ex]
 exact⟨(b,n),by rw[aj];exact h⟩
theorem rO (w:World):(zeroValue 57).run Tryz.prog w=.ok (.agg #[.int .i64 0,.int .i64 0]) w:=by kernel_rfl
set_option maxHeartbeats 1000000 in
theorem uj (x:Int) (h:Sat W w (sep (mJ p app S) A)):
 Calls Tryz.prog 29 #[.pointer (some ⟨p,0,none⟩),.int .i64 x] w fun e w'=>e=.returned (.agg #[.int .i64 (aS S x).n,.int .i64 (aS S x).d])∧Sat W w' (sep (mJ p app S) A):=by
 obtain⟨b,n,h0⟩:=Ae h
 obtain⟨r,hr⟩:=aG (aS S x)
 rw[←hr]
 have h1:=h0.alloc (.cells #[.int .i64 0,.int .i64 0] 57)
 obtain⟨B,hB⟩:=aG (w.heap.size)
 obtain⟨w1,hw1⟩:=aG (w.alloc (.cells #[.int .i64 0,.int .i64 0] 57))
 have hsz:w1.heap.size=B+1:=by rw[hw1,World.size_alloc,hB]
 rw[←hB,←hw1] at h1
 have c1:w1.cell? ⟨p,1,none⟩=some (.map (some b)):=h1.p1.cell 1
 have hlk:=oP (P:=Tryz.prog) (T:=76) Tryz.underlying76 Tryz.underlying3 rO h1.p2 x true
 have HB:=ah hB
 have HW1:=ah hw1
 have HR:=ah hr
 clear hB hw1 h h0 hr
 cases e:S x with
 | some rr=>
  obtain⟨rn,rd⟩:=rr
  have hval:Dc S x=some (.agg #[.int .i64 rn,.int .i64 rd]):=by unfold Dc;rw[e];rfl
  rw[hval] at hlk
  have hlk2:(Instr.lookup 76 (.map (some b)) (.int .i64 x) true).run Tryz.prog w1=.ok (.tuple #[.agg #[.int .i64 rn,.int .i64 rd],.bool true]) w1:=hlk
  have gu:r=⟨rn,rd⟩:=by rw[HR.out];unfold aS;rw[e];rfl
  have dN:=ah gu
  have h2:=h1.alloc (.cells #[.int .i64 rn,.int .i64 rd] 57)
  rw[hsz] at h2
  obtain⟨w2,hw2⟩:=aG (w1.alloc (.cells #[.int .i64 rn,.int .i64 rd] 57))
  rw[←hw2] at h2
  obtain⟨j0,j1,-,-⟩:=gQ h2
  obtain⟨k0,k1,k2,k3⟩:=gQ h2.p1
  have h4:=fF h2.p1 (.int .i64 rn) (.int .i64 rd)
  obtain⟨w4,hw4⟩:=aG ((w2.setCell ⟨B,0,none⟩ (.int .i64 rn)).setCell ⟨B,1,none⟩ (.int .i64 rd))
  rw[←hw4] at h4
  obtain⟨d0,d1,-,-⟩:=gQ h4
  have HW2:=ah hw2
  have wH:=ah hw4
  have Fa:=ah hsz
  have h5:=Af (S:=S) (h4.forget.forget)
  clear hw2 hw4 hlk hval gu e h1 h2 h4 hsz
  go_enter Tryz.func29,Tryz.ntmps29
  go_upto_region 1 with (fail)
  rw[←HB.out,←HW1.out]
  go_upto_region 2 with (fail)
  rw[Fa.out,←HW2.out]
  go_wp2
  rw[←wH.out]
  exact bodyPost_ret (v:=.agg #[.int .i64 rn,.int .i64 rd]) (by simp[results,Tryz.results29,go_sem,d0,d1]) rfl ⟨by rw[dN.out],h5⟩
 | none=>
  have hval:Dc S x=none:=by unfold Dc;rw[e];rfl
  rw[hval] at hlk
  have hlk2:(Instr.lookup 76 (.map (some b)) (.int .i64 x) true).run Tryz.prog w1=.ok (.tuple #[.agg #[.int .i64 0,.int .i64 0],.bool false]) w1:=hlk
  have gu:r=⟨0,1⟩:=by rw[HR.out];unfold aS;rw[e];rfl
  have dN:=ah gu
  have h2:=h1.alloc (.cells #[.int .i64 0,.int .i64 0] 57)
  rw[hsz] at h2
  obtain⟨w2,hw2⟩:=aG (w1.alloc (.cells #[.int .i64 0,.int .i64 0] 57))
  rw[←hw2] at h2
  obtain⟨k0,k1,k2,k3⟩:=gQ h2.p1
  have h4:=fF h2.p1 (.int .i64 0) (.int .i64 1)
  obtain⟨w4,hw4⟩:=aG ((w2.setCell ⟨B,0,none⟩ (.int .i64 0)).setCell ⟨B,1,none⟩ (.int .i64 1))
  rw[←hw4] at h4
  obtain⟨d0,d1,-,-⟩:=gQ h4
  have HW2:=ah hw2
  have wH:=ah hw4
  have Fa:=ah hsz
  have h5:=Af (S:=S) (h4.forget.forget)
  clear hw2 hw4 hlk hval gu e h1 h2 h4 hsz
  go_enter Tryz.func29,Tryz.ntmps29
  go_upto_region 1 with (fail)
  rw[←HB.out,←HW1.out]
  go_upto_region 2 with (fail)
  rw[Fa.out,←HW2.out]
  go_wp2
  rw[←wH.out]
  exact bodyPost_ret (v:=.agg #[.int .i64 0,.int .i64 1]) (by simp[results,Tryz.results29,go_sem,d0,d1]) rfl ⟨by rw[dN.out],h5⟩
end
end Go.Proofs.YtgicfogmdfdjmaaGreatDoor
namespace PA
open Go Go.RowKit
inductive It where
 | one (i:Nat) (k:Kd)
 | grp (b:Bool) (E:List Nat)
def It.fl:It→List (Nat×Kd)
 | .one i k=>[(i,k)]
 | .grp b E=>E.map fun i=>(i,.inl b)
def fls (l:List It):List (Nat×Kd):=l.flatMap It.fl
section
variable {P:Program} {ops:Array Oper} {Q:Exit→Act→World→Prop} {S:World→Prop}
structure InvI (ops:Array Oper) (bf:Array Nat) (listed:Array Bool) (l:List It):Prop where
 size:listed.size=ops.size
 mem:∀i,i∈(fls l).map (·.1)↔i<ops.size∧listed.getD i true=false
 nodup:((fls l).map (·.1)).Nodup
 pair:l.Pairwise fun x y=>∀u∈x.fl,∀v∈y.fl,dA ops bf u v=true
 dep:(fls l).Pairwise fun x y=>jD ops x.1 y.1=false
 self:∀x∈fls l,jD ops x.1 x.1=false
 closed:∀d r,r<ops.size→listed.getD d false=true→(bf.getD d 0).testBit r=true→listed.getD r false=true
def QF (ops:Array Oper):List (Nat×Kd)→Bool
 | []=>true
 | x::l=>!jD ops x.1 x.1&&l.all (fun y=>!jD ops x.1 y.1)&&QF ops l
theorem EZ:∀(l:List (Nat×Kd)),QF ops l=true→(l.Pairwise fun x y=>jD ops x.1 y.1=false)∧∀x∈l,jD ops x.1 x.1=false
 | [],_=>⟨.nil,fun _ h=>(by cases h)⟩
 | x::l,h=>by
  simp only[QF,Bool.and_eq_true,List.all_eq_true,Bool.not_eq_true'] at h
  have ih:=EZ l h.2
  refine⟨List.pairwise_cons.2 ⟨fun y hy=>h.1.2 y hy,ih.1⟩,fun y hy=>?_⟩
  rcases List.mem_cons.1 hy with rfl|hy
  ·exact h.1.1
  ·exact ih.2 y hy
variable {i:Nat} {l:List It} {a:Act} {w:World} {o:Oper} {v:Value} {K:Act→World→Prop}
end
end PA
namespace PA
open Go Go.RowKit
section
variable {P:Program} {ops:Array Oper} {Q:Exit→Act→World→Prop} {S:World→Prop} {W:World}
def gX (P:Program) (ops:Array Oper) (W:World) (o:Oper) (a:Act) (Pre:aH) (Post:Value→aH):Prop:=
 Region.wanted o (yielded ops a.tmps)=true∧∀(w:World) (A:aH),Sat W w (sep Pre A) →
  (∃v w',(execOp a.eval o).run P w=.ok (.value v) w'∧Sat W w' (sep (Post v) A)) ∨
  (∃f args w1,(execOp a.eval o).run P w=.ok (.enter f args) w1∧Calls P f args w1 fun e w'=>∃v,e=.returned v∧Sat W w' (sep (Post v) A))
theorem gX.put {o:Oper} {a:Act} {Pre:aH} {Post:Value→aH} (h:gX P ops W o a Pre Post) (hs:∀cs b,o.op≠.select cs b) {d:Option Tmp} (hd:∀t,d=some t→t∉o.looksAt ops) (v:Value):gX P ops W o (a.put d v) Pre Post:=by
 unfold gX at *
 rw[execOp_put o hs a d v hd,wanted_put o a d v hd]
 exact h
theorem gX.wpOp {i:Nat} {o:Oper} {a:Act} {Pre:aH} {Post:Value→aH} (ho:ops[i]?=some o) (h:gX P ops W o a Pre Post) {w:World} {A:aH} (hw:Sat W w (sep Pre A)) {K:Act→World→Prop}
 (hK:∀v w',Sat W w' (sep (Post v) A)→K (a.put o.dst v) w'):Go.wpOp P ops Q i K a w:=by
 unfold Go.wpOp
 simp only[ho,h.1,if_true]
 refine .inl ?_
 unfold Oper.wp
 rcases h.2 w A hw with ⟨v,w',h1,h2⟩|⟨f,args,w1,h1,h2⟩
 ·rw[h1];exact hK v w' h2
 ·rw[h1]
  refine Calls.mono h2 ?_
  rintro e w' ⟨v,rfl,h3⟩
  exact hK v w' h3
def aY (ops:Array Oper) (i:Nat):Option Tmp:=(ops[i]?).bind (·.dst)
def puts (ops:Array Oper) (l:List (Nat×Value)) (a:Act):Act:=l.foldl (fun a x=>a.put (aY ops x.1) x.2) a
theorem dF (l m:List (Nat×Value)) (a:Act):puts ops (l++m) a=puts ops m (puts ops l a):=by simp[puts]
def apartB (ops:Array Oper) (i j:Nat):Bool:=match ops[i]?,ops[j]? with|some o,some u=>o.apart ops u|_,_=>false
theorem lV {i j:Nat} (h:apartB ops i j=true):(∀d,aY ops i=some d→aY ops j≠some d)∧(∀d,aY ops j=some d→aY ops i≠some d):=by
 unfold apartB at h
 unfold aY
 cases hi:ops[i]? with
 | none=>rw[hi] at h;cases h
 | some o=>
  cases hj:ops[j]? with
  | none=>rw[hi,hj] at h;cases h
  | some u=>
   rw[hi,hj] at h
   obtain⟨h1,h2,h3⟩:=Oper.apart_spec h
   exact⟨fun d hd=>h2 d hd,fun d hd he=>h2 d he hd⟩
theorem DX {i:Nat} (v:Value):∀(l:List (Nat×Value)),(∀x∈l,apartB ops i x.1=true)→∀a:Act,puts ops l (a.put (aY ops i) v)=(puts ops l a).put (aY ops i) v
 | [],_,_=>rfl
 | x::l,h,a=>by
  show puts ops l ((a.put (aY ops i) v).put (aY ops x.1) x.2)=(puts ops l (a.put (aY ops x.1) x.2)).put (aY ops i) v
  rw[Act.put_comm a v x.2 (lV (h x (by simp))).1,DX v l (fun y hy=>h y (by simp[hy]))]
theorem uf (l:List (Nat×Value)):∀(m:List (Nat×Value)),(∀x∈m,∀y∈l,apartB ops x.1 y.1=true)→∀a:Act,puts ops l (puts ops m a)=puts ops m (puts ops l a)
 | [],_,_=>rfl
 | x::m,h,a=>by
  show puts ops l (puts ops m (a.put (aY ops x.1) x.2))=puts ops m ((puts ops l a).put (aY ops x.1) x.2)
  rw[uf l m (fun y hy=>h y (by simp[hy])),DX x.2 l (h x (by simp))]
theorem gX.puts {o:Oper} {i:Nat} {Pre:aH} {Post:Value→aH} (ho:ops[i]?=some o) (hs:∀cs b,o.op≠.select cs b):∀(l:List (Nat×Value)),(∀x∈l,apartB ops x.1 i=true∨apartB ops i x.1=true)→∀{a:Act},gX P ops W o a Pre Post→gX P ops W o (puts ops l a) Pre Post
 | [],_,_,h=>h
 | x::l,hl,a,h=>by
  refine gX.puts ho hs l (fun y hy=>hl y (by simp[hy])) (h.put hs ?_ x.2)
  intro t ht
  unfold aY at ht
  cases hx:ops[x.1]? with
  | none=>rw[hx] at ht;cases ht
  | some u=>
   rw[hx] at ht
   rcases hl x (by simp) with h1|h1
   ·unfold apartB at h1
    rw[hx,ho] at h1
    exact (Oper.apart_spec h1).1 t ht
   ·unfold apartB at h1
    rw[hx,ho] at h1
    exact (Oper.apart_spec h1).2.2 t ht
structure Thr where
 ids:List Nat
 A:List Value→aH
structure St where
 dn:List (Nat×Value)
 td:List Nat
 A:List Value→aH
def St.now (s:St):aH:=s.A (s.dn.map (·.2))
def mG (ops:Array Oper) (W:World) (a0:Act) (K:Act→World→Prop):List Thr→List (Nat×Value)→aH→Prop
 | [],D,B=>∀w,Sat W w B→K (puts ops D a0) w
 | t::ts,D,B=>∀dn:List (Nat×Value),dn.map (·.1)=t.ids→mG ops W a0 K ts (D++dn) (sep (t.A (dn.map (·.2))) B)
def Ko (ops:Array Oper) (l m:List Nat):Prop:=∀i∈l,∀j∈m,apartB ops i j=true
def St.all (s:St):List Nat:=s.dn.map (·.1)++s.td
def MX (ops:Array Oper) (l m:List Nat):Bool:=l.all fun i=>m.all fun j=>apartB ops i j
def vk (ops:Array Oper):List (List Nat)→Bool
 | []=>true
 | l::ls=>ls.all (MX ops l)&&vk ops ls
end
end PA
namespace PA
open Go Go.RowKit
inductive ig where
 | one (i:Nat) (k:Kd)
 | grp (b:Bool) (E:List (Nat×List Nat))
def mF (b:Bool) (x:Nat×List Nat):List (Nat×Kd):=(x.1,.inl b)::x.2.map fun j=>(j,.inr none)
def ig.fl:ig→List (Nat×Kd)
 | .one i k=>[(i,k)]
 | .grp b E=>E.flatMap (mF b)
def bU (l:List ig):List (Nat×Kd):=l.flatMap ig.fl
theorem iF (x:ig) (l:List ig):bU (x::l)=x.fl++bU l:=by simp[bU]
theorem dY (l m:List ig):bU (l++m)=bU l++bU m:=by simp[bU]
def wpT (P:Program) (ops:Array Oper) (K:Act→World→Prop):List Nat→Act→World→Prop
 | [],a,w=>K a w
 | j::js,a,w=>∃o,ops[j]?=some o∧∃v,(∀w',Oc P ops o v a w')∧wpT P ops K js (a.put o.dst v) w
def tZ (P:Program) (ops:Array Oper) (Q:Exit→Act→World→Prop) (S:World→Prop) (b:Bool):Nat→List (Nat×List Nat)→(Act→World→Prop)→Act→World→Prop
 | 0,_,K,a,w=>K a w
 | n+1,E,K,a,w=>∀x∈E,(E.all fun r=>!((Region.before ops).getD x.1 0).testBit r.1)=true →
  wpOp P ops Q x.1 (fun a' w'=>(b=true→S w')∧wpT P ops (tZ P ops Q S b n (E.erase x) K) x.2 a' w') a w
def jG (P:Program) (ops:Array Oper) (Q:Exit→Act→World→Prop) (S:World→Prop):List ig→(Act→World→Prop)→Act→World→Prop
 | [],K,a,w=>K a w
 | .one i k::l,K,a,w=>∃o,ops[i]?=some o∧match k with
  | .inr none=>∃v,(∀w',Oc P ops o v a w')∧jG P ops Q S l K (a.put o.dst v) w
  | .inr (some true)=>S w∧∃v,(∀w',S w'→Oc P ops o v a w')∧jG P ops Q S l K (a.put o.dst v) w
  | .inr (some false)=>∃v,Oc P ops o v a w∧jG P ops Q S l K (a.put o.dst v) w
  | .inl b=>wpOp P ops Q i (fun a' w'=>(b=true→S w')∧jG P ops Q S l K a' w') a w
 | .grp b E::l,K,a,w=>tZ P ops Q S b E.length E (jG P ops Q S l K) a w
def okGB (ops:Array Oper) (bf:Array Nat) (b:Bool) (E:List (Nat×List Nat)):Bool:=
 E.all (fun x=>x.2.all (fun j=>(bf.getD j 0).testBit x.1))&&E.all (fun x=>yu ops bf (x.2.map fun j=>(j,(.inr none:Kd)))) &&
 E.all (fun x=>E.all fun y=>x==y||x.2.all fun u=>(mF b y).all fun v=>dA ops bf (u,.inr none) v)
section
variable {P:Program} {ops:Array Oper} {Q:Exit→Act→World→Prop} {S:World→Prop}
structure okG (ops:Array Oper) (bf:Array Nat) (b:Bool) (E:List (Nat×List Nat)):Prop where
 own:∀x∈E,∀j∈x.2,(bf.getD j 0).testBit x.1=true
 seq:∀x∈E,x.2.Pairwise fun u v=>dA ops bf (u,.inr none) (v,.inr none)=true
 other:∀x∈E,∀y∈E,x≠y→∀u∈x.2,∀v∈mF b y,dA ops bf (u,.inr none) v=true
theorem zU {bf:Array Nat}:∀(js:List Nat),yu ops bf (js.map fun j=>(j,(.inr none:Kd)))=true→js.Pairwise fun u v=>dA ops bf (u,.inr none) (v,.inr none)=true
 | [],_=>.nil
 | j::js,h=>by
  simp only[List.map_cons,yu,Bool.and_eq_true,List.all_eq_true] at h
  refine List.pairwise_cons.2 ⟨fun y hy=>h.1.1 _ (List.mem_map.2 ⟨y,hy,rfl⟩),zU js h.2⟩
theorem UO {bf:Array Nat} {b:Bool} {E:List (Nat×List Nat)} (h:okGB ops bf b E=true):okG ops bf b E:=by
 simp only[okGB,Bool.and_eq_true,List.all_eq_true,Bool.or_eq_true,beq_iff_eq] at h
 obtain⟨⟨h1,h2⟩,h3⟩:=h
 refine⟨h1,fun x hx=>zU _ (h2 x hx),fun x hx y hy hne u hu v hv=>?_⟩
 rcases h3 x hx y hy with e|h
 ·exact absurd e hne
 ·exact h u hu v hv
theorem okG.erase {bf:Array Nat} {b:Bool} {E:List (Nat×List Nat)} (h:okG ops bf b E) (x:Nat×List Nat):okG ops bf b (E.erase x):=
 ⟨fun y hy=>h.own y (List.mem_of_mem_erase hy),fun y hy=>h.seq y (List.mem_of_mem_erase hy),fun y hy z hz=>h.other y (List.mem_of_mem_erase hy) z (List.mem_of_mem_erase hz)⟩
theorem QE (l:List ig) (K:Act→World→Prop):∀(js:List Nat) (a:Act) (w:World),wpT P ops (jG P ops Q S l K) js a w→jG P ops Q S (js.map (fun j=>.one j (.inr none))++l) K a w
 | [],_,_,h=>h
 | j::js,a,w,h=>by
  obtain⟨o,ho,v,hy,h⟩:=h
  exact⟨o,ho,v,hy,QE l K js _ w h⟩
theorem jV (l m:List ig) (K:Act→World→Prop):jG P ops Q S (l++m) K=jG P ops Q S l (jG P ops Q S m K):=by
 induction l with
 | nil=>rfl
 | cons x l ih=>
  funext a w
  cases x with
  | one i k=>rcases k with b|_|_|_<;>simp only[List.cons_append,jG,ih]
  | grp b E=>simp only[List.cons_append,jG,ih]
theorem wV {K:Act→World→Prop}:∀(l:List ig),bU l=[]→∀(a:Act) (w:World),jG P ops Q S l K a w→K a w
 | [],_,_,_,h=>h
 | .one i k::l,he,_,_,_=>by simp[iF,ig.fl] at he
 | .grp b E::l,he,a,w,h=>by
  rw[iF,List.append_eq_nil_iff] at he
  have hE:E=[]:=by
   cases E with
   | nil=>rfl
   | cons x E=>have:=he.1;simp[ig.fl,mF] at this
  subst hE
  exact wV l he.2 a w h
theorem DW {j:Nat} {kj:Kd} {oj:Oper} {bf:Array Nat} (hj:ops[j]?=some oj) (hsel:∀(j:Nat) (o:Oper) cs b,ops[j]?=some o→o.op≠.select cs b) (hQ:∀c a d v w,Q (.panic c) (a.put d v) w→Q (.panic c) a w)
 (T T':Act→World→Prop) (hT:∀a w,T a w→wpOp P ops Q j (fun a' w'=>T' a' w'∧(kj=.e true→S w')∧(kj.eff=false→w'=w)) a w):
 ∀(l1:List ig),(∀x∈bU l1,dA ops bf x (j,kj)=true∧(bf.getD j 0).testBit x.1=false)→∀(a:Act) (w:World),jG P ops Q S l1 T a w →
  wpOp P ops Q j (fun a' w'=>jG P ops Q S l1 T' a' w'∧(kj=.e true→S w')∧(kj.eff=false→w'=w)) a w
 | [],_,a,w,h=>hT a w h
 | .grp b E::l1,hl,a,w,h=>by
  have hE:E=[]:=by
   cases E with
   | nil=>rfl
   | cons r E=>
    obtain⟨hp,hnd⟩:=hl (r.1,.inl b) (by simp[iF,ig.fl,mF])
    simp only[dA,hnd,Bool.false_or,Bool.and_eq_true,Kd.eff,Bool.not_true,Bool.false_and] at hp
    exact absurd hp.2 (by simp)
  subst hE
  exact wpOp_mono (fun a' w' h=>h) (DW hj hsel hQ T T' hT l1 (fun x hx=>hl x (by rw[iF];exact List.mem_append_right _ hx)) a w h)
 | .one r kr::l1,hl,a,w,h=>by
  obtain⟨o,ho,h⟩:=h
  obtain⟨hp,hnd⟩:=hl (r,kr) (by simp[iF,ig.fl])
  simp only[dA,hnd,Bool.false_or,Bool.and_eq_true,ho,hj] at hp
  obtain⟨_,⟨hne,hap⟩,hk⟩:=hp
  have ih:=DW hj hsel hQ T T' hT l1 (fun x hx=>hl x (by rw[iF];exact List.mem_append_right _ hx))
  have go:∀(v:Value),jG P ops Q S l1 T (a.put o.dst v) w →
   wpOp P ops Q j (fun a' w'=>Alk ops o a a'∧jG P ops Q S l1 T' (a'.put o.dst v) w'∧(kj=.e true→S w')∧(kj.eff=false→w'=w)) a w:=fun v hv=>
   DU hj hap (fun cs b=>hsel r o cs b ho) (fun cs b=>hsel j oj cs b hj) hQ (ih _ _ hv)
  rcases kr with b|_|_|_
  case inr.none=>
   obtain⟨v,hy,h⟩:=h
   exact wpOp_mono (fun a' w' ⟨h1,h2,h3,h4⟩=>⟨⟨o,ho,v,fun w'=>(hy w').alk h1,h2⟩,h3,h4⟩) (go v h)
  case inr.some.true=>
   obtain⟨hS,v,hy,h⟩:=h
   refine wpOp_mono (fun a' w' ⟨h1,h2,h3,h4⟩=>⟨⟨o,ho,?_,v,fun w' hw'=>(hy w' hw').alk h1,h2⟩,h3,h4⟩) (go v h)
   rcases kj with b|_
   ·exact h3 (by simp at hk;rw[hk])
   ·rw[h4 rfl];exact hS
  case inr.some.false=>
   obtain⟨v,hy,h⟩:=h
   refine wpOp_mono (fun a' w' ⟨h1,h2,h3,h4⟩=>⟨⟨o,ho,v,?_,h2⟩,h3,h4⟩) (go v h)
   rcases kj with b|_
   ·simp at hk
   ·rw[h4 rfl];exact hy.alk h1
  case inl=>simp[Kd.eff] at hne
structure InvJ (ops:Array Oper) (bf:Array Nat) (listed:Array Bool) (l:List ig):Prop where
 size:listed.size=ops.size
 mem:∀i,i∈(bU l).map (·.1)↔i<ops.size∧listed.getD i true=false
 nodup:((bU l).map (·.1)).Nodup
 pair:l.Pairwise fun x y=>∀u∈x.fl,∀v∈y.fl,dA ops bf u v=true
 dep:(bU l).Pairwise fun x y=>jD ops x.1 y.1=false
 self:∀x∈bU l,jD ops x.1 x.1=false
 grp:∀b E,ig.grp b E∈l→okG ops bf b E
 closed:∀d r,r<ops.size→listed.getD d false=true→(bf.getD d 0).testBit r=true→listed.getD r false=true
theorem QH (hsel:∀(j:Nat) (o:Oper) cs b,ops[j]?=some o→o.op≠.select cs b) (hQ:∀c a d v w,Q (.panic c) (a.put d v) w→Q (.panic c) a w)
 (hbf:jH ops (Region.before ops)=true) (hon:∀(j:Nat) (o:Oper),ops[j]?=some o→∀e∈o.after,Region.binds .any e=true→e.on<ops.size):
 ∀(n:Nat) (l:List ig) (listed:Array Bool),(bU l).length=n→InvJ ops (Region.before ops) listed l→∀(a:Act) (w:World),jG P ops Q S l (Q .normal) a w→wpAny P .any ops Q n listed a w:=by
 obtain⟨bf,hbe⟩:=aG (Region.before ops)
 have Ia:∀(listed:Array Bool) (i:Nat),listed.size=ops.size→i<ops.size→(listed.getD i false=true↔¬listed.getD i true=false):=fun listed i hs hi=>by
  simp[Array.getD,hs,hi]
 have nil:∀(listed:Array Bool) (l:List ig),bU l=[]→InvJ ops (Region.before ops) listed l→Region.ready .any ops listed=[]:=fun listed l hl hI=>by
  simp only[Region.ready,List.filter_eq_nil_iff,List.mem_range]
  intro i hi
  have h':¬listed.getD i true=false:=fun hh=>by have:=(hI.mem i).2 ⟨hi,hh⟩;rw[hl] at this;simp at this
  have h'':listed.getD i true=true:=by simpa using h'
  simp[h'']
 intro n
 induction n with
 | zero=>
  intro l listed hn hI a w h
  have hl:=List.eq_nil_of_length_eq_zero hn
  exact⟨nil _ l hl hI,wV l hl a w h⟩
 | succ n ih=>
  intro l listed hn hI a w h
  refine⟨fun hr=>?_,fun j hj=>?_⟩
  ·exfalso
   cases hfl:bU l with
   | nil=>rw[hfl] at hn;simp at hn
   | cons x xs=>
    have hx:=(hI.mem x.1).1 (by rw[hfl];simp)
    have hmem:x.1∈Region.ready .any ops listed:=by
     simp only[Region.ready,List.mem_filter,List.mem_range]
     refine⟨hx.1,?_⟩
     have:listed.getD x.1 true=false:=hx.2
     have ho:ops[x.1]?=some ops[x.1]:=Array.getElem?_eq_getElem hx.1
     simp only[this,Bool.not_false,Bool.true_and,ho,Option.map_some,Option.getD_some]
     rw[Array.all_eq_true]
     intro k hk
     have hmem:=Array.getElem_mem hk
     by_cases hb:Region.binds .any (ops[x.1].after[k])=true
     ·have hlt:=hon x.1 _ ho _ hmem hb
      have zO:jD ops x.1 (ops[x.1].after[k]).on=true:=by
       simp only[jD,ho,Array.any_eq_true]
       exact⟨k,hk,by simp[hb]⟩
      have hnot:(ops[x.1].after[k]).on∉(bU l).map (·.1):=by
       intro hm
       rw[hfl] at hm
       simp only[List.map_cons,List.mem_cons,List.mem_map] at hm
       rcases hm with hm|⟨y,hy,hm⟩
       ·have:=hI.self x (by rw[hfl];simp)
        rw[hm] at zO
        rw[zO] at this;cases this
       ·have hd:=hI.dep
        rw[hfl] at hd
        have:=(List.pairwise_cons.1 hd).1 y hy
        rw[hm,zO] at this
        cases this
      have h2:¬listed.getD (ops[x.1].after[k]).on true=false:=fun e=>hnot ((hI.mem _).2 ⟨hlt,e⟩)
      have:=(Ia listed _ hI.size hlt).2 h2
      simp[this]
     ·simp[hb]
    rw[hr] at hmem;cases hmem
  ·simp only[Region.ready,List.mem_filter,List.mem_range,Bool.and_eq_true,Bool.not_eq_true'] at hj
   obtain⟨hjs,hjl,hja⟩:=hj
   have hjm:=(hI.mem j).2 ⟨hjs,hjl⟩
   cases hoj:ops[j]? with
   | none=>simp[hoj] at hja
   | some oj=>
    simp only[hoj,Option.map_some,Option.getD_some] at hja
    have yw:∀d,jD ops j d=true→listed.getD d false=true:=fun d hd=>by
     simp only[jD,hoj,Array.any_eq_true] at hd
     obtain⟨k,hk,hd⟩:=hd
     simp only[Bool.and_eq_true,beq_iff_eq] at hd
     rw[Array.all_eq_true] at hja
     have:=hja k hk
     rw[hd.1] at this
     simpa[hd.2] using this
    have hbl:∀r,r<ops.size→((Region.before ops).getD j 0).testBit r=true→listed.getD r false=true:=fun r hr hb=>by
     simp only[jH,List.all_eq_true,List.mem_range] at hbf
     have:=hbf j hjs r hr
     simp only[hb,Bool.not_true,Bool.false_or,Bool.or_eq_true,List.any_eq_true,List.mem_range,Bool.and_eq_true] at this
     rcases this with h|⟨d,_,h1,h2⟩
     ·exact yw r h
     ·exact hI.closed d r hr (yw d h1) h2
    have hnotin:∀x∈bU l,((Region.before ops).getD j 0).testBit x.1=false:=fun x hx=>by
     have hxm:=(hI.mem x.1).1 (List.mem_map.2 ⟨x,hx,rfl⟩)
     cases hb:((Region.before ops).getD j 0).testBit x.1 with
     | false=>rfl
     | true=>exact absurd hxm.2 ((Ia listed x.1 hI.size hxm.1).1 (hbl x.1 hxm.1 hb))
    have hclosed:∀d r,r<ops.size→(listed.setIfInBounds j true).getD d false=true→((Region.before ops).getD d 0).testBit r=true→(listed.setIfInBounds j true).getD r false=true:=by
     intro d r hr hd hb
     by_cases e:r=j
     ·subst e;simp[Array.getD,hI.size,hr]
     ·have hg:(listed.setIfInBounds j true).getD r false=listed.getD r false:=getD_set_ne _ _ _ _ _ e
      rw[hg]
      by_cases e2:d=j
      ·subst e2;exact hbl r hr hb
      ·have hg2:(listed.setIfInBounds j true).getD d false=listed.getD d false:=getD_set_ne _ _ _ _ _ e2
       rw[hg2] at hd
       exact hI.closed d r hr hd hb
    have QC:(listed.setIfInBounds j true).getD j true=true:=by simp[Array.getD,hI.size,hjs]
    have Ie:∀(F:List Nat),(∀i,i∈F↔i∈(bU l).map (·.1)∧i≠j)→∀i,i∈F↔i<ops.size∧(listed.setIfInBounds j true).getD i true=false:=fun F hF i=>by
     rw[hF,hI.mem]
     by_cases e:i=j
     ·subst e;simp[QC]
     ·have hg:(listed.setIfInBounds j true).getD i true=listed.getD i true:=getD_set_ne _ _ _ _ _ e
      rw[hg];simp[e]
    obtain⟨⟨j',kj⟩,hxf,hje⟩:=List.mem_map.1 hjm
    obtain rfl:j'=j:=hje
    obtain⟨it,hit,hin⟩:=List.mem_flatMap.1 hxf
    obtain⟨l1,l2,rfl⟩:=List.append_of_mem hit
    have hpw:=List.pairwise_append.1 hI.pair
    have hfe:bU (l1++it::l2)=bU l1++(it.fl++bU l2):=by rw[dY,iF]
    have hok:∀x∈bU l1,dA ops (Region.before ops) x (j',kj)=true∧((Region.before ops).getD j' 0).testBit x.1=false:=fun x hx=>by
     obtain⟨y,hy,hxy⟩:=List.mem_flatMap.1 hx
     exact⟨hpw.2.2 y hy it (by simp) x hxy (j',kj) hin,hnotin x (by rw[hfe];exact List.mem_append_left _ hx)⟩
    have hnd:=hI.nodup
    rw[hfe] at hnd
    rw[jV] at h
    cases it with
    | one i k=>
     simp only[ig.fl,List.mem_singleton,Prod.mk.injEq] at hin
     obtain⟨rfl,rfl⟩:=hin
     refine wpOp_mono (fun a' w' ⟨h1,_,_⟩=>ih (l1++l2) (listed.setIfInBounds j' true) ?_ ?_ a' w' (by rw[jV];exact h1)) (DW (kj:=kj) hoj hsel hQ (jG P ops Q S (.one j' kj::l2) (Q .normal)) (jG P ops Q S l2 (Q .normal)) ?_ l1 hok a w h)
     ·rintro a w ⟨o,ho,h⟩
      rcases kj with b|_|_|_
      case inr.none=>obtain⟨v,hy,h⟩:=h;exact (hy w).wpOp ho ⟨h,fun h=>(by cases h),fun _=>rfl⟩
      case inr.some.true=>obtain⟨hS,v,hy,h⟩:=h;exact (hy w hS).wpOp ho ⟨h,fun h=>(by cases h),fun _=>rfl⟩
      case inr.some.false=>obtain⟨v,hy,h⟩:=h;exact hy.wpOp ho ⟨h,fun h=>(by cases h),fun _=>rfl⟩
      case inl=>exact wpOp_mono (fun a' w' ⟨h1,h2⟩=>⟨h2,fun hb=>h1 (by cases hb;rfl),fun hb=>(by simp[Kd.eff] at hb)⟩) h
     ·rw[hfe] at hn;rw[dY];simp[ig.fl] at hn ⊢;omega
     ·have hpf:List.Sublist (l1++l2) (l1++ig.one j' kj::l2):=List.Sublist.append_left (List.sublist_cons_self _ _) _
      have hsf:List.Sublist (bU (l1++l2)) (bU (l1++ig.one j' kj::l2)):=by
       rw[hfe,dY]
       exact List.Sublist.append_left (List.sublist_append_right _ _) _
      refine⟨by simp[hI.size],Ie _ fun i=>?_,?_,hI.pair.sublist hpf,hI.dep.sublist hsf,fun x hx=>hI.self x (hsf.subset hx),fun b E hm=>hI.grp b E (hpf.subset hm),hclosed⟩
      ·rw[hfe,dY]
       simp only[ig.fl,List.map_append,List.map_cons,List.map_nil,List.mem_append,List.mem_cons,List.not_mem_nil,or_false]
       have hn2:=hI.nodup
       rw[hfe] at hn2
       simp only[ig.fl,List.map_append,List.map_cons,List.map_nil,List.nodup_append,List.mem_append,List.mem_cons,List.not_mem_nil,or_false] at hn2
       constructor
       ·rintro (hi|hi)
        ·exact⟨.inl hi,fun e=>hn2.2.2 i hi j' (.inl rfl) e⟩
        ·exact⟨.inr (.inr hi),fun e=>hn2.2.1.2.2 j' rfl i hi e.symm⟩
       ·rintro⟨hi|hi|hi,hne⟩
        ·exact .inl hi
        ·exact absurd hi hne
        ·exact .inr hi
      ·exact hI.nodup.sublist (hsf.map _)
    | grp b E=>
     obtain⟨x,EY,XK⟩:=List.mem_flatMap.1 (show (j',kj)∈E.flatMap (mF b) from hin)
     have hG:=hI.grp b E (by simp)
     have hxm:(x.1,(.inl b:Kd))∈bU (l1++ig.grp b E::l2):=by
      rw[hfe]
      refine List.mem_append_right _ (List.mem_append_left _ ?_)
      exact List.mem_flatMap.2 ⟨x,EY,List.mem_cons_self⟩
     have hj':(j',kj)=(x.1,.inl b):=by
      rcases List.mem_cons.1 XK with e|hm
      ·exact e
      ·exfalso
       obtain⟨u,hu,e⟩:=List.mem_map.1 hm
       have e1:u=j':=congrArg Prod.fst e
       have h1:=hG.own x EY u hu
       have h2:=hnotin _ hxm
       rw[e1] at h1
       rw[h1] at h2
       cases h2
     obtain⟨rfl,rfl⟩:j'=x.1∧kj=.inl b:=Prod.mk.inj hj'
     obtain⟨E1,E2,XL,hEe,hEr⟩:=List.exists_erase_eq EY
     have hfl:bU (l1++ig.grp b E::l2)=bU l1++(E1.flatMap (mF b)++((x.1,.inl b)::((x.2.map fun j=>(j,(.inr none:Kd)))++E2.flatMap (mF b)))++bU l2):=by
      rw[hfe];show bU l1++(E.flatMap (mF b)++bU l2)=_
      rw[hEe,List.flatMap_append,List.flatMap_cons]
      simp[mF]
     have hfn:bU (l1++(x.2.map (fun j=>ig.one j (.inr none))++ig.grp b (E.erase x)::l2))=bU l1++((x.2.map fun j=>(j,(.inr none:Kd)))++(E1.flatMap (mF b)++E2.flatMap (mF b))++bU l2):=by
      rw[dY,dY,iF]
      show bU l1++(_++((E.erase x).flatMap (mF b)++bU l2))=_
      rw[hEr,List.flatMap_append]
      have:bU (x.2.map fun j=>ig.one j (.inr none))=x.2.map fun j=>(j,(.inr none:Kd)):=by
       unfold bU
       rw[List.flatMap_map]
       induction x.2 with
       | nil=>rfl
       | cons u us ih=>rw[List.flatMap_cons,ih];rfl
      rw[this]
      simp
     have hperm:(bU (l1++ig.grp b E::l2)).Perm ((x.1,.inl b)::bU (l1++(x.2.map (fun j=>ig.one j (.inr none))++ig.grp b (E.erase x)::l2))):=by
      rw[hfl,hfn]
      refine List.Perm.trans ?_ List.perm_middle
      refine List.Perm.append_left _ ?_
      refine List.Perm.append_right (bU l2) (show List.Perm _ ((x.1,(.inl b:Kd))::_) from List.Perm.trans List.perm_middle (List.Perm.cons _ ?_))
      rw[←List.append_assoc,←List.append_assoc]
      exact List.Perm.append_right _ List.perm_append_comm
     have hnd':=(hperm.map (fun y:Nat×Kd=>y.1)).nodup_iff.1 hI.nodup
     rw[List.map_cons] at hnd'
     obtain⟨hxn,XM⟩:=List.nodup_cons.1 hnd'
     have Oj:∀y∈E1,y∈E∧y≠x:=fun y hy=>⟨by rw[hEe];simp[hy],fun e=>XL (by rw[←e];exact hy)⟩
     have Ol:∀y∈E2,y∈E∧y≠x:=fun y hy=>by
      refine⟨by rw[hEe];simp[hy],fun e=>?_⟩
      have hn0:=hI.nodup
      rw[hfl] at hn0
      simp only[List.map_append,List.map_cons] at hn0
      have h3:=(List.nodup_append.1 (List.nodup_append.1 (List.nodup_append.1 hn0).2.1).1).2.1
      refine (List.nodup_cons.1 h3).1 (List.mem_append_right _ (List.mem_map.2 ⟨(x.1,.inl b),List.mem_flatMap.2 ⟨y,hy,by rw[e];exact List.mem_cons_self⟩,rfl⟩))
     have vw:∀u∈x.2,∀v∈E1.flatMap (mF b)++E2.flatMap (mF b),dA ops (Region.before ops) (u,.inr none) v=true:=fun u hu v hv=>by
      rcases List.mem_append.1 hv with hv|hv
      ·obtain⟨y,hy,XO⟩:=List.mem_flatMap.1 hv
       exact hG.other x EY y (Oj y hy).1 (fun e=>(Oj y hy).2 e.symm) u hu v XO
      ·obtain⟨y,hy,XO⟩:=List.mem_flatMap.1 hv
       exact hG.other x EY y (Ol y hy).1 (fun e=>(Ol y hy).2 e.symm) u hu v XO
     have QD:∀{u v:Nat×Kd},dA ops (Region.before ops) u v=true→jD ops u.1 v.1=false:=fun h=>by
      simp only[dA,Bool.and_eq_true,Bool.not_eq_true'] at h
      exact h.1
     refine wpOp_mono (fun a' w' ⟨h1,_,_⟩=>ih (l1++(x.2.map (fun j=>ig.one j (.inr none))++ig.grp b (E.erase x)::l2)) (listed.setIfInBounds x.1 true) ?_ ?_ a' w' (by rw[jV];exact h1)) (DW (kj:=.inl b) hoj hsel hQ (jG P ops Q S (.grp b E::l2) (Q .normal)) (jG P ops Q S (x.2.map (fun j=>ig.one j (.inr none))++ig.grp b (E.erase x)::l2) (Q .normal)) ?_ l1 hok a w h)
     ·intro a w h
      have wW:(E.all fun r=>!((Region.before ops).getD x.1 0).testBit r.1)=true:=by
       rw[List.all_eq_true]
       intro r hr
       have h9:((Region.before ops).getD x.1 0).testBit r.1=false:=hnotin (r.1,.inl b) (by rw[hfe];refine List.mem_append_right _ (List.mem_append_left _ ?_);exact List.mem_flatMap.2 ⟨r,hr,List.mem_cons_self⟩)
       rw[h9];rfl
      have hlen:E.length=(E.erase x).length+1:=by
       have hp:0<E.length:=List.length_pos_of_mem EY
       rw[List.length_erase_of_mem EY];omega
      simp only[jG] at h
      rw[hlen] at h
      refine wpOp_mono (fun a' w' ⟨h1,h2⟩=>⟨QE (.grp b (E.erase x)::l2) (Q .normal) x.2 a' w' h2,fun hb=>h1 (by cases hb;rfl),fun hb=>(by simp[Kd.eff] at hb)⟩) (h x EY wW)
     ·have:=hperm.length_eq
      rw[List.length_cons] at this
      omega
     ·have hc:=List.pairwise_cons.1 hpw.2.1
      have hl1:∀y∈l1,∀u∈y.fl,∀v,v∈(x.2.map fun j=>(j,(.inr none:Kd)))∨v∈E1.flatMap (mF b)++E2.flatMap (mF b)→dA ops (Region.before ops) u v=true:=fun y hy u hu v hv=>by
       refine hpw.2.2 y hy (.grp b E) (by simp) u hu v ?_
       show v∈E.flatMap (mF b)
       rw[hEe,List.flatMap_append,List.flatMap_cons]
       rcases hv with hv|hv
       ·exact List.mem_append_right _ (List.mem_append_left _ (List.mem_cons_of_mem _ hv))
       ·rcases List.mem_append.1 hv with hv|hv
        ·exact List.mem_append_left _ hv
        ·exact List.mem_append_right _ (List.mem_append_right _ hv)
      have hl2:∀y∈l2,∀v∈y.fl,∀u,u∈(x.2.map fun j=>(j,(.inr none:Kd)))∨u∈E1.flatMap (mF b)++E2.flatMap (mF b)→dA ops (Region.before ops) u v=true:=fun y hy v hv u hu=>by
       refine hc.1 y hy u ?_ v hv
       show u∈E.flatMap (mF b)
       rw[hEe,List.flatMap_append,List.flatMap_cons]
       rcases hu with hu|hu
       ·exact List.mem_append_right _ (List.mem_append_left _ (List.mem_cons_of_mem _ hu))
       ·rcases List.mem_append.1 hu with hu|hu
        ·exact List.mem_append_left _ hu
        ·exact List.mem_append_right _ (List.mem_append_right _ hu)
      have hgf:ig.fl (.grp b (E.erase x))=E1.flatMap (mF b)++E2.flatMap (mF b):=by
       show (E.erase x).flatMap (mF b)=_
       rw[hEr,List.flatMap_append]
      have hone:∀y∈x.2.map (fun j=>ig.one j (.inr none)),∀u∈y.fl,u∈(x.2.map fun j=>(j,(.inr none:Kd))):=fun y hy u hu=>by
       obtain⟨j,hj,rfl⟩:=List.mem_map.1 hy
       rw[List.mem_singleton.1 hu]
       exact List.mem_map.2 ⟨j,hj,rfl⟩
      refine⟨by simp[hI.size],Ie _ fun k=>?_,XM,?_,?_,fun y hy=>hI.self y (hperm.symm.subset (List.mem_cons_of_mem _ hy)),?_,hclosed⟩
      ·have hmm:=(hperm.map (fun y:Nat×Kd=>y.1)).mem_iff (a:=k)
       rw[List.map_cons,List.mem_cons] at hmm
       rw[hmm]
       constructor
       ·intro hk
        exact⟨.inr hk,fun e=>hxn (by rw[←e];exact hk)⟩
       ·rintro⟨rfl|hk,hne⟩
        ·exact absurd rfl hne
        ·exact hk
      ·refine List.pairwise_append.2 ⟨hpw.1,List.pairwise_append.2 ⟨?_,List.pairwise_cons.2 ⟨fun y hy u hu v hv=>hl2 y hy v hv u (.inr (by rw[←hgf];exact hu)),hc.2⟩,fun y hy z hz u hu v hv=>?_⟩,fun y hy z hz u hu v hv=>?_⟩
       ·rw[List.pairwise_map]
        refine (hG.seq x EY).imp fun h u hu v hv=>?_
        rw[List.mem_singleton.1 hu,List.mem_singleton.1 hv]
        exact h
       ·have h1:=hone y hy u hu
        rcases List.mem_cons.1 hz with rfl|hz
        ·obtain⟨j,hj,rfl⟩:=List.mem_map.1 h1
         exact vw j hj v (by rw[←hgf];exact hv)
        ·exact hl2 z hz v hv u (.inl h1)
       ·rcases List.mem_append.1 hz with hz|hz
        ·exact hl1 y hy u hu v (.inl (hone z hz v hv))
        ·rcases List.mem_cons.1 hz with rfl|hz
         ·exact hl1 y hy u hu v (.inr (by rw[←hgf];exact hv))
         ·exact hpw.2.2 y hy z (by simp[hz]) u hu v hv
      ·have hd:=hI.dep
       rw[hfl] at hd
       rw[hfn]
       obtain⟨a1,a2,a3⟩:=List.pairwise_append.1 hd
       obtain⟨b1,b2,b3⟩:=List.pairwise_append.1 a2
       obtain⟨c1,c2,c3⟩:=List.pairwise_append.1 b1
       obtain⟨d1,d2⟩:=List.pairwise_cons.1 c2
       obtain⟨e1,e2,e3⟩:=List.pairwise_append.1 d2
       refine List.pairwise_append.2 ⟨a1,List.pairwise_append.2 ⟨List.pairwise_append.2 ⟨e1,List.pairwise_append.2 ⟨c1,e2,fun y hy z hz=>c3 y hy z (List.mem_cons_of_mem _ (List.mem_append_right _ hz))⟩,fun y hy z hz=>?_⟩,b2,fun y hy z hz=>b3 y ?_ z hz⟩,fun y hy z hz=>a3 y hy z ?_⟩
       ·obtain⟨j,hj,rfl⟩:=List.mem_map.1 hy
        exact QD (vw j hj z hz)
       ·rcases List.mem_append.1 hy with hy|hy
        ·exact List.mem_append_right _ (List.mem_cons_of_mem _ (List.mem_append_left _ hy))
        ·rcases List.mem_append.1 hy with hy|hy
         ·exact List.mem_append_left _ hy
         ·exact List.mem_append_right _ (List.mem_cons_of_mem _ (List.mem_append_right _ hy))
       ·rcases List.mem_append.1 hz with hz|hz
        ·rcases List.mem_append.1 hz with hz|hz
         ·exact List.mem_append_left _ (List.mem_append_right _ (List.mem_cons_of_mem _ (List.mem_append_left _ hz)))
         ·rcases List.mem_append.1 hz with hz|hz
          ·exact List.mem_append_left _ (List.mem_append_left _ hz)
          ·exact List.mem_append_left _ (List.mem_append_right _ (List.mem_cons_of_mem _ (List.mem_append_right _ hz)))
        ·exact List.mem_append_right _ hz
      ·intro b' E' hm
       rcases List.mem_append.1 hm with hm|hm
       ·exact hI.grp b' E' (List.mem_append_left _ hm)
       ·rcases List.mem_append.1 hm with hm|hm
        ·obtain⟨j,_,e⟩:=List.mem_map.1 hm
         cases e
        ·rcases List.mem_cons.1 hm with e|hm
         ·cases e
          exact hG.erase x
         ·exact hI.grp b' E' (by simp[hm])
def Ig (ops:Array Oper) (bf:Array Nat):List ig→Bool
 | []=>true
 | x::l=>l.all (fun y=>x.fl.all fun u=>y.fl.all fun v=>dA ops bf u v)&&Ig ops bf l
theorem zW {bf:Array Nat}:∀(l:List ig),Ig ops bf l=true→l.Pairwise fun x y=>∀u∈x.fl,∀v∈y.fl,dA ops bf u v=true
 | [],_=>.nil
 | x::l,h=>by
  simp only[Ig,Bool.and_eq_true,List.all_eq_true] at h
  exact List.pairwise_cons.2 ⟨fun y hy u hu v hv=>h.1 y hy u hu v hv,zW l h.2⟩
def Ik (ops:Array Oper) (bf:Array Nat):List ig→Bool
 | []=>true
 | .one _ _::l=>Ik ops bf l
 | .grp b E::l=>okGB ops bf b E&&Ik ops bf l
theorem Ad {bf:Array Nat}:∀(l:List ig),Ik ops bf l=true→∀b E,ig.grp b E∈l→okG ops bf b E
 | [],_,_,_,h=>by cases h
 | .one _ _::l,h,b,E,hm=>by
  rcases List.mem_cons.1 hm with e|hm
  ·cases e
  ·exact Ad l h b E hm
 | .grp b' E'::l,h,b,E,hm=>by
  simp only[Ik,Bool.and_eq_true] at h
  rcases List.mem_cons.1 hm with e|hm
  ·cases e
   exact UO h.1
  ·exact Ad l h.2 b E hm
def QI (ops:Array Oper) (l:List ig):Bool:=
 Ig ops (Region.before ops) l&&QF ops (bU l)&&DV ops&&jH ops (Region.before ops)&&(bU l).length==ops.size&&nodupB ((bU l).map (·.1))&&((bU l).map (·.1)).all (fun i=>decide (i<ops.size))&&(List.range ops.size).all (fun i=>((bU l).map (·.1)).contains i) &&
 ops.all (fun o=>o.after.all fun e=>!Region.binds .any e||decide (e.on<ops.size))&&Ik ops (Region.before ops) l
theorem iV {id:Nat} {a:Act} {w:World} (hm:P.follows .mixedOrders=true) (S:World→Prop) (l:List ig) (hok:QI ops l=true)
 (h:jG P ops (NoPanic Q) S l (Q .normal) a w.drew):(Code.region id ops true).wp P Q a w:=by
 simp only[QI,Bool.and_eq_true] at hok
 obtain⟨⟨⟨⟨⟨⟨⟨⟨⟨h1,h0⟩,h2⟩,h3⟩,h4⟩,h7⟩,h8⟩,h5⟩,h6⟩,h9⟩:=hok
 have hlen:(bU l).length=ops.size:=by simpa using h4
 have hall:∀i,i<ops.size→i∈(bU l).map (·.1):=fun i hi=>by
  simp only[List.all_eq_true,List.mem_range] at h5
  simpa using h5 i hi
 have hback:∀i,i∈(bU l).map (·.1)→i<ops.size:=fun i hi=>by
  rw[List.all_eq_true] at h8
  simpa using h8 i hi
 have hd:=EZ _ h0
 refine wp_region_noPanic (wp_region_any hm ?_)
 refine QH (S:=S) ?_ ?_ h3 ?_ ops.size l _ hlen ?_ a w.drew h
 ·intro j o cs b ho hsel
  simp only[DV,Array.all_eq_true] at h2
  obtain⟨hj,rfl⟩:=Array.getElem?_eq_some_iff.1 ho
  have:=h2 j hj
  rw[hsel] at this
  cases this
 ·intro c a d v w hh;exact hh
 ·intro j o ho e he hb
  obtain⟨hj,rfl⟩:=Array.getElem?_eq_some_iff.1 ho
  rw[Array.all_eq_true] at h6
  have:=h6 j hj
  rw[Array.all_eq_true] at this
  obtain⟨k,hk,rfl⟩:=Array.mem_iff_getElem.1 he
  have:=this k hk
  simpa[hb] using this
 ·refine⟨by simp,fun i=>⟨fun hi=>?_,fun hi=>hall i hi.1⟩,oI _ h7,zW l h1,hd.1,hd.2,Ad l h9,fun d r _ hd=>?_⟩
  ·have:=hback i hi
   exact⟨this,by simp[Array.getD,this]⟩
  ·exfalso
   simp only[Array.getD,Array.size_replicate] at hd
   split at hd<;>simp at hd
variable {i:Nat} {l:List ig} {a:Act} {w:World} {o:Oper} {v:Value} {K:Act→World→Prop}
theorem EP (ho:ops.toList[i]?=some o) (hg:Region.wanted o (yielded ops a.tmps)=true) (hv:∀w',(execOp a.eval o).run P w'=.ok (.value v) w') (h:jG P ops Q S l K (a.put o.dst v) w):jG P ops Q S (.one i .p::l) K a w:=
 have ho':=(Array.getElem?_toList (xs:=ops) (i:=i)).symm.trans ho
 ⟨o,ho',v,fun w'=>.inl ⟨hg,hv w'⟩,h⟩
theorem ER (ho:ops.toList[i]?=some o) (hg:Region.wanted o (yielded ops a.tmps)=true) (hS:S w) (hv:∀w',S w'→(execOp a.eval o).run P w'=.ok (.value v) w') (h:jG P ops Q S l K (a.put o.dst v) w):jG P ops Q S (.one i .s::l) K a w:=
 have ho':=(Array.getElem?_toList (xs:=ops) (i:=i)).symm.trans ho
 ⟨o,ho',hS,v,fun w' hw=>.inl ⟨hg,hv w' hw⟩,h⟩
theorem ES (ho:ops.toList[i]?=some o) (hg:Region.wanted o (yielded ops a.tmps)=true) (hv:(execOp a.eval o).run P w=.ok (.value v) w) (h:jG P ops Q S l K (a.put o.dst v) w):jG P ops Q S (.one i .t::l) K a w:=
 have ho':=(Array.getElem?_toList (xs:=ops) (i:=i)).symm.trans ho
 ⟨o,ho',v,.inl ⟨hg,hv⟩,h⟩
theorem oC (ho:ops.toList[i]?=some o) (hg:Region.wanted o (yielded ops a.tmps)=false) (h:jG P ops Q S l K (a.put o.dst undef) w):jG P ops Q S (.one i .p::l) K a w:=
 have ho':=(Array.getElem?_toList (xs:=ops) (i:=i)).symm.trans ho
 ⟨o,ho',undef,fun _=>.inr ⟨hg,rfl⟩,h⟩
theorem oD (ho:ops.toList[i]?=some o) (hg:Region.wanted o (yielded ops a.tmps)=false) (hS:S w) (h:jG P ops Q S l K (a.put o.dst undef) w):jG P ops Q S (.one i .s::l) K a w:=
 have ho':=(Array.getElem?_toList (xs:=ops) (i:=i)).symm.trans ho
 ⟨o,ho',hS,undef,fun _ _=>.inr ⟨hg,rfl⟩,h⟩
theorem oG (ho:ops.toList[i]?=some o) (hg:Region.wanted o (yielded ops a.tmps)=false) (h:jG P ops Q S l K (a.put o.dst undef) w):jG P ops Q S (.one i .t::l) K a w:=
 have ho':=(Array.getElem?_toList (xs:=ops) (i:=i)).symm.trans ho
 ⟨o,ho',undef,.inr ⟨hg,rfl⟩,h⟩
theorem Wh {b:Bool} (ho:ops.toList[i]?=some o) (hg:Region.wanted o (yielded ops a.tmps)=true)
 (h:∀K':Act→World→Prop,(∀a w,(b=true→S w)→jG P ops Q S l K a w→K' a w)→o.wp P a w K' Q):jG P ops Q S (.one i (.e b)::l) K a w:=
 have ho':=(Array.getElem?_toList (xs:=ops) (i:=i)).symm.trans ho
 ⟨o,ho',by unfold wpOp;simp only[ho',hg,if_true];exact .inl (h _ fun _ _ h1 h2=>⟨h1,h2⟩)⟩
theorem uZ (h:K a w):jG P ops Q S [] K a w:=h
end
end PA
namespace PA
open Go Go.RowKit
section
variable {P:Program} {ops:Array Oper} {Q:Exit→Act→World→Prop} {S:World→Prop} {W:World}
def tailA {Y:Type} (Pre:aH) (ok:Y→Value→Prop) (Post:Y→aH) (F:Value→List Value):List Value→aH
 | []=>Pre
 | v::us=>ex fun y:Y=>sep (fact (ok y v∧us=(F v).take us.length)) (Post y)
def uX (P:Program) (ops:Array Oper):Act→List Nat→List Value→Prop
 | _,[],[]=>True
 | a,j::js,u::us=>(∃o,ops[j]?=some o∧(∀w,(execOp a.eval o).run P w=.ok (.value u) w))∧uX P ops (a.put (aY ops j) u) js us
 | _,_,_=>False
def lU (ops:Array Oper) (j:Nat):Bool:=match ops[j]? with|some o=>o.guard.isNone&&(match o.op with|.select ..=>false|_=>true)|none=>false
theorem zT:∀{js:List Nat} {us:List Value} {a:Act},uX P ops a js us→us.length=js.length
 | [],[],_,_=>rfl
 | [],_::_,_,h=>h.elim
 | _::_,[],_,h=>h.elim
 | j::js,u::us,a,h=>by rw[List.length_cons,List.length_cons,zT h.2]
theorem qE {K:Act→World→Prop}:∀(js:List Nat) (us:List Value) (a:Act) (w:World),(∀j∈js,lU ops j=true)→uX P ops a js us→K (puts ops (js.zip us) a) w→wpT P ops K js a w
 | [],us,a,w,_,h,hk=>by
  cases us with
  | nil=>exact hk
  | cons=>exact h.elim
 | j::js,[],_,_,_,h,_=>h.elim
 | j::js,u::us,a,w,hp,h,hk=>by
  obtain⟨⟨o,ho,hr⟩,h2⟩:=h
  have QJ:=hp j (by simp)
  unfold lU at QJ
  rw[ho] at QJ
  simp only[Bool.and_eq_true] at QJ
  refine⟨o,ho,u,fun w'=>.inl ⟨?_,hr w'⟩,?_⟩
  ·unfold Region.wanted
   cases hg:o.guard with
   | none=>rfl
   | some x=>rw[hg] at QJ;exact absurd QJ.1 (by simp)
  ·have hd:aY ops j=o.dst:=by unfold aY;rw[ho];rfl
   rw[←hd]
   exact qE js us _ w (fun k hk=>hp k (by simp[hk])) h2 hk
theorem lT {i:Nat} (v:Value):∀(l:List (Nat×Value)),(∀x∈l,apartB ops x.1 i=true∨apartB ops i x.1=true)→∀a:Act,puts ops l (a.put (aY ops i) v)=(puts ops l a).put (aY ops i) v
 | [],_,_=>rfl
 | x::l,h,a=>by
  show puts ops l ((a.put (aY ops i) v).put (aY ops x.1) x.2)=(puts ops l (a.put (aY ops x.1) x.2)).put (aY ops i) v
  have hd:∀d,aY ops i=some d→aY ops x.1≠some d:=by
   rcases h x (by simp) with h1|h1
   ·exact (lV h1).2
   ·exact (lV h1).1
  rw[Act.put_comm a v x.2 hd,lT v l (fun y hy=>h y (by simp[hy]))]
theorem QK {js:List Nat} {k:Nat} {v:Value}:∀{us:List Value} {a:Act},(∀j∈js,lU ops j=true)→(∀j∈js,apartB ops k j=true∨apartB ops j k=true)→uX P ops a js us→uX P ops (a.put (aY ops k) v) js us:=by
 induction js with
 | nil=>intro us a _ _ h;cases us with
  | nil=>trivial
  | cons=>exact h.elim
 | cons j js ih=>
  intro us a hp hap h
  cases us with
  | nil=>exact h.elim
  | cons u us=>
   obtain⟨⟨o,ho,hr⟩,h2⟩:=h
   have QJ:=hp j (by simp)
   unfold lU at QJ
   rw[ho] at QJ
   simp only[Bool.and_eq_true] at QJ
   have hsel:∀cs b,o.op≠.select cs b:=fun cs b hs=>by rw[hs] at QJ;exact absurd QJ.2 (by simp)
   have hlook:∀d,aY ops k=some d→d∉o.looksAt ops:=fun d hd=>by
    unfold aY at hd
    cases hk:ops[k]? with
    | none=>rw[hk] at hd;cases hd
    | some z=>
     rw[hk] at hd
     rcases hap j (by simp) with h1|h1
     ·unfold apartB at h1
      rw[hk,ho] at h1
      exact (Oper.apart_spec h1).1 d hd
     ·unfold apartB at h1
      rw[hk,ho] at h1
      exact (Oper.apart_spec h1).2.2 d hd
   refine⟨⟨o,ho,fun w=>?_⟩,?_⟩
   ·rw[execOp_put o hsel a _ v hlook];exact hr w
   ·have:=ih (fun i hi=>hp i (by simp[hi])) (fun i hi=>hap i (by simp[hi])) h2
    have hd:∀d,aY ops k=some d→aY ops j≠some d:=by
     rcases hap j (by simp) with h1|h1
     ·exact (lV h1).1
     ·exact (lV h1).2
    rw[Act.put_comm a v u hd]
    exact this
theorem wU {js:List Nat} {us:List Value}:∀(l:List (Nat×Value)),(∀j∈js,lU ops j=true)→(∀x∈l,∀j∈js,apartB ops x.1 j=true∨apartB ops j x.1=true)→∀{a:Act},uX P ops a js us→uX P ops (puts ops l a) js us
 | [],_,_,_,h=>h
 | x::l,hp,hap,a,h=>wU l hp (fun y hy=>hap y (by simp[hy])) (QK hp (hap x (by simp)) h)
def nums (ids:List (Nat×List Nat)):List Nat:=ids.flatMap fun x=>x.1::x.2
structure TS where
 ids:List (Nat×List Nat)
 A:List Value→aH
structure pU where
 dn:List (Nat×Value)
 td:List (Nat×List Nat)
 A:List Value→aH
def pU.now (s:pU):aH:=s.A (s.dn.map (·.2))
def wS (nP:List pU) (B:aH):aH:=nP.foldl (fun B s=>sep s.now B) B
theorem jI (s:pU) (nP:List pU) (B:aH):wS (s::nP) B=wS nP (sep s.now B):=rfl
theorem lS (s t:List pU) (B:aH):wS (s++t) B=wS t (wS s B):=by simp[wS]
theorem mQ (X:aH):∀(nP:List pU) (B:aH),wS nP (sep X B)=sep X (wS nP B)
 | [],_=>rfl
 | s::nP,B=>by rw[jI,jI,au,mQ X nP]
theorem DY:∀(l:List pU) (A:aH),∃X,wS l A=sep X A
 | [],A=>⟨emp,(bW A).symm⟩
 | s::l,A=>by
  obtain⟨X,hX⟩:=DY l A
  exact⟨sep s.now X,by rw[jI,mQ,hX,aj]⟩
def sK (P:Program) (ops:Array Oper) (W:World) (a0:Act) (A:List Value→aH):List (Nat×Value)→List (Nat×List Nat)→Prop
 | _,[]=>True
 | dn,x::td=>(∃o,ops[x.1]?=some o∧(∀cs b,o.op≠.select cs b)∧gX P ops W o (puts ops dn a0) (A (dn.map (·.2))) (fun v=>A (dn.map (·.2)++[v])))∧(∀y∈td,((Region.before ops).getD y.1 0).testBit x.1=true)∧(∀j∈x.2,lU ops j=true) ∧
  (∀v w B,Sat W w (sep (A (dn.map (·.2)++[v])) B)→∃us,uX P ops (puts ops (dn++[(x.1,v)]) a0) x.2 us∧Sat W w (sep (A (dn.map (·.2)++v::us)) B)) ∧
  ∀v us,us.length=x.2.length→sK P ops W a0 A (dn++(x.1,v)::x.2.zip us) td
def Og (ops:Array Oper) (W:World) (a0:Act) (K:Act→World→Prop):List TS→List (Nat×Value)→aH→Prop
 | [],D,B=>∀w,Sat W w B→K (puts ops D a0) w
 | t::ts,D,B=>∀dn:List (Nat×Value),dn.map (·.1)=nums t.ids→Og ops W a0 K ts (D++dn) (sep (t.A (dn.map (·.2))) B)
def oV (ts:List TS) (nP:List pU):Prop:=nP.map (fun s=>(s.dn.map (·.1)++nums s.td,s.A))=ts.map fun t=>(nums t.ids,t.A)
theorem QL {l:List (Nat×List Nat)} (h:l=[]):nums l=[]:=by rw[h];rfl
theorem zS {a0:Act} {K:Act→World→Prop}:∀(nP:List pU) (ts:List TS) (D:List (Nat×Value)) (B:aH),oV ts nP→nP.flatMap (·.td)=[]→Og ops W a0 K ts D B→∀w,Sat W w (wS nP B)→K (puts ops (D++nP.flatMap (·.dn)) a0) w
 | [],ts,D,B,hL,_,hf,w,hS=>by
  have:ts=[]:=by unfold oV at hL;simp at hL;exact hL
  subst this
  simpa using hf w hS
 | s::nP,ts,D,B,hL,ht,hf,w,hS=>by
  cases ts with
  | nil=>unfold oV at hL;simp at hL
  | cons t ts=>
   unfold oV at hL
   simp only[List.map_cons,List.cons.injEq,Prod.mk.injEq] at hL
   obtain⟨⟨h1,h2⟩,h3⟩:=hL
   simp only[List.flatMap_cons,List.append_eq_nil_iff] at ht
   rw[QL ht.1,List.append_nil] at h1
   have:=hf s.dn h1
   rw[←h2] at this
   have h4:=zS nP ts (D++s.dn) _ h3 ht.2 this w (by rw[jI] at hS;exact hS)
   rw[List.flatMap_cons,←List.append_assoc]
   exact h4
def pU.all (s:pU):List Nat:=s.dn.map (·.1)++nums s.td
theorem Om {a0:Act} {A:aH} {b:Bool} {K:Act→World→Prop} (ts:List TS) (hS:b=true→∀w X,Sat W w (sep X A)→S w) (hfin:Og ops W a0 K ts [] A):
 ∀(n:Nat) (nP:List pU) (E:List (Nat×List Nat)) (w:World),E.length=n→E.Perm (nP.flatMap (·.td))→oV ts nP→(∀s∈nP,sK P ops W a0 s.A s.dn s.td)→(nP.Pairwise fun s t=>Ko ops s.all t.all)→Sat W w (wS nP A) →
  tZ P ops Q S b n E K (puts ops (nP.flatMap (·.dn)) a0) w:=by
 intro n
 induction n with
 | zero=>
  intro nP E w hn hp hL _ _ hw
  have hE:=List.eq_nil_of_length_eq_zero hn
  subst hE
  have:=zS nP ts [] A hL (List.nil_perm.1 hp) hfin w hw
  rw[List.nil_append] at this
  exact this
 | succ n ih=>
  intro nP E w hn hp hL hg hap hw i hi hr
  obtain⟨s,hs,his⟩:=List.mem_flatMap.1 (hp.mem_iff.1 hi)
  obtain⟨S1,S2,rfl⟩:=List.append_of_mem hs
  obtain⟨dn,td,AT⟩:=s
  cases td with
  | nil=>simp at his
  | cons k td=>
   have hgs:=hg _ hs
   obtain⟨⟨o,ho,hsel,hd⟩,hch,hplain,htl,hnext⟩:=hgs
   have hik:i=k:=by
    rcases List.mem_cons.1 his with e|hm
    ·exact e
    ·exfalso
     have h1:=hch i hm
     have h2:k∈E:=hp.mem_iff.2 (List.mem_flatMap.2 ⟨_,hs,by simp⟩)
     have h3:=List.all_eq_true.1 hr k h2
     rw[h1] at h3
     cases h3
   subst hik
   have hall:∀j∈dn.map (·.1)++i.1::i.2,j∈pU.all ⟨dn,i::td,AT⟩:=fun j hj=>by
    unfold pU.all nums
    rw[List.flatMap_cons]
    rcases List.mem_append.1 hj with hj|hj
    ·exact List.mem_append_left _ hj
    ·exact List.mem_append_right _ (List.mem_append_left _ hj)
   have hpw:=List.pairwise_append.1 hap
   have hpc:=List.pairwise_cons.1 hpw.2.1
   have hl1:∀x∈S1.flatMap (·.dn),∀j∈dn.map (·.1)++i.1::i.2,apartB ops x.1 j=true:=fun x hx j hj=>by
    obtain⟨s1,hs1,hx1⟩:=List.mem_flatMap.1 hx
    exact hpw.2.2 s1 hs1 ⟨dn,i::td,AT⟩ (by simp) x.1 (List.mem_append_left _ (List.mem_map.2 ⟨x,hx1,rfl⟩)) j (hall j hj)
   have hl2:∀x∈S2.flatMap (·.dn),∀j∈dn.map (·.1)++i.1::i.2,apartB ops j x.1=true:=fun x hx j hj=>by
    obtain⟨s1,hs1,hx1⟩:=List.mem_flatMap.1 hx
    exact hpc.1 s1 hs1 j (hall j hj) x.1 (List.mem_append_left _ (List.mem_map.2 ⟨x,hx1,rfl⟩))
   have Ib:∀Qz:List (Nat×Value),(∀y∈Qz,y.1∈dn.map (·.1)++i.1::i.2)→puts ops ((S1++⟨Qz,td,AT⟩::S2).flatMap (·.dn)) a0=puts ops (S2.flatMap (·.dn)) (puts ops (S1.flatMap (·.dn)) (puts ops Qz a0)):=fun Qz XI=>by
    rw[List.flatMap_append,List.flatMap_cons,dF,dF]
    congr 1
    exact uf Qz _ (fun x hx y hy=>hl1 x hx y.1 (XI y hy)) a0
   have Ic:puts ops ((S1++⟨dn,i::td,AT⟩::S2).flatMap (·.dn)) a0=puts ops (S2.flatMap (·.dn)) (puts ops (S1.flatMap (·.dn)) (puts ops dn a0)):=by
    rw[←Ib dn (fun y hy=>List.mem_append_left _ (List.mem_map.2 ⟨y,hy,rfl⟩)),List.flatMap_append,List.flatMap_append,List.flatMap_cons,List.flatMap_cons]
   have hboth:∀x∈S1.flatMap (·.dn)++S2.flatMap (·.dn),∀j∈dn.map (·.1)++i.1::i.2,apartB ops x.1 j=true∨apartB ops j x.1=true:=fun x hx j hj=>by
    rcases List.mem_append.1 hx with hx|hx
    ·exact .inl (hl1 x hx j hj)
    ·exact .inr (hl2 x hx j hj)
   have hd':gX P ops W o (puts ops ((S1++⟨dn,i::td,AT⟩::S2).flatMap (·.dn)) a0) (AT (dn.map (·.2))) (fun v=>AT (dn.map (·.2)++[v])):=by
    rw[Ic,←dF]
    exact gX.puts ho hsel _ (fun x hx=>hboth x hx i.1 (by simp)) hd
   have hw2:Sat W w (sep (AT (dn.map (·.2))) (wS S2 (wS S1 A))):=by
    rw[lS,jI,mQ] at hw
    exact hw
   refine hd'.wpOp ho hw2 (fun v w' hv=>?_)
   refine⟨fun hb=>?_,?_⟩
   ·obtain⟨X,hX⟩:=DY (S1++S2) A
    rw[←lS,hX,←aj] at hv
    exact hS hb w' _ hv
   ·obtain⟨us,hpu,hv2⟩:=htl v w' _ hv
    have EX:=zT hpu
    have hdo:aY ops i.1=o.dst:=by unfold aY;rw[ho];rfl
    have e1:(puts ops ((S1++⟨dn,i::td,AT⟩::S2).flatMap (·.dn)) a0).put o.dst v=puts ops (S1.flatMap (·.dn)++S2.flatMap (·.dn)) (puts ops (dn++[(i.1,v)]) a0):=by
     rw[Ic,←hdo,←dF,dF dn]
     show _=puts ops _ ((puts ops dn a0).put (aY ops i.1) v)
     exact (lT v _ (fun x hx=>hboth x hx i.1 (by simp)) _).symm
    rw[e1]
    refine qE i.2 us _ w' hplain (wU _ hplain (fun x hx j hj=>hboth x hx j (by simp[hj])) hpu) ?_
    have e2:puts ops (i.2.zip us) (puts ops (S1.flatMap (·.dn)++S2.flatMap (·.dn)) (puts ops (dn++[(i.1,v)]) a0))=puts ops ((S1++⟨dn++(i.1,v)::i.2.zip us,td,AT⟩::S2).flatMap (·.dn)) a0:=by
     rw[Ib (dn++(i.1,v)::i.2.zip us) (fun y hy=>?_)]
     ·rw[←dF (S1.flatMap (·.dn))]
      have e3:dn++(i.1,v)::i.2.zip us=(dn++[(i.1,v)])++i.2.zip us:=by simp
      rw[e3,dF (dn++[(i.1,v)])]
      have key:∀(z:List (Nat×Value)),(∀y∈z,y.1∈i.2)→∀(L:List (Nat×Value)),(∀x∈L,∀j∈dn.map (·.1)++i.1::i.2,apartB ops x.1 j=true∨apartB ops j x.1=true)→∀a:Act,puts ops z (puts ops L a)=puts ops L (puts ops z a):=by
       intro z
       induction z with
       | nil=>intro _ L _ a;rfl
       | cons y z ihz=>
        intro hz L hL a
        show puts ops z ((puts ops L a).put (aY ops y.1) y.2)=puts ops L (puts ops z (a.put (aY ops y.1) y.2))
        rw[←lT y.2 L (fun x hx=>hL x hx y.1 (List.mem_append_right _ (List.mem_cons_of_mem _ (hz y (by simp))))),ihz (fun u hu=>hz u (by simp[hu])) L hL]
      exact key _ (fun y hy=>by obtain⟨y1,y2⟩:=y;exact (List.of_mem_zip hy).1) _ hboth _
     ·rcases List.mem_append.1 hy with hy|hy
      ·exact List.mem_append_left _ (List.mem_map.2 ⟨y,hy,rfl⟩)
      ·rcases List.mem_cons.1 hy with rfl|hy
       ·simp
       ·obtain⟨y1,y2⟩:=y
        exact List.mem_append_right _ (List.mem_cons_of_mem _ (List.of_mem_zip hy).1)
    rw[e2]
    have hzm:((i.1,v)::i.2.zip us).map (·.1)=i.1::i.2:=by rw[List.map_cons,List.map_fst_zip (by omega)]
    have hzs:((i.1,v)::i.2.zip us).map (·.2)=v::us:=by rw[List.map_cons,List.map_snd_zip (by omega)]
    refine ih _ (E.erase i) w' ?_ ?_ ?_ ?_ ?_ ?_
    ·rw[List.length_erase_of_mem hi,hn];rfl
    ·have h1:((S1++⟨dn,i::td,AT⟩::S2).flatMap (·.td)).Perm (i::(S1++⟨dn++(i.1,v)::i.2.zip us,td,AT⟩::S2).flatMap (·.td)):=by
      simp only[List.flatMap_append,List.flatMap_cons]
      exact List.perm_middle
     have h2:=(hp.trans h1).erase i
     rw[List.erase_cons_head] at h2
     exact h2
    ·unfold oV at *
     rw[←hL]
     simp only[List.map_append,List.map_cons]
     rw[show i.1::(i.2.zip us).map (·.1)=i.1::i.2 by rw[←hzm];rfl]
     congr 2
     simp[nums]
    ·intro s hs'
     rcases List.mem_append.1 hs' with h|h
     ·exact hg s (List.mem_append_left _ h)
     ·rcases List.mem_cons.1 h with rfl|h
      ·exact hnext v us EX
      ·exact hg s (by simp[h])
    ·have hsame:pU.all ⟨dn++(i.1,v)::i.2.zip us,td,AT⟩=pU.all ⟨dn,i::td,AT⟩:=by
      unfold pU.all nums
      rw[List.map_append,hzm,List.flatMap_cons,List.append_assoc]
     refine List.pairwise_append.2 ⟨hpw.1,List.pairwise_cons.2 ⟨fun y hy=>?_,hpc.2⟩,fun x hx y hy=>?_⟩
     ·rw[hsame];exact hpc.1 y hy
     ·rcases List.mem_cons.1 hy with rfl|hy
      ·rw[hsame];exact hpw.2.2 x hx _ (List.mem_cons_self)
      ·exact hpw.2.2 x hx y (by simp[hy])
    ·rw[lS,jI,mQ]
     show Sat W w' (sep (AT ((dn++(i.1,v)::i.2.zip us).map (·.2))) (wS S2 (wS S1 A)))
     rw[List.map_append,hzs]
     exact hv2
theorem ug:∀(ts:List TS),vk ops (ts.map (fun t=>nums t.ids))=true→(ts.map fun t=>(⟨[],t.ids,t.A⟩:pU)).Pairwise fun s t=>Ko ops s.all t.all
 | [],_=>.nil
 | t::ts,h=>by
  simp only[List.map_cons,vk,Bool.and_eq_true,List.all_eq_true] at h
  refine List.pairwise_cons.2 ⟨fun s hs=>?_,ug ts h.2⟩
  obtain⟨u,hu,rfl⟩:=List.mem_map.1 hs
  have:=h.1 (nums u.ids) (List.mem_map.2 ⟨u,hu,rfl⟩)
  simp only[MX,List.all_eq_true] at this
  intro i hi j hj
  exact this i (by simpa[pU.all] using hi) j (by simpa[pU.all] using hj)
theorem mV {a:Act} {w:World} {A:aH} {b:Bool} {l:List ig} {K:Act→World→Prop} (ts:List TS) (hS:b=true→∀w X,Sat W w (sep X A)→S w)
 (hap:vk ops (ts.map (fun t=>nums t.ids))=true) (hg:∀t∈ts,sK P ops W a t.A [] t.ids) (hw:Sat W w (ts.foldl (fun B t=>sep (t.A []) B) A)) (hfin:Og ops W a (jG P ops Q S l K) ts [] A):
 jG P ops Q S (.grp b (ts.flatMap (·.ids))::l) K a w:=by
 have XJ:wS (ts.map fun t=>(⟨[],t.ids,t.A⟩:pU)) A=ts.foldl (fun B t=>sep (t.A []) B) A:=by
  rw[wS,List.foldl_map];rfl
 have h:=Om (P:=P) (Q:=Q) (S:=S) (b:=b) ts hS hfin _ (ts.map fun t=>(⟨[],t.ids,t.A⟩:pU)) (ts.flatMap (·.ids)) w rfl ?_ ?_ ?_ (ug ts hap) (by rw[XJ];exact hw)
 ·have e:(ts.map fun t=>(⟨[],t.ids,t.A⟩:pU)).flatMap (·.dn)=[]:=by
   induction ts with
   | nil=>rfl
   | cons t ts ih=>simp
  rw[e] at h
  exact h
 ·rw[List.flatMap_map]
 ·unfold oV;simp
 ·intro s hs
  obtain⟨t,ht,rfl⟩:=List.mem_map.1 hs
  exact hg t ht
theorem iO {Y:Type} {Pre:aH} {ok:Y→Value→Prop} {Post:Y→aH} {F:Value→List Value} {a0:Act} {i:Nat} {js:List Nat} {o:Oper} (ho:ops[i]?=some o) (hs:∀cs b,o.op≠.select cs b)
 (hd:gX P ops W o a0 Pre (fun v=>ex fun y:Y=>sep (fact (ok y v)) (Post y))) (hpl:js.all (lU ops)=true) (hF:∀y v,ok y v→uX P ops (a0.put (aY ops i) v) js (F v)):
 sK P ops W a0 (tailA Pre ok Post F) [] [(i,js)]:=by
 refine⟨⟨o,ho,hs,?_⟩,fun y hy=>(by cases hy),fun j hj=>List.all_eq_true.1 hpl j hj,fun v w B h=>?_,fun _ _ _=>trivial⟩
 ·refine⟨hd.1,fun w A hS=>?_⟩
  have conv:∀(v:Value) (w':World),Sat W w' (sep (ex fun y:Y=>sep (fact (ok y v)) (Post y)) A)→Sat W w' (sep (tailA Pre ok Post F ([]++[v])) A):=fun v w' h=>by
   rw[List.nil_append,tailA,dG,Sat.ex]
   rw[dG,Sat.ex] at h
   obtain⟨y,h⟩:=h
   refine⟨y,?_⟩
   rw[aj] at h ⊢
   obtain⟨h1,h2⟩:=Sat.fact.1 h
   exact Sat.fact.2 ⟨⟨h1,rfl⟩,h2⟩
  rcases hd.2 w A hS with ⟨v,w',h1,h2⟩|⟨f,args,w1,h1,h2⟩
  ·exact .inl ⟨v,w',h1,conv v w' h2⟩
  ·refine .inr ⟨f,args,w1,h1,h2.mono ?_⟩
   rintro e w' ⟨v,rfl,h3⟩
   exact⟨v,rfl,conv v w' h3⟩
 ·have h':Sat W w (sep (tailA Pre ok Post F [v]) B):=h
  rw[tailA,dG,Sat.ex] at h'
  obtain⟨y,h'⟩:=h'
  rw[aj] at h'
  obtain⟨⟨hok,-⟩,h2⟩:=Sat.fact.1 h'
  have hp:=hF y v hok
  refine⟨F v,hp,?_⟩
  show Sat W w (sep (tailA Pre ok Post F (v::F v)) B)
  rw[tailA,dG,Sat.ex]
  refine⟨y,?_⟩
  rw[aj]
  exact Sat.fact.2 ⟨⟨hok,by rw[List.take_length]⟩,h2⟩
theorem iP {Y:Type} {Pre:aH} {ok:Y→Value→Prop} {Post:Y→aH} {F:Value→List Value} {A:aH} {w:World} {i:Nat} {js:List Nat} {dn:List (Nat×Value)} (hdn:dn.map (·.1)=i::js) (hl:∀v,(F v).length=js.length)
 (h:Sat W w (sep (tailA Pre ok Post F (dn.map (·.2))) A)):∃(v:Value) (y:Y),dn=(i,v)::js.zip (F v)∧ok y v∧Sat W w (sep (Post y) A):=by
 cases dn with
 | nil=>simp at hdn
 | cons x dn=>
  obtain⟨k,v⟩:=x
  simp only[List.map_cons,List.cons.injEq] at hdn h
  obtain⟨rfl,hj⟩:=hdn
  rw[tailA,dG,Sat.ex] at h
  obtain⟨y,h⟩:=h
  rw[aj] at h
  obtain⟨⟨h1,h2⟩,h3⟩:=Sat.fact.1 h
  refine⟨v,y,?_,h1,h3⟩
  have hlen:(dn.map (·.2)).length=(F v).length:=by rw[hl,←hj];simp
  rw[hlen,List.take_length] at h2
  rw[←h2,←hj]
  congr 1
  clear h2 hlen h h3 hj
  induction dn with
  | nil=>rfl
  | cons z dn ih=>simp[←ih]
end
end PA
