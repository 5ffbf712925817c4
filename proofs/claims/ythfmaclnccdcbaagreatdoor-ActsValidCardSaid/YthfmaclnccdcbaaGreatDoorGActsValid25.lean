/- Part of a proof. -/
import Derived.Test.YthfmaclnccdcbaaGreatDoorGActsValid24
namespace PA
open Go Go.RowKit
def bB (z:Ac):Nat→Bool
 | 0=>z.f !=0
 | 1=>z.o !=0
 | 2=>z.p !=0
 | 3=>z.q !=0
 | 4=>z.u !=0
 | 5=>z.m !=0
 | 6=>(!(z.sn==0)||!(z.sd==0))
 | 7=>decide (0<IntKind.i64.wrap ((z.td.n:Int)+(z.tc.n:Int)))
 | 8=>decide (0<z.cl.n)
 | 9=>decide (0<z.ea.n)
 | _=>(z.fo !=0)||((z.fn !=0)||decide (0<IntKind.i64.wrap ((z.fi.n:Int)+(z.fk.n:Int))))
def insL:List (Nat×Int×Nat):=[(4,1,0),(8,2,1),(12,4,2),(16,8,3),(20,16,4),(24,32,5),(29,64,6),(40,128,7),(45,256,8),(50,512,9),(69,1024,10)]
def wL (B:Nat→Bool) (f:Nat→Option Value) (k:Int):Option Value:=
 match insL.find? (fun p=>p.2.1==k) with
 | some p=>if (f p.1).isSome=true then some (.bool (B p.2.2)) else none
 | none=>none
def mapA (B:Nat→Bool) (k:Int):Option Value:=(insL.find? (fun p=>p.2.1==k)).map fun p=>.bool (B p.2.2)
theorem Px:∀p∈insL,insL.find? (fun q=>q.2.1==p.2.1)=some p:=by decide
theorem RZ:∀p∈insL,∀q∈insL,q.1=p.1→q.2.1=p.2.1:=by decide
theorem lq {B:Nat→Bool} {f:Nat→Option Value} {k:Int} {q:Nat×Int×Nat} (h:insL.find? (fun p=>p.2.1==k)=some q):wL B f k=if (f q.1).isSome=true then some (.bool (B q.2.2)) else none:=by unfold wL;rw[h]
theorem nD {B:Nat→Bool} {f:Nat→Option Value} {k:Int} (h:insL.find? (fun p=>p.2.1==k)=none):wL B f k=none:=by unfold wL;rw[h]
theorem oM {k:Int} {q:Nat×Int×Nat} (h:insL.find? (fun p=>p.2.1==k)=some q):q∈insL∧q.2.1=k:=by
 refine⟨List.mem_of_find?_eq_some h,?_⟩
 have:=List.find?_some h
 simpa using this
theorem Si (B:Nat→Bool) (f:Nat→Option Value) (u:Value) (p:Nat×Int×Nat) (hp:p∈insL):kP (wL B f) p.2.1 (some (.bool (B p.2.2)))=wL B (dU f p.1 u):=by
 funext k
 unfold kP
 by_cases hk:k=p.2.1
 ·rw[if_pos hk,hk,lq (Px p hp),bM];rfl
 ·rw[if_neg hk]
  cases hq:insL.find? (fun p=>p.2.1==k) with
  | none=>rw[nD hq,nD hq]
  | some q=>
   obtain⟨h1,h2⟩:=oM hq
   rw[lq hq,lq hq,aH]
   intro e
   exact hk (by rw[←h2];exact RZ p hp q h1 e)
theorem Py (B:Nat→Bool) {f:Nat→Option Value} (h:∀p∈insL,f p.1=none):wL B f=fun _=>none:=by
 funext k
 cases hq:insL.find? (fun p=>p.2.1==k) with
 | none=>rw[nD hq]
 | some q=>rw[lq hq,h q (oM hq).1];rfl
theorem BZ (B:Nat→Bool) {f:Nat→Option Value} (h:∀p∈insL,(f p.1).isSome=true):wL B f=mapA B:=by
 funext k
 unfold mapA
 cases hq:insL.find? (fun p=>p.2.1==k) with
 | none=>rw[nD hq];rfl
 | some q=>rw[lq hq,h q (oM hq).1];rfl
theorem MR (B:Nat→Bool) {f g:Nat→Option Value} (h:∀p∈insL,g p.1=f p.1):wL B g=wL B f:=by
 funext k
 cases hq:insL.find? (fun p=>p.2.1==k) with
 | none=>rw[nD hq,nD hq]
 | some q=>rw[lq hq,lq hq,h q (oM hq).1]
theorem Cb:∀p∈insL,p.1≠0:=by decide
def eG:Nat→List Nat:=fun x=>if x=0 then [] else [0]
def mG (B:Nat→Bool) (X:aB) (f:Nat→Option Value):aB:=
 match f 0 with
 | none=>X
 | some v=>ex fun p:Nat×Nat=>sep (fact (v=.map (some p.1))) (sep (tY p.1 (wL B f) p.2) X)
theorem mJ {B:Nat→Bool} {X:aB} {f:Nat→Option Value} (h:f 0=none):mG B X f=X:=by unfold mG;rw[h]
theorem jo {W w:World} {B:Nat→Bool} {X:aB} {f:Nat→Option Value} {v:Value} (h:f 0=some v):Sat W w (mG B X f)↔∃b n,v=.map (some b)∧Sat W w (sep (tY b (wL B f) n) X):=by
 unfold mG;rw[h];simp only;rw[Sat.ex]
 exact⟨fun ⟨⟨b,n⟩,h⟩=>⟨b,n,Sat.fact.1 h⟩,fun ⟨b,n,h⟩=>⟨(b,n),Sat.fact.2 h⟩⟩
theorem GX {W w:World} {B:Nat→Bool} {X:aB} {f:Nat→Option Value} (h:Sat W w (mG B X f)):Sat W w X:=by
 cases h0:f 0 with
 | none=>rwa [mJ h0] at h
 | some v=>
  obtain⟨b,n,-,h1⟩:=(jo h0).1 h
  obtain⟨es,clock,-,-,-,h2⟩:=h1.lu
  exact h2.forget
theorem xH {W w:World} {B:Nat→Bool} {X:aB} {f:Nat→Option Value} (h0:f 0=none) (hn:∀p∈insL,f p.1=none) (h:Sat W w (mG B X f)):Sat W (w.alloc (.map #[] 0)) (mG B X (dU f 0 (.map (some w.heap.size)))):=by
 rw[mJ h0] at h
 refine (jo bM).2 ⟨w.heap.size,0,rfl,?_⟩
 have h1:Sat W (w.alloc (.map #[] 0)) (sep (tY w.heap.size (fun _=>none) 0) X):=h.Ht
 rw[MR B (g:=dU f 0 (.map (some w.heap.size))) (f:=f) (fun p hp=>aH (Cb p hp)),Py B hn]
 exact h1
theorem bD {P:Program} {W w:World} {B:Nat→Bool} {X:aB} {f:Nat→Option Value} {T K E:TypeId} (hT:P.underlying T=some (.map K E)) (hK:P.underlying K=some (.int .i64)) (p:Nat×Int×Nat) (hp:p∈insL) (u:Value) {v:Value} (h0:f 0=some v) (h:Sat W w (mG B X f)):
 ∃b w',v=.map (some b)∧(Instr.mapUpdate T (.map (some b)) (.int .i64 p.2.1) (.bool (B p.2.2))).run P w=.ok () w'∧Sat W w' (mG B X (dU f p.1 u)):=by
 obtain⟨b,n,rfl,h1⟩:=(jo h0).1 h
 obtain⟨w',n',hr,-,h2⟩:=kN hT hK h1 p.2.1 (.bool (B p.2.2))
 refine⟨b,w',rfl,hr,?_⟩
 have hne:dU f p.1 u 0=some (.map (some b)):=by
  rw[aH (Ne.symm (Cb p hp))]
  exact h0
 refine (jo hne).2 ⟨b,n',rfl,?_⟩
 rw[←Si B f u p hp]
 exact h2
end PA
namespace PA
open Go Go.RowKit
theorem NS (I:Mem) (k d n f o p q u m sn sd:Int):kR I ⟨k,d,n,f,o,p,q,u,m,sn,sd,Sv.none,Sv.none,Sv.none,Sv.none,0,0,Sv.none,Sv.none⟩ ⟨k,d,n,f,o,p,q,u,m,sn,sd,[],[],[],[],Fm.zero⟩:=
 ⟨rfl,rfl,rfl,rfl,rfl,rfl,rfl,rfl,rfl,rfl,rfl,aA _ _ _,aA _ _ _,aA _ _ _,aA _ _ _,dD I⟩
theorem NT {k d n f o p q u m sn sd:Int} (h:gI k∧gI d∧gI n∧gI f∧gI o∧gI p∧gI q∧gI u∧gI m∧gI sn∧gI sd):zI 0 ⟨k,d,n,f,o,p,q,u,m,sn,sd,[],[],[],[],Fm.zero⟩:=by
 have hz:=zI.zero
 exact⟨(jX _).2 h,hz.td,hz.tn,hz.tc,hz.cl,hz.en,hz.ea,hz.fx⟩
end PA
