/- Part of a proof. -/
import Derived.Test.YtgicfogmdfdjmaaGreatDoorGTitleHolds1
import Derived.Lib.AppendStr
import Derived.BigQuiet
import Derived.Deep.QuietTactic
import Derived.LoopTactic
import Derived.OpenShut
import Derived.Laws.BytesString
import Derived.RangeFuncSeq
import Derived.RangeFuncRecord
import Derived.RangeFuncIn
import Derived.OwnWalkIn
import Derived.RangeFuncBound
import Derived.RangeFuncCalls
import Derived.RangeFuncLeaves
import Derived.TacticsInMore
import Derived.LoopNIn
import Derived.LoopIn
import Derived.Test.YtgicfogmdfdjmaaGreatDoorSort
namespace PA
section
variable {α:Type} {c:α→α→Int}
theorem zV.up0 (f:Nat→α) (a:Nat):zV f a (a+1) (a+1) f:=⟨fun t ht=>by omega,fun t ht=>by congr 1;omega,fun k _=>rfl⟩
theorem zV.up {f g:Nat→α} {a k:Nat} (h:zV f a (a+1) (k+1) g) (hk:a≤k):zV f a (a+1) (k+2) (tY g k (k+1)):=by
 obtain⟨g1,g2,g3⟩:=h
 have e2:g k=f a:=by have:=g2 0 (by omega);rw[show a+(k+1-(a+1))+0=k by omega] at this;exact this
 refine⟨fun t ht=>?_,fun t ht=>?_,fun x hx=>?_⟩
 ·unfold tY
  by_cases e:a+t=k
  ·rw[if_pos e,g3 (k+1) (.inr (Nat.le_refl _))];congr 1;omega
  ·rw[if_neg e,if_neg (by omega)];exact g1 t (by omega)
 ·unfold tY
  rw[if_neg (by omega),if_pos (by omega),e2];congr 1;omega
 ·unfold tY
  rw[if_neg (by omega),if_neg (by omega)];exact g3 x (by omega)
theorem zV.down0 (f:Nat→α) (m:Nat):zV f m m (m+1) f:=⟨fun t ht=>rfl,fun t ht=>by omega,fun k _=>rfl⟩
theorem zV.down {f g:Nat→α} {m k:Nat} (h:zV f k m (m+1) g) (h0:0<k) (hk:k≤m):zV f (k-1) m (m+1) (tY g k (k-1)):=by
 obtain⟨g1,g2,g3⟩:=h
 have e2:g k=f m:=g1 0 (by omega)
 refine⟨fun t ht=>?_,fun t ht=>?_,fun x hx=>?_⟩
 ·unfold tY
  rw[if_neg (by omega),if_pos (by omega),e2];congr 1;omega
 ·unfold tY
  by_cases e:k-1+(m+1-m)+t=k
  ·rw[if_pos e,g3 (k-1) (.inl (by omega))];congr 1;omega
  ·rw[if_neg e,if_neg (by omega)]
   have:=g2 (t-1) (by omega)
   rw[show k+(m+1-m)+(t-1)=k-1+(m+1-m)+t by omega] at this
   rw[this];congr 1;omega
 ·unfold tY
  rw[if_neg (by omega),if_neg (by omega)];exact g3 x (by omega)
theorem zV.none1 (f:Nat→α) (m b:Nat):zV f m m b f:=⟨fun t _=>rfl,fun t ht=>by omega,fun k _=>rfl⟩
theorem zV.none2 (f:Nat→α) (a m:Nat):zV f a m m f:=⟨fun t ht=>by omega,fun t _=>by congr 1;omega,fun k _=>rfl⟩
structure Bs (c:α→α→Int) (lo hi i j:Nat) (f:Nat→α) (x:α):Prop where
 h1:lo≤i
 h2:i≤j
 h3:j≤hi
 lo:∀k,lo≤k→k<i→c (f k) x≤0
 up:∀k,j≤k→k<hi→0≤c (f k) x
theorem Bs.start {lo hi:Nat} (h:lo≤hi) (f:Nat→α) (x:α):Bs c lo hi lo hi f x:=⟨Nat.le_refl _,h,Nat.le_refl _,fun k p1 p2=>by omega,fun k p1 p2=>by omega⟩
theorem Bs.right {lo hi i j:Nat} {f:Nat→α} {x:α} (hT:Total c) (hs:dU c lo hi f) (h:Bs c lo hi i j f x) {m:Nat} (h1:i≤m) (h2:m<j) (hm:c (f m) x≤0):Bs c lo hi (m+1) j f x:=by
 refine⟨by have:=h.h1;omega,by omega,h.h3,fun k p1 p2=>?_,h.up⟩
 rcases Nat.lt_or_ge k m with e|e
 ·exact hT.trans _ _ _ (hs k m p1 e (by have:=h.h3;omega)) hm
 ·obtain rfl:k=m:=by omega
  exact hm
theorem Bs.left {lo hi i j:Nat} {f:Nat→α} {x:α} (hT:Total c) (hs:dU c lo hi f) (h:Bs c lo hi i j f x) {m:Nat} (h1:i≤m) (h2:m<j) (hm:0≤c (f m) x):Bs c lo hi i m f x:=by
 refine⟨h.h1,h1,by have:=h.h3;omega,h.lo,fun k p1 p2=>?_⟩
 rcases Nat.lt_or_ge m k with e|e
 ·have h3:=hs m k (by have:=h.h1;omega) e p2
  have h4:=hT.flip (f m) x
  have h5:=hT.trans _ _ _ (show c x (f m)≤0 by omega) h3
  have h6:=hT.flip (f k) x
  omega
 ·obtain rfl:k=m:=by omega
  exact hm
end
end PA
namespace PA
open Go Go.RowKit
section
variable {P:Program} {W w:World} {A:aG}
end
end PA
namespace PA
open Go Go.RowKit
section
variable {W w:World} {A:aG}
end
end PA
namespace Go.Proofs.YtgicfogmdfdjmaaGreatDoor
open Go.RowKit PA
theorem xC {a:Int} (h:(Lit.int .i64 a).wf=true):-9223372036854775808≤a∧a≤9223372036854775807:=bounds_i64 h
def iF (n m:Int):Int:=(if n<0 then -(n+1) else n) % m
theorem iW (n m:Int) (h:0<m):0≤iF n m∧iF n m<m:=by
 unfold iF;exact⟨Int.emod_nonneg _ (by omega),Int.emod_lt_of_pos _ h⟩
theorem OI {a b:Int} (h:a=b):Ending.returned (.int .i64 a)=.returned (.int .i64 b):=by rw[h]
theorem UG {a b:Bool} (h:a=b):Ending.returned (.bool a)=.returned (.bool b):=by rw[h]
set_option maxHeartbeats 400000 in
theorem kZ (n m:Int) (w:World) (hn:-9223372036854775808≤n) (hn2:n≤9223372036854775807) (hm:1≤m) (hm2:m≤9223372036854775807):
 Calls Tryz.prog 6 #[.int .i64 n,.int .i64 m] w fun e w'=>e=.returned (.int .i64 (iF n m))∧w=w':=by
 by_cases h:n<0
 ·go_enter Tryz.func6,Tryz.ntmps6
  go_wp2
  go_ret
  exact⟨OI (by unfold iF;rw[if_pos h,←Int.neg_tmod,Int.tmod_eq_emod_of_nonneg (by omega)]),rfl⟩
 ·go_enter Tryz.func6,Tryz.ntmps6
  go_wp2
  go_ret
  exact⟨OI (by unfold iF;rw[if_neg (by omega)]),rfl⟩
end Go.Proofs.YtgicfogmdfdjmaaGreatDoor
namespace PA
open Go Go.RowKit
theorem Sat.putObj {W w:World} {A:aG} {l:Nat} {o:Obj} (h:Sat W w (sep (blk l o) A)) (o':Obj):Sat W (w.putObj l o') (sep (blk l o') A):=
 h.change rfl rfl rfl (World.putObj_heap_same h.lt) fun _ hk _=>World.putObj_heap_other hk
section
variable {α:Type} {F:Fence} {P:Program}
def Takes (F:Fence) (n:Nat) (P:Program) (W:World) (l:Nat) (encs:α→Array Value) (Fx:α→aG) (N:Nat) (R:List α→aG):Prop:=
 ∀(pre:List α) (x:α) (w:World) (B:aG),pre.length<N→Sat W w (sep (R pre) (sep (Fx x) B)) →
  YieldAt F n P l (encs x) w fun e w'=>e=.returned (.bool true)∧Sat W w' (sep (R (pre++[x])) B)
def Gives (F:Fence) (n:Nat) (P:Program) (W:World) (gf:Nat) (lb:Array Value) (encs:α→Array Value) (Fx:α→aG) (N:Nat) (S:List α→Prop) (Pre Post:aG):Prop:=
 ∀(l:Nat) (R:List α→aG) (w:World),Takes F (n-1) P W l encs Fx N R→Sat W w (sep (R []) Pre) →
  CallsIn F n P gf (#[.func (.yield l) #[] #[]]++lb) w fun e w'=>(∃v,e=.returned v)∧∃xs,S xs∧Sat W w' (sep (R xs) Post)
def Round (W:World) (A:aG):Exit→Act→World→Prop
 | .normal,_,w=>Sat W w A
 | _,_,_=>False
theorem MX {n:Nat} {W:World} {g:Operand} {ps:Array Tmp} {assign body:Code} {Q:Exit→Act→World→Prop} {a:Act} {w:World}
 (hro:F.round=none) (h1:1≤n) {gf:Nat} {lb:Array Value} (hg:a.eval g=.func (.func gf) #[] lb) (hFg:F.fn gf) (eg:∀args w,(callFunc gf args).run P w=.ok (.enter gf args) w)
 {encs:α→Array Value} {Fx:α→aG} {N:Nat} {S:List α→Prop} {Pre Post:aG} (hps:∀x,(encs x).size=ps.size)
 (hseq:Gives F (n-1) P W gf lb encs Fx N S Pre Post)
 (C:List α→aG) (h0:Sat W w (sep (C []) Pre)) (a₁:α→Act)
 (hassign:∀(l:Nat) (x:α) (w':World) (K:Act→World→Prop),K (a₁ x) w' →
  assign.wpIn (F.inRound l) (n-1-1) P (Exit.then K (fun _ _ _=>False)) { tmps:=(ps.zip (encs x)).foldl (fun t (p,v)=>t.setIfInBounds p v) a.tmps,defers:=[] } w')
 (hbody:∀(l:Nat) (pre:List α) (x:α) (w':World) (B:aG),pre.length<N→Sat W w' (sep (C pre) (sep (Fx x) B)) →
  body.wpIn (F.inRound l) (n-1-1) P (Round W (sep (C (pre++[x])) B)) (a₁ x) w')
 (hdone:∀(D:Nat) (xs:List α) (w':World),S xs→Sat W w' (sep (blk D (.deferred (some []))) (sep (C xs) Post)) →
  Q .normal { a with defers:={ target:=.collected D,args:=#[] }::a.defers } w'):
 (Code.rangeFunc g ps assign body).wpIn F n P Q a w:=by
 refine wpIn_rangeFunc fun fn hfn=>?_
 rw[hro]
 obtain⟨D,hD⟩:=aC (w.heap.size)
 obtain⟨mk,hmk⟩:∃mk:LoopState→Option Code→Loop,mk=fun st pe=>⟨st,pe,fn,a.tmps,ps,assign,body,D⟩:=⟨_,rfl⟩
 obtain⟨w1,hw1⟩:=aC ((w.alloc (.deferred (some []))).alloc (.loop (mk .ready none)))
 have hS1:Sat W w1 (sep (sep (C []) (sep (blk (D+1) (.loop (mk .ready none))) (blk D (.deferred (some []))))) Pre):=by
  have h:=(h0.alloc (.deferred (some []))).alloc (.loop (mk .ready none))
  rw[World.size_alloc,←hw1,←hD] at h
  simpa only[ay,au,aj] using h
 have henter:=run_enterLoop_outer (P:=P) (w:=w) fn a.tmps ps assign body
 refine⟨D+1,[{ target:=.collected D,args:=#[] }],w1,{ target:=.fn (.func gf) lb,args:=#[.func (.yield (D+1)) #[] #[]] },w1,gf,#[.func (.yield (D+1)) #[] #[]]++lb,w1,?_,?_,?_,?_,fun _=>h1,?_⟩
 ·rw[hw1,hmk,hD];exact henter
 ·simp only[resolve,hg]
  simp[go_sem]
 ·intro f' hf';simp[Target.leads] at hf';subst hf';exact hFg
 ·simp[invoke,go_sem,eg]
 ·refine (hseq (D+1) (fun pre=>sep (C pre) (sep (blk (D+1) (.loop (mk .ready none))) (blk D (.deferred (some []))))) w1 ?_ hS1).mono ?_
  ·intro pre x w2 B hlen hS
   have hl:Sat W w2 (sep (blk (D+1) (.loop (mk .ready none))) (sep (C pre) (sep (Fx x) (sep B (blk D (.deferred (some []))))))):=by simpa only[ay,au,aj] using hS
   have hy:=run_yield (P:=P) (args:=encs x) hl.aN (by rw[hmk];exact hps x)
   rw[hmk] at hy
   refine⟨fn,_,assign,body,hy,roundIn_of_wpIn hfn (hassign _ x w2 _ ⟨_,run_beginRound hl.aN (by rw[hmk]),?_⟩)⟩
   have h3:=(hl.putObj (.loop { mk .ready none with state:=.busy })).p1
   refine wpIn_mono (hbody _ pre x _ (sep (blk (D+1) (.loop { mk .ready none with state:=.busy })) (sep B (blk D (.deferred (some []))))) hlen (by simpa only[ay,au,aj] using h3)) ?_
   rintro e a3 w3 hp
   cases e with
   | normal=>
    have h4:Sat W w3 (sep (blk (D+1) (.loop { mk .ready none with state:=.busy })) (sep (C (pre++[x])) (sep B (blk D (.deferred (some [])))))):=Sat.p1 hp
    have hr:=run_endRound (P:=P) none h4.aN
    have h5:=h4.putObj (.loop (mk .ready none))
    refine⟨_,_,hr,rfl,?_⟩
    have e:({ mk .ready none with state:=.busy }:Loop)=mk .busy none:=by rw[hmk]
    rw[e]
    have e2:({ mk .busy none with state:=if (none:Option Code).isNone then .ready else .done,pending:=none }:Loop)=mk .ready none:=by rw[hmk];rfl
    rw[e2]
    simpa only[ay,au,aj] using h5
   | ret=>exact hp.elim
   | exit id=>exact hp.elim
   | goto t=>exact hp.elim
   | panic ch=>exact hp.elim
   | outgrown=>exact hp.elim
  ·rintro e w2 ⟨⟨v,rfl⟩,xs,hS,h2⟩
   have h3:Sat W w2 (sep (blk (D+1) (.loop (mk .ready none))) (sep (C xs) (sep Post (blk D (.deferred (some [])))))):=by simpa only[ay,au,aj] using h2
   have e:(mk .ready none).pending=none:=by rw[hmk]
   have hr:=run_endLoop (P:=P) h3.aN (by rw[hmk];simp)
   have h4:=(h3.putObj (.loop { mk .ready none with state:=.exhausted })).drop
   rw[e] at hr
   refine⟨none,_,hr,hdone D xs _ hS ?_⟩
   dsimp only at h4
   rw[e] at h4
   simpa only[ay,au,aj] using h4
theorem qp {F:Fence} {n':Nat} {P:Program} {W w:World} {A:aG} {ops:Array Oper} {rest:List Oper} {o:Oper} {ac:Act} {Q:Exit→Act→World→Prop} (hgd:o.guard=none) (s y:Operand) (t:TypeId)
 (ho:o.op=.call { callee:=.builtin .append,args:=#[s,y],argTypes:=#[t,t] })
 (E k IQ:Nat) (z:Value) (ht:P.underlying t=some (.slice E)) (hi:(P.info? E).map (fun i=>(i.zero,i.size,i.bytes))=some (some z,k,IQ)) (hzs:z.cells.size=k)
 {a:Option Addr} {n c:Nat} {xs:List Value} (hs:ac.eval s=.slice a n c) (h:Sat W w (sep (aK E k a n c xs) A))
 {x:Option Addr} {m cc:Nat} (hy:ac.eval y=.slice x m cc) (news:List Value) (hl:news.length=m*k) (hx0:x=none→m=0) (hx:∀b,x=some b→∀j u,news[j]?=some u→w.cell? (b.add j)=some u)
 (h1:∀u∈news,u.oneCell'=true) (hby:(n+m)*IQ≤140737488355328) (h63:n+m≤maxLen)
 (hK:∀a' c' w',Sat W w' (sep (aK E k a' (n+m) c' (xs++news)) A)→wpListIn F n' P ops Q rest (ac.put o.dst (.slice a' (n+m) c')) w'):wpListIn F n' P ops Q (o::rest) ac w:=by
 refine wpListIn_plain hgd fun K hK'=>?_
 obtain⟨i,hi1,hi2,hi3,hi4⟩:=info_parts hi
 obtain⟨a',c',w',hr,hS⟩:=mV t o.type E k IQ i z ht hi1 hi2 hi3 hi4 hzs h x m cc news hl hx0 hx h1 h63 hby
 unfold Oper.wpIn
 refine⟨?_,?_⟩
 ·simp[Oper.about,ho,resolve,Target.leads,Sem.run_pure]
 ·rw[Oper.semAt_plain F _ _ (by rw[ho];intro c hc';cases hc')]
  rw[rH s y t t ho (by rw[hs,hy];exact hr)]
  exact hK' _ _ (hK a' c' w' hS)
end
end PA
namespace PA
open Go Go.RowKit Go.Sort
theorem heap_sortedI {w:World} {g n:Nat} {os:Array Obj} {cur:Array Value} {e:TypeId} {fr:Nat×Nat} (d:Array Int) (hb:w.heap[g]?=some (.cells cur e fr)):
 (grow (putRow (Value.int .i64) (Sort.ahead w n) g 0 d) os).heap[g]?=some (.cells (putCells (Value.int .i64) 0 d cur) e fr):=by
 have hg:g<w.heap.size:=(Array.getElem?_eq_some_iff.1 hb).1
 rw[heap_grow_old _ _ (by simpa using hg)]
 simp[putRow,mapBlock,Sort.ahead,Array.getElem?_modify,hb,onCells]
theorem wE {w:World} {g n:Nat} {os:Array Obj} (d:Array Int) (k:Nat) (hk:k≠g) (hk2:k<w.heap.size):
 (grow (putRow (Value.int .i64) (Sort.ahead w n) g 0 d) os).heap[k]?=w.heap[k]?:=by
 rw[heap_grow_old _ _ (by simpa using hk2)]
 have:g≠k:=fun e=>hk e.symm
 simp[putRow,mapBlock,Sort.ahead,Array.getElem?_modify,this]
theorem take_putCellsI (cur:Array Value) (ts:List Int) (h:ts.length≤cur.size):(putCells (Value.int .i64) 0 ts.toArray cur).toList.take ts.length=ts.map iv:=by
 apply List.ext_getElem?
 intro j
 by_cases hj:j<ts.length
 ·rw[List.getElem?_take_of_lt hj,Array.getElem?_toList]
  simp[putCells,hj,show j<cur.size by omega,iv]
 ·rw[List.getElem?_take_eq_none (by omega),List.getElem?_eq_none (by simp;omega)]
theorem GI {w:World} {g:Nat} {cur:Array Value} {e:TypeId} {zs:List Int} (hb:w.heap[g]?=some (.cells cur e (0,0))) (ht:cur.toList.take zs.length=zs.map iv):Holds (Value.int .i64) w g 0 zs.toArray:=by
 intro j hj
 have hj':j<zs.length:=by simpa using hj
 refine⟨?_,by simp[World.frozen?,hb]⟩
 have h1:(cur.toList.take zs.length)[j]?=(zs.map iv)[j]?:=by rw[ht]
 rw[List.getElem?_take_of_lt hj'] at h1
 simp only[World.cell?,hb,Nat.zero_add]
 simp only[Option.isSome_none,Bool.false_eq_true,if_false]
 rw[←Array.getElem?_toList,h1]
 simp[hj',iv]
theorem Sat.sorted {W w:World} {A:aG} {E g c m:Nat} {zs ts:List Int} {os:Array Obj} (h:Sat W w (sep (aK E 1 (some ⟨g,0,none⟩) zs.length c (zs.map iv)) A)) (hl:ts.length=zs.length):
 Sat W (Go.Sort.grow (putRow (Value.int .i64) (Sort.ahead w m) g 0 ts.toArray) os) (sep (aK E 1 (some ⟨g,0,none⟩) ts.length c (ts.map iv)) A):=by
 rcases h.dL with ⟨e,-⟩|⟨g',cur,e,h1,h2,h3,h4,h5,h6⟩
 ·cases e
 ·cases e
  have h7:=h6.change (o':=.cells (putCells (Value.int .i64) 0 ts.toArray cur) E (0,0)) (w':=Go.Sort.grow (putRow (Value.int .i64) (Sort.ahead w m) g 0 ts.toArray) os) rfl rfl rfl (heap_sortedI _ h6.aN) (fun k hk hk2=>wE _ k hk hk2)
  exact h7.lI ts.length c 1 (ts.map iv) (by simp) (by omega) h3 (by simp[putCells,h4]) (by rw[Nat.mul_one];exact take_putCellsI cur ts (by omega))
end PA
namespace Go.Proofs.YtgicfogmdfdjmaaGreatDoor
open Go.RowKit PA
attribute [local go_sem] Oper.semAt_some
def oP (zs:List Int):List Int:=zs.mergeSort fun x y=>decide (x≤y)
theorem Nb {W w:World} {A:aG} (a:Option Addr) (c:Nat) (zs:List Int) (hz:zs.length<4611686018427387904) (h:Sat W w (sep (aK 3 1 a zs.length c (zs.map iv)) A)):
 Calls Tryz.prog 61 #[.slice a zs.length c] w fun e w'=>e=.returned (.tuple #[])∧Sat W w' (sep (aK 3 1 a zs.length c ((oP zs).map iv)) A):=by
 rcases h.dL with ⟨rfl,h1,rfl,h2,h3⟩|⟨g,cur,rfl,h1,h2,h3,h4,h5,h6⟩
 ·have hz0:zs=[]:=List.eq_nil_of_length_eq_zero h1
  subst hz0
  refine (AnyM.slices_Sort_int_none sortA none 0 w).mono ?_
  rintro e w' ⟨rfl,rfl⟩
  have e0:oP []=[]:=by simp[oP]
  rw[e0]
  exact⟨rfl,h⟩
 ·have hH:=GI (zs:=zs) h6.aN (by rw[Nat.mul_one] at h5;exact h5)
  refine (AnyM.slices_Sort_int sortA g 0 c zs w hH h6.lt hz).mono ?_
  rintro e w' ⟨rfl,m,os,rfl⟩
  refine⟨rfl,?_⟩
  have hl:(oP zs).length=zs.length:=by simp[oP]
  have:=h.sorted (ts:=oP zs) (m:=m) (os:=os) hl
  rw[hl] at this
  exact this
def AV (x:Int):Array Value:=#[.int .i64 x]
def noA (_:Int):aG:=emp
theorem O6:(Tryz.prog.info? 3).map (fun i=>(i.zero,i.size,i.bytes))=some (some (.int .i64 0),1,8):=by kernel_rfl
set_option maxRecDepth 100000 in
set_option maxHeartbeats 2000000 in
theorem appendSeq_in {W w:World} {Pre Post:aG} {S:List Int→Prop} (n N gf:Nat) (lb:Array Value) (hn:2≤n) (hN:N≤1000000000) (eg:∀args w,(callFunc gf args).run Tryz.prog w=.ok (.enter gf args) w)
 (hseq:Gives Fence.wide (n-1) Tryz.prog W gf lb AV noA N S Pre Post) (h:Sat W w Pre):
 CallsIn Fence.wide n Tryz.prog 75 #[.slice none 0 0,.func (.func gf) #[] lb] w fun e w'=>∃a c xs,e=.returned (.slice a xs.length c)∧S xs∧xs.length≤N∧Sat W w' (sep (aK 3 1 a xs.length c (xs.map iv)) Post):=by
 refine callsIn_of_wp_marks Tryz.func75 rfl trivial ?_ rfl
 simp only[Tryz.ntmps75,List.size_toArray,List.length_cons,List.length_nil,Nat.reduceAdd,Nat.reduceSub,Array.replicate_succ,Array.replicate_zero,List.push_toArray,List.append_toArray,List.nil_append,List.cons_append]
 obtain⟨B,hB⟩:=aC (w.heap.size)
 have h1:=(h.cO 3 1).alloc (.cells #[.slice none 0 0] 22)
 rw[←hB] at h1
 obtain⟨w1,hw1⟩:=aC (w.alloc (.cells #[.slice none 0 0] 22))
 rw[←hw1] at h1
 have HB:=ah hB
 have HW1:=ah hw1
 clear hB hw1 h
 gi_wp2_with fail
 rw[←HW1.out,←HB.out]
 refine MX (F:=Fence.wide) (W:=W) rfl (by omega) (gf:=gf) (lb:=lb) rfl trivial eg (encs:=AV) (fun _=>rfl) hseq
  (fun xs=>ex fun p:Option Addr×Nat=>sep (fact (xs.length≤N)) (sep (blk B (.cells #[.slice p.1 xs.length p.2] 22 (0,0))) (aK 3 1 p.1 xs.length p.2 (xs.map iv)))) ?_
  (fun x=>{ tmps:=#[.slice none 0 0,.func (.func gf) #[] lb,.pointer (some ⟨B,0,none⟩),undef,.slice none 0 0,.int .i64 x,.func (.func gf) #[] lb,.int .i64 x,undef,undef,undef,undef,undef],defers:=[] }) ?assign ?body ?done
 ·rw[dA,Sat.ex]
  refine⟨(none,0),?_⟩
  rw[aj]
  refine Sat.fact.2 ⟨Nat.zero_le _,?_⟩
  show Sat W w1 (sep (sep (blk B (.cells #[.slice none 0 0] 22 (0,0))) (aK 3 1 none 0 0 [])) Pre)
  simpa only[ay,au,aj] using h1
 case assign=>
  intro lp x w' K hK
  dsimp only[AV]
  gi_wp2
  exact hK
 case body=>
  intro lp pre x w' A' hlen hS
  rw[dA,Sat.ex] at hS
  obtain⟨⟨oa,oc⟩,hS⟩:=hS
  dsimp only at hS
  rw[aj] at hS
  have hS2:=(Sat.fact.1 hS).2
  obtain⟨pl,hpl⟩:=aC (pre.length)
  rw[←hpl] at hS2 hlen
  have h2:Sat W w' (sep (blk B (.cells #[.slice oa pl oc] 22 (0,0))) (sep (aK 3 1 oa pl oc (pre.map iv)) A')):=by
   have:Sat W w' (sep (emp) (sep (blk B (.cells #[.slice oa pl oc] 22 (0,0))) (sep (aK 3 1 oa pl oc (pre.map iv)) A'))):=by simpa only[noA,ay,au,aj] using hS2
   rwa [bU] at this
  have hbox:w'.cell? ⟨B,0,none⟩=some (.slice oa pl oc):=h2.cell 0
  have h3:=(h2.alloc (.cells #[.int .i64 x] 3)).p2
  have RS:=ah hpl
  clear hS hS2 h2 hpl
  gi_wp2_with (gi_at_builtin;refine qp rfl (.tmp 8) (.tmp 10) 22 rfl 3 1 8 (.int .i64 0) Tryz.underlying22 O6 rfl rfl h3 rfl [.int .i64 x] rfl (by simp) (by intro b hb;cases hb;exact dS _ [_] _) (by simp[Value.oneCell']) (by omega) (by unfold maxLen;omega) ?_)
  intro LH LJ w2 h4
  have h5:=h4.p2
  have hf:=h5.aI 0
  have hc:=h5.cell 0
  have h6:=h5.setCell 0 (.slice LH (pl+1) LJ)
  clear h3 h4 h5 hbox
  gi_wp2_with fail
  show Sat W _ _
  have e:(pre++[x]).length=pl+1:=by rw[dI,←RS.out];rfl
  rw[dA,Sat.ex]
  refine⟨(LH,LJ),?_⟩
  dsimp only
  rw[aj]
  refine Sat.fact.2 ⟨by rw[e];omega,?_⟩
  rw[e,lS]
  show Sat W _ (sep (sep (blk B (.cells #[.slice LH (pl+1) LJ] 22 (0,0))) (aK 3 1 LH (pl+1) LJ (pre.map iv++[.int .i64 x]))) A')
  have h7:=h6.p2.drop
  simpa only[ay,au,aj,List.setIfInBounds_toArray,List.set_cons_zero] using h7
 case done=>
  intro D xs w' hS hS'
  have h2:Sat W w' (sep (ex _) _):=hS'.p1
  rw[dA,Sat.ex] at h2
  obtain⟨⟨oa,oc⟩,h2⟩:=h2
  dsimp only at h2
  rw[aj] at h2
  obtain⟨hle,h3⟩:=Sat.fact.1 h2
  obtain⟨ll,hll⟩:=aC (xs.length)
  rw[←hll] at h3
  have h4:Sat W w' (sep (blk B (.cells #[.slice oa ll oc] 22 (0,0))) (sep (blk D (.deferred (some []))) (sep (aK 3 1 oa ll oc (xs.map iv)) Post))):=by simpa only[ay,au,aj] using h3
  have hc1:w'.cell? ⟨B,0,none⟩=some (.slice oa ll oc):=h4.cell 0
  have hD:=h4.p1.aN
  have HS:=ah hS
  have LK:=ah hll
  have gQ:=ah hle
  clear hS hS' h2 h3 hll hle
  gi_wp2_with fail
  refine⟨by simp,.inl ⟨_,_,rfl,run_takeDeferred hD,?_⟩⟩
  refine⟨_,results_tmp rfl _ _ _,oa,oc,xs,by rw[←LK.out];rfl,HS.out,gQ.out,?_⟩
  rw[←LK.out]
  exact (h4.p1.putObj (.deferred none)).drop.drop
set_option maxRecDepth 100000 in
theorem collect_in {W w:World} {Pre Post:aG} {S:List Int→Prop} (n N gf:Nat) (lb:Array Value) (hn:3≤n) (hN:N≤1000000000) (eg:∀args w,(callFunc gf args).run Tryz.prog w=.ok (.enter gf args) w)
 (hseq:Gives Fence.wide (n-1-1) Tryz.prog W gf lb AV noA N S Pre Post) (h:Sat W w Pre):
 CallsIn Fence.wide n Tryz.prog 60 #[.func (.func gf) #[] lb] w fun e w'=>∃a c xs,e=.returned (.slice a xs.length c)∧S xs∧xs.length≤N∧Sat W w' (sep (aK 3 1 a xs.length c (xs.map iv)) Post):=by
 refine callsIn_of_wp Tryz.func60 rfl trivial ?_ rfl
 simp only[Tryz.ntmps60,List.size_toArray,List.length_cons,List.length_nil,Nat.reduceAdd,Nat.reduceSub,Array.replicate_succ,Array.replicate_zero,List.push_toArray,List.append_toArray,List.nil_append,List.cons_append]
 have h1:=appendSeq_in (n-1) N gf lb (by omega) hN eg hseq h
 have H1:=ah h1
 clear h1 h hseq
 gi_wp2_with fail
 refine⟨trivial,fun _=>by omega,H1.out.mono ?_⟩
 rintro e w' ⟨a,c,xs,rfl,h2,h3,h4⟩
 have HH:=ah (And.intro h2 h3)
 obtain⟨l,hl⟩:=aC (xs.length)
 rw[←hl] at h4 ⊢
 have HL:=ah hl
 clear h2 h3 hl
 gi_wp2_with fail
 go_ret
 exact⟨a,c,xs,by rw[←HL.out];rfl,HH.out.1,HH.out.2,by rw[←HL.out];exact h4⟩
set_option maxRecDepth 100000 in
theorem sorted_in {W w:World} {Pre Post:aG} {S:List Int→Prop} (n N gf:Nat) (lb:Array Value) (hn:4≤n) (hN:N≤1000000000) (eg:∀args w,(callFunc gf args).run Tryz.prog w=.ok (.enter gf args) w)
 (hseq:Gives Fence.wide (n-1-1-1) Tryz.prog W gf lb AV noA N S Pre Post) (h:Sat W w Pre):
 CallsIn Fence.wide n Tryz.prog 43 #[.func (.func gf) #[] lb] w fun e w'=>∃a c xs,e=.returned (.slice a xs.length c)∧S xs∧xs.length≤N∧Sat W w' (sep (aK 3 1 a xs.length c ((oP xs).map iv)) Post):=by
 refine callsIn_of_wp Tryz.func43 rfl trivial ?_ rfl
 simp only[Tryz.ntmps43,List.size_toArray,List.length_cons,List.length_nil,Nat.reduceAdd,Nat.reduceSub,Array.replicate_succ,Array.replicate_zero,List.push_toArray,List.append_toArray,List.nil_append,List.cons_append]
 have h1:=collect_in (n-1) N gf lb (by omega) hN eg hseq h
 have H1:=ah h1
 clear h1 h hseq
 gi_wp2_with fail
 refine⟨trivial,fun _=>by omega,H1.out.mono ?_⟩
 rintro e w' ⟨a,c,xs,rfl,h2,h3,h4⟩
 have h5:=Nb a c xs (by omega) h4
 have HH:=ah (And.intro h2 h3)
 obtain⟨l,hl⟩:=aC (xs.length)
 rw[←hl] at h5 ⊢
 have HL:=ah hl
 have H5:=ah h5
 clear h2 h3 h4 h5 hl
 gi_wp2_with fail
 refine⟨trivial,fun _=>by omega,(callsIn_wide.2 H5.out).mono ?_⟩
 rintro e w' ⟨rfl,h6⟩
 clear H5
 gi_wp2_with fail
 go_ret
 exact⟨a,c,xs,by rw[←HL.out];rfl,HH.out.1,HH.out.2,by rw[←HL.out];exact h6⟩
def KeysOf (f:Int→Option Value) (ks:List Int):Prop:=ks.Pairwise (·<·)∧∀k,k∈ks↔(f k).isSome=true
theorem Jp {f:Int→Option Value} {xs:List Int} (h1:xs.Nodup) (h2:∀k,k∈xs↔(f k).isSome=true):KeysOf f (oP xs)∧(oP xs).length=xs.length:=by
 have hp:(oP xs).Perm xs:=List.mergeSort_perm _ _
 have hs:(oP xs).Pairwise (fun a b=>decide (a≤b)=true):=List.pairwise_mergeSort (fun a b c h1 h2=>by simp at *;omega) (fun a b=>by simp;omega) xs
 have hn:(oP xs).Nodup:=hp.nodup_iff.2 h1
 refine⟨⟨?_,fun k=>by rw[hp.mem_iff];exact h2 k⟩,hp.length_eq⟩
 have hboth:=List.Pairwise.and hs hn
 exact hboth.imp fun h=>by simp at h;omega
end Go.Proofs.YtgicfogmdfdjmaaGreatDoor
namespace Go.Proofs.YtgicfogmdfdjmaaGreatDoor
open Go.RowKit PA
attribute [local go_sem] Oper.semAt_some
set_option maxRecDepth 100000 in
set_option maxHeartbeats 2000000 in
theorem Jo {W:World} {A:aG} (n:Nat) (hn:1≤n) (Bs b:Nat) (f:Int→Option Value) (nf:Nat):
 Gives Fence.wide n Tryz.prog W 62 #[.pointer (some ⟨Bs,0,none⟩)] AV noA nf (fun xs=>xs.Nodup∧∀k,k∈xs↔(f k).isSome=true)
  (sep (blk Bs (.cells #[.map (some b)] 76 (0,0))) (sep (iP b f nf) A)) (sep (iP b f nf) A):=by
 intro lp R w hY h0
 have HY:=ah hY
 clear hY
 have c0:w.cell? ⟨Bs,0,none⟩=some (.map (some b)):=h0.p1.cell 0
 obtain⟨w1,hrun,h1⟩:=Au (P:=Tryz.prog) Tryz.underlying76 h0.p2
 obtain⟨r,hr⟩:=aC (w.heap.size)
 rw[←hr] at hrun h1
 have h2:Sat W w1 (sep (R []) (sep (rng b r f nf (fun k=>(f k).isSome) nf) A)):=by
  have:=h1.p2.drop
  simpa only[ay,au,aj] using this
 clear h0 h1 hr
 refine callsIn_of_wp Tryz.func62 rfl trivial ?_ rfl
 simp only[Tryz.ntmps62,List.size_toArray,List.length_cons,List.length_nil,Nat.reduceAdd,Nat.reduceSub,Array.replicate_succ,Array.replicate_zero,List.push_toArray,List.append_toArray,List.nil_append,List.cons_append]
 gi_wp2_with fail
 gi_loopw [] (fun wr=>∃(pre:List Int) (cnt:Nat) (lf:Int→Bool),pre.Nodup∧(∀k,k∈pre↔(f k).isSome=true∧lf k=false)∧(∀k,lf k=true→(f k).isSome=true)∧pre.length+cnt≤nf∧Sat W wr (sep (R pre) (sep (rng b r f nf lf cnt) A))) (fun wr=>wr.rangeLeft b r)
 case atStart=>exact⟨[],nf,_,List.nodup_nil,fun k=>⟨fun h=>(by cases h),fun h=>(by rw[h.1] at h;exact absurd h.2 (by decide))⟩,fun k hk=>hk,by simp,h2⟩
 case round=>
  clear h2 hrun c0
  obtain⟨pre,cnt,lf,hnd,hmem,hlf,hlen,hS⟩:=hrel
  have hcnt:=hS.p1.IY
  rcases Gj (P:=Tryz.prog) 0 hS.p1 with ⟨hno,hrun⟩|⟨k,v,w2,cnt2,hlk,hfk,hlt,hrun,hen,hS2⟩
  ·have HH:=ah (And.intro hnd (And.intro hmem hno))
   clear hnd hmem hlf hlen hcnt hno
   gi_wp2_with fail
   go_end0
   refine⟨⟨_,rfl⟩,pre,⟨HH.out.1,fun k=>?_⟩,?_⟩
   ·rw[HH.out.2.1 k,HH.out.2.2 k];simp
   ·have:=hS.p1.Xc
    exact this.p1
  ·have hx:Sat W w2 (sep (R pre) (sep (noA k) (sep (rng b r f nf (fun z=>lf z&&z !=k) cnt2) A))):=by
    show Sat W w2 (sep (R pre) (sep emp (sep (rng b r f nf (fun z=>lf z&&z !=k) cnt2) A)))
    rw[bU]
    exact hS2.p1
   obtain⟨fn,tmps,assign,body,hy,hR⟩:=HY.out pre k w2 _ (by omega) hx
   dsimp only[AV] at hy
   have HH:=ah (And.intro hnd (And.intro hmem (And.intro hlf (And.intro hlen (And.intro hcnt (And.intro hlt hlk))))))
   clear hnd hmem hlf hlen hcnt hlt hlk hfk hS hS2 hx
   gi_wp2_with fail
   refine hR.mono ?_
   rintro e' w5 ⟨rfl,h9⟩
   clear hR hy hrun hen
   obtain⟨q1,q2,q3,q4,q5,q6,q7⟩:=HH.out
   gi_wp2_with fail
   go_roundw
   case rel=>
    refine⟨pre++[k],cnt2,_,?_,fun z=>?_,fun z hz=>?_,?_,h9⟩
    ·refine List.nodup_append.2 ⟨q1,by simp,fun x hx y hy=>?_⟩
     rw[List.mem_singleton.1 hy]
     intro e
     subst e
     have:=((q2 x).1 hx).2
     rw[q7] at this;cases this
    ·by_cases hzk:z=k
     ·subst hzk
      simp[q3 z q7]
     ·have:(z !=k)=true:=by simp[hzk]
      rw[List.mem_append,List.mem_singleton,this,Bool.and_true,←q2 z]
      simp[hzk]
    ·simp at hz
     exact q3 z hz.1
    ·rw[dI,List.length_singleton];omega
   case measure=>rw[h9.p1.IY,q5];exact q6
theorem keys_in (n:Nat) (b:Nat) (w:World):
 CallsIn Fence.wide n Tryz.prog 44 #[.map (some b)] w fun e w'=>e=.returned (.func (.func 62) #[] #[.pointer (some ⟨w.heap.size,0,none⟩)])∧w'=w.alloc (.cells #[.map (some b)] 76):=by
 refine callsIn_of_wp Tryz.func44 rfl trivial ?_ rfl
 simp only[Tryz.ntmps44,List.size_toArray,List.length_cons,List.length_nil,Nat.reduceAdd,Nat.reduceSub,Array.replicate_succ,Array.replicate_zero,List.push_toArray,List.append_toArray,List.nil_append,List.cons_append]
 gi_wp2_with fail
 go_ret
 exact⟨rfl,rfl⟩
theorem Qe {W w:World} {A:aG} (b:Nat) (f:Int→Option Value) (nf:Nat) (h:Sat W w (sep (iP b f nf) A)):
 Calls Tryz.prog 44 #[.map (some b)] w fun e w'=>e=.returned (.func (.func 62) #[] #[.pointer (some ⟨w.heap.size,0,none⟩)])∧Sat W w' (sep (blk w.heap.size (.cells #[.map (some b)] 76 (0,0))) (sep (iP b f nf) A)):=by
 refine (callsIn_wide (n:=1)).1 ((keys_in 1 b w).mono ?_)
 rintro e w' ⟨rfl,rfl⟩
 exact⟨rfl,h.alloc _⟩
theorem zD {W w:World} {A:aG} (Bs b:Nat) (f:Int→Option Value) (nf:Nat) (hN:nf≤1000000000) (h:Sat W w (sep (blk Bs (.cells #[.map (some b)] 76 (0,0))) (sep (iP b f nf) A))):
 Calls Tryz.prog 43 #[.func (.func 62) #[] #[.pointer (some ⟨Bs,0,none⟩)]] w fun e w'=>∃a c ks,e=.returned (.slice a ks.length c)∧KeysOf f ks∧ks.length≤nf∧Sat W w' (sep (aK 3 1 a ks.length c (ks.map iv)) (sep (iP b f nf) A)):=by
 refine (callsIn_wide (n:=5)).1 ((sorted_in 5 nf 62 _ (by omega) hN (enters_of Tryz.func62 (by kernel_rfl) rfl) (Jo (5-1-1-1) (by omega) Bs b f nf) h).mono ?_)
 rintro e w' ⟨a,c,xs,rfl,⟨h1,h2⟩,h3,h4⟩
 obtain⟨hk,hl⟩:=Jp h1 h2
 refine⟨a,c,oP xs,by rw[hl],hk,by omega,?_⟩
 rw[hl]
 exact h4
end Go.Proofs.YtgicfogmdfdjmaaGreatDoor
namespace PA
open Go Go.RowKit
def PZ (e:MapEntry):Int:=match e.key with|.int _ k=>k|_=>0
theorem nodup_range:∀(N:Nat) (l:List Int),l.Nodup→(∀x∈l,0≤x∧x<N)→l.length≤N
 | 0,l,_,hr=>by
  cases l with
  | nil=>simp
  | cons x l=>have:=hr x (by simp);omega
 | N+1,l,hn,hr=>by
  by_cases hm:(N:Int)∈l
  ·have ih:=nodup_range N (l.erase (N:Int)) (hn.erase _) (fun x hx=>by
    have h1:=(List.Nodup.mem_erase_iff hn).1 hx
    have h2:=hr x h1.2
    have h3:=h1.1
    omega)
   rw[List.length_erase_of_mem hm] at ih
   omega
  ·have ih:=nodup_range N l hn (fun x hx=>by
    have h2:=hr x hx
    have h3:x≠(N:Int):=fun e=>hm (by rw[←e];exact hx)
    omega)
   omega
theorem LZ {W w:World} {A:aG} {b:Nat} {f:Int→Option Value} {n:Nat} (N:Nat) (h:Sat W w (sep (iP b f n) A)) (hf:∀k,(f k).isSome=true→0≤k∧k<N):n≤N:=by
 obtain⟨es,clock,h1,h2,-,-⟩:=h.oL
 have hk:∀e∈es.toList,e.key=.int .i64 (PZ e)∧0≤PZ e∧PZ e<N:=fun e he=>by
  obtain⟨k,hk⟩:=h1.keys e he
  have hz:PZ e=k:=by unfold PZ;rw[hk]
  rw[hz]
  refine⟨hk,hf k ?_⟩
  rw[h1.qV he hk];rfl
 have:=nodup_range N (es.toList.map PZ) (by
  rw[List.Nodup,List.pairwise_map]
  refine List.Pairwise.imp_of_mem ?_ h1.nodup
  intro a b ha hb hne e
  exact hne (by rw[(hk a ha).1,(hk b hb).1,e])) (fun x hx=>by
   obtain⟨e,he,rfl⟩:=List.mem_map.1 hx
   exact (hk e he).2)
 rw[List.length_map,Array.length_toList] at this
 omega
end PA
namespace PA
open Go Go.RowKit
def wm (w:World):Mem:=fun b=>w.heap[b]?
theorem Sat.WY (W:World):Sat W W (sep (kn (wm W)) emp):=
 ⟨rfl,rfl,rfl,wm W,Mem.no,fun _ _ h=>h,fun _ _ h=>h,fun _ _ h=>(by simp[Mem.no] at h),Mem.no,Mem.no,fun _=>.inl rfl,(Mem.qP _).symm,⟨rfl,Mem.le_refl _⟩,rfl⟩
theorem kX {I:Mem} {v:Value} {ns:List Int}:(qI.slice 1).rel I [v] ns↔∃a c,v=.slice a ns.length c∧zB a ns.length c∧bP a (ns.map iv) I:=by
 constructor
 ·rintro⟨a,c,cells,h1,h2,h3,h4⟩
  cases h1
  rw[(EI _ _ _).1 h4] at h3
  exact⟨a,c,rfl,h2,h3⟩
 ·rintro⟨a,c,rfl,h2,h3⟩
  exact⟨a,c,_,rfl,h2,h3,(EI _ _ _).2 rfl⟩
theorem LX {w:World} {x:Addr} {us:List Value} (h:∀j u,us[j]?=some u→w.cell? (x.add j)=some u):bP (some x) us (wm w):=by
 cases us with
 | nil=>exact .inl rfl
 | cons u us=>
  right
  have h0:=h 0 u rfl
  have e0:x.add 0=x:=rfl
  rw[e0] at h0
  obtain⟨b,o,sp⟩:=x
  unfold World.cell? at h0
  dsimp only at h0
  cases hb:w.heap[b]? with
  | none=>rw[hb] at h0;cases h0
  | some ob=>
   rw[hb] at h0
   cases ob with
   | cells c t f=>
    dsimp only at h0
    cases sp with
    | some q=>simp at h0
    | none=>
     refine⟨b,o,c,t,f,rfl,hb,fun i v hv=>?_⟩
     have hi:=h i v hv
     have e:(⟨b,o,none⟩:Addr).add i=⟨b,o+i,none⟩:=by unfold Addr.add;split<;>simp_all
     rw[e] at hi
     unfold World.cell? at hi
     dsimp only at hi
     rw[hb] at hi
     simpa using hi
   | _=>cases h0
end PA
namespace Go.Proofs.YtgicfogmdfdjmaaGreatDoor
open Go.RowKit PA
def IW (n:Int):Prop:=-9223372036854775808≤n∧n≤9223372036854775807
def SB (w:World) (a:Option Addr) (len cap:Nat) (zs:List Int):Prop:=
 (a=none∧len=0∧cap=0∧zs=[]) ∨
 ∃x,a=some x∧len≤cap∧cap≤maxLen∧zs.length=cap∧(∀i,i<zs.length→w.cell? (x.add i)=some (.int .i64 (zs.getD i 0)))∧∀n∈zs,(Lit.int .i64 n).wf=true
theorem argI {w:World} {a:Option Addr} {len cap:Nat} {zs:List Int} (h:SB w a len cap zs):
 ∃l:List Int,len=l.length∧(qI.slice 1).rel (wm w) [.slice a len cap] l∧∀n∈l,IW n:=by
 rcases h with ⟨rfl,rfl,rfl,rfl⟩|⟨x,rfl,h1,h2,h3,h4,h5⟩
 ·exact⟨[],rfl,kX.2 ⟨none,0,rfl,⟨Nat.le_refl _,Nat.zero_le _,fun _=>rfl⟩,.inl rfl⟩,fun n hn=>by cases hn⟩
 ·have hl:len=(zs.take len).length:=by simp;omega
  refine⟨zs.take len,hl,kX.2 ⟨some x,cap,by rw[←hl],⟨by rw[←hl];exact h1,h2,fun e=>by cases e⟩,LX fun j u hu=>?_⟩,fun n hn=>?_⟩
  ·rw[List.getElem?_map,List.getElem?_take] at hu
   split at hu
   ·rename_i hj
    have hjz:j<zs.length:=by omega
    rw[List.getElem?_eq_getElem hjz] at hu
    rw[h4 j hjz,←hu,List.getD_eq_getElem?_getD,List.getElem?_eq_getElem hjz]
    rfl
   ·cases hu
  ·exact xC (h5 n (List.mem_of_mem_take hn))
end Go.Proofs.YtgicfogmdfdjmaaGreatDoor
namespace PA
open Go Go.RowKit
def Ef (N:Nat) (f:Nat→Rt):List Value:=(List.range N).flatMap fun i=>[.int .i64 (f i).n,.int .i64 (f i).d]
def rJ (f:Nat→Rt) (i:Nat) (r:Rt):Nat→Rt:=fun k=>if k=i then r else f k
theorem xW (N:Nat) (f:Nat→Rt):Ef (N+1) f=Ef N f++[.int .i64 (f N).n,.int .i64 (f N).d]:=by
 unfold Ef
 rw[List.range_succ,List.flatMap_append]
 simp
theorem rM (N:Nat) (f:Nat→Rt):(Ef N f).length=N*2:=by
 induction N with
 | zero=>rfl
 | succ N ih=>rw[xW,dI,ih];simp;omega
theorem O4:∀(N:Nat) (f:Nat→Rt) (i:Nat),i<N→(Ef N f)[i*2]?=some (.int .i64 (f i).n)∧(Ef N f)[i*2+1]?=some (.int .i64 (f i).d)
 | 0,_,_,h=>by omega
 | N+1,f,i,h=>by
  rw[xW]
  by_cases hi:i<N
  ·have:=O4 N f i hi
   rw[List.getElem?_append_left (by rw[rM];omega),List.getElem?_append_left (by rw[rM];omega)]
   exact this
  ·obtain rfl:i=N:=by omega
   rw[List.getElem?_append_right (by rw[rM];omega),List.getElem?_append_right (by rw[rM];omega),rM,Nat.sub_self,Nat.add_sub_cancel_left]
   exact⟨rfl,rfl⟩
section
variable {W w:World} {A:aG} {t g N:Nat} {f:Nat→Rt}
end
end PA
namespace PA
open Go Go.RowKit
section
variable {α:Type} {F:Fence} {P:Program}
theorem JA {n:Nat} {W:World} {g:Operand} {ps:Array Tmp} {assign body:Code} {Q:Exit→Act→World→Prop} {a:Act} {w:World}
 (hro:F.round=none) (h1:1≤n) {gf:Nat} {lb:Array Value} (hg:a.eval g=.func (.func gf) #[] lb) (hFg:F.fn gf) (eg:∀args w,(callFunc gf args).run P w=.ok (.enter gf args) w)
 {encs:α→Array Value} {Fx:α→aG} {N:Nat} {S:List α→Prop} {Pre Post:aG} (hps:∀x,(encs x).size=ps.size)
 (hseq:Gives F (n-1) P W gf lb encs Fx N S Pre Post)
 (C:List α→aG) (h0:Sat W w (sep (C []) Pre)) (Mid:List α→α→Act→aG→Prop)
 (hassign:∀(l:Nat) (pre:List α) (x:α) (w':World) (B:aG) (K:Act→World→Prop),pre.length<N→Sat W w' (sep (C pre) (sep (Fx x) B))→(∀a₁ w₁ E,Mid pre x a₁ E→Sat W w₁ (sep E B)→K a₁ w₁) →
  assign.wpIn (F.inRound l) (n-1-1) P (Exit.then K (fun _ _ _=>False)) { tmps:=(ps.zip (encs x)).foldl (fun t (p,v)=>t.setIfInBounds p v) a.tmps,defers:=[] } w')
 (hbody:∀(l:Nat) (pre:List α) (x:α) (a₁:Act) (E:aG) (w':World) (B:aG),pre.length<N→Mid pre x a₁ E→Sat W w' (sep E B) →
  body.wpIn (F.inRound l) (n-1-1) P (Round W (sep (C (pre++[x])) B)) a₁ w')
 (hdone:∀(D:Nat) (xs:List α) (w':World),S xs→Sat W w' (sep (blk D (.deferred (some []))) (sep (C xs) Post)) →
  Q .normal { a with defers:={ target:=.collected D,args:=#[] }::a.defers } w'):
 (Code.rangeFunc g ps assign body).wpIn F n P Q a w:=by
 refine wpIn_rangeFunc fun fn hfn=>?_
 rw[hro]
 obtain⟨D,hD⟩:=aC (w.heap.size)
 obtain⟨mk,hmk⟩:∃mk:LoopState→Option Code→Loop,mk=fun st pe=>⟨st,pe,fn,a.tmps,ps,assign,body,D⟩:=⟨_,rfl⟩
 obtain⟨w1,hw1⟩:=aC ((w.alloc (.deferred (some []))).alloc (.loop (mk .ready none)))
 have hS1:Sat W w1 (sep (sep (C []) (sep (blk (D+1) (.loop (mk .ready none))) (blk D (.deferred (some []))))) Pre):=by
  have h:=(h0.alloc (.deferred (some []))).alloc (.loop (mk .ready none))
  rw[World.size_alloc,←hw1,←hD] at h
  simpa only[ay,au,aj] using h
 have henter:=run_enterLoop_outer (P:=P) (w:=w) fn a.tmps ps assign body
 refine⟨D+1,[{ target:=.collected D,args:=#[] }],w1,{ target:=.fn (.func gf) lb,args:=#[.func (.yield (D+1)) #[] #[]] },w1,gf,#[.func (.yield (D+1)) #[] #[]]++lb,w1,?_,?_,?_,?_,fun _=>h1,?_⟩
 ·rw[hw1,hmk,hD];exact henter
 ·simp only[resolve,hg]
  simp[go_sem]
 ·intro f' hf';simp[Target.leads] at hf';subst hf';exact hFg
 ·simp[invoke,go_sem,eg]
 ·refine (hseq (D+1) (fun pre=>sep (C pre) (sep (blk (D+1) (.loop (mk .ready none))) (blk D (.deferred (some []))))) w1 ?_ hS1).mono ?_
  ·intro pre x w2 B hlen hS
   have hl:Sat W w2 (sep (blk (D+1) (.loop (mk .ready none))) (sep (C pre) (sep (Fx x) (sep B (blk D (.deferred (some []))))))):=by simpa only[ay,au,aj] using hS
   have hy:=run_yield (P:=P) (args:=encs x) hl.aN (by rw[hmk];exact hps x)
   rw[hmk] at hy
   refine⟨fn,_,assign,body,hy,roundIn_of_wpIn hfn (hassign _ pre x w2 (sep (blk (D+1) (.loop (mk .ready none))) (sep B (blk D (.deferred (some []))))) _ hlen (by simpa only[ay,au,aj] using hS) ?_)⟩
   intro a₁ w₁ E hmid hE
   have hl1:Sat W w₁ (sep (blk (D+1) (.loop (mk .ready none))) (sep E (sep B (blk D (.deferred (some [])))))):=by simpa only[ay,au,aj] using hE
   refine⟨_,run_beginRound hl1.aN (by rw[hmk]),?_⟩
   have h3:=(hl1.putObj (.loop { mk .ready none with state:=.busy })).p1
   refine wpIn_mono (hbody _ pre x a₁ E _ (sep (blk (D+1) (.loop { mk .ready none with state:=.busy })) (sep B (blk D (.deferred (some []))))) hlen hmid (by simpa only[ay,au,aj] using h3)) ?_
   rintro e a3 w3 hp
   cases e with
   | normal=>
    have h4:Sat W w3 (sep (blk (D+1) (.loop { mk .ready none with state:=.busy })) (sep (C (pre++[x])) (sep B (blk D (.deferred (some [])))))):=Sat.p1 hp
    have hr:=run_endRound (P:=P) none h4.aN
    have h5:=h4.putObj (.loop (mk .ready none))
    refine⟨_,_,hr,rfl,?_⟩
    have e:({ mk .ready none with state:=.busy }:Loop)=mk .busy none:=by rw[hmk]
    rw[e]
    have e2:({ mk .busy none with state:=if (none:Option Code).isNone then .ready else .done,pending:=none }:Loop)=mk .ready none:=by rw[hmk];rfl
    rw[e2]
    simpa only[ay,au,aj] using h5
   | ret=>exact hp.elim
   | exit id=>exact hp.elim
   | goto t=>exact hp.elim
   | panic ch=>exact hp.elim
   | outgrown=>exact hp.elim
  ·rintro e w2 ⟨⟨v,rfl⟩,xs,hS,h2⟩
   have h3:Sat W w2 (sep (blk (D+1) (.loop (mk .ready none))) (sep (C xs) (sep Post (blk D (.deferred (some [])))))):=by simpa only[ay,au,aj] using h2
   have e:(mk .ready none).pending=none:=by rw[hmk]
   have hr:=run_endLoop (P:=P) h3.aN (by rw[hmk];simp)
   have h4:=(h3.putObj (.loop { mk .ready none with state:=.exhausted })).drop
   rw[e] at hr
   refine⟨none,_,hr,hdone D xs _ hS ?_⟩
   dsimp only at h4
   rw[e] at h4
   simpa only[ay,au,aj] using h4
theorem JB {n:Nat} {W:World} {g:Operand} {ps:Array Tmp} {assign body:Code} {Q:Exit→Act→World→Prop} {a:Act} {w:World}
 (hro:F.round=none) (h1:1≤n) {gf:Nat} {lb:Array Value} (hg:a.eval g=.func (.func gf) #[] lb) (hFg:F.fn gf) (eg:∀args w,(callFunc gf args).run P w=.ok (.enter gf args) w)
 {encs:α→Array Value} {Fx:α→aG} {N:Nat} {S:List α→Prop} {Pre Post:aG} (hps:∀x,(encs x).size=ps.size)
 (hseq:Gives F (n-1) P W gf lb encs Fx N S Pre Post)
 (C:List α→aG) (h0:Sat W w (sep (C []) Pre)) (upd:α→Nat→Array Value→Array Value) (Cm:List α→α→Nat→aG)
 (hassign:∀(l:Nat) (pre:List α) (x:α) (w':World) (B:aG) (K:Act→World→Prop),pre.length<N→Sat W w' (sep (C pre) (sep (Fx x) B))→(∀g w₁,Sat W w₁ (sep (Cm pre x g) B)→K { tmps:=upd x g a.tmps,defers:=[] } w₁) →
  assign.wpIn (F.inRound l) (n-1-1) P (Exit.then K (fun _ _ _=>False)) { tmps:=(ps.zip (encs x)).foldl (fun t (p,v)=>t.setIfInBounds p v) a.tmps,defers:=[] } w')
 (hbody:∀(l:Nat) (pre:List α) (x:α) (g:Nat) (w':World) (B:aG),pre.length<N→Sat W w' (sep (Cm pre x g) B) →
  body.wpIn (F.inRound l) (n-1-1) P (Round W (sep (C (pre++[x])) B)) { tmps:=upd x g a.tmps,defers:=[] } w')
 (hdone:∀(D:Nat) (xs:List α) (w':World),S xs→Sat W w' (sep (blk D (.deferred (some []))) (sep (C xs) Post)) →
  Q .normal { a with defers:={ target:=.collected D,args:=#[] }::a.defers } w'):
 (Code.rangeFunc g ps assign body).wpIn F n P Q a w:=by
 refine JA hro h1 hg hFg eg hps hseq C h0 (fun pre x a₁ E=>∃g,a₁={ tmps:=upd x g a.tmps,defers:=[] }∧E=Cm pre x g) ?_ ?_ hdone
 ·intro l pre x w' B K hl hS hK
  exact hassign l pre x w' B K hl hS fun g w₁ h=>hK _ w₁ _ ⟨g,rfl,rfl⟩ h
 ·rintro l pre x a₁ E w' B hl ⟨g,rfl,rfl⟩ hS
  exact hbody l pre x g w' B hl hS
end
end PA
namespace PA
open Go Go.Proofs.YtgicfogmdfdjmaaGreatDoor
def bY (l:List Int) (i:Nat) (n:Int):Int:=match l[i]? with|some x=>iF x n|none=>0
theorem aW (l:List Int) (i:Nat) (n:Int) (hn:0<n):0≤bY l i n∧bY l i n<n:=by
 unfold bY
 split
 ·exact iW _ _ hn
 ·omega
end PA
namespace Go.Proofs.YtgicfogmdfdjmaaGreatDoor
open Go.RowKit PA
def OH (I:Mem) (va:Value) (l:List Int):Prop:=(∃a c,va=.slice a l.length c)∧(qI.slice 1).rel I [va] l∧∀z∈l,IW z
theorem OH.mono {I J:Mem} {va:Value} {l:List Int} (hl:Mem.le I J) (h:OH I va l):OH J va l:=⟨h.1,(qI.slice 1).mono hl h.2.1,h.2.2⟩
def bg (B:Nat) (va:Value) (pos day:Int) (fv:Value):aG:=blk B (.cells #[va,.int .i64 pos,.int .i64 day,fv] 98 (0,0))
theorem P7 {W w:World} {A:aG} {I:Mem} (va:Value) (l:List Int) (i:Nat) (n:Int) (hn0:0<n) (hn1:n≤1099511627776) (hi:i≤1000000) (hv:OH I va l) (h:Sat W w (sep (kn I) A)):
 Calls Tryz.prog 46 #[va,.int .i64 i,.int .i64 n] w fun e w'=>e=.returned (.int .i64 (bY l i n))∧w=w':=by
 obtain⟨⟨a,c,rfl⟩,hv,hl⟩:=hv
 obtain⟨a',c',e,hsw,hc⟩:=kX.1 hv
 simp only[Value.slice.injEq] at e
 obtain⟨rfl,-,rfl⟩:=e
 obtain⟨r,hr⟩:=aC (bY l i n)
 rw[←hr]
 unfold bY at hr
 have HR:=ah hr
 have hlen:(l.length:Int)≤9223372036854775807:=by
  have h1:=hsw.1;have h2:=hsw.2.1;unfold maxLen at h2;omega
 have hiI:(i:Int)≤1000000:=by omega
 by_cases hlt:i<l.length
 ·have hltz:¬(l.length:Int)≤(i:Int):=by omega
  have SL:(i:Int)<(l.length:Int):=by omega
  obtain⟨b,o,rfl,hcell⟩:=fV hc (fun e=>by have:=congrArg List.length e;simp at this;rw[this] at hlt;simp at hlt)
  obtain⟨x,hx⟩:=aC (l[i])
  have c0:=hcell w h.ext i (PA.iv x) (by rw[List.getElem?_map,List.getElem?_eq_getElem hlt,hx];rfl)
  unfold PA.iv at c0
  have D5:=hl x (by rw[hx];exact List.getElem_mem hlt)
  have HX:Hid (r=iF x n):=ah (by rw[HR.out,List.getElem?_eq_getElem hlt,hx])
  have HA:=ah (kZ x n w D5.1 D5.2 (by omega) (by omega))
  obtain⟨ll,hll⟩:=aC (l.length)
  rw[←hll] at hlen hltz SL ⊢
  clear hv hc hcell hl hr hx hll h hsw D5 HR
  go_enter Tryz.func46,Tryz.ntmps46
  go_wp2_with fail
  refine HA.out.mono ?_
  rintro e w2 ⟨rfl,rfl⟩
  go_wp2
  go_ret
  exact⟨OI HX.out.symm,rfl⟩
 ·have hltz:(l.length:Int)≤(i:Int):=by omega
  have HX:Hid (r=0):=ah (by rw[HR.out,List.getElem?_eq_none (by omega)])
  obtain⟨ll,hll⟩:=aC (l.length)
  rw[←hll] at hlen hltz ⊢
  clear hv hc hl hr hll h hsw HR
  go_enter Tryz.func46,Tryz.ntmps46
  go_wp2
  go_ret
  exact⟨OI HX.out.symm,rfl⟩
theorem aO {W w:World} {A:aG} {I:Mem} {B:Nat} {day:Int} {fv:Value} (va:Value) (l:List Int) (i:Nat) (n:Int) (hn0:0<n) (hn1:n≤1099511627776) (hi:i<1000000) (hv:OH I va l) (h:Sat W w (sep (bg B va i day fv) (sep (kn I) A))):
 Calls Tryz.prog 33 #[.pointer (some ⟨B,0,none⟩),.int .i64 n] w fun e w'=>e=.returned (.int .i64 (bY l i n))∧Sat W w' (sep (bg B va ((i+1:Nat):Int) day fv) (sep (kn I) A)):=by
 unfold bg at h ⊢
 obtain⟨r,hr⟩:=aC (bY l i n)
 rw[←hr]
 have c1:w.cell? ⟨B,1,none⟩=some (.int .i64 i):=h.cell 1
 have f1:w.frozen? ⟨B,1,none⟩=false:=h.aI 1
 obtain⟨w1,hw1⟩:=aC (w.setCell ⟨B,1,none⟩ (.int .i64 ((i+1:Nat):Int)))
 have h1:=h.setCell 1 (.int .i64 ((i+1:Nat):Int))
 rw[←hw1] at h1
 have h1d:Sat W w1.drew (sep (blk B (.cells #[va,.int .i64 ((i+1:Nat):Int),.int .i64 day,fv] 98 (0,0))) (sep (kn I) A)):=h1.drew
 have hx:(i:Int)+1=((i+1:Nat):Int):=by omega
 obtain⟨i1,hi1⟩:=aC (((i+1:Nat):Int))
 rw[←hi1] at hw1 hx h1d ⊢
 have hiI:(i:Int)<1000000:=by omega
 have d0:w1.drew.cell? ⟨B,0,none⟩=some va:=h1d.cell 0
 have d1:w1.drew.cell? ⟨B,1,none⟩=some (.int .i64 i1):=h1d.cell 1
 have hx2:IntKind.i64.wrap (i1-1)=(i:Int):=by
  have:i1-1=(i:Int):=by omega
  rw[this];unfold IntKind.wrap;simp[IntKind.bits,IntKind.signed];omega
 have HP:=ah (P7 va l i n hn0 hn1 (by omega) hv h1d.p1)
 have HD:=ah h1d
 have HW1:=ah hw1
 rw[←hr] at HP
 clear hr h h1 h1d hi1 hw1
 go_enter Tryz.func33,Tryz.ntmps33
 go_upto_region 2 with (fail)
 rw[←HW1.out]
 refine aA rfl (fun _=>True) [(0,.p),(1,.p),(2,.p),(3,.t),(4,.p),(5,.p),(6,.p),(7,.t),(8,.p),(9,.p),(10,.e false),(11,.p)] (by kernel_rfl) ?_
 have hS0:True:=trivial
 (repeat ((first|(refine eF (v:=?_) rfl rfl (fun w'=>?_) ?_;rotate_left;(go_simp;with_reducible rfl))|(refine eG (v:=?_) rfl rfl hS0 (fun w' hS=>?_) ?_;rotate_left;((try dsimp only at hS);go_simp;with_reducible rfl))|(refine eH (v:=?_) rfl rfl ?_ ?_;rotate_left;(go_simp;with_reducible rfl))|(refine bD rfl rfl ?_)|(refine bG rfl rfl hS0 ?_)|(refine bH rfl rfl ?_));simp only[Act.put,lsA,lsB,bC]))
 (refine iQ rfl rfl (fun K hK=>?_);go_simp)
 refine HP.out.mono ?_
 rintro e w2 ⟨rfl,rfl⟩
 (refine hK _ _ (fun h=>by cases h) ?_;clear hK K;(try simp only[Act.put,lsA,lsB,bC]))
 (repeat ((first|(refine eF (v:=?_) rfl rfl (fun w'=>?_) ?_;rotate_left;(go_simp;with_reducible rfl))|(refine eG (v:=?_) rfl rfl hS0 (fun w' hS=>?_) ?_;rotate_left;((try dsimp only at hS);go_simp;with_reducible rfl))|(refine eH (v:=?_) rfl rfl ?_ ?_;rotate_left;(go_simp;with_reducible rfl))|(refine bD rfl rfl ?_)|(refine bG rfl rfl hS0 ?_)|(refine bH rfl rfl ?_));simp only[Act.put,lsA,lsB,bC]))
 refine bM ?_
 go_wp2
 go_ret
 exact⟨rfl,HD.out⟩
end Go.Proofs.YtgicfogmdfdjmaaGreatDoor
namespace PA
open Go RowKit
def encI (n:Int):List UInt8:=Lib.uvarint (Lib.zigzag n)
def encR (b:List UInt8):List UInt8:=Lib.uvarint b.length++b
abbrev RSt:=Except Int (List UInt8)
end PA
namespace PA
open Go
structure Iv where
 ln:Int
 ld:Int
 hn:Int
 hd:Int
 lo:Bool
 ho:Bool
 li:Bool
 hi:Bool
 deriving DecidableEq
inductive Fm where
 | mk (op n:Int) (ins:List Iv) (kids:List Fm)
namespace Fm
def op:Fm→Int|mk o _ _ _=>o
def num:Fm→Int|mk _ n _ _=>n
def ins:Fm→List Iv|mk _ _ i _=>i
def kids:Fm→List Fm|mk _ _ _ k=>k
theorem ind {P:Fm→Prop} (h:∀o n i k,(∀f∈k,P f)→P (mk o n i k)):∀f,P f
 | mk o n i k=>h o n i k fun f _=>ind h f
mutual
def size:Fm→Nat
 | mk _ _ _ k=>sizes k+1
def sizes:List Fm→Nat
 | []=>0
 | f::l=>size f+sizes l
end
mutual
def deep:Fm→Nat
 | mk _ _ _ k=>fG k+1
def fG:List Fm→Nat
 | []=>0
 | f::l=>max (deep f) (fG l)
end
mutual
def nodes:Fm→List Fm
 | mk o n i k=>mk o n i k::xE k
def xE:List Fm→List Fm
 | []=>[]
 | f::l=>nodes f++xE l
end
def formed (sp:List Iv→Bool):Fm→Bool
 | mk o n i k=>
  if (o≠2∧i≠[])∨(o≠2∧o≠1∧n≠0) then false
  else if o=0 then k.isEmpty
  else if o=1 then k.isEmpty&&decide (0≤n)&&decide (n<64)
  else if o=2 then k.isEmpty&&decide (0≤n)&&decide (n<32)&&sp i
  else if o=3∨o=6 then decide (k.length=1)
  else decide (o=4)||decide (o=5)
mutual
def whole (sp:List Iv→Bool):Fm→Bool
 | mk o n i k=>formed sp (mk o n i k)&&dW sp k
def dW (sp:List Iv→Bool):List Fm→Bool
 | []=>true
 | f::l=>whole sp f&&dW sp l
end
mutual
theorem I5 (sp:List Iv→Bool):∀f,whole sp f=(nodes f).all (formed sp)
 | mk o n i k=>by rw[whole,nodes,List.all_cons,vU sp k]
theorem vU (sp:List Iv→Bool):∀l,dW sp l=(xE l).all (formed sp)
 | []=>rfl
 | f::l=>by rw[dW,xE,List.all_append,I5 sp f,vU sp l]
end
mutual
theorem L6:∀f,(nodes f).length=size f
 | mk o n i k=>by rw[nodes,List.length_cons,yP k,size]
theorem yP:∀l,(xE l).length=sizes l
 | []=>rfl
 | f::l=>by rw[xE,List.length_append,L6 f,yP l,sizes]
end
def OD (b:Bool):Int:=if b=true then 1 else 0
def gZ (l:List Int):List UInt8:=Lib.uvarint l.length++l.flatMap encI
def dR (x:Iv):List Int:=[x.ln,x.ld,x.hn,x.hd,OD x.lo,OD x.ho,OD x.li,OD x.hi]
def abC:Fm→List UInt8
 | mk o n i k=>encI o++(encI n++(encI (i.length:Int)++(i.flatMap (fun x=>gZ (dR x))++encI (k.length:Int))))
def enc (f:Fm):List UInt8:=(nodes f).flatMap abC
def valid (sp:List Iv→Bool) (f:Fm):Int:=if 96<size f∨8<deep f then 4 else if whole sp f=true then 0 else 1
end Fm
end PA
namespace PA
open Go Go.RowKit
def Xe:Rep Iv:=⟨fun _ cs x=>cs=[.int .i64 x.ln,.int .i64 x.ld,.int .i64 x.hn,.int .i64 x.hd,.bool x.lo,.bool x.ho,.bool x.li,.bool x.hi],fun _ h=>h⟩
mutual
def Xf (I:Mem):Fm→List Value→Prop
 | .mk o n i k,cs=>∃(a:Option Addr) (c:Nat) (b:Option Addr) (d:Nat),cs=[.int .i64 o,.int .i64 n,.slice a i.length c,.slice b k.length d]∧(Xe.slice 8).rel I [.slice a i.length c] i∧zB b k.length d∧∃css,bP b css.flatten I∧I7 I k css
def I7 (I:Mem):List Fm→List (List Value)→Prop
 | [],css=>css=[]
 | f::l,css=>∃c t,css=c::t∧(Xf I f c∧c.length=4)∧I7 I l t
end
mutual
theorem EJ {I J:Mem} (hl:Mem.le I J):∀(f:Fm) (cs:List Value),Xf I f cs→Xf J f cs
 | .mk _ _ _ k,_,⟨a,c,b,d,e,hi,hw,css,hc,hk⟩=>⟨a,c,b,d,e,(Xe.slice 8).mono hl hi,hw,css,fZ hl hc,Aw hl k css hk⟩
theorem Aw {I J:Mem} (hl:Mem.le I J):∀(l:List Fm) (css:List (List Value)),I7 I l css→I7 J l css
 | [],_,h=>h
 | f::l,_,⟨c,t,e,h1,h2⟩=>⟨c,t,e,⟨EJ hl f c h1.1,h1.2⟩,Aw hl l t h2⟩
end
def rF:Rep Fm:=⟨fun I cs f=>Xf I f cs,fun hl h=>EJ hl _ _ h⟩
theorem sN {I:Mem}:∀{l:List Fm} {css:List (List Value)},I7 I l css↔dX (fun c x=>rF.rel I c x∧c.length=4) css l
 | [],[]=>⟨fun _=>trivial,fun _=>rfl⟩
 | [],_::_=>⟨fun h=>(by cases h),fun h=>False.elim h⟩
 | f::l,[]=>⟨fun ⟨_,_,h,_⟩=>(by cases h),fun h=>False.elim h⟩
 | f::l,c::t=>by
  constructor
  ·rintro⟨c',t',e,h1,h2⟩
   cases e
   exact⟨h1,sN.1 h2⟩
  ·rintro⟨h1,h2⟩
   exact⟨c,t,rfl,h1,sN.2 h2⟩
theorem ig {I:Mem} {cs:List Value} {o n:Int} {i:List Iv} {k:List Fm}:rF.rel I cs (.mk o n i k)↔∃(a:Option Addr) (c:Nat) (b:Option Addr) (d:Nat),cs=[.int .i64 o,.int .i64 n,.slice a i.length c,.slice b k.length d]∧(Xe.slice 8).rel I [.slice a i.length c] i∧(rF.slice 4).rel I [.slice b k.length d] k:=by
 constructor
 ·rintro⟨a,c,b,d,e,hi,hw,css,hc,hk⟩
  exact⟨a,c,b,d,e,hi,b,d,css.flatten,rfl,hw,hc,css,rfl,sN.1 hk⟩
 ·rintro⟨a,c,b,d,e,hi,b',d',cells,e2,hw,hc,css,rfl,hk⟩
  cases e2
  exact⟨a,c,b,d,e,hi,hw,css,hc,sN.2 hk⟩
end PA
namespace PA
open Go Go.RowKit
structure Cl where
 refs:List Int
 body:Fm
structure Ea where
 file:Int
 day:Int
structure Pa where
 k:Int
 d:Int
 n:Int
 f:Int
 o:Int
 p:Int
 q:Int
 u:Int
 m:Int
 sn:Int
 sd:Int
 td:List Fm
 tc:List Cl
 cl:List Cl
 ea:List Ea
 fx:Fm
def Fm.zero:Fm:=.mk 0 0 [] []
def Pa.zero:Pa:=⟨0,0,0,0,0,0,0,0,0,0,0,[],[],[],[],Fm.zero⟩
def SK:Rep Ea:=⟨fun _ cs x=>cs=[.int .i64 x.file,.int .i64 x.day],fun _ h=>h⟩
def oz:Rep Cl:=⟨fun I cs x=>∃(a:Option Addr) (c:Nat) (b:List Value),cs=.slice a x.refs.length c::b∧(qI.slice 1).rel I [.slice a x.refs.length c] x.refs∧rF.rel I b x.body,
 fun hl ⟨a,c,b,e,h1,h2⟩=>⟨a,c,b,e,(qI.slice 1).mono hl h1,rF.mono hl h2⟩⟩
structure oM (I:Mem) (z:Ac) (x:Pa):Prop where
 k:z.k=x.k
 d:z.d=x.d
 n:z.n=x.n
 f:z.f=x.f
 o:z.o=x.o
 p:z.p=x.p
 q:z.q=x.q
 u:z.u=x.u
 m:z.m=x.m
 sn:z.sn=x.sn
 sd:z.sd=x.sd
 td:(rF.slice 4).rel I [z.td.v] x.td
 tc:(oz.slice 5).rel I [z.tc.v] x.tc
 cl:(oz.slice 5).rel I [z.cl.v] x.cl
 ea:(SK.slice 2).rel I [z.ea.v] x.ea
 fx:rF.rel I [.int .i64 z.fo,.int .i64 z.fn,z.fi.v,z.fk.v] x.fx
theorem oM.mono {I J:Mem} {z:Ac} {x:Pa} (hl:Mem.le I J) (h:oM I z x):oM J z x:=
 ⟨h.k,h.d,h.n,h.f,h.o,h.p,h.q,h.u,h.m,h.sn,h.sd,(rF.slice 4).mono hl h.td,(oz.slice 5).mono hl h.tc,(oz.slice 5).mono hl h.cl,(SK.slice 2).mono hl h.ea,rF.mono hl h.fx⟩
theorem aH {α:Type} (R:Rep α) (k:Nat) (I:Mem):(R.slice k).rel I [.slice none 0 0] []:=
 ⟨none,0,[],rfl,⟨Nat.le_refl _,Nat.zero_le _,fun _=>rfl⟩,.inl rfl,[],rfl,trivial⟩
theorem dJ (I:Mem):rF.rel I [.int .i64 0,.int .i64 0,.slice none 0 0,.slice none 0 0] Fm.zero:=
 ig.2 ⟨none,0,none,0,rfl,aH _ _ _,aH _ _ _⟩
theorem oM.zero (I:Mem):oM I Ac.zero Pa.zero:=
 ⟨rfl,rfl,rfl,rfl,rfl,rfl,rfl,rfl,rfl,rfl,rfl,aH _ _ _,aH _ _ _,aH _ _ _,aH _ _ _,dJ I⟩
def Gl (x:Iv):Prop:=0≤x.ln∧x.ln≤4∧x.ld=1∧x.li=false∧((x.hi=true∧x.hn=0∧x.hd=0∧x.ho=false)∨(x.hi=false∧x.hd=1∧x.ln<x.hn∧x.hn≤8))
def oN (f:Fm):Prop:=∃n:Int,0≤n∧n<6∧f=.mk 1 n [] []
def Az (f:Fm):Prop:=∃(n:Int) (x:Iv),0≤n∧n<2∧Gl x∧f=.mk 2 n [x] []
inductive cZ:Fm→Prop
 | c {f}:oN f→cZ f
 | v {f}:Az f→cZ f
 | OE {f g}:oN f→Az g→cZ (.mk 4 0 [] [f,g])
 | Xg {f g}:oN f→Az g→cZ (.mk 5 0 [] [f,g])
 | ZN {f g}:oN f→oN g→cZ (.mk 5 0 [] [f,g])
 | ZO {f g}:oN f→oN g→cZ (.mk 4 0 [] [f,.mk 6 0 [] [g]])
 | part {f}:oN f→cZ (.mk 3 0 [] [f])
 | ZP {f g}:oN f→Az g→cZ (.mk 4 0 [] [f,.mk 3 0 [] [g]])
def kY (i:Nat) (r:List Int):Prop:=r=[]∨(∃j:Nat,j<i∧r=[(j:Int)])∨(i=2∧r=[0,1])
def oC (l:List Cl):Prop:=1≤l.length∧l.length≤3∧∀(i:Nat) (h:i<l.length),cZ l[i].body∧kY i l[i].refs
def AB (td:List Fm) (tc:List Cl):Prop:=1≤td.length∧td.length≤2∧(∀f∈td,cZ f)∧oC tc
def eP (N:Nat) (z:Int):Prop:=∃j:Nat,j<N∧z=5*(j:Int)
def L8 (N:Nat) (l:List Ea):Prop:=l.length≤2∧(∀e∈l,eP N e.file∧35600≤e.day∧e.day≤38001)∧l.Pairwise fun a b=>a.file≠b.file
def AO (N:Nat) (y:Pa):Prop:=
 ∃(o p q:Int) (td:List Fm) (tc:List Cl) (ea:List Ea),y={ Pa.zero with f:=5*(N:Int),o:=o,p:=p,q:=q,td:=td,tc:=tc,ea:=ea } ∧
  (o=0∨o=1)∧(p=1∨p=2)∧(q=-1∨eP N q)∧AB td tc∧L8 N ea
def Gm (n d:Int):Prop:=(n=1∧d=1)∨(n=1∧d=2)∨(n=1∧d=3)∨(n=2∧d=3)
inductive Other (N:Nat):Pa→Prop
 | plain {k f:Int}:(k=1∨k=2∨k=10∨k=11)→eP N f→Other N { Pa.zero with k:=k,f:=f }
 | list {k f:Int} {cl:List Cl}:(k=3∨k=15)→eP N f→oC cl→Other N { Pa.zero with k:=k,f:=f,cl:=cl }
 | pay {f p q u m:Int}:eP N f→(p=1∨p=2)→(q=0∨q=1)→((0≤u∧u≤5)∨(9≤u∧u≤11))→1≤m→m≤1000→Other N { Pa.zero with k:=4,f:=f,p:=p,q:=q,u:=u,m:=m }
 | small {p u:Int}:(p=1∨p=2)→(u=0∨u=1)→Other N { Pa.zero with k:=5,p:=p,u:=u }
 | order {k f u:Int}:(k=6∨k=7∨k=18∨k=9)→eP N f→0≤u→u<60→(k≠9→u≤2)→Other N { Pa.zero with k:=k,f:=f,u:=u }
 | extend {f u m:Int}:eP N f→0≤u→u≤2→1≤m→m≤4→Other N { Pa.zero with k:=8,f:=f,u:=u,m:=m }
 | L9 {k f p:Int}:(k=12∨k=14)→eP N f→1≤p→p≤4→Other N { Pa.zero with k:=k,f:=f,p:=p }
 | decide {f q u:Int} {cl:List Cl}:eP N f→(q=0∨q=1)→((u=0∨u=1)∧cl=[]∨u=2∧oC cl)→Other N { Pa.zero with k:=13,f:=f,q:=q,u:=u,cl:=cl }
 | transfer {f p q sn sd:Int}:eP N f→1≤p→p≤3→p<q→q≤p+2→Gm sn sd→Other N { Pa.zero with k:=16,f:=f,p:=p,q:=q,sn:=sn,sd:=sd }
 | OG {f p q u:Int}:eP N f→1≤p→p≤3→p<q→q≤p+2→0≤u→u<2000→Other N { Pa.zero with k:=17,f:=f,p:=p,q:=q,u:=u }
 | art {g:Fm}:cZ g→Other N { Pa.zero with k:=19,fx:=g }
 | closure {o u:Int}:(o=0∨o=1)→0≤u→u<20→Other N { Pa.zero with k:=20,o:=o,u:=u }
 | rule {o u m:Int}:(o=0∨o=1)→0≤u→u≤18→1≤m→m≤50→Other N { Pa.zero with k:=21,o:=o,u:=u,m:=m }
def bK (y:Pa) (d n:Int):Pa:={ y with d:=d,n:=n,u:=if y.k=9∨y.k=17∨y.k=20 then d+y.u else y.u }
def EK (N:Nat) (x:Pa):Prop:=∃y d n,(AO N y∨Other N y)∧35600≤d∧d≤38000∧x=bK y d n
def qW (l:List Pa):Nat:=(l.filter fun x=>x.k==0).length
def Made (l:List Pa):Prop:=∀(i:Nat) (h:i<l.length),EK (qW (l.take i)) l[i]∧l[i].n=4*(i:Int)∧(i=0→l[i].k=0)
end PA
namespace Go.Proofs.YtgicfogmdfdjmaaGreatDoor
open Go.RowKit PA
theorem litI {W w:World} {A:aG} {I:Mem} (h:Sat W w (sep (kn I) A)) (ns:List Int) (t:TypeId) (hb:ns.length≤maxLen):
 ∃J,Mem.le I J∧(qI.slice 1).rel J [.slice (some ⟨w.heap.size,0,none⟩) ns.length ns.length] ns∧Sat W (w.alloc (.cells (ns.map iv).toArray t)) (sep (kn J) A):=by
 have h1:=(h.alloc (.cells (ns.map iv).toArray t)).settle
 obtain⟨J,hle,hp,h2⟩:=(show Sat W _ (sep (YZ w.heap.size (.cells (ns.map iv).toArray t)) (sep (kn I) A)) from h1).learn
 refine⟨J,hle,kX.2 ⟨_,_,rfl,⟨Nat.le_refl _,hb,fun h=>by cases h⟩,.inr ⟨w.heap.size,0,_,t,(0,0),rfl,hp,fun i u hu=>by simpa using hu⟩⟩,h2⟩
theorem nilI (I:Mem):(qI.slice 1).rel I [.slice none 0 0] []:=kX.2 ⟨none,0,rfl,⟨Nat.le_refl _,Nat.zero_le _,fun _=>rfl⟩,.inl rfl⟩
end Go.Proofs.YtgicfogmdfdjmaaGreatDoor
namespace PA
open Go Go.RowKit
section
variable {P:Program} {ops:Array Oper} {Q:Exit→Act→World→Prop} {S:World→Prop} {W:World}
theorem OT {o:Oper} {a:Act} {Pre:aG} {v1:Value} {Post:aG} (hg:Region.wanted o (yielded ops a.tmps)=true)
 (hr:∀(w:World) (A:aG),Sat W w (sep Pre A)→∃w',(execOp a.eval o).run P w=.ok (.value v1) w'∧Sat W w' (sep Post A)):iq P ops W o a Pre (fun v=>sep (fact (v=v1)) Post):=
 ⟨hg,fun w A h=>.inl (by
  obtain⟨w',h1,h2⟩:=hr w A h
  exact⟨v1,w',h1,by rw[aj];exact Sat.fact.2 ⟨rfl,h2⟩⟩)⟩
def WA (Pre Mid Post:aG) (v1 u1 v2:Value):List Value→aG
 | []=>Pre
 | [v]=>sep (fact (v=v1)) Mid
 | [v,u]=>sep (fact (v=v1∧u=u1)) Mid
 | v::u::x::r=>sep (fact (v=v1∧u=u1∧x=v2∧r=[])) Post
theorem TU {Pre Mid Post:aG} {v1 u1 v2:Value} {a0:Act} {i k j:Nat} {oi oj:Oper} {di:Option Tmp} (hdi:aZ ops i=di) (hoi:ops[i]?=some oi) (hsi:∀cs b,oi.op≠.select cs b) (hoj:ops[j]?=some oj) (hsj:∀cs b,oj.op≠.select cs b)
 (hb:((Region.before ops).getD j 0).testBit i=true) (h1:iq P ops W oi a0 Pre (fun v=>sep (fact (v=v1)) Mid)) (hpl:mO ops k=true) (hF:vW P ops (a0.put di v1) [k] [u1])
 (h2:iq P ops W oj ((a0.put di v1).put (aZ ops k) u1) Mid (fun v=>sep (fact (v=v2)) Post))
 (hw2:∀v u,Region.wanted oj (yielded ops ((a0.put di v).put (aZ ops k) u).tmps)=true):
 uj P ops W a0 (WA Pre Mid Post v1 u1 v2) [] [(i,[k]),(j,[])]:=by
 subst hdi
 refine⟨⟨oi,hoi,hsi,h1⟩,fun y hy=>?_,fun k' hk'=>?_,fun v w B h=>?_,fun v us hus=>?_⟩
 ·rw[List.mem_singleton.1 hy];exact hb
 ·rw[List.mem_singleton.1 hk'];exact hpl
 ·have h':Sat W w (sep (sep (fact (v=v1)) Mid) B):=h
  rw[aj] at h'
  obtain⟨rfl,h3⟩:=Sat.fact.1 h'
  refine⟨[u1],hF,?_⟩
  show Sat W w (sep (sep (fact (v=v∧u1=u1)) Mid) B)
  rw[aj]
  exact Sat.fact.2 ⟨⟨rfl,rfl⟩,h3⟩
 ·match us,hus with
  | [u],_=>
   refine⟨⟨oj,hoj,hsj,hw2 v u,fun w A hS=>?_⟩,fun y hy=>(by cases hy),fun k' hk'=>(by cases hk'),fun v' w B h=>⟨[],trivial,h⟩,fun _ _ _=>trivial⟩
   have hS':Sat W w (sep (sep (fact (v=v1∧u=u1)) Mid) A):=hS
   rw[aj] at hS'
   obtain⟨⟨rfl,rfl⟩,hS2⟩:=Sat.fact.1 hS'
   have conv:∀(v':Value) (w':World),Sat W w' (sep (sep (fact (v'=v2)) Post) A)→Sat W w' (sep (WA Pre Mid Post v u v2 ([v,u]++[v'])) A):=fun v' w' h=>by
    show Sat W w' (sep (sep (fact (v=v∧u=u∧v'=v2∧([]:List Value)=[])) Post) A)
    rw[aj] at h ⊢
    obtain⟨h1,h2⟩:=Sat.fact.1 h
    exact Sat.fact.2 ⟨⟨rfl,rfl,h1,rfl⟩,h2⟩
   rcases h2.2 w A hS2 with ⟨v',w',h3,h4⟩|⟨f,args,w1,h3,h4⟩
   ·exact .inl ⟨v',w',h3,conv v' w' h4⟩
   ·refine .inr ⟨f,args,w1,h3,h4.mono ?_⟩
    rintro e w' ⟨v',rfl,h5⟩
    exact⟨v',rfl,conv v' w' h5⟩
theorem Jd {Pre Mid Post:aG} {v1 u1 v2:Value} {A:aG} {w:World} {i k j:Nat} {dn:List (Nat×Value)} (hdn:dn.map (·.1)=[i,k,j])
 (h:Sat W w (sep (WA Pre Mid Post v1 u1 v2 (dn.map (·.2))) A)):dn=[(i,v1),(k,u1),(j,v2)]∧Sat W w (sep Post A):=by
 match dn,hdn with
 | [(i',u),(k',x),(j',y)],hdn=>
  simp only[List.map_cons,List.map_nil,List.cons.injEq,and_true] at hdn
  obtain⟨rfl,rfl,rfl⟩:=hdn
  have h':Sat W w (sep (sep (fact (u=v1∧x=u1∧y=v2∧([]:List Value)=[])) Post) A):=h
  rw[aj] at h'
  obtain⟨⟨rfl,rfl,rfl,-⟩,h3⟩:=Sat.fact.1 h'
  exact⟨rfl,h3⟩
end
end PA
namespace PA
open Go Go.RowKit
section
variable {P:Program} {ops:Array Oper} {Q:Exit→Act→World→Prop} {S:World→Prop} {W:World}
theorem Gw {s:qN}:∀{l:List qN},s∈l→∀A,∃X,xM l A=sep s.now X
 | [],h,_=>by cases h
 | u::l,h,A=>by
  rcases List.mem_cons.1 h with rfl|h
  ·exact⟨_,by rw[jV,nP]⟩
  ·exact Gw h (sep u.now A)
theorem Qh {ts:List WE} {oK:List qN} (h:qo ts oK) {t:WE} (ht:t∈ts):∃s∈oK,s.A=t.A:=by
 unfold qo at h
 have:(nums t.ids,t.A)∈oK.map (fun s=>(s.dn.map (·.1)++nums s.td,s.A)):=by rw[h];exact List.mem_map.2 ⟨t,ht,rfl⟩
 obtain⟨s,hs,e⟩:=List.mem_map.1 this
 exact⟨s,hs,(Prod.mk.inj e).2⟩
theorem MV {a0:Act} {A:aG} {b:Bool} {K:Act→World→Prop} (ts:List WE) (hS:b=true→∃t∈ts,∀us w X,Sat W w (sep (t.A us) X)→S w) (hfin:Qi ops W a0 K ts [] A):
 ∀(n:Nat) (oK:List qN) (E:List (Nat×List Nat)) (w:World),E.length=n→E.Perm (oK.flatMap (·.td))→qo ts oK→(∀s∈oK,uj P ops W a0 s.A s.dn s.td)→(oK.Pairwise fun s t=>MW ops s.all t.all)→Sat W w (xM oK A) →
  uT P ops Q S b n E K (puts ops (oK.flatMap (·.dn)) a0) w:=by
 intro n
 induction n with
 | zero=>
  intro oK E w hn hp hL _ _ hw
  have hE:=List.eq_nil_of_length_eq_zero hn
  subst hE
  have:=AZ oK ts [] A hL (List.nil_perm.1 hp) hfin w hw
  rw[List.nil_append] at this
  exact this
 | succ n ih=>
  intro oK E w hn hp hL hg hap hw i hi hr
  obtain⟨s,hs,his⟩:=List.mem_flatMap.1 (hp.mem_iff.1 hi)
  obtain⟨S1,S2,rfl⟩:=List.append_of_mem hs
  obtain⟨dn,td,AT⟩:=s
  cases td with
  | nil=>simp at his
  | cons k td=>
   have hgs:=hg _ hs
   obtain⟨⟨o,ho,hsel,hd⟩,hch,hplain,htl,hnext⟩:=hgs
   have hik:i=k:=by
    rcases List.mem_cons.1 his with e|hm
    ·exact e
    ·exfalso
     have h1:=hch i hm
     have h2:k∈E:=hp.mem_iff.2 (List.mem_flatMap.2 ⟨_,hs,by simp⟩)
     have h3:=List.all_eq_true.1 hr k h2
     rw[h1] at h3
     cases h3
   subst hik
   have hall:∀j∈dn.map (·.1)++i.1::i.2,j∈qN.all ⟨dn,i::td,AT⟩:=fun j hj=>by
    unfold qN.all nums
    rw[List.flatMap_cons]
    rcases List.mem_append.1 hj with hj|hj
    ·exact List.mem_append_left _ hj
    ·exact List.mem_append_right _ (List.mem_append_left _ hj)
   have hpw:=List.pairwise_append.1 hap
   have hpc:=List.pairwise_cons.1 hpw.2.1
   have hl1:∀x∈S1.flatMap (·.dn),∀j∈dn.map (·.1)++i.1::i.2,apartB ops x.1 j=true:=fun x hx j hj=>by
    obtain⟨s1,hs1,hx1⟩:=List.mem_flatMap.1 hx
    exact hpw.2.2 s1 hs1 ⟨dn,i::td,AT⟩ (by simp) x.1 (List.mem_append_left _ (List.mem_map.2 ⟨x,hx1,rfl⟩)) j (hall j hj)
   have hl2:∀x∈S2.flatMap (·.dn),∀j∈dn.map (·.1)++i.1::i.2,apartB ops j x.1=true:=fun x hx j hj=>by
    obtain⟨s1,hs1,hx1⟩:=List.mem_flatMap.1 hx
    exact hpc.1 s1 hs1 j (hall j hj) x.1 (List.mem_append_left _ (List.mem_map.2 ⟨x,hx1,rfl⟩))
   have Jr:∀TM:List (Nat×Value),(∀y∈TM,y.1∈dn.map (·.1)++i.1::i.2)→puts ops ((S1++⟨TM,td,AT⟩::S2).flatMap (·.dn)) a0=puts ops (S2.flatMap (·.dn)) (puts ops (S1.flatMap (·.dn)) (puts ops TM a0)):=fun TM aar=>by
    rw[List.flatMap_append,List.flatMap_cons,dK,dK]
    congr 1
    exact uU TM _ (fun x hx y hy=>hl1 x hx y.1 (aar y hy)) a0
   have Js:puts ops ((S1++⟨dn,i::td,AT⟩::S2).flatMap (·.dn)) a0=puts ops (S2.flatMap (·.dn)) (puts ops (S1.flatMap (·.dn)) (puts ops dn a0)):=by
    rw[←Jr dn (fun y hy=>List.mem_append_left _ (List.mem_map.2 ⟨y,hy,rfl⟩)),List.flatMap_append,List.flatMap_append,List.flatMap_cons,List.flatMap_cons]
   have hboth:∀x∈S1.flatMap (·.dn)++S2.flatMap (·.dn),∀j∈dn.map (·.1)++i.1::i.2,apartB ops x.1 j=true∨apartB ops j x.1=true:=fun x hx j hj=>by
    rcases List.mem_append.1 hx with hx|hx
    ·exact .inl (hl1 x hx j hj)
    ·exact .inr (hl2 x hx j hj)
   have hd':iq P ops W o (puts ops ((S1++⟨dn,i::td,AT⟩::S2).flatMap (·.dn)) a0) (AT (dn.map (·.2))) (fun v=>AT (dn.map (·.2)++[v])):=by
    rw[Js,←dK]
    exact iq.puts ho hsel _ (fun x hx=>hboth x hx i.1 (by simp)) hd
   have hw2:Sat W w (sep (AT (dn.map (·.2))) (xM S2 (xM S1 A))):=by
    rw[mJ,jV,nP] at hw
    exact hw
   refine hd'.wpOp ho hw2 (fun v w' hv=>?_)
   refine⟨fun hb=>?_,?_⟩
   ·obtain⟨t,ht,hSt⟩:=hS hb
    obtain⟨s,hs,hsA⟩:=Qh hL ht
    rcases List.mem_append.1 hs with h|h
    ·obtain⟨X,hX⟩:=Gw h A
     rw[hX,nP] at hv
     have hv3:Sat W w' (sep (s.A (s.dn.map (·.2))) (sep (AT (dn.map (·.2)++[v])) (xM S2 X))):=hv.p1
     rw[hsA] at hv3
     exact hSt _ _ _ hv3
    ·rcases List.mem_cons.1 h with h|h
     ·have e:AT=t.A:=by rw[←hsA,h]
      rw[e] at hv
      exact hSt _ _ _ hv
     ·obtain⟨X,hX⟩:=Gw h (xM S1 A)
      rw[hX] at hv
      have hv3:Sat W w' (sep (s.A (s.dn.map (·.2))) (sep (AT (dn.map (·.2)++[v])) X)):=hv.p1
      rw[hsA] at hv3
      exact hSt _ _ _ hv3
   ·obtain⟨us,hpu,hv2⟩:=htl v w' _ hv
    have Gx:=A8 hpu
    have hdo:aZ ops i.1=o.dst:=by unfold aZ;rw[ho];rfl
    have e1:(puts ops ((S1++⟨dn,i::td,AT⟩::S2).flatMap (·.dn)) a0).put o.dst v=puts ops (S1.flatMap (·.dn)++S2.flatMap (·.dn)) (puts ops (dn++[(i.1,v)]) a0):=by
     rw[Js,←hdo,←dK,dK dn]
     show _=puts ops _ ((puts ops dn a0).put (aZ ops i.1) v)
     exact (mM v _ (fun x hx=>hboth x hx i.1 (by simp)) _).symm
    rw[e1]
    refine rG i.2 us _ w' hplain (xO _ hplain (fun x hx j hj=>hboth x hx j (by simp[hj])) hpu) ?_
    have e2:puts ops (i.2.zip us) (puts ops (S1.flatMap (·.dn)++S2.flatMap (·.dn)) (puts ops (dn++[(i.1,v)]) a0))=puts ops ((S1++⟨dn++(i.1,v)::i.2.zip us,td,AT⟩::S2).flatMap (·.dn)) a0:=by
     rw[Jr (dn++(i.1,v)::i.2.zip us) (fun y hy=>?_)]
     ·rw[←dK (S1.flatMap (·.dn))]
      have e3:dn++(i.1,v)::i.2.zip us=(dn++[(i.1,v)])++i.2.zip us:=by simp
      rw[e3,dK (dn++[(i.1,v)])]
      have key:∀(z:List (Nat×Value)),(∀y∈z,y.1∈i.2)→∀(L:List (Nat×Value)),(∀x∈L,∀j∈dn.map (·.1)++i.1::i.2,apartB ops x.1 j=true∨apartB ops j x.1=true)→∀a:Act,puts ops z (puts ops L a)=puts ops L (puts ops z a):=by
       intro z
       induction z with
       | nil=>intro _ L _ a;rfl
       | cons y z ihz=>
        intro hz L hL a
        show puts ops z ((puts ops L a).put (aZ ops y.1) y.2)=puts ops L (puts ops z (a.put (aZ ops y.1) y.2))
        rw[←mM y.2 L (fun x hx=>hL x hx y.1 (List.mem_append_right _ (List.mem_cons_of_mem _ (hz y (by simp))))),ihz (fun u hu=>hz u (by simp[hu])) L hL]
      exact key _ (fun y hy=>by obtain⟨y1,y2⟩:=y;exact (List.of_mem_zip hy).1) _ hboth _
     ·rcases List.mem_append.1 hy with hy|hy
      ·exact List.mem_append_left _ (List.mem_map.2 ⟨y,hy,rfl⟩)
      ·rcases List.mem_cons.1 hy with rfl|hy
       ·simp
       ·obtain⟨y1,y2⟩:=y
        exact List.mem_append_right _ (List.mem_cons_of_mem _ (List.of_mem_zip hy).1)
    rw[e2]
    have hzm:((i.1,v)::i.2.zip us).map (·.1)=i.1::i.2:=by rw[List.map_cons,List.map_fst_zip (by omega)]
    have hzs:((i.1,v)::i.2.zip us).map (·.2)=v::us:=by rw[List.map_cons,List.map_snd_zip (by omega)]
    refine ih _ (E.erase i) w' ?_ ?_ ?_ ?_ ?_ ?_
    ·rw[List.length_erase_of_mem hi,hn];rfl
    ·have h1:((S1++⟨dn,i::td,AT⟩::S2).flatMap (·.td)).Perm (i::(S1++⟨dn++(i.1,v)::i.2.zip us,td,AT⟩::S2).flatMap (·.td)):=by
      simp only[List.flatMap_append,List.flatMap_cons]
      exact List.perm_middle
     have h2:=(hp.trans h1).erase i
     rw[List.erase_cons_head] at h2
     exact h2
    ·unfold qo at *
     rw[←hL]
     simp only[lS,List.map_cons]
     rw[show i.1::(i.2.zip us).map (·.1)=i.1::i.2 by rw[←hzm];rfl]
     congr 2
     simp[nums]
    ·intro s hs'
     rcases List.mem_append.1 hs' with h|h
     ·exact hg s (List.mem_append_left _ h)
     ·rcases List.mem_cons.1 h with rfl|h
      ·exact hnext v us Gx
      ·exact hg s (by simp[h])
    ·have hsame:qN.all ⟨dn++(i.1,v)::i.2.zip us,td,AT⟩=qN.all ⟨dn,i::td,AT⟩:=by
      unfold qN.all nums
      rw[lS,hzm,List.flatMap_cons,List.append_assoc]
     refine List.pairwise_append.2 ⟨hpw.1,List.pairwise_cons.2 ⟨fun y hy=>?_,hpc.2⟩,fun x hx y hy=>?_⟩
     ·rw[hsame];exact hpc.1 y hy
     ·rcases List.mem_cons.1 hy with rfl|hy
      ·rw[hsame];exact hpw.2.2 x hx _ (List.mem_cons_self)
      ·exact hpw.2.2 x hx y (by simp[hy])
    ·rw[mJ,jV,nP]
     show Sat W w' (sep (AT ((dn++(i.1,v)::i.2.zip us).map (·.2))) (xM S2 (xM S1 A)))
     rw[lS,hzs]
     exact hv2
theorem pK {a:Act} {w:World} {A:aG} {b:Bool} {l:List iC} {K:Act→World→Prop} (ts:List WE) (hS:b=true→∃t∈ts,∀us w X,Sat W w (sep (t.A us) X)→S w)
 (hap:wo ops (ts.map (fun t=>nums t.ids))=true) (hg:∀t∈ts,uj P ops W a t.A [] t.ids) (hw:Sat W w (ts.foldl (fun B t=>sep (t.A []) B) A)) (hfin:Qi ops W a (jT P ops Q S l K) ts [] A):
 jT P ops Q S (.grp b (ts.flatMap (·.ids))::l) K a w:=by
 have aas:xM (ts.map fun t=>(⟨[],t.ids,t.A⟩:qN)) A=ts.foldl (fun B t=>sep (t.A []) B) A:=by
  rw[xM,List.foldl_map];rfl
 have h:=MV (P:=P) (Q:=Q) (S:=S) (b:=b) ts hS hfin _ (ts.map fun t=>(⟨[],t.ids,t.A⟩:qN)) (ts.flatMap (·.ids)) w rfl ?_ ?_ ?_ (uV ts hap) (by rw[aas];exact hw)
 ·have e:(ts.map fun t=>(⟨[],t.ids,t.A⟩:qN)).flatMap (·.dn)=[]:=by
   induction ts with
   | nil=>rfl
   | cons t ts ih=>simp
  rw[e] at h
  exact h
 ·rw[List.flatMap_map]
 ·unfold qo;simp
 ·intro s hs
  obtain⟨t,ht,rfl⟩:=List.mem_map.1 hs
  exact hg t ht
end
end PA
namespace PA
open Go Go.RowKit
def TN (ops:Array Oper) (bf:Array Nat) (b:Bool) (E:List (Nat×List Nat)):Bool:=
 E.all (fun x=>x.2.all (fun j=>(bf.getD j 0).testBit x.1))&&E.all (fun x=>yS ops bf (x.2.map fun j=>(j,(.inr none:Kd)))) &&
 E.all (fun x=>E.all fun y=>x==y||(bf.getD x.1 0).testBit y.1||x.2.all fun u=>(nK b y).all fun v=>dH ops bf (u,.inr none) v)
section
variable {P:Program} {ops:Array Oper} {Q:Exit→Act→World→Prop} {S:World→Prop}
structure Qj (ops:Array Oper) (bf:Array Nat) (b:Bool) (E:List (Nat×List Nat)):Prop where
 own:∀x∈E,∀j∈x.2,(bf.getD j 0).testBit x.1=true
 seq:∀x∈E,x.2.Pairwise fun u v=>dH ops bf (u,.inr none) (v,.inr none)=true
 other:∀x∈E,∀y∈E,x≠y→(bf.getD x.1 0).testBit y.1=false→∀u∈x.2,∀v∈nK b y,dH ops bf (u,.inr none) v=true
theorem TP {bf:Array Nat} {b:Bool} {E:List (Nat×List Nat)} (h:TN ops bf b E=true):Qj ops bf b E:=by
 simp only[TN,Bool.and_eq_true,List.all_eq_true,Bool.or_eq_true,beq_iff_eq] at h
 obtain⟨⟨h1,h2⟩,h3⟩:=h
 refine⟨h1,fun x hx=>Ba _ (h2 x hx),fun x hx y hy hne hnb u hu v hv=>?_⟩
 rcases h3 x hx y hy with (e|e)|h
 ·exact absurd e hne
 ·rw[hnb] at e;cases e
 ·exact h u hu v hv
theorem Qj.erase {bf:Array Nat} {b:Bool} {E:List (Nat×List Nat)} (h:Qj ops bf b E) (x:Nat×List Nat):Qj ops bf b (E.erase x):=
 ⟨fun y hy=>h.own y (List.mem_of_mem_erase hy),fun y hy=>h.seq y (List.mem_of_mem_erase hy),fun y hy z hz=>h.other y (List.mem_of_mem_erase hy) z (List.mem_of_mem_erase hz)⟩
structure Zn (ops:Array Oper) (bf:Array Nat) (listed:Array Bool) (l:List iC):Prop where
 size:listed.size=ops.size
 mem:∀i,i∈(bV l).map (·.1)↔i<ops.size∧listed.getD i true=false
 nodup:((bV l).map (·.1)).Nodup
 pair:l.Pairwise fun x y=>∀u∈x.fl,∀v∈y.fl,dH ops bf u v=true
 dep:(bV l).Pairwise fun x y=>jQ ops x.1 y.1=false
 self:∀x∈bV l,jQ ops x.1 x.1=false
 grp:∀b E,iC.grp b E∈l→Qj ops bf b E
 closed:∀d r,r<ops.size→listed.getD d false=true→(bf.getD d 0).testBit r=true→listed.getD r false=true
theorem Qk (hsel:∀(j:Nat) (o:Oper) cs b,ops[j]?=some o→o.op≠.select cs b) (hQ:∀c a d v w,Q (.panic c) (a.put d v) w→Q (.panic c) a w)
 (hbf:jU ops (Region.before ops)=true) (hon:∀(j:Nat) (o:Oper),ops[j]?=some o→∀e∈o.after,Region.binds .any e=true→e.on<ops.size):
 ∀(n:Nat) (l:List iC) (listed:Array Bool),(bV l).length=n→Zn ops (Region.before ops) listed l→∀(a:Act) (w:World),jT P ops Q S l (Q .normal) a w→wpAny P .any ops Q n listed a w:=by
 obtain⟨bf,hbe⟩:=aC (Region.before ops)
 have Jq:∀(listed:Array Bool) (i:Nat),listed.size=ops.size→i<ops.size→(listed.getD i false=true↔¬listed.getD i true=false):=fun listed i hs hi=>by
  simp[Array.getD,hs,hi]
 have nil:∀(listed:Array Bool) (l:List iC),bV l=[]→Zn ops (Region.before ops) listed l→Region.ready .any ops listed=[]:=fun listed l hl hI=>by
  simp only[Region.ready,List.filter_eq_nil_iff,List.mem_range]
  intro i hi
  have h':¬listed.getD i true=false:=fun hh=>by have:=(hI.mem i).2 ⟨hi,hh⟩;rw[hl] at this;simp at this
  have h'':listed.getD i true=true:=by simpa using h'
  simp[h'']
 intro n
 induction n with
 | zero=>
  intro l listed hn hI a w h
  have hl:=List.eq_nil_of_length_eq_zero hn
  exact⟨nil _ l hl hI,xP l hl a w h⟩
 | succ n ih=>
  intro l listed hn hI a w h
  refine⟨fun hr=>?_,fun j hj=>?_⟩
  ·exfalso
   cases hfl:bV l with
   | nil=>rw[hfl] at hn;simp at hn
   | cons x xs=>
    have hx:=(hI.mem x.1).1 (by rw[hfl];simp)
    have hmem:x.1∈Region.ready .any ops listed:=by
     simp only[Region.ready,List.mem_filter,List.mem_range]
     refine⟨hx.1,?_⟩
     have:listed.getD x.1 true=false:=hx.2
     have ho:ops[x.1]?=some ops[x.1]:=Array.getElem?_eq_getElem hx.1
     simp only[this,Bool.not_false,Bool.true_and,ho,Option.map_some,Option.getD_some]
     rw[Array.all_eq_true]
     intro k hk
     have hmem:=Array.getElem_mem hk
     by_cases hb:Region.binds .any (ops[x.1].after[k])=true
     ·have hlt:=hon x.1 _ ho _ hmem hb
      have AX:jQ ops x.1 (ops[x.1].after[k]).on=true:=by
       simp only[jQ,ho,Array.any_eq_true]
       exact⟨k,hk,by simp[hb]⟩
      have hnot:(ops[x.1].after[k]).on∉(bV l).map (·.1):=by
       intro hm
       rw[hfl] at hm
       simp only[List.map_cons,List.mem_cons,List.mem_map] at hm
       rcases hm with hm|⟨y,hy,hm⟩
       ·have:=hI.self x (by rw[hfl];simp)
        rw[hm] at AX
        rw[AX] at this;cases this
       ·have hd:=hI.dep
        rw[hfl] at hd
        have:=(List.pairwise_cons.1 hd).1 y hy
        rw[hm,AX] at this
        cases this
      have h2:¬listed.getD (ops[x.1].after[k]).on true=false:=fun e=>hnot ((hI.mem _).2 ⟨hlt,e⟩)
      have:=(Jq listed _ hI.size hlt).2 h2
      simp[this]
     ·simp[hb]
    rw[hr] at hmem;cases hmem
  ·simp only[Region.ready,List.mem_filter,List.mem_range,Bool.and_eq_true,Bool.not_eq_true'] at hj
   obtain⟨hjs,hjl,hja⟩:=hj
   have hjm:=(hI.mem j).2 ⟨hjs,hjl⟩
   cases hoj:ops[j]? with
   | none=>simp[hoj] at hja
   | some oj=>
    simp only[hoj,Option.map_some,Option.getD_some] at hja
    have yT:∀d,jQ ops j d=true→listed.getD d false=true:=fun d hd=>by
     simp only[jQ,hoj,Array.any_eq_true] at hd
     obtain⟨k,hk,hd⟩:=hd
     simp only[Bool.and_eq_true,beq_iff_eq] at hd
     rw[Array.all_eq_true] at hja
     have:=hja k hk
     rw[hd.1] at this
     simpa[hd.2] using this
    have hbl:∀r,r<ops.size→((Region.before ops).getD j 0).testBit r=true→listed.getD r false=true:=fun r hr hb=>by
     simp only[jU,List.all_eq_true,List.mem_range] at hbf
     have:=hbf j hjs r hr
     simp only[hb,Bool.not_true,Bool.false_or,Bool.or_eq_true,List.any_eq_true,List.mem_range,Bool.and_eq_true] at this
     rcases this with h|⟨d,_,h1,h2⟩
     ·exact yT r h
     ·exact hI.closed d r hr (yT d h1) h2
    have hnotin:∀x∈bV l,((Region.before ops).getD j 0).testBit x.1=false:=fun x hx=>by
     have hxm:=(hI.mem x.1).1 (List.mem_map.2 ⟨x,hx,rfl⟩)
     cases hb:((Region.before ops).getD j 0).testBit x.1 with
     | false=>rfl
     | true=>exact absurd hxm.2 ((Jq listed x.1 hI.size hxm.1).1 (hbl x.1 hxm.1 hb))
    have hclosed:∀d r,r<ops.size→(listed.setIfInBounds j true).getD d false=true→((Region.before ops).getD d 0).testBit r=true→(listed.setIfInBounds j true).getD r false=true:=by
     intro d r hr hd hb
     by_cases e:r=j
     ·subst e;simp[Array.getD,hI.size,hr]
     ·have hg:(listed.setIfInBounds j true).getD r false=listed.getD r false:=getD_set_ne _ _ _ _ _ e
      rw[hg]
      by_cases e2:d=j
      ·subst e2;exact hbl r hr hb
      ·have hg2:(listed.setIfInBounds j true).getD d false=listed.getD d false:=getD_set_ne _ _ _ _ _ e2
       rw[hg2] at hd
       exact hI.closed d r hr hd hb
    have TQ:(listed.setIfInBounds j true).getD j true=true:=by simp[Array.getD,hI.size,hjs]
    have Jt:∀(F:List Nat),(∀i,i∈F↔i∈(bV l).map (·.1)∧i≠j)→∀i,i∈F↔i<ops.size∧(listed.setIfInBounds j true).getD i true=false:=fun F hF i=>by
     rw[hF,hI.mem]
     by_cases e:i=j
     ·subst e;simp[TQ]
     ·have hg:(listed.setIfInBounds j true).getD i true=listed.getD i true:=getD_set_ne _ _ _ _ _ e
      rw[hg];simp[e]
    obtain⟨⟨j',kj⟩,hxf,hje⟩:=List.mem_map.1 hjm
    obtain rfl:j'=j:=hje
    obtain⟨it,hit,hin⟩:=List.mem_flatMap.1 hxf
    obtain⟨l1,l2,rfl⟩:=List.append_of_mem hit
    have hpw:=List.pairwise_append.1 hI.pair
    have hfe:bV (l1++it::l2)=bV l1++(it.fl++bV l2):=by rw[eu,iK]
    have hok:∀x∈bV l1,dH ops (Region.before ops) x (j',kj)=true∧((Region.before ops).getD j' 0).testBit x.1=false:=fun x hx=>by
     obtain⟨y,hy,hxy⟩:=List.mem_flatMap.1 hx
     exact⟨hpw.2.2 y hy it (by simp) x hxy (j',kj) hin,hnotin x (by rw[hfe];exact List.mem_append_left _ hx)⟩
    have hnd:=hI.nodup
    rw[hfe] at hnd
    rw[kG] at h
    cases it with
    | one i k=>
     simp only[iC.fl,List.mem_singleton,Prod.mk.injEq] at hin
     obtain⟨rfl,rfl⟩:=hin
     refine wpOp_mono (fun a' w' ⟨h1,_,_⟩=>ih (l1++l2) (listed.setIfInBounds j' true) ?_ ?_ a' w' (by rw[kG];exact h1)) (ET (kj:=kj) hoj hsel hQ (jT P ops Q S (.one j' kj::l2) (Q .normal)) (jT P ops Q S l2 (Q .normal)) ?_ l1 hok a w h)
     ·rintro a w ⟨o,ho,h⟩
      rcases kj with b|_|_|_
      case inr.none=>obtain⟨v,hy,h⟩:=h;exact (hy w).wpOp ho ⟨h,fun h=>(by cases h),fun _=>rfl⟩
      case inr.some.true=>obtain⟨hS,v,hy,h⟩:=h;exact (hy w hS).wpOp ho ⟨h,fun h=>(by cases h),fun _=>rfl⟩
      case inr.some.false=>obtain⟨v,hy,h⟩:=h;exact hy.wpOp ho ⟨h,fun h=>(by cases h),fun _=>rfl⟩
      case inl=>exact wpOp_mono (fun a' w' ⟨h1,h2⟩=>⟨h2,fun hb=>h1 (by cases hb;rfl),fun hb=>(by simp[Kd.eff] at hb)⟩) h
     ·rw[hfe] at hn;rw[eu];simp[iC.fl] at hn ⊢;omega
     ·have hpf:List.Sublist (l1++l2) (l1++iC.one j' kj::l2):=List.Sublist.append_left (List.sublist_cons_self _ _) _
      have hsf:List.Sublist (bV (l1++l2)) (bV (l1++iC.one j' kj::l2)):=by
       rw[hfe,eu]
       exact List.Sublist.append_left (List.sublist_append_right _ _) _
      refine⟨by simp[hI.size],Jt _ fun i=>?_,?_,hI.pair.sublist hpf,hI.dep.sublist hsf,fun x hx=>hI.self x (hsf.subset hx),fun b E hm=>hI.grp b E (hpf.subset hm),hclosed⟩
      ·rw[hfe,eu]
       simp only[iC.fl,lS,List.map_cons,List.map_nil,List.mem_append,List.mem_cons,List.not_mem_nil,or_false]
       have hn2:=hI.nodup
       rw[hfe] at hn2
       simp only[iC.fl,lS,List.map_cons,List.map_nil,List.nodup_append,List.mem_append,List.mem_cons,List.not_mem_nil,or_false] at hn2
       constructor
       ·rintro (hi|hi)
        ·exact⟨.inl hi,fun e=>hn2.2.2 i hi j' (.inl rfl) e⟩
        ·exact⟨.inr (.inr hi),fun e=>hn2.2.1.2.2 j' rfl i hi e.symm⟩
       ·rintro⟨hi|hi|hi,hne⟩
        ·exact .inl hi
        ·exact absurd hi hne
        ·exact .inr hi
      ·exact hI.nodup.sublist (hsf.map _)
    | grp b E=>
     obtain⟨x,Gy,aat⟩:=List.mem_flatMap.1 (show (j',kj)∈E.flatMap (nK b) from hin)
     have hG:=hI.grp b E (by simp)
     have hxm:(x.1,(.inl b:Kd))∈bV (l1++iC.grp b E::l2):=by
      rw[hfe]
      refine List.mem_append_right _ (List.mem_append_left _ ?_)
      exact List.mem_flatMap.2 ⟨x,Gy,List.mem_cons_self⟩
     have hj':(j',kj)=(x.1,.inl b):=by
      rcases List.mem_cons.1 aat with e|hm
      ·exact e
      ·exfalso
       obtain⟨u,hu,e⟩:=List.mem_map.1 hm
       have e1:u=j':=congrArg Prod.fst e
       have h1:=hG.own x Gy u hu
       have h2:=hnotin _ hxm
       rw[e1] at h1
       rw[h1] at h2
       cases h2
     obtain⟨rfl,rfl⟩:j'=x.1∧kj=.inl b:=Prod.mk.inj hj'
     obtain⟨E1,E2,aau,hEe,hEr⟩:=List.exists_erase_eq Gy
     have hfl:bV (l1++iC.grp b E::l2)=bV l1++(E1.flatMap (nK b)++((x.1,.inl b)::((x.2.map fun j=>(j,(.inr none:Kd)))++E2.flatMap (nK b)))++bV l2):=by
      rw[hfe];show bV l1++(E.flatMap (nK b)++bV l2)=_
      rw[hEe,List.flatMap_append,List.flatMap_cons]
      simp[nK]
     have hfn:bV (l1++(x.2.map (fun j=>iC.one j (.inr none))++iC.grp b (E.erase x)::l2))=bV l1++((x.2.map fun j=>(j,(.inr none:Kd)))++(E1.flatMap (nK b)++E2.flatMap (nK b))++bV l2):=by
      rw[eu,eu,iK]
      show bV l1++(_++((E.erase x).flatMap (nK b)++bV l2))=_
      rw[hEr,List.flatMap_append]
      have:bV (x.2.map fun j=>iC.one j (.inr none))=x.2.map fun j=>(j,(.inr none:Kd)):=by
       unfold bV
       rw[List.flatMap_map]
       induction x.2 with
       | nil=>rfl
       | cons u us ih=>rw[List.flatMap_cons,ih];rfl
      rw[this]
      simp
     have hperm:(bV (l1++iC.grp b E::l2)).Perm ((x.1,.inl b)::bV (l1++(x.2.map (fun j=>iC.one j (.inr none))++iC.grp b (E.erase x)::l2))):=by
      rw[hfl,hfn]
      refine List.Perm.trans ?_ List.perm_middle
      refine List.Perm.append_left _ ?_
      refine List.Perm.append_right (bV l2) (show List.Perm _ ((x.1,(.inl b:Kd))::_) from List.Perm.trans List.perm_middle (List.Perm.cons _ ?_))
      rw[←List.append_assoc,←List.append_assoc]
      exact List.Perm.append_right _ List.perm_append_comm
     have hnd':=(hperm.map (fun y:Nat×Kd=>y.1)).nodup_iff.1 hI.nodup
     rw[List.map_cons] at hnd'
     obtain⟨hxn,aav⟩:=List.nodup_cons.1 hnd'
     have Ql:∀y∈E1,y∈E∧y≠x:=fun y hy=>⟨by rw[hEe];simp[hy],fun e=>aau (by rw[←e];exact hy)⟩
     have Qm:∀y∈E2,y∈E∧y≠x:=fun y hy=>by
      refine⟨by rw[hEe];simp[hy],fun e=>?_⟩
      have hn0:=hI.nodup
      rw[hfl] at hn0
      simp only[lS,List.map_cons] at hn0
      have h3:=(List.nodup_append.1 (List.nodup_append.1 (List.nodup_append.1 hn0).2.1).1).2.1
      refine (List.nodup_cons.1 h3).1 (List.mem_append_right _ (List.mem_map.2 ⟨(x.1,.inl b),List.mem_flatMap.2 ⟨y,hy,by rw[e];exact List.mem_cons_self⟩,rfl⟩))
     have hfr:∀y∈E,((Region.before ops).getD x.1 0).testBit y.1=false:=fun y hy=>hnotin (y.1,.inl b) (by rw[hfe];refine List.mem_append_right _ (List.mem_append_left _ ?_);exact List.mem_flatMap.2 ⟨y,hy,List.mem_cons_self⟩)
     have wu:∀u∈x.2,∀v∈E1.flatMap (nK b)++E2.flatMap (nK b),dH ops (Region.before ops) (u,.inr none) v=true:=fun u hu v hv=>by
      rcases List.mem_append.1 hv with hv|hv
      ·obtain⟨y,hy,hvy⟩:=List.mem_flatMap.1 hv
       exact hG.other x Gy y (Ql y hy).1 (fun e=>(Ql y hy).2 e.symm) (hfr y (Ql y hy).1) u hu v hvy
      ·obtain⟨y,hy,hvy⟩:=List.mem_flatMap.1 hv
       exact hG.other x Gy y (Qm y hy).1 (fun e=>(Qm y hy).2 e.symm) (hfr y (Qm y hy).1) u hu v hvy
     have TR:∀{u v:Nat×Kd},dH ops (Region.before ops) u v=true→jQ ops u.1 v.1=false:=fun h=>by
      simp only[dH,Bool.and_eq_true,Bool.not_eq_true'] at h
      exact h.1
     refine wpOp_mono (fun a' w' ⟨h1,_,_⟩=>ih (l1++(x.2.map (fun j=>iC.one j (.inr none))++iC.grp b (E.erase x)::l2)) (listed.setIfInBounds x.1 true) ?_ ?_ a' w' (by rw[kG];exact h1)) (ET (kj:=.inl b) hoj hsel hQ (jT P ops Q S (.grp b E::l2) (Q .normal)) (jT P ops Q S (x.2.map (fun j=>iC.one j (.inr none))++iC.grp b (E.erase x)::l2) (Q .normal)) ?_ l1 hok a w h)
     ·intro a w h
      have xQ:(E.all fun r=>!((Region.before ops).getD x.1 0).testBit r.1)=true:=by
       rw[List.all_eq_true]
       intro r hr
       have h9:((Region.before ops).getD x.1 0).testBit r.1=false:=hnotin (r.1,.inl b) (by rw[hfe];refine List.mem_append_right _ (List.mem_append_left _ ?_);exact List.mem_flatMap.2 ⟨r,hr,List.mem_cons_self⟩)
       rw[h9];rfl
      have hlen:E.length=(E.erase x).length+1:=by
       have hp:0<E.length:=List.length_pos_of_mem Gy
       rw[List.length_erase_of_mem Gy];omega
      simp only[jT] at h
      rw[hlen] at h
      refine wpOp_mono (fun a' w' ⟨h1,h2⟩=>⟨TS (.grp b (E.erase x)::l2) (Q .normal) x.2 a' w' h2,fun hb=>h1 (by cases hb;rfl),fun hb=>(by simp[Kd.eff] at hb)⟩) (h x Gy xQ)
     ·have:=hperm.length_eq
      rw[List.length_cons] at this
      omega
     ·have hc:=List.pairwise_cons.1 hpw.2.1
      have hl1:∀y∈l1,∀u∈y.fl,∀v,v∈(x.2.map fun j=>(j,(.inr none:Kd)))∨v∈E1.flatMap (nK b)++E2.flatMap (nK b)→dH ops (Region.before ops) u v=true:=fun y hy u hu v hv=>by
       refine hpw.2.2 y hy (.grp b E) (by simp) u hu v ?_
       show v∈E.flatMap (nK b)
       rw[hEe,List.flatMap_append,List.flatMap_cons]
       rcases hv with hv|hv
       ·exact List.mem_append_right _ (List.mem_append_left _ (List.mem_cons_of_mem _ hv))
       ·rcases List.mem_append.1 hv with hv|hv
        ·exact List.mem_append_left _ hv
        ·exact List.mem_append_right _ (List.mem_append_right _ hv)
      have hl2:∀y∈l2,∀v∈y.fl,∀u,u∈(x.2.map fun j=>(j,(.inr none:Kd)))∨u∈E1.flatMap (nK b)++E2.flatMap (nK b)→dH ops (Region.before ops) u v=true:=fun y hy v hv u hu=>by
       refine hc.1 y hy u ?_ v hv
       show u∈E.flatMap (nK b)
       rw[hEe,List.flatMap_append,List.flatMap_cons]
       rcases hu with hu|hu
       ·exact List.mem_append_right _ (List.mem_append_left _ (List.mem_cons_of_mem _ hu))
       ·rcases List.mem_append.1 hu with hu|hu
        ·exact List.mem_append_left _ hu
        ·exact List.mem_append_right _ (List.mem_append_right _ hu)
      have hgf:iC.fl (.grp b (E.erase x))=E1.flatMap (nK b)++E2.flatMap (nK b):=by
       show (E.erase x).flatMap (nK b)=_
       rw[hEr,List.flatMap_append]
      have hone:∀y∈x.2.map (fun j=>iC.one j (.inr none)),∀u∈y.fl,u∈(x.2.map fun j=>(j,(.inr none:Kd))):=fun y hy u hu=>by
       obtain⟨j,hj,rfl⟩:=List.mem_map.1 hy
       rw[List.mem_singleton.1 hu]
       exact List.mem_map.2 ⟨j,hj,rfl⟩
      refine⟨by simp[hI.size],Jt _ fun k=>?_,aav,?_,?_,fun y hy=>hI.self y (hperm.symm.subset (List.mem_cons_of_mem _ hy)),?_,hclosed⟩
      ·have hmm:=(hperm.map (fun y:Nat×Kd=>y.1)).mem_iff (a:=k)
       rw[List.map_cons,List.mem_cons] at hmm
       rw[hmm]
       constructor
       ·intro hk
        exact⟨.inr hk,fun e=>hxn (by rw[←e];exact hk)⟩
       ·rintro⟨rfl|hk,hne⟩
        ·exact absurd rfl hne
        ·exact hk
      ·refine List.pairwise_append.2 ⟨hpw.1,List.pairwise_append.2 ⟨?_,List.pairwise_cons.2 ⟨fun y hy u hu v hv=>hl2 y hy v hv u (.inr (by rw[←hgf];exact hu)),hc.2⟩,fun y hy z hz u hu v hv=>?_⟩,fun y hy z hz u hu v hv=>?_⟩
       ·rw[List.pairwise_map]
        refine (hG.seq x Gy).imp fun h u hu v hv=>?_
        rw[List.mem_singleton.1 hu,List.mem_singleton.1 hv]
        exact h
       ·have h1:=hone y hy u hu
        rcases List.mem_cons.1 hz with rfl|hz
        ·obtain⟨j,hj,rfl⟩:=List.mem_map.1 h1
         exact wu j hj v (by rw[←hgf];exact hv)
        ·exact hl2 z hz v hv u (.inl h1)
       ·rcases List.mem_append.1 hz with hz|hz
        ·exact hl1 y hy u hu v (.inl (hone z hz v hv))
        ·rcases List.mem_cons.1 hz with rfl|hz
         ·exact hl1 y hy u hu v (.inr (by rw[←hgf];exact hv))
         ·exact hpw.2.2 y hy z (by simp[hz]) u hu v hv
      ·have hd:=hI.dep
       rw[hfl] at hd
       rw[hfn]
       obtain⟨a1,a2,a3⟩:=List.pairwise_append.1 hd
       obtain⟨b1,b2,b3⟩:=List.pairwise_append.1 a2
       obtain⟨c1,c2,c3⟩:=List.pairwise_append.1 b1
       obtain⟨d1,d2⟩:=List.pairwise_cons.1 c2
       obtain⟨e1,e2,e3⟩:=List.pairwise_append.1 d2
       refine List.pairwise_append.2 ⟨a1,List.pairwise_append.2 ⟨List.pairwise_append.2 ⟨e1,List.pairwise_append.2 ⟨c1,e2,fun y hy z hz=>c3 y hy z (List.mem_cons_of_mem _ (List.mem_append_right _ hz))⟩,fun y hy z hz=>?_⟩,b2,fun y hy z hz=>b3 y ?_ z hz⟩,fun y hy z hz=>a3 y hy z ?_⟩
       ·obtain⟨j,hj,rfl⟩:=List.mem_map.1 hy
        exact TR (wu j hj z hz)
       ·rcases List.mem_append.1 hy with hy|hy
        ·exact List.mem_append_right _ (List.mem_cons_of_mem _ (List.mem_append_left _ hy))
        ·rcases List.mem_append.1 hy with hy|hy
         ·exact List.mem_append_left _ hy
         ·exact List.mem_append_right _ (List.mem_cons_of_mem _ (List.mem_append_right _ hy))
       ·rcases List.mem_append.1 hz with hz|hz
        ·rcases List.mem_append.1 hz with hz|hz
         ·exact List.mem_append_left _ (List.mem_append_right _ (List.mem_cons_of_mem _ (List.mem_append_left _ hz)))
         ·rcases List.mem_append.1 hz with hz|hz
          ·exact List.mem_append_left _ (List.mem_append_left _ hz)
          ·exact List.mem_append_left _ (List.mem_append_right _ (List.mem_cons_of_mem _ (List.mem_append_right _ hz)))
        ·exact List.mem_append_right _ hz
      ·intro b' E' hm
       rcases List.mem_append.1 hm with hm|hm
       ·exact hI.grp b' E' (List.mem_append_left _ hm)
       ·rcases List.mem_append.1 hm with hm|hm
        ·obtain⟨j,_,e⟩:=List.mem_map.1 hm
         cases e
        ·rcases List.mem_cons.1 hm with e|hm
         ·cases e
          exact hG.erase x
         ·exact hI.grp b' E' (by simp[hm])
def Bc (ops:Array Oper) (bf:Array Nat):List iC→Bool
 | []=>true
 | .one _ _::l=>Bc ops bf l
 | .grp b E::l=>TN ops bf b E&&Bc ops bf l
theorem xR {bf:Array Nat}:∀(l:List iC),Bc ops bf l=true→∀b E,iC.grp b E∈l→Qj ops bf b E
 | [],_,_,_,h=>by cases h
 | .one _ _::l,h,b,E,hm=>by
  rcases List.mem_cons.1 hm with e|hm
  ·cases e
  ·exact xR l h b E hm
 | .grp b' E'::l,h,b,E,hm=>by
  simp only[Bc,Bool.and_eq_true] at h
  rcases List.mem_cons.1 hm with e|hm
  ·cases e
   exact TP h.1
  ·exact xR l h.2 b E hm
def OY (ops:Array Oper) (l:List iC):Bool:=
 Ju ops (Region.before ops) l&&TT ops (bV l)&&ES ops&&jU ops (Region.before ops)&&(bV l).length==ops.size&&nodupB ((bV l).map (·.1))&&((bV l).map (·.1)).all (fun i=>decide (i<ops.size))&&(List.range ops.size).all (fun i=>((bV l).map (·.1)).contains i) &&
 ops.all (fun o=>o.after.all fun e=>!Region.binds .any e||decide (e.on<ops.size))&&Bc ops (Region.before ops) l
theorem gq {id:Nat} {a:Act} {w:World} (hm:P.follows .mixedOrders=true) (S:World→Prop) (l:List iC) (hok:OY ops l=true)
 (h:jT P ops (NoPanic Q) S l (Q .normal) a w.drew):(Code.region id ops true).wp P Q a w:=by
 simp only[OY,Bool.and_eq_true] at hok
 obtain⟨⟨⟨⟨⟨⟨⟨⟨⟨h1,h0⟩,h2⟩,h3⟩,h4⟩,h7⟩,h8⟩,h5⟩,h6⟩,h9⟩:=hok
 have hlen:(bV l).length=ops.size:=by simpa using h4
 have hall:∀i,i<ops.size→i∈(bV l).map (·.1):=fun i hi=>by
  simp only[List.all_eq_true,List.mem_range] at h5
  simpa using h5 i hi
 have hback:∀i,i∈(bV l).map (·.1)→i<ops.size:=fun i hi=>by
  rw[List.all_eq_true] at h8
  simpa using h8 i hi
 have hd:=Gz _ h0
 refine wp_region_noPanic (wp_region_any hm ?_)
 refine Qk (S:=S) ?_ ?_ h3 ?_ ops.size l _ hlen ?_ a w.drew h
 ·intro j o cs b ho hsel
  simp only[ES,Array.all_eq_true] at h2
  obtain⟨hj,rfl⟩:=Array.getElem?_eq_some_iff.1 ho
  have:=h2 j hj
  rw[hsel] at this
  cases this
 ·intro c a d v w hh;exact hh
 ·intro j o ho e he hb
  obtain⟨hj,rfl⟩:=Array.getElem?_eq_some_iff.1 ho
  rw[Array.all_eq_true] at h6
  have:=h6 j hj
  rw[Array.all_eq_true] at this
  obtain⟨k,hk,rfl⟩:=Array.mem_iff_getElem.1 he
  have:=this k hk
  simpa[hb] using this
 ·refine⟨by simp,fun i=>⟨fun hi=>?_,fun hi=>hall i hi.1⟩,pO _ h7,Bd l h1,hd.1,hd.2,xR l h9,fun d r _ hd=>?_⟩
  ·have:=hback i hi
   exact⟨this,by simp[Array.getD,this]⟩
  ·exfalso
   simp only[Array.getD,Array.size_replicate] at hd
   split at hd<;>simp at hd
theorem MB {W:World} {Pre Mid Post:aG} {v1 v2:Value} {DT:List Value} {a0:Act} {i j:Nat} {js:List Nat} {oi oj:Oper} {di dj:Option Tmp} (hdi:aZ ops i=di) (hdj:aZ ops j=dj) (hoi:ops[i]?=some oi) (hsi:∀cs b,oi.op≠.select cs b) (hoj:ops[j]?=some oj) (hsj:∀cs b,oj.op≠.select cs b)
 (hb:((Region.before ops).getD j 0).testBit i=true) (h1:iq P ops W oi a0 Pre (fun v=>sep (fact (v=v1)) Mid)) (h2:iq P ops W oj (a0.put di v1) Mid (fun v=>sep (fact (v=v2)) Post))
 (hw2:∀v,Region.wanted oj (yielded ops (a0.put di v).tmps)=true) (hpl:js.all (mO ops)=true) (hF:vW P ops ((a0.put di v1).put dj v2) js DT):
 uj P ops W a0 (vV Pre Mid Post v1 v2 DT) [] [(i,[]),(j,js)]:=by
 subst hdj
 exact sU hdi hoi hsi hoj hsj hb h1 h2 hw2 hpl hF
theorem EM {W:World} {Pre Mid Post:aG} {v1 u1 v2:Value} {a0:Act} {i k j:Nat} {oi oj:Oper} {di dk:Option Tmp} (hdi:aZ ops i=di) (hdk:aZ ops k=dk) (hoi:ops[i]?=some oi) (hsi:∀cs b,oi.op≠.select cs b) (hoj:ops[j]?=some oj) (hsj:∀cs b,oj.op≠.select cs b)
 (hb:((Region.before ops).getD j 0).testBit i=true) (h1:iq P ops W oi a0 Pre (fun v=>sep (fact (v=v1)) Mid)) (hpl:mO ops k=true) (hF:vW P ops (a0.put di v1) [k] [u1])
 (h2:iq P ops W oj ((a0.put di v1).put dk u1) Mid (fun v=>sep (fact (v=v2)) Post))
 (hw2:∀v u,Region.wanted oj (yielded ops ((a0.put di v).put dk u).tmps)=true):
 uj P ops W a0 (WA Pre Mid Post v1 u1 v2) [] [(i,[k]),(j,[])]:=by
 subst hdk
 exact TU hdi hoi hsi hoj hsj hb h1 hpl hF h2 hw2
theorem twoA_S {W:World} {Pre Mid Post:aG} {v1 v2:Value} {DT:List Value} (h1:∀w X,Sat W w (sep Pre X)→S w) (h2:∀w X,Sat W w (sep Mid X)→S w) (h3:∀w X,Sat W w (sep Post X)→S w):∀us w X,Sat W w (sep (vV Pre Mid Post v1 v2 DT us) X)→S w
 | [],w,X,h=>h1 w X h
 | [_],w,X,h=>by
  rw[vV,aj] at h
  exact h2 w X (Sat.fact.1 h).2
 | _::_::_,w,X,h=>by
  rw[vV,aj] at h
  exact h3 w X (Sat.fact.1 h).2
theorem Y5 {W:World} {Pre Mid Post:aG} {v1 u1 v2:Value} (h1:∀w X,Sat W w (sep Pre X)→S w) (h2:∀w X,Sat W w (sep Mid X)→S w) (h3:∀w X,Sat W w (sep Post X)→S w):∀us w X,Sat W w (sep (WA Pre Mid Post v1 u1 v2 us) X)→S w
 | [],w,X,h=>h1 w X h
 | [_],w,X,h=>by
  rw[WA,aj] at h
  exact h2 w X (Sat.fact.1 h).2
 | [_,_],w,X,h=>by
  rw[WA,aj] at h
  exact h2 w X (Sat.fact.1 h).2
 | _::_::_::_,w,X,h=>by
  rw[WA,aj] at h
  exact h3 w X (Sat.fact.1 h).2
end
end PA
