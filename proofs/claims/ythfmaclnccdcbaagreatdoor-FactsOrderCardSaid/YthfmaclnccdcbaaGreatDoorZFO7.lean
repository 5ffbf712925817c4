/- Part of a proof. -/
import Derived.Test.YthfmaclnccdcbaaGreatDoorZFO2
import Derived.RangeFuncNested
import Derived.RangeFuncBound
import Derived.RangeFuncCalls
import Derived.RangeFuncLeaves
import Derived.Shelf.Abstract
import Derived.Shelf.RegionOpen
import Derived.TacticsInMore
import Derived.LoopNIn
import Derived.LoopIn
import Derived.RangeFuncBox
import Derived.Maps.AppendAt
import Derived.Handy
import Derived.Lib.SliceRun
import Derived.Laws.IdiomStrings
namespace PA
open Go Go.RowKit
section
section
variable {α:Type} {F:Fence} {P:Program}
theorem OE {n:Nat} {W:World} {g:Operand} {ps:Array Tmp} {assign body:Code} {Q:Exit→Act→World→Prop} {a:Act} {w:World}
 (hro:F.round=none) (h1:1≤n) {gf:Nat} {lb:Array Value} (hg:a.eval g=.func (.func gf) #[] lb) (hFg:F.fn gf) (eg:∀args w,(callFunc gf args).run P w=.ok (.enter gf args) w)
 {encs:α→Array Value} {Fx:α→aB} {N:Nat} {S:List α→Prop} {Pre Post:aB} (hps:∀x,(encs x).size=ps.size)
 (hseq:Gives F (n-1) P W gf lb encs Fx N S Pre Post)
 (C:List α→aB) (h0:Sat W w (sep (C []) Pre)) (Mid:List α→α→Act→aB→Prop)
 (hassign:∀(l:Nat) (pre:List α) (x:α) (w':World) (B:aB) (K:Act→World→Prop),pre.length<N→Sat W w' (sep (C pre) (sep (Fx x) B))→(∀a₁ w₁ E,Mid pre x a₁ E→Sat W w₁ (sep E B)→K a₁ w₁) →
  assign.wpIn (F.inRound l) (n-1-1) P (Exit.then K (fun _ _ _=>False)) { tmps:=(ps.zip (encs x)).foldl (fun t (p,v)=>t.setIfInBounds p v) a.tmps,defers:=[] } w')
 (hbody:∀(l:Nat) (pre:List α) (x:α) (a₁:Act) (E:aB) (w':World) (B:aB),pre.length<N→Mid pre x a₁ E→Sat W w' (sep E B) →
  body.wpIn (F.inRound l) (n-1-1) P (Round W (sep (C (pre++[x])) B)) a₁ w')
 (hdone:∀(D:Nat) (xs:List α) (w':World),S xs→Sat W w' (sep (blk D (.deferred (some []))) (sep (C xs) Post)) →
  Q .normal { a with defers:={ target:=.collected D,args:=#[] }::a.defers } w'):
 (Code.rangeFunc g ps assign body).wpIn F n P Q a w:=by
 refine wpIn_rangeFunc fun fn hfn=>?_
 rw[hro];obtain⟨D,hD⟩:=aC (w.heap.size);obtain⟨mk,hmk⟩:∃mk:LoopState→Option Code→Loop,mk=fun st pe=>⟨st,pe,fn,a.tmps,ps,assign,body,D⟩:=⟨_,rfl⟩
 obtain⟨w1,hw1⟩:=aC ((w.alloc (.deferred (some []))).alloc (.loop (mk .ready none)));have hS1:Sat W w1 (sep (sep (C []) (sep (blk (D+1) (.loop (mk .ready none))) (blk D (.deferred (some []))))) Pre):=by
  have h:=(h0.alloc (.deferred (some []))).alloc (.loop (mk .ready none));rw[World.size_alloc,←hw1,←hD] at h;simpa only[aA,au,aj] using h
 have henter:=run_enterLoop_outer (P:=P) (w:=w) fn a.tmps ps assign body;refine⟨D+1,[{ target:=.collected D,args:=#[] }],w1,{ target:=.fn (.func gf) lb,args:=#[.func (.yield (D+1)) #[] #[]] },w1,gf,#[.func (.yield (D+1)) #[] #[]]++lb,w1,?_,?_,?_,?_,fun _=>h1,?_⟩
 ·rw[hw1,hmk,hD];exact henter
 ·simp only[resolve,hg]
  simp[go_sem]
 ·intro f' hf';simp[Target.leads] at hf';subst hf';exact hFg
 ·simp[invoke,go_sem,eg]
 ·refine (hseq (D+1) (fun pre=>sep (C pre) (sep (blk (D+1) (.loop (mk .ready none))) (blk D (.deferred (some []))))) w1 ?_ hS1).mono ?_
  ·intro pre x w2 B hlen hS
   have hl:Sat W w2 (sep (blk (D+1) (.loop (mk .ready none))) (sep (C pre) (sep (Fx x) (sep B (blk D (.deferred (some []))))))):=dI hS;have hy:=run_yield (P:=P) (args:=encs x) hl.aO (by rw[hmk];exact hps x);rw[hmk] at hy;refine⟨fn,_,assign,body,hy,roundIn_of_wpIn hfn (hassign _ pre x w2 (sep (blk (D+1) (.loop (mk .ready none))) (sep B (blk D (.deferred (some []))))) _ hlen (by simpa only[aA,au,aj] using hS) ?_)⟩;intro a₁ w₁ E hmid hE;have hl1:Sat W w₁ (sep (blk (D+1) (.loop (mk .ready none))) (sep E (sep B (blk D (.deferred (some [])))))):=dI hE;refine⟨_,run_beginRound hl1.aO (by rw[hmk]),?_⟩;have h3:=(hl1.putObj (.loop { mk .ready none with state:=.busy })).p1;refine wpIn_mono (hbody _ pre x a₁ E _ (sep (blk (D+1) (.loop { mk .ready none with state:=.busy })) (sep B (blk D (.deferred (some []))))) hlen hmid (by simpa only[aA,au,aj] using h3)) ?_;rintro e a3 w3 hp;cases e with
   | normal=>
    have h4:Sat W w3 (sep (blk (D+1) (.loop { mk .ready none with state:=.busy })) (sep (C (pre++[x])) (sep B (blk D (.deferred (some [])))))):=Sat.p1 hp;have hr:=run_endRound (P:=P) none h4.aO;have h5:=h4.putObj (.loop (mk .ready none));refine⟨_,_,hr,rfl,?_⟩;have e:({ mk .ready none with state:=.busy }:Loop)=mk .busy none:=by rw[hmk]
    rw[e];have e2:({ mk .busy none with state:=if (none:Option Code).isNone then .ready else .done,pending:=none }:Loop)=mk .ready none:=by rw[hmk];rfl
    rw[e2];simpa only[aA,au,aj] using h5
   | ret=>exact hp.elim
   | exit id=>exact hp.elim
   | goto t=>exact hp.elim
   | panic ch=>exact hp.elim
   | outgrown=>exact hp.elim
  ·rintro e w2 ⟨⟨v,rfl⟩,xs,hS,h2⟩
   have h3:Sat W w2 (sep (blk (D+1) (.loop (mk .ready none))) (sep (C xs) (sep Post (blk D (.deferred (some [])))))):=dI h2;have e:(mk .ready none).pending=none:=by rw[hmk]
   have hr:=run_endLoop (P:=P) h3.aO (by rw[hmk];simp);have h4:=(h3.putObj (.loop { mk .ready none with state:=.exhausted })).drop;rw[e] at hr;refine⟨none,_,hr,hdone D xs _ hS ?_⟩;dsimp only at h4;rw[e] at h4;simpa only[aA,au,aj] using h4
theorem OG {n:Nat} {W:World} {g:Operand} {ps:Array Tmp} {assign body:Code} {Q:Exit→Act→World→Prop} {a:Act} {w:World}
 (hro:F.round=none) (h1:1≤n) {gf:Nat} {lb:Array Value} (hg:a.eval g=.func (.func gf) #[] lb) (hFg:F.fn gf) (eg:∀args w,(callFunc gf args).run P w=.ok (.enter gf args) w)
 {encs:α→Array Value} {Fx:α→aB} {N:Nat} {S:List α→Prop} {Pre Post:aB} (hps:∀x,(encs x).size=ps.size)
 (hseq:Gives F (n-1) P W gf lb encs Fx N S Pre Post)
 (C:List α→aB) (h0:Sat W w (sep (C []) Pre)) (upd:α→Nat→Array Value→Array Value) (Cm:List α→α→Nat→aB)
 (hassign:∀(l:Nat) (pre:List α) (x:α) (w':World) (B:aB) (K:Act→World→Prop),pre.length<N→Sat W w' (sep (C pre) (sep (Fx x) B))→(∀g w₁,Sat W w₁ (sep (Cm pre x g) B)→K { tmps:=upd x g a.tmps,defers:=[] } w₁) →
  assign.wpIn (F.inRound l) (n-1-1) P (Exit.then K (fun _ _ _=>False)) { tmps:=(ps.zip (encs x)).foldl (fun t (p,v)=>t.setIfInBounds p v) a.tmps,defers:=[] } w')
 (hbody:∀(l:Nat) (pre:List α) (x:α) (g:Nat) (w':World) (B:aB),pre.length<N→Sat W w' (sep (Cm pre x g) B) →
  body.wpIn (F.inRound l) (n-1-1) P (Round W (sep (C (pre++[x])) B)) { tmps:=upd x g a.tmps,defers:=[] } w')
 (hdone:∀(D:Nat) (xs:List α) (w':World),S xs→Sat W w' (sep (blk D (.deferred (some []))) (sep (C xs) Post)) →
  Q .normal { a with defers:={ target:=.collected D,args:=#[] }::a.defers } w'):
 (Code.rangeFunc g ps assign body).wpIn F n P Q a w:=by
 refine OE hro h1 hg hFg eg hps hseq C h0 (fun pre x a₁ E=>∃g,a₁={ tmps:=upd x g a.tmps,defers:=[] }∧E=Cm pre x g) ?_ ?_ hdone
 ·intro l pre x w' B K hl hS hK
  exact hassign l pre x w' B K hl hS fun g w₁ h=>hK _ w₁ _ ⟨g,rfl,rfl⟩ h
 ·rintro l pre x a₁ E w' B hl ⟨g,rfl,rfl⟩ hS
  exact hbody l pre x g w' B hl hS
end
end
section
section
variable {α:Type} {F:Fence} {P:Program}
def xA (F:Fence) (n:Nat) (P:Program) (W:World) (l:Nat) (encs:α→Array Value) (Fx:α→aB) (N:Nat) (R Z:List α→aB):Prop:=
 ∀(pre:List α) (x:α) (w:World) (B:aB),pre.length<N→Sat W w (sep (R pre) (sep (Fx x) B)) →
  YieldAt F n P l (encs x) w fun e w'=>(e=.returned (.bool true)∧Sat W w' (sep (R (pre++[x])) B))∨(e=.returned (.bool false)∧Sat W w' (sep (Z (pre++[x])) B))
def Dh (F:Fence) (n:Nat) (P:Program) (W:World) (gf:Nat) (lb:Array Value) (encs:α→Array Value) (Fx:α→aB) (N:Nat) (S Sp:List α→Prop) (Pre Post:aB):Prop:=
 ∀(l:Nat) (R Z:List α→aB) (w:World),xA F (n-1) P W l encs Fx N R Z→Sat W w (sep (R []) Pre) →
  CallsIn F n P gf (#[.func (.yield l) #[] #[]]++lb) w fun e w'=>(∃v,e=.returned v)∧((∃xs,S xs∧Sat W w' (sep (R xs) Post))∨∃xs,Sp xs∧Sat W w' (sep (Z xs) Post))
def VA (W:World) (A:aB) (Z:Code→aB):Exit→Act→World→Prop
 | .normal,_,w=>Sat W w A
 | .ret,_,w=>Sat W w (Z .ret)
 | .exit id,_,w=>Sat W w (Z (.exit id))
 | _,_,_=>False
theorem Kv {n:Nat} {W:World} {g:Operand} {ps:Array Tmp} {assign body:Code} {Q:Exit→Act→World→Prop} {a:Act} {w:World}
 (hro:F.round=none) (h1:1≤n) {gf:Nat} {lb:Array Value} (hg:a.eval g=.func (.func gf) #[] lb) (hFg:F.fn gf) (eg:∀args w,(callFunc gf args).run P w=.ok (.enter gf args) w)
 {encs:α→Array Value} {Fx:α→aB} {N:Nat} {S Sp:List α→Prop} {Pre Post:aB} (hps:∀x,(encs x).size=ps.size)
 (hseq:Dh F (n-1) P W gf lb encs Fx N S Sp Pre Post)
 (C:List α→aB) (Zc:Code→List α→aB) (h0:Sat W w (sep (C []) Pre)) (Mid:List α→α→Act→aB→Prop)
 (hassign:∀(l:Nat) (pre:List α) (x:α) (w':World) (B:aB) (K:Act→World→Prop),pre.length<N→Sat W w' (sep (C pre) (sep (Fx x) B))→(∀a₁ w₁ E,Mid pre x a₁ E→Sat W w₁ (sep E B)→K a₁ w₁) →
  assign.wpIn (F.inRound l) (n-1-1) P (Exit.then K (fun _ _ _=>False)) { tmps:=(ps.zip (encs x)).foldl (fun t (p,v)=>t.setIfInBounds p v) a.tmps,defers:=[] } w')
 (hbody:∀(l:Nat) (pre:List α) (x:α) (a₁:Act) (E:aB) (w':World) (B:aB),pre.length<N→Mid pre x a₁ E→Sat W w' (sep E B) →
  body.wpIn (F.inRound l) (n-1-1) P (VA W (sep (C (pre++[x])) B) (fun c=>sep (Zc c (pre++[x])) B)) a₁ w')
 (hdone:∀(D:Nat) (xs:List α) (w':World),S xs→Sat W w' (sep (blk D (.deferred (some []))) (sep (C xs) Post)) →
  Q .normal { a with defers:={ target:=.collected D,args:=#[] }::a.defers } w')
 (hstop:∀(D:Nat) (c:Code) (xs:List α) (w':World),Sp xs→Sat W w' (sep (blk D (.deferred (some []))) (sep (Zc c xs) Post)) →
  c.wpIn F n P Q { a with defers:={ target:=.collected D,args:=#[] }::a.defers } w'):
 (Code.rangeFunc g ps assign body).wpIn F n P Q a w:=by
 refine wpIn_rangeFunc fun fn hfn=>?_
 rw[hro];obtain⟨D,hD⟩:=aC (w.heap.size);obtain⟨mk,hmk⟩:∃mk:LoopState→Option Code→Loop,mk=fun st pe=>⟨st,pe,fn,a.tmps,ps,assign,body,D⟩:=⟨_,rfl⟩
 obtain⟨w1,hw1⟩:=aC ((w.alloc (.deferred (some []))).alloc (.loop (mk .ready none)));have hS1:Sat W w1 (sep (sep (C []) (sep (blk (D+1) (.loop (mk .ready none))) (blk D (.deferred (some []))))) Pre):=by
  have h:=(h0.alloc (.deferred (some []))).alloc (.loop (mk .ready none));rw[World.size_alloc,←hw1,←hD] at h;simpa only[aA,au,aj] using h
 have henter:=run_enterLoop_outer (P:=P) (w:=w) fn a.tmps ps assign body;refine⟨D+1,[{ target:=.collected D,args:=#[] }],w1,{ target:=.fn (.func gf) lb,args:=#[.func (.yield (D+1)) #[] #[]] },w1,gf,#[.func (.yield (D+1)) #[] #[]]++lb,w1,?_,?_,?_,?_,fun _=>h1,?_⟩
 ·rw[hw1,hmk,hD];exact henter
 ·simp only[resolve,hg]
  simp[go_sem]
 ·intro f' hf';simp[Target.leads] at hf';subst hf';exact hFg
 ·simp[invoke,go_sem,eg]
 ·refine (hseq (D+1) (fun pre=>sep (C pre) (sep (blk (D+1) (.loop (mk .ready none))) (blk D (.deferred (some [])))))
   (fun pre=>ex fun c:Code=>sep (Zc c pre) (sep (blk (D+1) (.loop (mk .done (some c)))) (blk D (.deferred (some []))))) w1 ?_ hS1).mono ?_
  ·intro pre x w2 B hlen hS
   have hl:Sat W w2 (sep (blk (D+1) (.loop (mk .ready none))) (sep (C pre) (sep (Fx x) (sep B (blk D (.deferred (some []))))))):=dI hS;have hy:=run_yield (P:=P) (args:=encs x) hl.aO (by rw[hmk];exact hps x);rw[hmk] at hy;refine⟨fn,_,assign,body,hy,roundIn_of_wpIn hfn (hassign _ pre x w2 (sep (blk (D+1) (.loop (mk .ready none))) (sep B (blk D (.deferred (some []))))) _ hlen (by simpa only[aA,au,aj] using hS) ?_)⟩;intro a₁ w₁ E hmid hE;have hl1:Sat W w₁ (sep (blk (D+1) (.loop (mk .ready none))) (sep E (sep B (blk D (.deferred (some [])))))):=dI hE;refine⟨_,run_beginRound hl1.aO (by rw[hmk]),?_⟩;have h3:=(hl1.putObj (.loop { mk .ready none with state:=.busy })).p1;have ebz:({ mk .ready none with state:=.busy }:Loop)=mk .busy none:=by rw[hmk]
   refine wpIn_mono (hbody _ pre x a₁ E _ (sep (blk (D+1) (.loop { mk .ready none with state:=.busy })) (sep B (blk D (.deferred (some []))))) hlen hmid (by simpa only[aA,au,aj] using h3)) ?_;have stop:∀(c:Code) (w3:World),Sat W w3 (sep (Zc c (pre++[x])) (sep (blk (D+1) (.loop { mk .ready none with state:=.busy })) (sep B (blk D (.deferred (some [])))))) →
    ∃v w',(Instr.endRound (D+1) (some c)).run P w3=.ok v w'∧((Ending.returned v=.returned (.bool true)∧Sat W w' (sep (sep (C (pre++[x])) (sep (blk (D+1) (.loop (mk .ready none))) (blk D (.deferred (some []))))) B)) ∨
     (Ending.returned v=.returned (.bool false)∧Sat W w' (sep (ex fun c:Code=>sep (Zc c (pre++[x])) (sep (blk (D+1) (.loop (mk .done (some c)))) (blk D (.deferred (some []))))) B))):=by
    intro c w3 hp;have h4:Sat W w3 (sep (blk (D+1) (.loop { mk .ready none with state:=.busy })) (sep (Zc c (pre++[x])) (sep B (blk D (.deferred (some [])))))):=Sat.p1 hp;have hr:=run_endRound (P:=P) (some c) h4.aO;have h5:=h4.putObj (.loop (mk .done (some c)));refine⟨_,_,hr,.inr ⟨rfl,?_⟩⟩;rw[ebz];have e2:({ mk .busy none with state:=if (some c:Option Code).isNone then .ready else .done,pending:=some c }:Loop)=mk .done (some c):=by rw[hmk];rfl
    rw[e2,fP,Sat.ex];exact⟨c,by simpa only[aA,au,aj] using h5⟩
   rintro e a3 w3 hp;cases e with
   | normal=>
    have h4:Sat W w3 (sep (blk (D+1) (.loop { mk .ready none with state:=.busy })) (sep (C (pre++[x])) (sep B (blk D (.deferred (some [])))))):=Sat.p1 hp;have hr:=run_endRound (P:=P) none h4.aO;have h5:=h4.putObj (.loop (mk .ready none));refine⟨_,_,hr,.inl ⟨rfl,?_⟩⟩;rw[ebz];have e2:({ mk .busy none with state:=if (none:Option Code).isNone then .ready else .done,pending:=none }:Loop)=mk .ready none:=by rw[hmk];rfl
    rw[e2];simpa only[aA,au,aj] using h5
   | ret=>exact stop .ret w3 hp
   | exit id=>exact stop (.exit id) w3 hp
   | goto t=>exact hp.elim
   | panic ch=>exact hp.elim
   | outgrown=>exact hp.elim
  ·rintro e w2 ⟨⟨v,rfl⟩,⟨xs,hS,h2⟩|⟨xs,hS,h2⟩⟩
   ·have h3:Sat W w2 (sep (blk (D+1) (.loop (mk .ready none))) (sep (C xs) (sep Post (blk D (.deferred (some [])))))):=dI h2
    have e:(mk .ready none).pending=none:=by rw[hmk]
    have hr:=run_endLoop (P:=P) h3.aO (by rw[hmk];simp);have h4:=(h3.putObj (.loop { mk .ready none with state:=.exhausted })).drop;rw[e] at hr;refine⟨none,_,hr,hdone D xs _ hS ?_⟩;dsimp only at h4;rw[e] at h4;simpa only[aA,au,aj] using h4
   ·rw[fP,Sat.ex] at h2
    obtain⟨c,h2⟩:=h2;have h3:Sat W w2 (sep (blk (D+1) (.loop (mk .done (some c)))) (sep (Zc c xs) (sep Post (blk D (.deferred (some [])))))):=dI h2;have e:(mk .done (some c)).pending=some c:=by rw[hmk]
    have hr:=run_endLoop (P:=P) h3.aO (by rw[hmk];simp);have h4:=(h3.putObj (.loop { mk .done (some c) with state:=.exhausted })).drop;rw[e] at hr;refine⟨some c,_,hr,hstop D c xs _ hS ?_⟩;dsimp only at h4;rw[e] at h4;simpa only[aA,au,aj] using h4
theorem nM {n:Nat} {W:World} {g:Operand} {ps:Array Tmp} {assign body:Code} {Q:Exit→Act→World→Prop} {a:Act} {w:World}
 (hro:F.round=none) (h1:1≤n) {gf:Nat} {lb:Array Value} (hg:a.eval g=.func (.func gf) #[] lb) (hFg:F.fn gf) (eg:∀args w,(callFunc gf args).run P w=.ok (.enter gf args) w)
 {encs:α→Array Value} {Fx:α→aB} {N:Nat} {S Sp:List α→Prop} {Pre Post:aB} (hps:∀x,(encs x).size=ps.size)
 (hseq:Dh F (n-1) P W gf lb encs Fx N S Sp Pre Post)
 (C:List α→aB) (Zc:Code→List α→aB) (h0:Sat W w (sep (C []) Pre)) (upd:α→Nat→Array Value→Array Value) (Cm:List α→α→Nat→aB)
 (hassign:∀(l:Nat) (pre:List α) (x:α) (w':World) (B:aB) (K:Act→World→Prop),pre.length<N→Sat W w' (sep (C pre) (sep (Fx x) B))→(∀g w₁,Sat W w₁ (sep (Cm pre x g) B)→K { tmps:=upd x g a.tmps,defers:=[] } w₁) →
  assign.wpIn (F.inRound l) (n-1-1) P (Exit.then K (fun _ _ _=>False)) { tmps:=(ps.zip (encs x)).foldl (fun t (p,v)=>t.setIfInBounds p v) a.tmps,defers:=[] } w')
 (hbody:∀(l:Nat) (pre:List α) (x:α) (g:Nat) (w':World) (B:aB),pre.length<N→Sat W w' (sep (Cm pre x g) B) →
  body.wpIn (F.inRound l) (n-1-1) P (VA W (sep (C (pre++[x])) B) (fun c=>sep (Zc c (pre++[x])) B)) { tmps:=upd x g a.tmps,defers:=[] } w')
 (hdone:∀(D:Nat) (xs:List α) (w':World),S xs→Sat W w' (sep (blk D (.deferred (some []))) (sep (C xs) Post)) →
  Q .normal { a with defers:={ target:=.collected D,args:=#[] }::a.defers } w')
 (hstop:∀(D:Nat) (c:Code) (xs:List α) (w':World),Sp xs→Sat W w' (sep (blk D (.deferred (some []))) (sep (Zc c xs) Post)) →
  c.wpIn F n P Q { a with defers:={ target:=.collected D,args:=#[] }::a.defers } w'):
 (Code.rangeFunc g ps assign body).wpIn F n P Q a w:=by
 refine Kv hro h1 hg hFg eg hps hseq C Zc h0 (fun pre x a₁ E=>∃g,a₁={ tmps:=upd x g a.tmps,defers:=[] }∧E=Cm pre x g) ?_ ?_ hdone hstop
 ·intro l pre x w' B K hl hS hK
  exact hassign l pre x w' B K hl hS fun g w₁ h=>hK _ w₁ _ ⟨g,rfl,rfl⟩ h
 ·rintro l pre x a₁ E w' B hl ⟨g,rfl,rfl⟩ hS
  exact hbody l pre x g w' B hl hS
end
end
end PA
namespace Go.Proofs.YthfmaclnccdcbaaGreatDoor
open Go.RowKit PA
section
theorem _root_.PA.JM {k:IntKind} {a b:Int} (h:a=b):Ending.returned (.int k a)=.returned (.int k b):=by rw[h]
def KpB (n B:Nat) (W W':World):Prop:=Below n W W'∧W'.cell? ⟨B,0,none⟩=W.cell? ⟨B,0,none⟩
theorem KpB.refl (n B:Nat) (W:World):KpB n B W W:=⟨Below.refl _ _,rfl⟩
theorem KpB.trans {n B:Nat} {W W' W'':World} (h:KpB n B W W') (k:KpB n B W' W''):KpB n B W W'':=⟨h.1.trans k.1,k.2.trans h.2⟩
attribute [local go_sem] Oper.semAt_some
end
section
attribute [local go_sem] Oper.semAt_some
end
section
attribute [local go_sem] Oper.semAt_some
end


theorem fB:(Tryz.prog.info? 5).map (fun i=>(i.zero,i.size,i.bytes))=some (some (.int .u8 0),1,1):=by kernel_rfl
def dP (p:Nat) (bs:List UInt8):aB:=ex fun a:Option Addr=>ex fun n:Nat=>ex fun c:Nat=>sep (blk p (.cells #[.slice a n c] 104 (0,0))) (aT 5 1 a n c (bs.map bv))
theorem rE {W w:World} {A:aB} {p:Nat} {bs:List UInt8} (h:Sat W w (sep (dP p bs) A)):∃a n c,n=bs.length∧Sat W w (sep (blk p (.cells #[.slice a n c] 104 (0,0))) (sep (aT 5 1 a n c (bs.map bv)) A)):=by
 simp only[dP,fP,Sat.ex,aj] at h;obtain⟨a,n,c,h⟩:=h;have:=h.p1.vY.1;exact⟨a,n,c,by simpa using this.symm,h⟩
theorem vT {W w:World} {A:aB} {p:Nat} {bs:List UInt8} {a:Option Addr} {n c:Nat} (h:Sat W w (sep (blk p (.cells #[.slice a n c] 104 (0,0))) (sep (aT 5 1 a n c (bs.map bv)) A))):Sat W w (sep (dP p bs) A):=by
 simp only[dP,fP,Sat.ex,aj];exact⟨a,n,c,h⟩
set_option maxHeartbeats 1000000 in
theorem yA {W w:World} {A:aB} (p:Nat) (bs:List UInt8) (x:Nat) (hx:x<18446744073709551616) (h:Sat W w (sep (dP p bs) A)) (hb:bs.length≤1073741824):
 Calls Tryz.prog 126 #[.pointer (some ⟨p,0,none⟩),.int .u64 (x:Nat)] w fun e w'=>e=.returned (.tuple #[])∧Sat W w' (sep (dP p (bs++Lib.uvarint x)) A):=by
 have HX:=ah hx;have HB:=ah hb;clear hx hb;go_enter Tryz.func126,Tryz.ntmps126;go_wp2_with fail;go_loopw [1] (fun nv wr=>∃(y:Nat) (pre:List UInt8),nv=.int .u64 (y:Nat)∧Hid (y<18446744073709551616∧pre++Lib.uvarint y=Lib.uvarint x)∧Sat W wr (sep (dP p (bs++pre)) A)) (fun nv _=>(intOf nv).toNat)
 case atStart=>exact⟨x,[],rfl,ah ⟨HX.out,rfl⟩,by simpa using h⟩
 case round=>
  clear h;obtain⟨y,pre,rfl,HY,hS⟩:=hrel;have hpl:pre.length≤10:=by
   have:=congrArg List.length HY.out.2;have:=Lib.uvarint_length64 HX.out;simp at *;omega
  obtain⟨a,n,c,hn,h1⟩:=rE hS;have hnb:n≤1073741834:=by rw[hn,dM];have:=HB.out;omega
  have HN:=ah hnb;have c1:wr.cell? ⟨p,0,none⟩=some (.slice a n c):=h1.cell 0;obtain⟨vs,hvs⟩:=aC ((bs++pre).map bv);rw[←hvs] at h1;have wF:=ah hvs;have hS':=h1.p1;clear hn hpl hnb hS hvs;by_cases hy:128≤y
  ·have hyI:(128:Int)≤(y:Int):=by omega
   obtain⟨z,hz⟩:∃z:UInt8,z=(y % 128+128).toUInt8:=⟨_,rfl⟩
   have hor:bits BinOp.or IntKind.u8 ((y:Int) % 256) 128=(z.toNat:Int):=by
    rw[Lib.u8_or128_any _ (by omega) (by omega),hz];simp;omega
   have hB:=(hS'.iy (.cells #[.int .u8 (z.toNat:Int)] 5))
   have HZ:=ah hz;clear hz h1 hS';go_wp2_with (at_builtin;(refine aK rfl (.tmp 12) (.tmp 16) 51 rfl 5 1 1 (.int .u8 0) Tryz.underlying51 fB rfl rfl hB rfl [.int .u8 (z.toNat:Int)] rfl (by simp) (by intro b hb;cases hb;exact jm _ [_] _) (by simp[Value.oneCell']) (by have:=HN.out;omega) (by have:=HN.out;unfold maxLen;omega) ?_))
   intro a2 c2 w2 h2;have h3:=h2.p1;have c2':w2.cell? ⟨p,0,none⟩=some (.slice a n c):=h3.cell 0;have f2':w2.frozen? ⟨p,0,none⟩=false:=h3.aI 0;have h4:Sat W (w2.setCell ⟨p,0,none⟩ (.slice a2 (n+1) c2)) (sep (blk p (.cells #[.slice a2 (n+1) c2] 104 (0,0))) (sep (aT 5 1 a2 (n+1) c2 (vs++[.int .u8 (z.toNat:Int)])) A)):=h3.setCell 0 _;clear hB h2 h3 c1;go_wp2_with fail;go_roundw;case rel=>
    refine⟨y / 128,pre++[z],by go_num,ah ⟨by have:=HY.out.1;omega,?_⟩,vT (a:=a2) (n:=n+1) (c:=c2) ?_⟩
    ·rw[kZ,←HY.out.2,Lib.uvarint_big hy,←HZ.out];rfl
    ·rw[←kZ,qy,←wF.out];exact h4
   case measure=>simp[intOf];omega
  ·have hyB:decide ((128:Int)≤(y:Int))=false:=by simp;omega
   have Vd:=ah hy;obtain⟨z,hz⟩:∃z:UInt8,z=y.toUInt8:=⟨_,rfl⟩
   have hzy:z.toNat=y:=by
    rw[hz];simp;omega
   have hor:((y:Int) % 256)=(z.toNat:Int):=by omega
   have hB:=(hS'.iy (.cells #[.int .u8 (z.toNat:Int)] 5))
   have HZ:=ah hz;clear hz h1 hS' hzy hy;go_wp2_with (at_builtin;(refine aK rfl (.tmp 24) (.tmp 27) 51 rfl 5 1 1 (.int .u8 0) Tryz.underlying51 fB rfl rfl hB rfl [.int .u8 (z.toNat:Int)] rfl (by simp) (by intro b hb;cases hb;exact jm _ [_] _) (by simp[Value.oneCell']) (by have:=HN.out;omega) (by have:=HN.out;unfold maxLen;omega) ?_))
   intro a2 c2 w2 h2;have h3:=h2.p1;have c2':w2.cell? ⟨p,0,none⟩=some (.slice a n c):=h3.cell 0;have f2':w2.frozen? ⟨p,0,none⟩=false:=h3.aI 0;have h4:Sat W (w2.setCell ⟨p,0,none⟩ (.slice a2 (n+1) c2)) (sep (blk p (.cells #[.slice a2 (n+1) c2] 104 (0,0))) (sep (aT 5 1 a2 (n+1) c2 (vs++[.int .u8 (z.toNat:Int)])) A)):=h3.setCell 0 _;clear hB h2 h3 c1;go_wp2_with fail;go_end0;refine⟨rfl,vT (a:=a2) (n:=n+1) (c:=c2) ?_⟩;rw[←HY.out.2,Lib.uvarint_small (by have:=Vd.out;omega),←HZ.out,←kZ,qy,←wF.out,mM,List.map_nil,bv];exact h4
end Go.Proofs.YthfmaclnccdcbaaGreatDoor
namespace PA
open Go RowKit
theorem F6 (k:IntKind) (x y:Int):bits .xor k x y=bits .xor k y x:=by
 show IntKind.wrap k ((BitVec.ofInt k.bits x ^^^ BitVec.ofInt k.bits y).toNat:Int)=IntKind.wrap k ((BitVec.ofInt k.bits y ^^^ BitVec.ofInt k.bits x).toNat:Int);rw[BitVec.xor_comm]
theorem zz_val (n:Int) (h1:-9223372036854775808≤n) (h2:n≤9223372036854775807):
 bits .xor .u64 (IntKind.u64.wrap (IntKind.u64.wrap n*2)) (IntKind.u64.wrap (n / 9223372036854775808))=(Lib.zigzag n:Nat):=by
 by_cases h:0≤n
 ·have e1:IntKind.u64.wrap (n / 9223372036854775808)=((0:Nat):Int):=by rw[IntKind.wrap_u64];omega
  have e2:IntKind.u64.wrap (IntKind.u64.wrap n*2)=((2*n).toNat:Nat):=by rw[IntKind.wrap_u64,IntKind.wrap_u64];omega
  rw[e1,e2,bits_xor_u64_nat _ _ (by omega) (by decide),Nat.xor_zero];unfold Lib.zigzag;rw[if_pos h]
 ·have e1:IntKind.u64.wrap (n / 9223372036854775808)=IntKind.u64.max:=by
   rw[IntKind.wrap_u64,show IntKind.u64.max=18446744073709551615 by decide];omega
  rw[e1,F6];exact Lib.zigzag_neg h1 (by omega)
def encI (n:Int):List UInt8:=Lib.uvarint (Lib.zigzag n)
def encR (b:List UInt8):List UInt8:=Lib.uvarint b.length++b
abbrev RSt:=Except Int (List UInt8)
end PA
namespace Go.Proofs.YthfmaclnccdcbaaGreatDoor
open Go.RowKit PA
theorem Zt:(Tryz.prog.info? 5).map (fun i=>(i.zero,i.size,i.bytes))=some (some (.int .u8 0),1,1):=by kernel_rfl
theorem clone_any {W w:World} {A:aB} (a:Option Addr) (n c:Nat) (xs:List Value) (h:Sat W w A) (hsrc:∀b,a=some b→∀j u,xs[j]?=some u→w.cell? (b.add j)=some u) (hl:xs.length=n) (hw:Ld a n c) (h1:∀u∈xs,u.oneCell'=true) (hn:n≤140737488355328):
 Calls Tryz.prog 93 #[.slice a n c] w fun e w'=>∃a' c',e=.returned (.slice a' n c')∧Sat W w' (sep (aT 5 1 a' n c' xs) A):=by
 obtain⟨hw1,hw2,hw3⟩:=hw;have hq:=fun w a n c=>Lib.run_eql_slice_nil (P:=Tryz.prog) w 51 5 a n c 0 0 Tryz.underlying51
 cases a with
 | none=>
  obtain rfl:=hw3 rfl;obtain rfl:n=0:=by omega
  obtain rfl:xs=[]:=Ju hl;clear hsrc;go_enter Tryz.func93,Tryz.ntmps93;go_wp2;go_ret;exact⟨_,_,rfl,h.fV _ _⟩
 | some b=>
  have hS:=(h.alloc (.cells #[] 5)).lJ 0 0 1 [] rfl (by omega) (by unfold maxLen;omega) rfl rfl;have hc2:=ah (RZ (hsrc b rfl) (.cells #[] 5));have HN:=ah hn;have HW2:=ah hw2;have HW1:=ah hw1;clear hsrc hn hw1 hw2 hw3;go_enter Tryz.func93,Tryz.ntmps93;go_wp2_with (at_builtin;refine aK rfl _ _ 51 rfl 5 1 1 (.int .u8 0) Tryz.underlying51 Zt rfl rfl hS rfl xs (by omega) (by simp) (by intro b' hb;cases hb;exact hc2.out) h1 (by have:=HN.out;omega) (by have:=HN.out;unfold maxLen;omega) ?_)
  intro a' c' w' hS';go_wp2;go_ret;refine⟨a',c',?_,?_⟩
  ·simp
  ·simpa using hS'
theorem _root_.PA.Sat.Si {W w:World} {A:aB} {E:Nat} {a:Option Addr} {n c:Nat} {xs:List Value} (h:Sat W w (sep (aT E 1 a n c xs) A)):∀b,a=some b→∀j u,xs[j]?=some u→w.cell? (b.add j)=some u:=by
 intro b hb j u hu;obtain⟨g,e,hc⟩:=h.Ah (fun e=>by rw[e] at hu;simp at hu);rw[hb] at e;cases e;have:=hc j u hu;unfold Addr.add;split
 ·rename_i e;subst e;exact this
 ·simpa using this
theorem OH (n:Int) (w:World) (h1:-9223372036854775808≤n) (h2:n≤9223372036854775807):Calls Tryz.prog 127 #[.int .i64 n] w fun e w'=>e=.returned (.int .u64 (Lib.zigzag n:Nat))∧w=w':=by
 go_enter Tryz.func127,Tryz.ntmps127;go_wp2;go_ret;exact⟨JM (zz_val n h1 h2),rfl⟩
theorem JV (n:Int) (w:World) (h1:-9223372036854775808≤n) (h2:n≤9223372036854775807):Calls Tryz.prog 137 #[.int .i64 n] w fun e w'=>e=.returned (.int .u64 (Lib.zigzag n:Nat))∧w=w':=by
 by_cases h0:n<0
 ·go_enter Tryz.func137,Tryz.ntmps137
  go_wp2;go_ret;exact⟨JM (by show 2*-(n+1)+1=_;unfold Lib.zigzag;rw[if_neg (by omega)];omega),rfl⟩
 ·go_enter Tryz.func137,Tryz.ntmps137
  go_wp2;go_ret;exact⟨JM (by show 2*n=_;unfold Lib.zigzag;rw[if_pos (by omega)];omega),rfl⟩
theorem iV {W w:World} {A:aB} (p:Nat) (bs:List UInt8) (n:Int) (h1:-9223372036854775808≤n) (h2:n≤9223372036854775807) (h:Sat W w (sep (dP p bs) A)) (hb:bs.length≤1073741824):
 Calls Tryz.prog 72 #[.pointer (some ⟨p,0,none⟩),.int .i64 n] w fun e w'=>e=.returned (.tuple #[])∧Sat W w' (sep (dP p (bs++PA.encI n)) A):=by
 have hz:=Lib.zigzag_lt h1 h2;have HZ:=ah hz;have HB:=ah hb;clear hz hb;go_enter Tryz.func72,Tryz.ntmps72;go_wp2_with fail;refine (OH n _ h1 h2).mono ?_;rintro e w2 ⟨rfl,rfl⟩;go_wp2_with fail;refine (yA p bs (Lib.zigzag n) HZ.out h HB.out).mono ?_;rintro e w3 ⟨rfl,hS⟩;go_wp2_with fail;go_end0;exact⟨rfl,hS⟩
set_option maxHeartbeats 1000000 in
theorem QS {W w:World} {A:aB} (p:Nat) (bs:List UInt8) (s:ByteArray) (h:Sat W w (sep (dP p bs) A)) (hb:bs.length≤1073741800) (hs:s.size≤1073741824):
 Calls Tryz.prog 129 #[.pointer (some ⟨p,0,none⟩),.string s] w fun e w'=>e=.returned (.tuple #[])∧Sat W w' (sep (dP p (bs++encR s.data.toList)) A):=by
 have hw1:IntKind.u64.wrap (s.size:Int)=(s.size:Nat):=wraps_u64 _ (by omega) (by omega);have HB:=ah hb;have HS:=ah hs;clear hb hs;go_enter Tryz.func129,Tryz.ntmps129;go_wp2_with fail;refine (yA p bs s.size (by have:=HS.out;omega) h (by have:=HB.out;omega)).mono ?_;rintro e w3 ⟨rfl,hS⟩;obtain⟨a,n,c,hn,h3⟩:=rE hS;have zB:=Lib.uvarint_length64 (x:=s.size) (by have:=HS.out;omega);have hnb:n≤1073741900:=by rw[hn,dM];have:=HB.out;omega
 obtain⟨vs,hvs⟩:=aC ((bs++Lib.uvarint s.size).map bv);rw[←hvs] at h3;have c1:w3.cell? ⟨p,0,none⟩=some (.slice a n c):=h3.cell 0;have f1:w3.frozen? ⟨p,0,none⟩=false:=h3.aI 0;have hB:=h3.p1;have HN:=ah hnb;have wF:=ah hvs;clear hn zB hnb hvs h h3 hS hw1;go_wp2_with (at_builtin;(refine yx rfl (.tmp 13) (.tmp 14) 51 9 rfl 5 Tryz.underlying51 Tryz.underlying9 fB rfl hB s rfl (by have:=HN.out;have:=HS.out;omega) ?_))
 intro a2 c2 w4 h4;have h5:=h4.p1;have c2':w4.cell? ⟨p,0,none⟩=some (.slice a n c):=h5.cell 0;have f2':w4.frozen? ⟨p,0,none⟩=false:=h5.aI 0;have h6:Sat W (w4.setCell ⟨p,0,none⟩ (.slice a2 (n+s.size) c2)) (sep (blk p (.cells #[.slice a2 (n+s.size) c2] 104 (0,0))) (sep (aT 5 1 a2 (n+s.size) c2 (vs++s.data.toList.map bv)) A)):=h5.setCell 0 _;clear hB h4 h5 c1 f1;go_wp2_with fail;go_end0;refine⟨rfl,vT (a:=a2) (n:=n+s.size) (c:=c2) ?_⟩;rw[encR,show s.data.toList.length=s.size by simp,←kZ,qy,←wF.out];exact h6
theorem pG {W w:World} {A:aB} (p:Nat) (bs:List UInt8) (h:Sat W w (sep (dP p bs) A)) (hb:bs.length≤1073742900):
 Calls Tryz.prog 77 #[.pointer (some ⟨p,0,none⟩)] w fun e w'=>∃a c,e=.returned (.slice a bs.length c)∧Sat W w' (sep (aT 5 1 a bs.length c (bs.map bv)) (sep (dP p bs) A)):=by
 obtain⟨a,n,c,hn,h1⟩:=rE h;have c1:w.cell? ⟨p,0,none⟩=some (.slice a n c):=h1.cell 0;have hsw:=h1.p1.fQ;have hsrc:=h1.p1.Si;rw[←hn] at hb ⊢;have hcl:=clone_any a n c (bs.map bv) h1 hsrc (by rw[List.length_map,hn]) hsw (Pj bs) (by omega);have FP:=ah hcl;clear h h1 hn hsw hsrc hcl hb;go_enter Tryz.func77,Tryz.ntmps77;go_wp2_with fail;refine FP.out.mono ?_;rintro e w2 ⟨a2,c2,rfl,hS⟩;clear c1;go_wp2_with fail;go_ret;refine⟨a2,c2,rfl,?_⟩;have h2:=vT (a:=a) (n:=n) (c:=c) (p:=p) (bs:=bs) (A:=sep (aT 5 1 a2 n c2 (bs.map bv)) A) (by simpa only[aA,au,aj] using hS);exact h2.p1
set_option maxHeartbeats 1000000 in
theorem oz {W w:World} {A:aB} {I:Mem} (p:Nat) (bs:List UInt8) (v:Value) (b:List UInt8) (h:Sat W w (sep (dP p bs) (sep (kn I) A))) (hv:bZ.rel I [v] b) (hb:bs.length≤1073741800) (hs:b.length≤1073741824):
 Calls Tryz.prog 74 #[.pointer (some ⟨p,0,none⟩),v] w fun e w'=>e=.returned (.tuple #[])∧Sat W w' (sep (dP p (bs++encR b)) (sep (kn I) A)):=by
 obtain⟨a,c,rfl,hsw,hc⟩:=vG.1 hv;have hsrc:=CY hc h.p1.ext;obtain⟨s,hsd⟩:∃s:ByteArray,s=⟨b.toArray⟩:=⟨_,rfl⟩
 have hsl:s.data.toList=b:=by rw[hsd]
 have hss:s.size=b.length:=by rw[hsd];simp[ByteArray.size]
 have hconv:(convert 51 9 (.slice a b.length c)).run Tryz.prog w=.ok (.string s) w:=by
  cases a with
  | none=>
   have hc0:=hsw.2.2 rfl;have hb0:b=[]:=Ju (by have:=hsw.1;omega);subst hb0;rw[hsd];simp[convert,run_underlying Tryz.underlying51,run_underlying Tryz.underlying9,run_underlying Tryz.underlying5,Conv.bytesToString];rfl
  | some ad=>
   have:=run_convert_bytes_back (P:=Tryz.prog) w 51 9 5 ad c b Tryz.underlying51 Tryz.underlying5 Tryz.underlying9 (fun j hj=>hsrc ad rfl j _ (by rw[List.getElem?_map,iM hj];rfl));rw[hsd];exact this
 have htx:=QS p bs s h hb (by rw[hss];exact hs);rw[hsl] at htx;have HT:=ah htx;obtain⟨n0,hn0⟩:=aC (b.length);rw[←hn0] at hconv ⊢;clear htx hv hsw hc hsrc hsd hsl hss hn0 hb hs h;go_enter Tryz.func74,Tryz.ntmps74;go_wp2_with fail;refine HT.out.mono ?_;rintro e w3 ⟨rfl,hS⟩;go_wp2_with fail;go_end0;exact⟨rfl,hS⟩
set_option maxHeartbeats 1000000 in
theorem yh {W w:World} {A:aB} (x:Nat) (hx:x<18446744073709551616) (h:Sat W w A):
 Calls Tryz.prog 136 #[.int .u64 (x:Nat)] w fun e w'=>∃a c,e=.returned (.slice a (Lib.uvarint x).length c)∧Sat W w' (sep (aT 5 1 a (Lib.uvarint x).length c ((Lib.uvarint x).map bv)) A):=by
 have HX:=ah hx;clear hx;go_enter Tryz.func136,Tryz.ntmps136;go_wp2_with fail;go_loopw [0,3] (fun nv ov wr=>∃(y:Nat) (pre:List UInt8) (a:Option Addr) (n c:Nat) (vs:List Value),nv=.int .u64 (y:Nat)∧ov=.slice a n c∧Hid (vs=pre.map bv∧n=pre.length∧y<18446744073709551616∧pre++Lib.uvarint y=Lib.uvarint x)∧Sat W wr (sep (aT 5 1 a n c vs) A)) (fun nv _ _=>(intOf nv).toNat)
 case atStart=>exact⟨x,[],none,0,0,[],rfl,rfl,ah ⟨rfl,rfl,HX.out,rfl⟩,h.fV _ _⟩
 case round=>
  clear h;obtain⟨y,pre,a,n,c,vs,rfl,rfl,HY,hS⟩:=hrel;have hnb:n≤10:=by
   have h1:=congrArg List.length HY.out.2.2.2;have h2:=Lib.uvarint_length64 HX.out;rw[HY.out.2.1];simp at h1;omega
  have HN:=ah hnb;clear hnb;by_cases hy:127<y
  ·have hyI:(127:Int)<(y:Int):=by omega
   obtain⟨z,hz⟩:∃z:UInt8,z=(y % 128+128).toUInt8:=⟨_,rfl⟩
   have hzv:z.toNat=y % 128+128:=by rw[hz];simp;omega
   obtain⟨q,hq⟩:∃q:Nat,q=y / 128:=⟨_,rfl⟩
   have ajm:IntKind.u64.wrap ((y:Int) / 128)=(q:Int):=by rw[wraps_u64 _ (by omega) (by have:=HY.out.2.2.1;omega)];omega
   have HQ:=ah hq;have hqy:q<y:=by omega
   have hB:=(hS.iy (.cells #[.int .u8 (128+(y:Int) % 128)] 5))
   clear hq;have HZ:=ah hz;have HZV:=ah hzv;clear hz hzv hS;go_wp2_with (at_builtin;(refine aK rfl (.tmp 6) (.tmp 11) 51 rfl 5 1 1 (.int .u8 0) Tryz.underlying51 fB rfl rfl hB rfl [.int .u8 (128+(y:Int) % 128)] rfl (by simp) (by intro b hb;cases hb;exact jm _ [_] _) (by simp[Value.oneCell']) (by have:=HN.out;omega) (by have:=HN.out;unfold maxLen;omega) ?_))
   intro a2 c2 w2 h2;clear hB;go_wp2_with fail;go_roundw;case rel=>
    refine⟨q,pre++[z],a2,n+1,c2,_,rfl,rfl,ah ⟨rfl,?_,by have:=HY.out.2.2.1;omega,?_⟩,?_⟩
    ·rw[dM,HY.out.2.1];rfl
    ·rw[kZ,←HY.out.2.2.2,Lib.uvarint_big (by omega:128≤y),←HZ.out,←HQ.out];rfl
    ·have e:(128+(y:Int) % 128)=((z.toNat:Nat):Int):=by have:=HZV.out;omega
     rw[e,HY.out.1] at h2;rw[qy,mM,List.map_nil,bv];exact h2
   case measure=>simp[intOf];omega
  ·have hyB:decide ((127:Int)<(y:Int))=false:=by simp;omega
   have Vd:=ah hy;obtain⟨z,hz⟩:∃z:UInt8,z=y.toUInt8:=⟨_,rfl⟩
   have hzy:z.toNat=y:=by
    rw[hz];simp;omega
   have hor:((y:Int) % 256)=(z.toNat:Int):=by omega
   have hB:=(hS.iy (.cells #[.int .u8 (z.toNat:Int)] 5))
   have HZ:=ah hz;clear hz hzy hy hS;go_wp2_with (at_builtin;(refine aK rfl (.tmp 15) (.tmp 18) 51 rfl 5 1 1 (.int .u8 0) Tryz.underlying51 fB rfl rfl hB rfl [.int .u8 (z.toNat:Int)] rfl (by simp) (by intro b hb;cases hb;exact jm _ [_] _) (by simp[Value.oneCell']) (by have:=HN.out;omega) (by have:=HN.out;unfold maxLen;omega) ?_))
   intro a2 c2 w2 h2;clear hB;have e:Lib.uvarint x=pre++[z]:=by rw[←HY.out.2.2.2,Lib.uvarint_small (by have:=Vd.out;omega),←HZ.out]
   have hl:n+1=(Lib.uvarint x).length:=by rw[e,dM,HY.out.2.1];rfl
   have h3:Sat W w2 (sep (aT 5 1 a2 (Lib.uvarint x).length c2 ((Lib.uvarint x).map bv)) A):=by
    rw[←hl,e,qy,mM,List.map_nil,bv,←HY.out.1];exact h2
   have HL:=ah hl;clear e hl h2;go_wp2_with fail;go_ret;exact⟨a2,c2,by rw[←HL.out];rfl,h3⟩
theorem iT {W w:World} {A:aB} (n:Int) (h1:-9223372036854775808≤n) (h2:n≤9223372036854775807) (h:Sat W w A):
 Calls Tryz.prog 80 #[.int .i64 n] w fun e w'=>∃a c,e=.returned (.slice a (PA.encI n).length c)∧Sat W w' (sep (aT 5 1 a (PA.encI n).length c ((PA.encI n).map bv)) A):=by
 have HZ:=ah (Lib.zigzag_lt h1 h2);go_enter Tryz.func80,Tryz.ntmps80;go_wp2_with fail;refine (JV n _ h1 h2).mono ?_;rintro e w2 ⟨rfl,rfl⟩;go_wp2_with fail;refine (yh (Lib.zigzag n) HZ.out h).mono ?_;rintro e w3 ⟨a,c,rfl,hS⟩;go_wp2_with fail;go_ret;exact⟨a,c,rfl,hS⟩
theorem og {W w:World} {A:aB} {I:Mem} (v:Value) (b:List UInt8) (h:Sat W w (sep (kn I) A)) (hv:bZ.rel I [v] b) (hb:b.length≤1073741824):
 Calls Tryz.prog 82 #[v] w fun e w'=>∃a c,e=.returned (.slice a (encR b).length c)∧Sat W w' (sep (aT 5 1 a (encR b).length c ((encR b).map bv)) (sep (kn I) A)):=by
 obtain⟨a,c,rfl,hsw,hc⟩:=vG.1 hv;obtain⟨n0,hn0⟩:=aC (b.length);rw[←hn0] at hb ⊢;have hw1:IntKind.u64.wrap (n0:Int)=(n0:Nat):=wraps_u64 _ (by omega) (by omega);have HC:=ah hc;have HN:=ah hn0;have HB:=ah hb;have HSW:=ah hsw;clear hc hn0 hb hsw hv;go_enter Tryz.func82,Tryz.ntmps82;go_wp2_with fail;refine (yh n0 (by have:=HB.out;omega) h).mono ?_;rintro e w2 ⟨a1,c1,rfl,hS⟩;have hsrc:=CY HC.out hS.p1.ext;obtain⟨m,hm⟩:=aC ((Lib.uvarint n0).length);obtain⟨vs,hvs⟩:=aC ((Lib.uvarint n0).map bv);have hmb:m≤10:=by rw[hm];exact Lib.uvarint_length64 (by have:=HB.out;omega)
 rw[←hm,←hvs] at hS;rw[←hm];have HM:=ah hm;have HMB:=ah hmb;have HV:=ah hvs;have oD:=ah hsrc;clear hm hvs hmb hsrc h hw1;go_wp2_with (at_builtin;(refine aK rfl (.tmp 6) (.tmp 7) 51 rfl 5 1 1 (.int .u8 0) Tryz.underlying51 fB rfl rfl hS rfl (b.map bv) (by rw[List.length_map,HN.out,Nat.mul_one]) (fun e=>by have:=HSW.out.2.2 e;have:=HSW.out.1;have:=HN.out;omega) oD.out (Pj b) (by have:=HB.out;have:=HMB.out;omega) (by have:=HB.out;have:=HMB.out;unfold maxLen;omega) ?_))
 intro a2 c2 w4 h4;have hl:m+n0=(encR b).length:=by rw[encR,dM,←HN.out,←HM.out]
 have h5:Sat W w4 (sep (aT 5 1 a2 (encR b).length c2 ((encR b).map bv)) (sep (kn I) A)):=by
  rw[←hl,encR,qy,←HN.out,←HV.out];exact h4
 have HL:=ah hl;clear hl h4 hS;go_wp2_with fail;go_ret;exact⟨a2,c2,by rw[←HL.out];rfl,h5⟩
end Go.Proofs.YthfmaclnccdcbaaGreatDoor
namespace PA
open Go Go.RowKit
structure pX (w:World) (a:Option Addr) (n:Nat) (vs:List Value):Prop where
 len:vs.length=n*1
 nil:a=none→n=0
 src:∀b,a=some b→∀j u,vs[j]?=some u→w.cell? (b.add j)=some u
 one:∀u∈vs,u.oneCell'=true
theorem jC {W w:World} {A:aB} {E:Nat} {a:Option Addr} {n c:Nat} {bs:List UInt8} (h:Sat W w (sep (aT E 1 a n c (bs.map PA.bv)) A)):pX w a n (bs.map PA.bv):=
 ⟨h.vY.1,fun e=>by have:=h.fQ.2.2 e;have:=h.fQ.1;omega,h.Si,PA.Pj bs⟩
def gu (l:List Int):List UInt8:=Lib.uvarint l.length++(l.map PA.encI).flatten
def qU (l:List Int) (k:Nat):List UInt8:=Lib.uvarint l.length++((l.take k).map PA.encI).flatten
theorem vM {l:List Int} {k:Nat} {r:Int} (h:l[k]?=some r):qU l (k+1)=qU l k++PA.encI r:=by
 unfold qU;rw[List.take_add_one,h];simp
theorem qV (l:List Int):qU l l.length=gu l:=by unfold qU gu;rw[List.take_length]
theorem eP {r:Int} (h1:-9223372036854775808≤r) (h2:r≤9223372036854775807):(PA.encI r).length≤10:=by
 unfold PA.encI;exact Lib.uvarint_length64 (Lib.zigzag_lt h1 h2)
theorem vK {l:List Int} (hn:l.length≤1048576) (hi:∀r∈l,-9223372036854775808≤r∧r≤9223372036854775807) (k:Nat):(qU l k).length≤10+10*k:=by
 induction k with
 | zero=>unfold qU;simp;exact Lib.uvarint_length64 (by omega)
 | succ k ih=>
  cases h:l[k]? with
  | none=>
   have e:qU l (k+1)=qU l k:=by unfold qU;rw[List.take_add_one,h];simp
   rw[e];omega
  | some r=>
   rw[vM h,dM];have:=eP (hi r (List.mem_iff_getElem?.2 ⟨k,h⟩)).1 (hi r (List.mem_iff_getElem?.2 ⟨k,h⟩)).2;omega
end PA
namespace Go.Proofs.YthfmaclnccdcbaaGreatDoor
open Go.RowKit PA
set_option maxHeartbeats 2000000 in
theorem E5 {W w:World} {A:aB} (a:Option Addr) (n c:Nat) (l:List Int) (hn:n=l.length) (hn2:l.length≤1048576) (hi:∀r∈l,-9223372036854775808≤r∧r≤9223372036854775807)
 (hc:∀w' B,Sat W w' (sep B A)→∀(k:Nat) r,l[k]?=some r→∃b o,a=some ⟨b,o,none⟩∧w'.cell? ⟨b,o+k,none⟩=some (.int .i64 r)) (h:Sat W w A):
 Calls Tryz.prog 180 #[.slice a n c] w fun e w'=>∃a' c',e=.returned (.slice a' (gu l).length c')∧Sat W w' (sep (aT 5 1 a' (gu l).length c' ((gu l).map bv)) A):=by
 have HN:=ah (aH hn hn2);have HI:=ah hi;have HC:=ah hc;have hw1:IntKind.u64.wrap (n:Int)=(n:Nat):=wraps_u64 _ (by omega) (by omega);have H:=ah h;obtain⟨E,hE⟩:=aC (gu l);rw[←hE];have HE:=ah hE;obtain⟨Po,dS⟩:∃P:Ending→World→Prop,P=fun e w'=>∃a' c',e=.returned (.slice a' E.length c')∧Sat W w' (sep (aT 5 1 a' E.length c' (E.map bv)) A):=⟨_,rfl⟩
 rw[←dS];have bK:=ah dS;have n63:(n:Int)≤9223372036854775807:=by omega
 clear hn hn2 hi hc h hE dS;go_enter Tryz.func180,Tryz.ntmps180;go_wp2_with fail;refine (yh n (by have:=HN.out;omega) H.out).mono ?_;rintro e w2 ⟨a1,c1,rfl,h2⟩;obtain⟨m,hm⟩:=aC ((Lib.uvarint n).length);obtain⟨vs,hvs⟩:=aC ((Lib.uvarint n).map bv);rw[←hm,←hvs] at h2;rw[←hm];have HM:=ah (aH hm hvs);have H2:=ah h2;clear hm hvs h2 H;go_wp2_with fail;go_loopw [3,4] (fun ov kv wr=>∃(k:Nat) (a':Option Addr) (n' c':Nat) (vs:List Value),ov=.slice a' n' c'∧kv=.int .i64 k∧k≤n∧Hid (n'=(qU l k).length∧vs=(qU l k).map bv)∧Sat W wr (sep (aT 5 1 a' n' c' vs) A)) (fun _ kv _=>n-(intOf kv).toNat)
 case atStart=>
  have e0:qU l 0=Lib.uvarint n:=by unfold qU;rw[HN.out.1];simp
  exact⟨0,a1,m,c1,vs,rfl,rfl,by omega,ah ⟨by rw[HM.out.1,e0],by rw[HM.out.2,e0]⟩,H2.out⟩
 case round=>
  obtain⟨k,a',n',c',vs',rfl,rfl,hk,HV,hS⟩:=hrel;clear H2;by_cases hlt:k<n
  ·have hltz:(k:Int)<(n:Int):=by omega
   obtain⟨r,hr⟩:∃r,l[k]?=some r:=⟨_,iM (by have:=HN.out;omega)⟩
   obtain⟨b,o,rfl,j0⟩:=HC.out _ _ hS k r hr;have HR:=ah (aH hr hlt);have HS:=ah hS;clear hr hlt hS hk;go_wp2_with fail;refine (iT r (HI.out r (List.mem_iff_getElem?.2 ⟨k,HR.out.1⟩)).1 (HI.out r (List.mem_iff_getElem?.2 ⟨k,HR.out.1⟩)).2 HS.out).mono ?_;rintro e w3 ⟨a2,c2,rfl,h3⟩;have mQ:=ah (jC h3);have h4:=h3.drop;have hb1:n'≤10+10*k:=by rw[HV.out.1];exact vK HN.out.2 HI.out k
   have hb2:(PA.encI r).length≤10:=eP (HI.out r (List.mem_iff_getElem?.2 ⟨k,HR.out.1⟩)).1 (HI.out r (List.mem_iff_getElem?.2 ⟨k,HR.out.1⟩)).2;have hkb:k≤1048576:=by have:=HN.out;have:=HR.out.2;omega
   obtain⟨m2,hm2⟩:=aC ((PA.encI r).length);obtain⟨us,hus⟩:=aC ((PA.encI r).map bv);rw[←hm2,←hus] at mQ;rw[←hm2] at hb2 ⊢;have HB:=ah (aH hb1 (aH hb2 hkb));have HU:=ah (aH hm2 hus);clear h3 hb1 hb2 hkb hm2 hus j0 HS;go_wp2_with (at_builtin;(refine aK rfl (.tmp 15) (.tmp 20) 51 rfl 5 1 1 (.int .u8 0) Tryz.underlying51 fB rfl rfl h4 rfl us mQ.out.len mQ.out.nil mQ.out.src mQ.out.one (by have:=HB.out;omega) (by have:=HB.out;unfold maxLen;omega) ?_))
   intro a4 c4 w5 h5;have H5:=ah h5;clear h4 h5 mQ;go_wp2_with fail;go_roundw;case rel=>
    refine⟨k+1,a4,n'+m2,c4,_,rfl,by go_num,by have:=HR.out.2;omega,ah ⟨?_,?_⟩,H5.out⟩
    ·rw[vM HR.out.1,dM,HV.out.1,HU.out.1]
    ·rw[vM HR.out.1,qy,HV.out.2,HU.out.2]
   case measure=>simp[intOf];have:=HR.out.2;omega
  ·obtain rfl:k=n:=by omega
   have hE2:E=qU l k:=by rw[HE.out,HN.out.1,qV]
   have HF:Hid (n'=E.length∧vs'=E.map bv):=ah (by rw[hE2];exact HV.out);have HS:=ah hS;clear hS hE2 HV;go_wp2;rw[bK.out];exact⟨a',c',by rw[←HF.out.1];try rfl,by rw[←HF.out.1,←HF.out.2];exact HS.out⟩
end Go.Proofs.YthfmaclnccdcbaaGreatDoor
namespace PA
section
open Go
structure Iv where
 ln:Int
 ld:Int
 hn:Int
 hd:Int
 lo:Bool
 ho:Bool
 li:Bool
 hi:Bool
 deriving DecidableEq
inductive Fm where
 | mk (op n:Int) (ins:List Iv) (kids:List Fm)
namespace Fm
def op:Fm→Int|mk o _ _ _=>o
def num:Fm→Int|mk _ n _ _=>n
def ins:Fm→List Iv|mk _ _ i _=>i
def kids:Fm→List Fm|mk _ _ _ k=>k
theorem ind {P:Fm→Prop} (h:∀o n i k,(∀f∈k,P f)→P (mk o n i k)):∀f,P f
 | mk o n i k=>h o n i k fun f _=>ind h f
mutual
def size:Fm→Nat
 | mk _ _ _ k=>sizes k+1
def sizes:List Fm→Nat
 | []=>0
 | f::l=>size f+sizes l
end
mutual
def deep:Fm→Nat
 | mk _ _ _ k=>dK k+1
def dK:List Fm→Nat
 | []=>0
 | f::l=>max (deep f) (dK l)
end
mutual
def nodes:Fm→List Fm
 | mk o n i k=>mk o n i k::bV k
def bV:List Fm→List Fm
 | []=>[]
 | f::l=>nodes f++bV l
end
def formed (sp:List Iv→Bool):Fm→Bool
 | mk o n i k=>
  if (o≠2∧i≠[])∨(o≠2∧o≠1∧n≠0) then false
  else if o=0 then k.isEmpty
  else if o=1 then k.isEmpty&&decide (0≤n)&&decide (n<64)
  else if o=2 then k.isEmpty&&decide (0≤n)&&decide (n<32)&&sp i
  else if o=3∨o=6 then decide (k.length=1)
  else decide (o=4)||decide (o=5)
mutual
def whole (sp:List Iv→Bool):Fm→Bool
 | mk o n i k=>formed sp (mk o n i k)&&dN sp k
def dN (sp:List Iv→Bool):List Fm→Bool
 | []=>true
 | f::l=>whole sp f&&dN sp l
end
mutual
theorem vg (sp:List Iv→Bool):∀f,whole sp f=(nodes f).all (formed sp)
 | mk o n i k=>by rw[whole,nodes,List.all_cons,zx sp k]
theorem zx (sp:List Iv→Bool):∀l,dN sp l=(bV l).all (formed sp)
 | []=>rfl
 | f::l=>by rw[dN,bV,List.all_append,vg sp f,zx sp l]
end
mutual
theorem QD:∀f,(nodes f).length=size f
 | mk o n i k=>by rw[nodes,List.length_cons,BA k,size]
theorem BA:∀l,(bV l).length=sizes l
 | []=>rfl
 | f::l=>by rw[bV,List.length_append,QD f,BA l,sizes]
end
def Rj (b:Bool):Int:=if b=true then 1 else 0
def gu (l:List Int):List UInt8:=Lib.uvarint l.length++l.flatMap encI
def dL (x:Iv):List Int:=[x.ln,x.ld,x.hn,x.hd,Rj x.lo,Rj x.ho,Rj x.li,Rj x.hi]
def ad3:Fm→List UInt8
 | mk o n i k=>encI o++(encI n++(encI (i.length:Int)++(i.flatMap (fun x=>gu (dL x))++encI (k.length:Int))))
def enc (f:Fm):List UInt8:=(nodes f).flatMap ad3
def valid (sp:List Iv→Bool) (f:Fm):Int:=if 96<size f∨8<deep f then 4 else if whole sp f=true then 0 else 1
end Fm
end
section
open Go Go.RowKit
def Yr:Rep Iv:=⟨fun _ cs x=>cs=[.int .i64 x.ln,.int .i64 x.ld,.int .i64 x.hn,.int .i64 x.hd,.bool x.lo,.bool x.ho,.bool x.li,.bool x.hi],fun _ h=>h⟩
mutual
def ZK (I:Mem):Fm→List Value→Prop
 | .mk o n i k,cs=>∃(a:Option Addr) (c:Nat) (b:Option Addr) (d:Nat),cs=[.int .i64 o,.int .i64 n,.slice a i.length c,.slice b k.length d]∧(Yr.slice 8).rel I [.slice a i.length c] i∧Ld b k.length d∧∃css,dF b css.flatten I∧NV I k css
def NV (I:Mem):List Fm→List (List Value)→Prop
 | [],css=>css=[]
 | f::l,css=>∃c t,css=c::t∧(ZK I f c∧c.length=4)∧NV I l t
end
mutual
theorem Ip {I J:Mem} (hl:Mem.le I J):∀(f:Fm) (cs:List Value),ZK I f cs→ZK J f cs
 | .mk _ _ _ k,_,⟨a,c,b,d,e,hi,hw,css,hc,hk⟩=>⟨a,c,b,d,e,(Yr.slice 8).mono hl hi,hw,css,Jb hl hc,EY hl k css hk⟩
theorem EY {I J:Mem} (hl:Mem.le I J):∀(l:List Fm) (css:List (List Value)),NV I l css→NV J l css
 | [],_,h=>h
 | f::l,_,⟨c,t,e,h1,h2⟩=>⟨c,t,e,⟨Ip hl f c h1.1,h1.2⟩,EY hl l t h2⟩
end
def rF:Rep Fm:=⟨fun I cs f=>ZK I f cs,fun hl h=>Ip hl _ _ h⟩
theorem wo {I:Mem}:∀{l:List Fm} {css:List (List Value)},NV I l css↔gU (fun c x=>rF.rel I c x∧c.length=4) css l
 | [],[]=>⟨fun _=>trivial,fun _=>rfl⟩
 | [],_::_=>⟨fun h=>(by cases h),fun h=>False.elim h⟩
 | f::l,[]=>⟨fun ⟨_,_,h,_⟩=>(by cases h),fun h=>False.elim h⟩
 | f::l,c::t=>by
  constructor
  ·rintro⟨c',t',e,h1,h2⟩
   cases e;exact⟨h1,wo.1 h2⟩
  ·rintro⟨h1,h2⟩
   exact⟨c,t,rfl,h1,wo.2 h2⟩
theorem dW {I:Mem} {cs:List Value} {o n:Int} {i:List Iv} {k:List Fm}:rF.rel I cs (.mk o n i k)↔∃(a:Option Addr) (c:Nat) (b:Option Addr) (d:Nat),cs=[.int .i64 o,.int .i64 n,.slice a i.length c,.slice b k.length d]∧(Yr.slice 8).rel I [.slice a i.length c] i∧(rF.slice 4).rel I [.slice b k.length d] k:=by
 constructor
 ·rintro⟨a,c,b,d,e,hi,hw,css,hc,hk⟩
  exact⟨a,c,b,d,e,hi,b,d,css.flatten,rfl,hw,hc,css,rfl,wo.1 hk⟩
 ·rintro⟨a,c,b,d,e,hi,b',d',cells,e2,hw,hc,css,rfl,hk⟩
  cases e2;exact⟨a,c,b,d,e,hi,hw,css,hc,wo.2 hk⟩
end
section
open Go Go.RowKit
structure Cl where
 refs:List Int
 body:Fm
structure Ea where
 file:Int
 day:Int
structure Pa where
 k:Int
 d:Int
 n:Int
 f:Int
 o:Int
 p:Int
 q:Int
 u:Int
 m:Int
 sn:Int
 sd:Int
 td:List Fm
 tc:List Cl
 cl:List Cl
 ea:List Ea
 fx:Fm
def Fm.zero:Fm:=.mk 0 0 [] []
def Pa.zero:Pa:=⟨0,0,0,0,0,0,0,0,0,0,0,[],[],[],[],Fm.zero⟩
def Qu:Rep Ea:=⟨fun _ cs x=>cs=[.int .i64 x.file,.int .i64 x.day],fun _ h=>h⟩
def lM:Rep Cl:=⟨fun I cs x=>∃(a:Option Addr) (c:Nat) (b:List Value),cs=.slice a x.refs.length c::b∧(sO.slice 1).rel I [.slice a x.refs.length c] x.refs∧rF.rel I b x.body,
 fun hl ⟨a,c,b,e,h1,h2⟩=>⟨a,c,b,e,(sO.slice 1).mono hl h1,rF.mono hl h2⟩⟩
structure lT (I:Mem) (z:Ac) (x:Pa):Prop where
 k:z.k=x.k
 d:z.d=x.d
 n:z.n=x.n
 f:z.f=x.f
 o:z.o=x.o
 p:z.p=x.p
 q:z.q=x.q
 u:z.u=x.u
 m:z.m=x.m
 sn:z.sn=x.sn
 sd:z.sd=x.sd
 td:(rF.slice 4).rel I [z.td.v] x.td
 tc:(lM.slice 5).rel I [z.tc.v] x.tc
 cl:(lM.slice 5).rel I [z.cl.v] x.cl
 ea:(Qu.slice 2).rel I [z.ea.v] x.ea
 fx:rF.rel I [.int .i64 z.fo,.int .i64 z.fn,z.fi.v,z.fk.v] x.fx
theorem lT.mono {I J:Mem} {z:Ac} {x:Pa} (hl:Mem.le I J) (h:lT I z x):lT J z x:=
 ⟨h.k,h.d,h.n,h.f,h.o,h.p,h.q,h.u,h.m,h.sn,h.sd,(rF.slice 4).mono hl h.td,(lM.slice 5).mono hl h.tc,(lM.slice 5).mono hl h.cl,(Qu.slice 2).mono hl h.ea,rF.mono hl h.fx⟩
theorem aF {α:Type} (R:Rep α) (k:Nat) (I:Mem):(R.slice k).rel I [.slice none 0 0] []:=
 ⟨none,0,[],rfl,⟨Nat.le_refl _,Nat.zero_le _,fun _=>rfl⟩,.inl rfl,[],rfl,trivial⟩
theorem dX (I:Mem):rF.rel I [.int .i64 0,.int .i64 0,.slice none 0 0,.slice none 0 0] Fm.zero:=
 dW.2 ⟨none,0,none,0,rfl,aF _ _ _,aF _ _ _⟩
theorem lT.zero (I:Mem):lT I Ac.zero Pa.zero:=
 ⟨rfl,rfl,rfl,rfl,rfl,rfl,rfl,rfl,rfl,rfl,rfl,aF _ _ _,aF _ _ _,aF _ _ _,aF _ _ _,dX I⟩
def Di (x:Iv):Prop:=0≤x.ln∧x.ln≤4∧x.ld=1∧x.li=false∧((x.hi=true∧x.hn=0∧x.hd=0∧x.ho=false)∨(x.hi=false∧x.hd=1∧x.ln<x.hn∧x.hn≤8))
def pW (f:Fm):Prop:=∃n:Int,0≤n∧n<6∧f=.mk 1 n [] []
def AB (f:Fm):Prop:=∃(n:Int) (x:Iv),0≤n∧n<2∧Di x∧f=.mk 2 n [x] []
inductive dA:Fm→Prop
 | c {f}:pW f→dA f
 | v {f}:AB f→dA f
 | GZ {f g}:pW f→AB g→dA (.mk 4 0 [] [f,g])
 | Un {f g}:pW f→AB g→dA (.mk 5 0 [] [f,g])
 | Xj {f g}:pW f→pW g→dA (.mk 5 0 [] [f,g])
 | VH {f g}:pW f→pW g→dA (.mk 4 0 [] [f,.mk 6 0 [] [g]])
 | part {f}:pW f→dA (.mk 3 0 [] [f])
 | VI {f g}:pW f→AB g→dA (.mk 4 0 [] [f,.mk 3 0 [] [g]])
def lW (i:Nat) (r:List Int):Prop:=r=[]∨(∃j:Nat,j<i∧r=[(j:Int)])∨(i=2∧r=[0,1])
def kR (l:List Cl):Prop:=1≤l.length∧l.length≤3∧∀(i:Nat) (h:i<l.length),dA l[i].body∧lW i l[i].refs
def AA (td:List Fm) (tc:List Cl):Prop:=1≤td.length∧td.length≤2∧(∀f∈td,dA f)∧kR tc
def fH (N:Nat) (z:Int):Prop:=∃j:Nat,j<N∧z=5*(j:Int)
def IJ (N:Nat) (l:List Ea):Prop:=l.length≤2∧(∀e∈l,fH N e.file∧35600≤e.day∧e.day≤38001)∧l.Pairwise fun a b=>a.file≠b.file
def Df (N:Nat) (y:Pa):Prop:=
 ∃(o p q:Int) (td:List Fm) (tc:List Cl) (ea:List Ea),y={ Pa.zero with f:=5*(N:Int),o:=o,p:=p,q:=q,td:=td,tc:=tc,ea:=ea } ∧
  (o=0∨o=1)∧(p=1∨p=2)∧(q=-1∨fH N q)∧AA td tc∧IJ N ea
def OV (n d:Int):Prop:=(n=1∧d=1)∨(n=1∧d=2)∨(n=1∧d=3)∨(n=2∧d=3)
inductive Other (N:Nat):Pa→Prop
 | plain {k f:Int}:(k=1∨k=2∨k=10∨k=11)→fH N f→Other N { Pa.zero with k:=k,f:=f }
 | list {k f:Int} {cl:List Cl}:(k=3∨k=15)→fH N f→kR cl→Other N { Pa.zero with k:=k,f:=f,cl:=cl }
 | pay {f p q u m:Int}:fH N f→(p=1∨p=2)→(q=0∨q=1)→((0≤u∧u≤5)∨(9≤u∧u≤11))→1≤m→m≤1000→Other N { Pa.zero with k:=4,f:=f,p:=p,q:=q,u:=u,m:=m }
 | small {p u:Int}:(p=1∨p=2)→(u=0∨u=1)→Other N { Pa.zero with k:=5,p:=p,u:=u }
 | order {k f u:Int}:(k=6∨k=7∨k=18∨k=9)→fH N f→0≤u→u<60→(k≠9→u≤2)→Other N { Pa.zero with k:=k,f:=f,u:=u }
 | extend {f u m:Int}:fH N f→0≤u→u≤2→1≤m→m≤4→Other N { Pa.zero with k:=8,f:=f,u:=u,m:=m }
 | JB {k f p:Int}:(k=12∨k=14)→fH N f→1≤p→p≤4→Other N { Pa.zero with k:=k,f:=f,p:=p }
 | decide {f q u:Int} {cl:List Cl}:fH N f→(q=0∨q=1)→((u=0∨u=1)∧cl=[]∨u=2∧kR cl)→Other N { Pa.zero with k:=13,f:=f,q:=q,u:=u,cl:=cl }
 | transfer {f p q sn sd:Int}:fH N f→1≤p→p≤3→p<q→q≤p+2→OV sn sd→Other N { Pa.zero with k:=16,f:=f,p:=p,q:=q,sn:=sn,sd:=sd }
 | Js {f p q u:Int}:fH N f→1≤p→p≤3→p<q→q≤p+2→0≤u→u<2000→Other N { Pa.zero with k:=17,f:=f,p:=p,q:=q,u:=u }
 | art {g:Fm}:dA g→Other N { Pa.zero with k:=19,fx:=g }
 | closure {o u:Int}:(o=0∨o=1)→0≤u→u<20→Other N { Pa.zero with k:=20,o:=o,u:=u }
 | rule {o u m:Int}:(o=0∨o=1)→0≤u→u≤18→1≤m→m≤50→Other N { Pa.zero with k:=21,o:=o,u:=u,m:=m }
def bH (y:Pa) (d n:Int):Pa:={ y with d:=d,n:=n,u:=if y.k=9∨y.k=17∨y.k=20 then d+y.u else y.u }
def KR (N:Nat) (x:Pa):Prop:=∃y d n,(Df N y∨Other N y)∧35600≤d∧d≤38000∧x=bH y d n
def BI (l:List Pa):Nat:=(l.filter fun x=>x.k==0).length
def Made (l:List Pa):Prop:=∀(i:Nat) (h:i<l.length),KR (BI (l.take i)) l[i]∧l[i].n=4*(i:Int)∧(i=0→l[i].k=0)
end
end PA
