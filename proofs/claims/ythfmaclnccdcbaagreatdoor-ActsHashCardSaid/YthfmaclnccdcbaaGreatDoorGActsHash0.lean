/- Part of a proof. -/
import Derived.WalkKit
import Derived.WalkSpells
import Derived.WalkLawsBesides
import Derived.ProofKit
import Derived.Lib.Hide
import Derived.Lib.Varint
import Derived.Lib.Zigzag
import Derived.Lib.EndianBits
import Derived.Laws.Bits64
namespace PA
open Go Go.RowKit
theorem ah {p:Prop} (h:p):Hid p:=Lib.hid h
theorem ay {α:Type} (a:α):∃z,z=a:=⟨a,rfl⟩
theorem lsA {α:Type} (l:List α) (i:Nat) (a:α):l.toArray.setIfInBounds i a=(l.set i a).toArray:=List.setIfInBounds_toArray ..
theorem lsB {α:Type} {a b:α} {l:List α}:(a::l).set 0 b=b::l:=rfl
theorem lC {α:Type} {a b:α} {n:Nat} {l:List α}:(a::l).set (n+1) b=a::l.set n b:=rfl
theorem dD {α:Type} {l m:List α}:(l++m).length=l.length+m.length:=List.length_append
theorem lD {α β:Type} {f:α → β} {l m:List α}:(l++m).map f=l.map f++m.map f:=List.map_append
theorem CJ {α:Type} {l:List α} {i:Nat}:l.toArray[i]?=l[i]?:=List.getElem?_toArray ..
theorem CO {α:Type} {a:α} {l:List α}:(a::l)[0]?=some a:=rfl
theorem CP {α:Type} {a:α} {l:List α} {n:Nat}:(a::l)[n+1]?=l[n]?:=rfl
theorem bP {α:Type} {x:Option α} (h:x.isSome=true):∃a,x=some a:=Option.isSome_iff_exists.1 h
abbrev Mem:=Nat→Option Obj
def Mem.le (I J:Mem):Prop:=∀b o,I b=some o→J b=some o
def Mem.dj (x y:Mem):Prop:=∀b,x b=none∨y b=none
def Mem.un (x y:Mem):Mem:=fun b=>match x b with|some o=>some o|none=>y b
def Mem.no:Mem:=fun _=>none
theorem Mem.le_refl (I:Mem):Mem.le I I:=fun _ _ h=>h
theorem Mem.L8 (x y z:Mem):Mem.un (Mem.un x y) z=Mem.un x (Mem.un y z):=by
 funext b;simp only[Mem.un];cases x b<;>rfl
theorem Mem.XF (x y:Mem) (h:Mem.dj x y):Mem.un x y=Mem.un y x:=by
 funext b;simp only[Mem.un];rcases h b with h|h<;>rw[h]
 ·cases y b<;>rfl
 ·cases x b<;>rfl
theorem Mem.qF (x:Mem):Mem.un Mem.no x=x:=by funext b;simp[Mem.un,Mem.no]
theorem Mem.Qk {x y:Mem} {b:Nat} {o:Obj} (h:Mem.un x y b=some o):x b=some o∨y b=some o:=by
 simp only[Mem.un] at h;cases hx:x b with
 | some u=>rw[hx] at h;exact .inl h
 | none=>rw[hx] at h;exact .inr h
theorem Mem.un_l {x y:Mem} {b:Nat} {o:Obj} (h:x b=some o):Mem.un x y b=some o:=by simp[Mem.un,h]
theorem Mem.un_r {x y:Mem} {b:Nat} {o:Obj} (hd:Mem.dj x y) (h:y b=some o):Mem.un x y b=some o:=by
 rcases hd b with h'|h'
 ·simp[Mem.un,h',h]
 ·rw[h'] at h;cases h
structure aA where
 sat:Mem→Mem→Prop
 mono:∀{I J m:Mem},Mem.le I J→sat I m→sat J m
theorem aA.ext' {A B:aA} (h:∀I m,A.sat I m↔B.sat I m):A=B:=by
 cases A;cases B;congr;funext I m;exact propext (h I m)
def emp:aA:=⟨fun _ m=>m=Mem.no,fun _ h=>h⟩
def sep (A B:aA):aA:=⟨fun I m=>∃x y,Mem.dj x y∧m=Mem.un x y∧A.sat I x∧B.sat I y,
 fun hl ⟨x,y,h1,h2,h3,h4⟩=>⟨x,y,h1,h2,A.mono hl h3,B.mono hl h4⟩⟩
def fact (p:Prop):aA:=⟨fun _ m=>m=Mem.no∧p,fun _ h=>h⟩
def ex {α:Sort _} (A:α→aA):aA:=⟨fun I m=>∃x,(A x).sat I m,fun hl ⟨x,h⟩=>⟨x,(A x).mono hl h⟩⟩
def yY (p:Mem→Prop) (hp:∀I J,Mem.le I J→p I→p J):aA:=⟨fun I m=>m=Mem.no∧p I,fun hl ⟨h1,h2⟩=>⟨h1,hp _ _ hl h2⟩⟩
def blk (b:Nat) (o:Obj):aA:=⟨fun _ m=>m=fun x=>if x=b then some o else none,fun _ h=>h⟩
def imm (b:Nat) (o:Obj):aA:=yY (fun I=>I b=some o) fun _ _ hl h=>hl _ _ h
theorem aF (A B:aA):sep A B=sep B A:=aA.ext' fun I m=>by
 constructor<;>rintro⟨x,y,h1,h2,h3,h4⟩<;>exact⟨y,x,fun b=>(h1 b).symm,by rw[h2,Mem.XF _ _ h1],h4,h3⟩
theorem aj (A B C:aA):sep (sep A B) C=sep A (sep B C):=aA.ext' fun I m=>by
 constructor
 ·rintro⟨x,z,h1,rfl,⟨x,y,h3,rfl,h4,h5⟩,h6⟩
  refine⟨x,Mem.un y z,fun b=>?_,Mem.L8 _ _ _,h4,y,z,fun b=>?_,rfl,h5,h6⟩
  ·rcases h1 b with h|h
   ·simp only[Mem.un] at h;cases hx:x b with
    | some u=>rw[hx] at h;cases h
    | none=>exact .inl rfl
   ·rcases h3 b with h'|h'
    ·exact .inl h'
    ·exact .inr (by simp[Mem.un,h',h])
  ·rcases h1 b with h|h
   ·simp only[Mem.un] at h;cases hx:x b with
    | some u=>rw[hx] at h;cases h
    | none=>rw[hx] at h;exact .inl h
   ·exact .inr h
 ·rintro⟨x,m,h1,rfl,h4,y,z,h3,rfl,h5,h6⟩
  refine⟨Mem.un x y,z,fun b=>?_,(Mem.L8 _ _ _).symm,⟨x,y,fun b=>?_,rfl,h4,h5⟩,h6⟩
  ·rcases h1 b with h|h
   ·rcases h3 b with h'|h'
    ·exact .inl (by simp[Mem.un,h,h'])
    ·exact .inr h'
   ·simp only[Mem.un] at h;cases hy:y b with
    | some u=>rw[hy] at h;cases h
    | none=>rw[hy] at h;exact .inr h
  ·rcases h1 b with h|h
   ·exact .inl h
   ·simp only[Mem.un] at h;cases hy:y b with
    | some u=>rw[hy] at h;cases h
    | none=>exact .inr rfl
theorem aC (A B C:aA):sep A (sep B C)=sep B (sep A C):=by rw[←aj,aF A B,aj]
theorem iM (A:aA):sep emp A=A:=aA.ext' fun I m=>by
 constructor
 ·rintro⟨x,y,h1,rfl,rfl,h4⟩;rw[Mem.qF];exact h4
 ·intro h;exact⟨Mem.no,m,fun _=>.inl rfl,(Mem.qF _).symm,rfl,h⟩
theorem fP {α:Sort _} (A:α→aA) (B:aA):sep (ex A) B=ex fun x=>sep (A x) B:=aA.ext' fun I m=>by
 constructor
 ·rintro⟨x,y,h1,h2,⟨u,h3⟩,h4⟩;exact⟨u,x,y,h1,h2,h3,h4⟩
 ·rintro⟨u,x,y,h1,h2,h3,h4⟩;exact⟨x,y,h1,h2,⟨u,h3⟩,h4⟩
theorem UR (p:Mem→Prop) (hp:∀I J,Mem.le I J→p I→p J) (A:aA):sep (yY p hp) A=sep (yY p hp) (sep (yY p hp) A):=aA.ext' fun I m=>by
 constructor
 ·rintro⟨x,y,h1,rfl,⟨rfl,h3⟩,h4⟩
  exact⟨Mem.no,y,h1,rfl,⟨rfl,h3⟩,Mem.no,y,h1,(Mem.qF _).symm,⟨rfl,h3⟩,h4⟩
 ·rintro⟨x,m,h1,rfl,⟨rfl,h3⟩,x,y,h5,rfl,⟨rfl,_⟩,h4⟩
  exact⟨Mem.no,y,fun _=>.inl rfl,by rw[Mem.qF],⟨rfl,h3⟩,h4⟩
structure Sat (W w:World) (A:aA):Prop where
 os:w.os=W.os
 tape:w.tape=W.tape
 output:w.output=W.output
 has:∃I m:Mem,(∀b o,W.heap[b]?=some o→I b=some o)∧(∀b o,I b=some o→w.heap[b]?=some o)∧(∀b o,m b=some o→w.heap[b]?=some o∧I b=none)∧A.sat I m
theorem Sat.wk {W w:World} {A B:aA} (h:Sat W w A) (hi:∀I m,A.sat I m→B.sat I m):Sat W w B:=
 let ⟨h1,h2,h3,I,m,h4,h5,h6,h7⟩:=h
 ⟨h1,h2,h3,I,m,h4,h5,h6,hi _ _ h7⟩
theorem Sat.start (W:World):Sat W W emp:=
 ⟨rfl,rfl,rfl,fun b=>W.heap[b]?,Mem.no,fun _ _ h=>h,fun _ _ h=>h,fun _ _ h=>(by simp[Mem.no] at h),rfl⟩
theorem Sat.drew {W w:World} {A:aA} (h:Sat W w A):Sat W w.drew A:=let ⟨h1,h2,h3,h4⟩:=h;⟨h1,h2,h3,h4⟩
theorem Sat.fact {W w:World} {p:Prop} {A:aA}:Sat W w (sep (fact p) A)↔p∧Sat W w A:=by
 constructor
 ·rintro⟨h1,h2,h3,I,m,h4,h5,h6,x,y,h7,rfl,⟨rfl,hp⟩,h9⟩
  exact⟨hp,h1,h2,h3,I,y,h4,h5,by simpa only[Mem.qF] using h6,h9⟩
 ·rintro⟨hp,h1,h2,h3,I,m,h4,h5,h6,h7⟩
  exact⟨h1,h2,h3,I,m,h4,h5,h6,Mem.no,m,fun _=>.inl rfl,(Mem.qF _).symm,⟨rfl,hp⟩,h7⟩
theorem Sat.ex {W w:World} {α:Sort _} {A:α→aA}:Sat W w (ex A)↔∃x,Sat W w (A x):=by
 constructor
 ·rintro⟨h1,h2,h3,I,m,h4,h5,h6,x,h7⟩;exact⟨x,h1,h2,h3,I,m,h4,h5,h6,h7⟩
 ·rintro⟨x,h1,h2,h3,I,m,h4,h5,h6,h7⟩;exact⟨h1,h2,h3,I,m,h4,h5,h6,x,h7⟩
theorem Sat.tail {W w:World} {p:Mem→Prop} {hp:∀I J,Mem.le I J→p I→p J} {A:aA} (h:Sat W w (sep (yY p hp) A)):Sat W w A:=
 h.wk fun I m ⟨x,y,_,e,⟨e1,_⟩,h4⟩=>by rw[e,e1,Mem.qF];exact h4
theorem Sat.dup {W w:World} {p:Mem→Prop} {hp:∀I J,Mem.le I J→p I→p J} {A:aA} (h:Sat W w (sep (yY p hp) A)):Sat W w (sep (yY p hp) (sep (yY p hp) A)):=by
 rw[←UR];exact h
theorem Sat.F6 {W w:World} {p:Mem→Prop} {hp:∀I J,Mem.le I J→p I→p J} {A:aA} (h:Sat W w (sep (yY p hp) A)):p fun b=>w.heap[b]?:=by
 obtain⟨_,_,_,I,m,h4,h5,h6,x,y,h7,rfl,⟨rfl,hq⟩,h9⟩:=h;exact hp _ _ h5 hq
theorem Sat.below {W w:World} {A:aA} (h:Sat W w A):Below W.heap.size W w:=by
 obtain⟨h1,h2,h3,I,m,h4,h5,_,_⟩:=h;have hb:∀b,b<W.heap.size→w.heap[b]?=W.heap[b]?:=fun b hb=>by
  rw[Array.getElem?_eq_getElem hb];exact h5 _ _ (h4 _ _ (Array.getElem?_eq_getElem hb))
 refine⟨h1,h2,h3,?_,hb⟩;rcases Nat.eq_zero_or_pos W.heap.size with h0|h0
 ·omega
 ·have:=hb (W.heap.size-1) (by omega)
  rw[Array.getElem?_eq_getElem (show W.heap.size-1<W.heap.size by omega)] at this;have:=(Array.getElem?_eq_some_iff.1 this).1;omega
theorem Sat.aO {W w:World} {b:Nat} {o:Obj} {A:aA} (h:Sat W w (sep (blk b o) A)):w.heap[b]?=some o:=by
 obtain⟨_,_,_,I,m,h4,h5,h6,x,y,h7,rfl,rfl,h9⟩:=h;exact (h6 b o (Mem.un_l (by simp))).1
theorem Sat.lt {W w:World} {b:Nat} {o:Obj} {A:aA} (h:Sat W w (sep (blk b o) A)):b<w.heap.size:=(Array.getElem?_eq_some_iff.1 h.aO).1
theorem Sat.settle {W w:World} {b:Nat} {o:Obj} {A:aA} (h:Sat W w (sep (blk b o) A)):Sat W w (sep (imm b o) A):=by
 obtain⟨h1,h2,h3,I,m,h4,h5,h6,x,y,h7,rfl,rfl,h9⟩:=h;have hb:=h6 b o (Mem.un_l (by simp));have hle:Mem.le I (fun x=>if x=b then some o else I x):=fun c u hc=>by
  by_cases e:c=b
  ·subst e;rw[hb.2] at hc;cases hc
  ·simpa[e] using hc
 refine⟨h1,h2,h3,_,y,fun c u hc=>hle _ _ (h4 _ _ hc),?_,?_,Mem.no,y,fun _=>.inl rfl,(Mem.qF _).symm,⟨rfl,?_⟩,A.mono hle h9⟩
 ·intro c u hc
  by_cases e:c=b
  ·subst e;simp at hc;subst hc;exact hb.1
  ·simp[e] at hc;exact h5 _ _ hc
 ·intro c u hc
  have hcu:=h6 c u (Mem.un_r h7 hc);refine⟨hcu.1,?_⟩
  by_cases e:c=b
  ·subst e;rcases h7 c with h|h
   ·simp at h
   ·rw[h] at hc;cases hc
  ·simp[e,hcu.2]
 ·simp
theorem Sat.change {W w w':World} {g:Nat} {o o':Obj} {A:aA} (h:Sat W w (sep (blk g o) A)) (e1:w'.os=w.os) (e2:w'.tape=w.tape) (e3:w'.output=w.output)
 (hg:w'.heap[g]?=some o') (hk:∀k,k≠g→k<w.heap.size→w'.heap[k]?=w.heap[k]?):Sat W w' (sep (blk g o') A):=by
 obtain⟨h1,h2,h3,I,m,h4,h5,h6,x,y,h7,rfl,rfl,h9⟩:=h;have hb:=h6 g o (Mem.un_l (by simp));have kept:∀k u,k≠g→w.heap[k]?=some u→w'.heap[k]?=some u:=fun k u hne hu=>(hk k hne (Array.getElem?_eq_some_iff.1 hu).1).trans hu
 refine⟨e1.trans h1,e2.trans h2,e3.trans h3,I,_,h4,?_,?_,fun x=>if x=g then some o' else none,y,?_,rfl,rfl,h9⟩
 ·intro c u hc
  refine kept c u (fun e=>?_) (h5 _ _ hc);subst e;rw[hb.2] at hc;cases hc
 ·intro c u hc
  rcases Mem.Qk hc with hc'|hc'
  ·by_cases e:c=g
   ·subst e;simp at hc';subst hc';exact⟨hg,hb.2⟩
   ·simp[e] at hc'
  ·have hcu:=h6 c u (Mem.un_r h7 hc')
   refine⟨kept c u (fun e=>?_) hcu.1,hcu.2⟩;subst e;rcases h7 c with h|h
   ·simp at h
   ·rw[h] at hc';cases hc'
 ·intro c
  rcases h7 c with h|h
  ·by_cases e:c=g
   ·simp[e] at h
   ·exact .inl (by simp[e])
  ·exact .inr h
theorem Sat.grow {W w w':World} {g:Nat} {o:Obj} {A:aA} (h:Sat W w A) (e1:w'.os=w.os) (e2:w'.tape=w.tape) (e3:w'.output=w.output)
 (hg:w'.heap[g]?=some o) (hnew:w.heap.size≤g) (hk:∀k,k<w.heap.size→w'.heap[k]?=w.heap[k]?):Sat W w' (sep (blk g o) A):=by
 obtain⟨h1,h2,h3,I,m,h4,h5,h6,h9⟩:=h;have kept:∀k u,w.heap[k]?=some u→w'.heap[k]?=some u:=fun k u hu=>(hk k (Array.getElem?_eq_some_iff.1 hu).1).trans hu
 have old:∀k u,w.heap[k]?=some u→k≠g:=fun k u hu e=>by have:=(Array.getElem?_eq_some_iff.1 hu).1;omega
 refine⟨e1.trans h1,e2.trans h2,e3.trans h3,I,_,h4,fun c u hc=>kept _ _ (h5 _ _ hc),?_,fun x=>if x=g then some o else none,m,?_,rfl,rfl,h9⟩
 ·intro c u hc
  rcases Mem.Qk hc with hc|hc
  ·by_cases e:c=g
   ·subst e;simp at hc;subst hc
    refine⟨hg,?_⟩;cases hI:I c with
    | none=>rfl
    | some v=>exact absurd rfl (old _ _ (h5 _ _ hI))
   ·simp[e] at hc
  ·exact⟨kept _ _ (h6 _ _ hc).1,(h6 _ _ hc).2⟩
 ·intro c
  by_cases e:c=g
  ·subst e
   cases hm:m c with
   | none=>exact .inr rfl
   | some v=>exact absurd rfl (old _ _ (h6 _ _ hm).1)
  ·exact .inl (by simp[e])
theorem Sat.alloc {W w:World} {A:aA} (h:Sat W w A) (o:Obj):Sat W (w.alloc o) (sep (blk w.heap.size o) A):=
 h.grow rfl rfl rfl (heap_alloc_new w o) (Nat.le_refl _) (fun k hk=>by show (w.heap.push o)[k]?=w.heap[k]?;rw[Array.getElem?_push,if_neg (Nat.ne_of_lt hk)])
theorem Sat.forget {W w:World} {b:Nat} {o:Obj} {A:aA} (h:Sat W w (sep (blk b o) A)):Sat W w A:=h.settle.tail
theorem Sat.fO {W w:World} {A:aA} (h:Sat W w A) (o:Obj):Sat W (w.alloc o) A:=(h.alloc o).forget
theorem Sat.setCell {W w:World} {g:Nat} {cs:Array Value} {t:TypeId} {A:aA} (h:Sat W w (sep (blk g (.cells cs t (0,0))) A)) (i:Nat) (v:Value):
 Sat W (w.setCell ⟨g,i,none⟩ v) (sep (blk g (.cells (cs.setIfInBounds i v) t (0,0))) A):=
 h.change rfl rfl rfl (heap_setCell_same w g i cs t v h.aO) fun k hk _=>heap_setCell_other w _ k v hk
theorem Sat.cell {W w:World} {g:Nat} {cs:Array Value} {t:TypeId} {f:Nat×Nat} {A:aA} (h:Sat W w (sep (blk g (.cells cs t f)) A)) (i:Nat):w.cell? ⟨g,i,none⟩=cs[i]?:=
 cell_of_row w g i cs t f h.aO
theorem Sat.aG {W w:World} {g:Nat} {cs:Array Value} {t:TypeId} {A:aA} (h:Sat W w (sep (blk g (.cells cs t (0,0))) A)) (i:Nat):w.frozen? ⟨g,i,none⟩=false:=
 frozen_of_row w g i cs t h.aO
theorem Sat.drop {W w:World} {X A:aA} (h:Sat W w (sep X A)):Sat W w A:=by
 obtain⟨h1,h2,h3,I,m,h4,h5,h6,x,y,h7,rfl,_,h9⟩:=h;exact⟨h1,h2,h3,I,y,h4,h5,fun b o hb=>h6 b o (Mem.un_r h7 hb),h9⟩
theorem Sat.UE {W w:World} {b c:Nat} {o u:Obj} {A:aA} (h:Sat W w (sep (blk b o) (sep (blk c u) A))):b≠c:=by
 obtain⟨_,_,_,I,m,h4,h5,h6,x,y,h7,rfl,rfl,x',y',h8,rfl,rfl,_⟩:=h;intro e;subst e;rcases h7 b with h|h
 ·simp at h
 ·simp[Mem.un] at h
theorem bT {W w:Go.World} {A B:aA} (h:Sat W w A) (e:A=B:=by simp only[aF,aC,aj]):Sat W w B:=e ▸ h
section
variable {W w:World} {A B C D E F G H J K L M N O:aA}
theorem Sat.p1 (h:Sat W w (sep A (sep B C))):Sat W w (sep B (sep A C)):=by rw[aC];exact h
theorem Sat.q1 (h:Sat W w (sep B (sep A C))):Sat W w (sep A (sep B C)):=by rw[aC];exact h
theorem Sat.p2 (h:Sat W w (sep A (sep B (sep C D)))):Sat W w (sep C (sep A (sep B D))):=bT h
theorem Sat.q2 (h:Sat W w (sep C (sep A (sep B D)))):Sat W w (sep A (sep B (sep C D))):=bT h
theorem Sat.p3 (h:Sat W w (sep A (sep B (sep C (sep D E))))):Sat W w (sep D (sep A (sep B (sep C E)))):=bT h
theorem Sat.q3 (h:Sat W w (sep D (sep A (sep B (sep C E))))):Sat W w (sep A (sep B (sep C (sep D E)))):=bT h
theorem Sat.p4 (h:Sat W w (sep A (sep B (sep C (sep D (sep E F)))))):Sat W w (sep E (sep A (sep B (sep C (sep D F))))):=bT h
theorem Sat.q4 (h:Sat W w (sep E (sep A (sep B (sep C (sep D F)))))):Sat W w (sep A (sep B (sep C (sep D (sep E F))))):=bT h
theorem Sat.p5 (h:Sat W w (sep A (sep B (sep C (sep D (sep E (sep F G))))))):Sat W w (sep F (sep A (sep B (sep C (sep D (sep E G)))))):=bT h
theorem Sat.q5 (h:Sat W w (sep F (sep A (sep B (sep C (sep D (sep E G))))))):Sat W w (sep A (sep B (sep C (sep D (sep E (sep F G)))))):=bT h
theorem Sat.p6 (h:Sat W w (sep A (sep B (sep C (sep D (sep E (sep F (sep G H)))))))):Sat W w (sep G (sep A (sep B (sep C (sep D (sep E (sep F H))))))):=bT h
theorem Sat.q6 (h:Sat W w (sep G (sep A (sep B (sep C (sep D (sep E (sep F H)))))))):Sat W w (sep A (sep B (sep C (sep D (sep E (sep F (sep G H))))))):=bT h
theorem Sat.q7 (h:Sat W w (sep H (sep A (sep B (sep C (sep D (sep E (sep F (sep G J))))))))):Sat W w (sep A (sep B (sep C (sep D (sep E (sep F (sep G (sep H J)))))))):=bT h
theorem Sat.q8 (h:Sat W w (sep J (sep A (sep B (sep C (sep D (sep E (sep F (sep G (sep H K)))))))))):Sat W w (sep A (sep B (sep C (sep D (sep E (sep F (sep G (sep H (sep J K))))))))):=bT h
end
end PA
namespace PA
open Go Go.RowKit
def iL (a:Option Addr) (xs:List Value) (I:Mem):Prop:=
 xs=[]∨∃b o cs t f,a=some ⟨b,o,none⟩∧I b=some (.cells cs t f)∧∀i u,xs[i]?=some u→cs[o+i]?=some u
def U0 (a:Option Addr) (xs:List Value):aA:=yY (iL a xs) fun I J hl h=>by
 rcases h with h|⟨b,o,cs,t,f,h1,h2,h3⟩
 ·exact .inl h
 ·exact .inr ⟨b,o,cs,t,f,h1,hl _ _ h2,h3⟩
theorem Sat.Xy {W w:World} {A:aA} (h:Sat W w A) (a:Option Addr):Sat W w (sep (U0 a []) A):=by
 obtain⟨h1,h2,h3,I,m,h4,h5,h6,h7⟩:=h;exact⟨h1,h2,h3,I,m,h4,h5,h6,Mem.no,m,fun _=>.inl rfl,(Mem.qF _).symm,⟨rfl,.inl rfl⟩,h7⟩
theorem Sat.rsl_at {W w:World} {A:aA} {a:Option Addr} {xs:List Value} (h:Sat W w (sep (U0 a xs) A)) (hne:xs≠[]):
 ∃b o,a=some ⟨b,o,none⟩∧∀i u,xs[i]?=some u→w.cell? ⟨b,o+i,none⟩=some u:=by
 rcases h.F6 with h|⟨b,o,cs,t,f,h1,h2,h3⟩
 ·exact absurd h hne
 ·exact⟨b,o,h1,fun i u hu=>by rw[cell_of_row w b (o+i) cs t f h2];exact h3 i u hu⟩
theorem Sat.Qg {W w:World} {A:aA} {b:Addr} {xs:List Value} (h:Sat W w (sep (U0 (some b) xs) A)):∀i u,xs[i]?=some u→w.cell? (b.add i)=some u:=by
 intro i u hu;obtain⟨c,o,e,hc⟩:=h.rsl_at (fun e=>by rw[e] at hu;simp at hu);cases e;have:=hc i u hu;unfold Addr.add;split
 ·rename_i e;subst e;simpa using this
 ·exact this
def aT (E k:Nat) (a:Option Addr) (n c:Nat) (xs:List Value):aA:=
 ex fun s:Option (Nat×Array Value)=>match s with
  | none=>fact (a=none∧n=0∧c=0∧xs=[])
  | some (g,cur)=>sep (fact (a=some ⟨g,0,none⟩∧xs.length=n*k∧n≤c∧c≤maxLen∧cur.size=c*k∧cur.toList.take (n*k)=xs)) (blk g (.cells cur E (0,0)))
section
variable {W w:World} {A:aA} {E k:Nat} {a:Option Addr} {n c:Nat} {xs:List Value}
theorem Sat.gY (h:Sat W w (sep (aT E k a n c xs) A)):
 (a=none∧n=0∧c=0∧xs=[]∧Sat W w A) ∨
 ∃g cur,a=some ⟨g,0,none⟩∧xs.length=n*k∧n≤c∧c≤maxLen∧cur.size=c*k∧cur.toList.take (n*k)=xs∧Sat W w (sep (blk g (.cells cur E (0,0))) A):=by
 rw[aT,fP,Sat.ex] at h;obtain⟨s,h⟩:=h;cases s with
 | none=>
  have h':=Sat.fact.1 h;exact .inl ⟨h'.1.1,h'.1.2.1,h'.1.2.2.1,h'.1.2.2.2,h'.2⟩
 | some s=>
  obtain⟨g,cur⟩:=s;simp only[aj] at h;obtain⟨⟨h1,h2,h3,h4,h5,h6⟩,h7⟩:=Sat.fact.1 h;exact .inr ⟨g,cur,h1,h2,h3,h4,h5,h6,h7⟩
theorem Sat.fM (h:Sat W w A) (E k:Nat):Sat W w (sep (aT E k none 0 0 []) A):=by
 rw[aT,fP,Sat.ex];exact⟨none,Sat.fact.2 ⟨⟨rfl,rfl,rfl,rfl⟩,h⟩⟩
theorem Sat.lT {g:Nat} {cur:Array Value} (h:Sat W w (sep (blk g (.cells cur E (0,0))) A)) (n c k:Nat) (xs:List Value) (h2:xs.length=n*k) (h3:n≤c) (h4:c≤maxLen) (h5:cur.size=c*k) (h6:cur.toList.take (n*k)=xs):
 Sat W w (sep (aT E k (some ⟨g,0,none⟩) n c xs) A):=by
 rw[aT,fP,Sat.ex];refine⟨some (g,cur),?_⟩;rw[aj];exact Sat.fact.2 ⟨⟨rfl,h2,h3,h4,h5,h6⟩,h⟩
theorem Sat.uP (h:Sat W w (sep (aT E k a n c xs) A)):xs.length=n*k∧n≤c∧c≤maxLen:=by
 rcases h.gY with ⟨_,rfl,rfl,rfl,_⟩|⟨g,cur,_,h1,h2,h3,_⟩
 ·simp
 ·exact⟨h1,h2,h3⟩
theorem Sat.Iu (h:Sat W w (sep (aT E k a n c xs) A)) (hne:xs≠[]):
 ∃g,a=some ⟨g,0,none⟩∧∀i u,xs[i]?=some u→w.cell? ⟨g,i,none⟩=some u:=by
 rcases h.gY with ⟨_,rfl,rfl,rfl,_⟩|⟨g,cur,rfl,h1,h2,h3,h4,h5,h6⟩
 ·exact absurd rfl hne
 ·refine⟨g,rfl,fun i u hu=>?_⟩
  rw[h6.cell i];rw[←h5,List.getElem?_take] at hu;split at hu
  ·simpa using hu
  ·cases hu
theorem Sat.dV (h:Sat W w (sep (aT E k a n c xs) A)):Sat W w (sep (U0 a xs) A):=by
 rcases h.gY with ⟨rfl,rfl,rfl,rfl,h'⟩|⟨g,cur,rfl,h1,h2,h3,h4,h5,h6⟩
 ·exact h'.Xy _
 ·refine h6.settle.wk ?_
  rintro I m ⟨x,y,h7,h8,⟨h9,h10⟩,h11⟩;refine⟨x,y,h7,h8,⟨h9,.inr ⟨g,0,cur,E,(0,0),rfl,h10,fun i u hu=>?_⟩⟩,h11⟩;rw[←h5,List.getElem?_take] at hu;split at hu
  ·simpa using hu
  ·cases hu
theorem Sat.dU (h:Sat W w (sep (aT E k a n c xs) A)):Sat W w A:=h.dV.tail
end
section
variable {P:Program} {W w:World} {A:aA}
theorem xA (w:World) (g j:Nat) (cs:Array Value) (h:j≠g):(w.setRow g cs).heap[j]?=w.heap[j]?:=by
 simp only[World.setRow,Array.getElem?_modify];rw[if_neg (fun e=>h e.symm)]
theorem Sat.setRow {g:Nat} {cur:Array Value} {t:TypeId} (h:Sat W w (sep (blk g (.cells cur t (0,0))) A)) (cs:Array Value):Sat W (w.setRow g cs) (sep (blk g (.cells cs t (0,0))) A):=
 h.change rfl rfl rfl (setRow_heap w g cur cs t (0,0) h.aO) fun k hk _=>xA w g k cs hk
theorem iR (z:Array Value) (n:Nat):(Builtin.zeroCells z n).size=n*z.size:=by simp[Builtin.zeroCells]
theorem jP (w:World) (need old:Nat) (e:TypeId) (h:need≤maxLen):need≤grownCap w need old e∧grownCap w need old e≤maxLen:=
 ⟨grownCap_ge w need old e,grownCap_le_maxLen w need old e h⟩
theorem tZ (t ty E k Px:Nat) (i:TypeInfo) (z:Value) (ht:P.underlying t=some (.slice E)) (hi:P.info? E=some i) (hz:i.zero=some z)
 (hk:i.size=k) (hb:i.bytes=Px) (hzs:z.cells.size=k) {a:Option Addr} {n c:Nat} {xs:List Value} (h:Sat W w (sep (aT E k a n c xs) A))
 (x:Option Addr) (m cc:Nat) (news:List Value) (hl:news.length=m*k) (hx0:x=none→m=0) (hx:∀b,x=some b→∀j u,news[j]?=some u→w.cell? (b.add j)=some u)
 (h1:∀u∈news,u.oneCell'=true) (h63:n+m≤maxLen) (hby:(n+m)*Px≤140737488355328):
 ∃a' c' w',(Builtin.append_ #[t,t] ty #[.slice a n c,.slice x m cc]).run P w=.ok (.slice a' (n+m) c') w'∧Sat W w' (sep (aT E k a' (n+m) c' (xs++news)) A):=by
 subst hk;subst hb;have hsmall:n+m≤9223372036854775807:=by simp only[maxLen] at h63;omega
 by_cases hm:m=0
 ·subst hm
  have hnews:news=[]:=List.eq_nil_of_length_eq_zero (by simpa using hl);subst hnews;have hnc:=h.uP.2.1;refine⟨a,c,w,?_,by simpa using h⟩;cases x<;>cases a<;>simp[Builtin.append_,run_underlying ht,Go.sizeOf,typeInfo,hi,Builtin.lenOf,hnc,Builtin.firstCells,loadCells,loadCellsFrom,storeCells]
 ·obtain⟨b,rfl⟩:∃b,x=some b:=by
   cases x with
   | none=>exact absurd (hx0 rfl) hm
   | some b=>exact⟨b,rfl⟩
  have hsrc:=hx b rfl;have fits:∀old,old<n+m→Builtin.nextslicecap (n+m) old*i.bytes≤281474976710656:=fun old ho=>growslice_fits ho hby
  rcases h.gY with ⟨rfl,rfl,rfl,rfl,h0⟩|⟨g,cur,rfl,hlen,hnc,hcm,hcs,htake,hS⟩
  ·have hrun:=run_append_nil (P:=P) w t ty E i z ht hi hz b m cc news hl hsrc (by omega) (by omega) (by have:=fits 0 (by omega);rw[Nat.zero_add,nextslicecap_zero (by omega)] at this;exact this)
   have hcap:=jP w m 0 E (by omega);refine⟨_,_,_,by rw[Nat.zero_add];exact hrun,?_⟩;refine ((h0.drew.alloc _).lT (0+m) _ i.size ([]++news) (by simpa using hl) (by omega) hcap.2 ?_ ?_)
   ·simp only[Array.size_append,List.size_toArray,iR,hzs,hl]
    rw[←Nat.add_mul];congr 1;omega
   ·simp[←hl]
  ·by_cases hroom:n+m≤c
   ·have hfit:n*i.size+news.length≤cur.size:=by rw[hl,hcs,←Nat.add_mul];exact Nat.mul_le_mul_right _ hroom
    have hrun:=run_append_room (P:=P) w t ty E i ht hi g n c cur hS.aO b m cc news hl hsrc h1 hroom hfit;refine⟨_,_,_,hrun,(hS.setRow _).lT (n+m) c i.size (xs++news) (by rw[dD,hlen,hl,Nat.add_mul]) hroom hcm ?_ ?_⟩
    ·have:n*i.size≤cur.size:=by omega
     simp only[List.size_toArray,dD,List.length_take,List.length_drop,Array.length_toList];rw[←hcs];omega
    ·rw[htake,List.take_append_of_le_length (by rw[dD,hlen,hl,Nat.add_mul];omega),List.take_of_length_le (by rw[dD,hlen,hl,Nat.add_mul];omega)]
   ·have hrun:=run_append_grow (P:=P) w t ty E i z ht hi hz ⟨g,0,none⟩ n c xs hlen (fun j u hu=>by
     obtain⟨g',e,hc⟩:=h.Iu (fun e=>by rw[e] at hu;simp at hu);cases e;have:=hc j u hu;unfold Addr.add;split
     ·rename_i e;subst e;exact this
     ·simpa using this) b m cc news hl hsrc (by omega) (by omega) (fits c (by omega))
    have hcap:=jP w (n+m) c E h63;refine⟨_,_,_,hrun,((hS.forget.drew).alloc _).lT (n+m) _ i.size (xs++news) (by rw[dD,hlen,hl,Nat.add_mul]) hcap.1 hcap.2 ?_ ?_⟩
    ·simp only[Array.size_append,List.size_toArray,iR,hzs,hl,hlen]
     rw[←Nat.add_mul,←Nat.add_mul];congr 1;omega
    ·have:xs.length+news.length=(n+m)*i.size:=by rw[hlen,hl,Nat.add_mul]
     rw[←this,←dD];simp only[Array.toList_append,List.append_toArray,List.take_left]
theorem zi {o:Oper} {a:Act} {w w':World} {K:Act→World→Prop} {Q:Exit→Act→World→Prop} {v:Value} (h:(execOp a.eval o).run P w=.ok (.value v) w') (hK:K (a.put o.dst v) w'):o.wp P a w K Q:=by
 simp only[Oper.wp,h,Oper.upon];exact hK
theorem sW {a:Act} {o:Oper} (s x:Operand) (t t2:TypeId) (ho:o.op=.call { callee:=.builtin .append,args:=#[s,x],argTypes:=#[t,t2] }) {v:Value} {w':World}
 (hr:(Builtin.append_ #[t,t2] o.type #[a.eval s,a.eval x]).run P w=.ok v w'):(execOp a.eval o).run P w=.ok (.value v) w':=by
 simp[execOp,ho,resolve,invoke,builtin,hr]
theorem kY {o:Oper} {ac:Act} {K:Act→World→Prop} {Q:Exit→Act→World→Prop} (s y:Operand) (t:TypeId)
 (ho:o.op=.call { callee:=.builtin .append,args:=#[s,y],argTypes:=#[t,t] })
 (E k Px:Nat) (z:Value) (ht:P.underlying t=some (.slice E)) (hi:(P.info? E).map (fun i=>(i.zero,i.size,i.bytes))=some (some z,k,Px)) (hzs:z.cells.size=k)
 {a:Option Addr} {n c:Nat} {xs:List Value} (hs:ac.eval s=.slice a n c) (h:Sat W w (sep (aT E k a n c xs) A))
 {x:Option Addr} {m cc:Nat} (hy:ac.eval y=.slice x m cc) (news:List Value) (hl:news.length=m*k) (hx0:x=none→m=0) (hx:∀b,x=some b→∀j u,news[j]?=some u→w.cell? (b.add j)=some u)
 (h1:∀u∈news,u.oneCell'=true) (hby:(n+m)*Px≤140737488355328) (h63:n+m≤maxLen)
 (hK:∀a' c' w',Sat W w' (sep (aT E k a' (n+m) c' (xs++news)) A)→K (ac.put o.dst (.slice a' (n+m) c')) w'):o.wp P ac w K Q:=by
 obtain⟨i,hi1,hi2,hi3,hi4⟩:=info_parts hi;obtain⟨a',c',w',hr,hS⟩:=tZ t o.type E k Px i z ht hi1 hi2 hi3 hi4 hzs h x m cc news hl hx0 hx h1 h63 hby;exact zi (sW s y t t ho (by rw[hs,hy];exact hr)) (hK _ _ _ hS)
theorem aH {ops:Array Oper} {rest:List Oper} {o:Oper} {ac:Act} {Q:Exit→Act→World→Prop} (hgd:o.guard=none) (s y:Operand) (t:TypeId)
 (ho:o.op=.call { callee:=.builtin .append,args:=#[s,y],argTypes:=#[t,t] })
 (E k Px:Nat) (z:Value) (ht:P.underlying t=some (.slice E)) (hi:(P.info? E).map (fun i=>(i.zero,i.size,i.bytes))=some (some z,k,Px)) (hzs:z.cells.size=k)
 {a:Option Addr} {n c:Nat} {xs:List Value} (hs:ac.eval s=.slice a n c) (h:Sat W w (sep (aT E k a n c xs) A))
 {x:Option Addr} {m cc:Nat} (hy:ac.eval y=.slice x m cc) (news:List Value) (hl:news.length=m*k) (hx0:x=none→m=0) (hx:∀b,x=some b→∀j u,news[j]?=some u→w.cell? (b.add j)=some u)
 (h1:∀u∈news,u.oneCell'=true) (hby:(n+m)*Px≤140737488355328) (h63:n+m≤maxLen)
 (hK:∀a' c' w',Sat W w' (sep (aT E k a' (n+m) c' (xs++news)) A)→wpList P ops Q rest (ac.put o.dst (.slice a' (n+m) c')) w'):wpList P ops Q (o::rest) ac w:=
 wpList_plain hgd fun _ hk=>kY s y t ho E k Px z ht hi hzs hs h hy news hl hx0 hx h1 hby h63 fun a' c' w' h'=>hk _ _ (hK a' c' w' h')
end
end PA
namespace PA
open Go
def yV:List UInt8→Nat
 | []=>0
 | b::l=>b.toNat+256*yV l
theorem Ie:∀l:List UInt8,yV l<256 ^ l.length
 | []=>by simp[yV]
 | b::l=>by
  have:=Ie l;have hb:=b.toNat_lt;simp only[yV,List.length_cons,Nat.pow_succ];omega
theorem KL:∀(l:List UInt8) (c:UInt8),yV (l++[c])=yV l+c.toNat * 256 ^ l.length
 | [],c=>by simp[yV]
 | b::l,c=>by
  simp only[List.cons_append,yV,KL l c,List.length_cons,Nat.pow_succ,Nat.mul_add];rw[show c.toNat * (256 ^ l.length*256)=256*(c.toNat * 256 ^ l.length) by
   rw[Nat.mul_comm (256 ^ l.length) 256,←Nat.mul_assoc,Nat.mul_comm c.toNat 256,Nat.mul_assoc]]
  omega
theorem Xk (l:List UInt8) (h:l.length≤8):yV l<18446744073709551616:=
 Nat.lt_of_lt_of_le (Ie l) (Nat.le_trans (Nat.pow_le_pow_right (by decide) h) (by decide))
def uj (l:List UInt8) (k:Nat):Nat:=yV ((l.drop (8*k)).take 8)
def eF (l:List UInt8):List Nat:=(List.range ((l.length+7) / 8)).map (uj l)
theorem MG (l:List UInt8) (k:Nat):uj l k<18446744073709551616:=Xk _ (by simp;omega)
theorem Gw (l:List UInt8):∀x∈eF l,x<18446744073709551616:=by
 intro x hx;obtain⟨k,_,rfl⟩:=List.mem_map.1 hx;exact MG l k
theorem kX (l:List UInt8):(eF l).length=(l.length+7) / 8:=by simp[eF]
def mulN:Nat:=11400714819323198485
def jq (s x:Nat):Nat:=
 let m:=((s ^^^ x)*mulN) % 18446744073709551616
 m ^^^ (m / 4294967296)
theorem Vd (a b:Nat) (ha:a<18446744073709551616) (hb:b<18446744073709551616):a ^^^ b<18446744073709551616:=Nat.xor_lt_two_pow (n:=64) ha hb
theorem xO (s x:Nat):jq s x<18446744073709551616:=by
 unfold jq;exact Vd _ _ (Nat.mod_lt _ (by decide)) (Nat.lt_of_le_of_lt (Nat.div_le_self _ _) (Nat.mod_lt _ (by decide)))
theorem Ik (s x:Nat) (hs:s<18446744073709551616) (hx:x<18446744073709551616):
 bits .xor .u64 (IntKind.u64.wrap (bits .xor .u64 (s:Int) (x:Int)*11400714819323198485)) (IntKind.u64.wrap (bits .xor .u64 (s:Int) (x:Int)*11400714819323198485) / 4294967296)=(jq s x:Nat):=by
 rw[bits_xor_u64_nat s x hs hx,IntKind.wrap_u64];have e:((s ^^^ x:Nat):Int)*11400714819323198485 % 18446744073709551616=(((s ^^^ x)*mulN % 18446744073709551616:Nat):Int):=by
  unfold mulN;omega
 rw[e];have e2:(((s ^^^ x)*mulN % 18446744073709551616:Nat):Int) / 4294967296=(((s ^^^ x)*mulN % 18446744073709551616 / 4294967296:Nat):Int):=by omega
 rw[e2,bits_xor_u64_nat _ _ (Nat.mod_lt _ (by decide)) (Nat.lt_of_le_of_lt (Nat.div_le_self _ _) (Nat.mod_lt _ (by decide)))];rfl
def oJ (n:Int):Nat:=(n % 18446744073709551616).toNat
theorem Qj (n:Int):oJ n<18446744073709551616:=by unfold oJ;omega
theorem Gv (n:Int):IntKind.u64.wrap n=(oJ n:Nat):=by rw[IntKind.wrap_u64];unfold oJ;omega
def XC (label:List UInt8) (l:List Nat):Nat:=jq (l.foldl jq (jq (jq ((eF label).foldl jq 0) label.length) l.length)) 0
def LU (label:List UInt8) (l:List Int):Nat:=XC label (l.map oJ)
def lJ (label b:List UInt8):Nat:=XC label (eF b++[b.length])
theorem jl:∀(l:List Nat) (s:Nat),s<18446744073709551616→l.foldl jq s<18446744073709551616
 | [],_,h=>h
 | x::l,s,_=>jl l _ (xO s x)
theorem P7 (l:List UInt8) (c:UInt8) (d:Nat) (hl:l.length=d) (hd:d<8):
 bits .or .u64 (yV l:Nat) (IntKind.u64.wrap (IntKind.u64.wrap (c.toNat:Int)*2 ^ (8*d)))=(yV (l++[c]):Nat):=by
 subst hl;have h1:=Ie l;have hc:=c.toNat_lt;rw[KL];have e:(256:Nat) ^ l.length=2 ^ (8*l.length):=by rw[Nat.pow_mul]
 have e':((2:Int) ^ (8*l.length))=((2 ^ (8*l.length):Nat):Int):=by push_cast;rfl
 rw[e] at h1 ⊢;rw[e'];have hpw:256*2 ^ (8*l.length)≤2 ^ 64:=by
  rw[show (256:Nat)=2 ^ 8 from rfl,←Nat.pow_add];exact Nat.pow_le_pow_right (by decide) (by omega)
 generalize hp:2 ^ (8*l.length)=p at *;have h2:c.toNat * p<2 ^ 64:=Nat.lt_of_lt_of_le (Nat.mul_lt_mul_of_pos_right hc (by omega)) hpw;have e2:IntKind.u64.wrap (c.toNat:Int)=(c.toNat:Int):=wraps_u64 _ (by omega) (by omega);have e3:IntKind.u64.wrap (((c.toNat:Nat):Int)*(p:Int))=((c.toNat * p:Nat):Int):=by
  rw[←Int.natCast_mul];exact wraps_u64 _ (by omega) (by exact_mod_cast h2)
 rw[e2,e3];have hp2:(2:Int) ^ (8*l.length)=(p:Int):=by rw[←hp];push_cast;rfl
 have g1:((yV l:Nat):Int)<(2:Int) ^ (8*l.length):=by rw[hp2];exact_mod_cast h1
 have g2:yV l<2 ^ 64:=by omega
 have g3:((c.toNat * p:Nat):Int) % (2:Int) ^ (8*l.length)=0:=by rw[hp2];push_cast;exact Int.mul_emod_left _ _
 rw[bits_join_low .u64 64 (by decide) wraps_u64 (8*l.length) _ _ (by omega) g1 (by exact_mod_cast g2) (by omega) g3 (by exact_mod_cast h2)];exact (Int.natCast_add _ _).symm
theorem yc (l:List UInt8) (i d:Nat) (h:i+d<l.length):(l.drop i).take (d+1)=(l.drop i).take d++[l[i+d]]:=by
 rw[List.take_succ_eq_append_getElem (by simp;omega)];simp
theorem L6 (x:Nat) (h:x<18446744073709551616):oJ (RowKit.wrap64 (x:Int))=x:=by
 unfold oJ RowKit.wrap64;omega
theorem PW:∀l:List Nat,(∀x∈l,x<18446744073709551616)→(l.map fun x:Nat=>RowKit.wrap64 (x:Int)).map oJ=l
 | [],_=>rfl
 | x::l,h=>by
  rw[List.map_cons,List.map_cons,L6 x (h x (by simp)),PW l fun y hy=>h y (by simp[hy])]
theorem Gt (label bs:List UInt8) (hb:bs.length≤140737488351240):LU label ((eF bs).map (fun x:Nat=>RowKit.wrap64 (x:Int))++[(bs.length:Int)])=lJ label bs:=by
 have h:oJ (bs.length:Int)=bs.length:=by unfold oJ;omega
 rw[LU,lJ,List.map_append,PW _ (Gw bs),List.map_cons,List.map_nil,h]
abbrev V6:={ x:Nat // x<18446744073709551616 }
def yt (l:List UInt8) (k:Nat):V6:=⟨uj l k,MG l k⟩
def iU (l:List UInt8):List V6:=(List.range ((l.length+7) / 8)).map (yt l)
theorem Em (l:List UInt8):(iU l).map (·.1)=eF l:=by simp[iU,eF,yt]
theorem Ae (l:List UInt8) (k:Nat) (hk:k≤(l.length+7) / 8):(List.range k).map (yt l)=(iU l).take k:=by
 rw[iU,←List.map_take,List.take_range,Nat.min_eq_left hk]
theorem vS (l:List UInt8):(iU l).length=(l.length+7) / 8:=by simp[iU]
end PA
namespace PA
open Go
structure Rt where
 n:Int
 d:Int
 deriving DecidableEq
def mY:Nat:=1099511627776
def mX:Nat:=1048576
def nN (neg:Bool) (n d:Nat):Rt×Int:=
 if mY<n / Nat.gcd n d∨mX<d / Nat.gcd n d then (⟨0,0⟩,5)
 else (⟨if neg=true then -((n / Nat.gcd n d:Nat):Int) else ((n / Nat.gcd n d:Nat):Int),((d / Nat.gcd n d:Nat):Int)⟩,0)
def newR (num den:Int):Rt×Int:=
 if den=0 then (⟨0,0⟩,1) else nN (decide (num<0) !=decide (den<0)) num.natAbs den.natAbs
def okR (r:Rt):Bool:=decide (1≤r.d)&&decide (newR r.n r.d=(r,0))
theorem Fz {neg:Bool} {n d:Nat} {r:Rt} (h:nN neg n d=(r,0)):r.n.natAbs=n / Nat.gcd n d∧r.d=((d / Nat.gcd n d:Nat):Int)∧n / Nat.gcd n d≤mY∧d / Nat.gcd n d≤mX:=by
 unfold nN at h;split at h
 ·cases h
 ·rename_i h'
  have h1:n / Nat.gcd n d≤mY:=by
   rcases Nat.lt_or_ge mY (n / Nat.gcd n d) with h2|h2
   ·exact absurd (.inl h2) h'
   ·exact h2
  have h2:d / Nat.gcd n d≤mX:=by
   rcases Nat.lt_or_ge mX (d / Nat.gcd n d) with h2|h2
   ·exact absurd (.inr h2) h'
   ·exact h2
  obtain⟨rfl⟩:=(Prod.mk.inj h).1;refine⟨?_,rfl,h1,h2⟩;show Int.natAbs (if neg=true then -((n / Nat.gcd n d:Nat):Int) else ((n / Nat.gcd n d:Nat):Int))=_
  by_cases e:neg=true
  ·rw[if_pos e,Int.natAbs_neg,Int.natAbs_natCast]
  ·rw[if_neg e,Int.natAbs_natCast]
structure Rok (r:Rt):Prop where
 d1:1≤r.d
 d2:r.d≤1048576
 n1:-1099511627776≤r.n
 n2:r.n≤1099511627776
theorem Xn {n d:Int} {r:Rt} (h:newR n d=(r,0)) (hd:0<d):Rok r∧(r.n=0↔n=0)∧(0<r.n↔0<n):=by
 unfold newR at h;rw[if_neg (by omega)] at h;have h0:=h;obtain⟨h1,h2,h3,h4⟩:=Fz h;unfold mY at h3;unfold mX at h4;have hg:0<Nat.gcd n.natAbs d.natAbs:=Nat.gcd_pos_of_pos_right _ (by omega);have hdv:0<d.natAbs / Nat.gcd n.natAbs d.natAbs:=Nat.div_pos (Nat.le_of_dvd (by omega) (Nat.gcd_dvd_right _ _)) hg;have hz:n.natAbs / Nat.gcd n.natAbs d.natAbs=0↔n.natAbs=0:=by
  constructor
  ·intro e
   rcases (Nat.div_eq_zero_iff).1 e with e|e
   ·omega
   ·rcases Nat.eq_zero_or_pos n.natAbs with h|h
    ·exact h
    ·have:=Nat.le_of_dvd h (Nat.gcd_dvd_left n.natAbs d.natAbs);omega
  ·intro e;rw[e];simp
 refine⟨⟨by omega,by omega,by omega,by omega⟩,by omega,?_⟩;unfold nN at h0;split at h0
 ·cases h0
 ·have e:=(Prod.mk.inj h0).1
  have hd':decide (d<0)=false:=decide_eq_false (by omega);rw[hd'] at e;subst e
  by_cases hn:n<0
  ·simp only[hn,decide_true]
   simp;omega
  ·simp only[hn,decide_false]
   simp;constructor
   ·intro h
    have:n.natAbs≠0:=fun e=>by rw[e] at h;simp at h
    omega
   ·intro h
    have:=hz;omega
theorem nX {r:Rt} (h:okR r=true):Rok r∧newR r.n r.d=(r,0):=by
 simp only[okR,Bool.and_eq_true,decide_eq_true_eq] at h;exact⟨(Xn h.2 (by omega)).1,h.2⟩
theorem UF (n d:Int) (hd:0<d) (hdn:okR ⟨n,d⟩=true):Nat.gcd n.natAbs d.natAbs=1:=by
 have h:=(nX hdn).2;unfold newR at h;rw[if_neg (by show ¬d=0;omega)] at h;obtain⟨-,h2,-,-⟩:=Fz h;have h2':d=((d.natAbs / Nat.gcd n.natAbs d.natAbs:Nat):Int):=h2;rcases Nat.lt_or_ge 1 (Nat.gcd n.natAbs d.natAbs) with h3|h3
 ·have:=Nat.div_lt_self (n:=d.natAbs) (by omega) h3
  omega
 ·have:0<Nat.gcd n.natAbs d.natAbs:=Nat.gcd_pos_of_pos_right _ (by omega)
  omega
theorem tK (n d:Int) (h1:1≤d) (h2:d≤1048576) (h3:n.natAbs≤1099511627776) (h4:Nat.gcd n.natAbs d.natAbs=1):okR ⟨n,d⟩=true:=by
 simp only[okR,Bool.and_eq_true,decide_eq_true_eq];refine⟨h1,?_⟩;unfold newR nN;rw[if_neg (by omega),h4,Nat.div_one,Nat.div_one,if_neg]
 ·have hdd:decide (d<0)=false:=decide_eq_false (by omega)
  rw[hdd];refine congrArg (·,(0:Int)) ?_
  by_cases hn:n<0
  ·simp only[hn,decide_true]
   simp;exact⟨by omega,by omega⟩
  ·simp only[hn,decide_false]
   simp;exact⟨by omega,by omega⟩
 ·unfold mY mX
  omega
end PA
namespace PA
open Go Go.RowKit
structure Sv where
 a:Option Addr
 n:Nat
 c:Nat
def Sv.v (s:Sv):Value:=.slice s.a s.n s.c
def ak:Sv:=⟨.none,0,0⟩
structure Ac where
 k:Int
 d:Int
 n:Int
 f:Int
 o:Int
 p:Int
 q:Int
 u:Int
 m:Int
 sn:Int
 sd:Int
 td:Sv
 tc:Sv
 cl:Sv
 ea:Sv
 fo:Int
 fn:Int
 fi:Sv
 fk:Sv
def Ac.cells (x:Ac):List Value:=[.int .i64 x.k,.int .i64 x.d,.int .i64 x.n,.int .i64 x.f,.int .i64 x.o,.int .i64 x.p,.int .i64 x.q,.int .i64 x.u,.int .i64 x.m,.int .i64 x.sn,.int .i64 x.sd,
 .slice x.td.a x.td.n x.td.c,.slice x.tc.a x.tc.n x.tc.c,.slice x.cl.a x.cl.n x.cl.c,.slice x.ea.a x.ea.n x.ea.c,.int .i64 x.fo,.int .i64 x.fn,.slice x.fi.a x.fi.n x.fi.c,.slice x.fk.a x.fk.n x.fk.c]
theorem Ac.len (x:Ac):x.cells.length=19:=rfl
theorem Ac.one (x:Ac):∀u∈x.cells,u.oneCell'=true:=by
 intro u hu;simp only[Ac.cells,List.mem_cons,List.not_mem_nil,or_false] at hu;rcases hu with rfl|rfl|rfl|rfl|rfl|rfl|rfl|rfl|rfl|rfl|rfl|rfl|rfl|rfl|rfl|rfl|rfl|rfl|rfl<;>rfl
def Ac.sh (x:Ac):Rt:=⟨x.sn,x.sd⟩
def Ac.zero:Ac:=⟨0,0,0,0,0,0,0,0,0,0,0,ak,ak,ak,ak,0,0,ak,ak⟩
def dF (xs:List Ac):List Value:=xs.flatMap Ac.cells
theorem lZ (xs:List Ac):(dF xs).length=xs.length*19:=by
 induction xs with
 | nil=>rfl
 | cons x xs ih=>rw[dF,List.flatMap_cons,dD,←dF,ih,Ac.len,List.length_cons];omega
theorem jE (xs ys:List Ac):dF (xs++ys)=dF xs++dF ys:=by simp[dF]
theorem Nk (xs:List Ac) (i:Nat) (hi:i<xs.length) (j:Nat) (hj:j<19):(dF xs)[i*19+j]?=xs[i].cells[j]?:=by
 have e:xs=xs.take i++xs[i]::xs.drop (i+1):=by rw[←List.drop_eq_getElem_cons hi,List.take_append_drop]
 have hl:(dF (xs.take i)).length=i*19:=by rw[lZ,List.length_take,Nat.min_eq_left (by omega)]
 conv=>lhs;rw[e]
 rw[jE,List.getElem?_append_right (by omega),hl,Nat.add_sub_cancel_left];show (List.flatMap Ac.cells (xs[i]::xs.drop (i+1)))[j]?=_;rw[List.flatMap_cons,List.getElem?_append_left (by rw[Ac.len];exact hj)]
def cmpK (x y:Ac):Int:=if x.d<y.d then -1 else if y.d<x.d then 1 else if x.n<y.n then -1 else if y.n<x.n then 1 else 0
def Fg (x y:Ac):Prop:=x.d≠y.d∨x.n≠y.n
theorem Fg.symm {x y:Ac} (h:Fg x y):Fg y x:=h.imp Ne.symm Ne.symm
end PA
namespace PA
open Go RowKit
theorem EF (k:IntKind) (x y:Int):bits .xor k x y=bits .xor k y x:=by
 show IntKind.wrap k ((BitVec.ofInt k.bits x ^^^ BitVec.ofInt k.bits y).toNat:Int)=IntKind.wrap k ((BitVec.ofInt k.bits y ^^^ BitVec.ofInt k.bits x).toNat:Int);rw[BitVec.xor_comm]
theorem zz_val (n:Int) (h1:-9223372036854775808≤n) (h2:n≤9223372036854775807):
 bits .xor .u64 (IntKind.u64.wrap (IntKind.u64.wrap n*2)) (IntKind.u64.wrap (n / 9223372036854775808))=(Lib.zigzag n:Nat):=by
 by_cases h:0≤n
 ·have e1:IntKind.u64.wrap (n / 9223372036854775808)=((0:Nat):Int):=by rw[IntKind.wrap_u64];omega
  have e2:IntKind.u64.wrap (IntKind.u64.wrap n*2)=((2*n).toNat:Nat):=by rw[IntKind.wrap_u64,IntKind.wrap_u64];omega
  rw[e1,e2,bits_xor_u64_nat _ _ (by omega) (by decide),Nat.xor_zero];unfold Lib.zigzag;rw[if_pos h]
 ·have e1:IntKind.u64.wrap (n / 9223372036854775808)=IntKind.u64.max:=by
   rw[IntKind.wrap_u64,show IntKind.u64.max=18446744073709551615 by decide];omega
  rw[e1,EF];exact Lib.zigzag_neg h1 (by omega)
def encI (n:Int):List UInt8:=Lib.uvarint (Lib.zigzag n)
def encR (b:List UInt8):List UInt8:=Lib.uvarint b.length++b
abbrev RSt:=Except Int (List UInt8)
end PA
namespace PA
open Go
structure Iv where
 ln:Int
 ld:Int
 hn:Int
 hd:Int
 lo:Bool
 ho:Bool
 li:Bool
 hi:Bool
 deriving DecidableEq
inductive Fm where
 | mk (op n:Int) (ins:List Iv) (kids:List Fm)
namespace Fm
def op:Fm→Int|mk o _ _ _=>o
def num:Fm→Int|mk _ n _ _=>n
def ins:Fm→List Iv|mk _ _ i _=>i
def kids:Fm→List Fm|mk _ _ _ k=>k
theorem ind {P:Fm→Prop} (h:∀o n i k,(∀f∈k,P f)→P (mk o n i k)):∀f,P f
 | mk o n i k=>h o n i k fun f _=>ind h f
mutual
def size:Fm→Nat
 | mk _ _ _ k=>sizes k+1
def sizes:List Fm→Nat
 | []=>0
 | f::l=>size f+sizes l
end
mutual
def deep:Fm→Nat
 | mk _ _ _ k=>dG k+1
def dG:List Fm→Nat
 | []=>0
 | f::l=>max (deep f) (dG l)
end
mutual
def nodes:Fm→List Fm
 | mk o n i k=>mk o n i k::bM k
def bM:List Fm→List Fm
 | []=>[]
 | f::l=>nodes f++bM l
end
def formed (sp:List Iv→Bool):Fm→Bool
 | mk o n i k=>
  if (o≠2∧i≠[])∨(o≠2∧o≠1∧n≠0) then false
  else if o=0 then k.isEmpty
  else if o=1 then k.isEmpty&&decide (0≤n)&&decide (n<64)
  else if o=2 then k.isEmpty&&decide (0≤n)&&decide (n<32)&&sp i
  else if o=3∨o=6 then decide (k.length=1)
  else decide (o=4)||decide (o=5)
mutual
def whole (sp:List Iv→Bool):Fm→Bool
 | mk o n i k=>formed sp (mk o n i k)&&dJ sp k
def dJ (sp:List Iv→Bool):List Fm→Bool
 | []=>true
 | f::l=>whole sp f&&dJ sp l
end
mutual
theorem uh (sp:List Iv→Bool):∀f,whole sp f=(nodes f).all (formed sp)
 | mk o n i k=>by rw[whole,nodes,List.all_cons,yj sp k]
theorem yj (sp:List Iv→Bool):∀l,dJ sp l=(bM l).all (formed sp)
 | []=>rfl
 | f::l=>by rw[dJ,bM,List.all_append,uh sp f,yj sp l]
end
mutual
theorem OO:∀f,(nodes f).length=size f
 | mk o n i k=>by rw[nodes,List.length_cons,Aa k,size]
theorem Aa:∀l,(bM l).length=sizes l
 | []=>rfl
 | f::l=>by rw[bM,List.length_append,OO f,Aa l,sizes]
end
def Pq (b:Bool):Int:=if b=true then 1 else 0
def fU (l:List Int):List UInt8:=Lib.uvarint l.length++l.flatMap encI
def dH (x:Iv):List Int:=[x.ln,x.ld,x.hn,x.hd,Pq x.lo,Pq x.ho,Pq x.li,Pq x.hi]
def abY:Fm→List UInt8
 | mk o n i k=>encI o++(encI n++(encI (i.length:Int)++(i.flatMap (fun x=>fU (dH x))++encI (k.length:Int))))
def enc (f:Fm):List UInt8:=(nodes f).flatMap abY
def valid (sp:List Iv→Bool) (f:Fm):Int:=if 96<size f∨8<deep f then 4 else if whole sp f=true then 0 else 1
end Fm
end PA
