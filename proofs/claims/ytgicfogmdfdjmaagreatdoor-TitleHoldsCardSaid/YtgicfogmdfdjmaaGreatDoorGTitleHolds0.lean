/- Part of a proof. -/
import Derived.WalkKit
import Derived.WalkSpells
import Derived.WalkLawsBesides
import Derived.ProofKit
import Derived.Lib.Hide
import Derived.Deep.RegionHeld3
import Derived.Lib.ConvBytes
import Derived.Lib.Varint
import Derived.Lib.Zigzag
import Derived.Lib.EndianBits
import Derived.Laws.Bits64
import Derived.Test.YtgicfogmdfdjmaaGreatDoorProg
import Derived.Deep.DeepCutAuto
import Derived.Test.YtgicfogmdfdjmaaGreatDoorRows
import Derived.Laws.StructEq
import Derived.Maps.RangeWalk
namespace PA
open Go Go.RowKit
theorem ah {p:Prop} (h:p):Hid p:=Lib.hid h
theorem aC {α:Type} (a:α):∃z,z=a:=⟨a,rfl⟩
theorem lsA {α:Type} (l:List α) (i:Nat) (a:α):l.toArray.setIfInBounds i a=(l.set i a).toArray:=List.setIfInBounds_toArray ..
theorem lsB {α:Type} {a b:α} {l:List α}:(a::l).set 0 b=b::l:=rfl
theorem bC {α:Type} {a b:α} {n:Nat} {l:List α}:(a::l).set (n+1) b=a::l.set n b:=rfl
theorem dI {α:Type} {l m:List α}:(l++m).length=l.length+m.length:=List.length_append
theorem lS {α β:Type} {f:α → β} {l m:List α}:(l++m).map f=l.map f++m.map f:=List.map_append
theorem D6 {α:Type} {l:List α} {i:Nat}:l.toArray[i]?=l[i]?:=List.getElem?_toArray ..
theorem D7 {α:Type} {a:α} {l:List α}:(a::l)[0]?=some a:=rfl
theorem D8 {α:Type} {a:α} {l:List α} {n:Nat}:(a::l)[n+1]?=l[n]?:=rfl
abbrev Mem:=Nat→Option Obj
def Mem.le (I J:Mem):Prop:=∀b o,I b=some o→J b=some o
def Mem.dj (x y:Mem):Prop:=∀b,x b=none∨y b=none
def Mem.un (x y:Mem):Mem:=fun b=>match x b with|some o=>some o|none=>y b
def Mem.no:Mem:=fun _=>none
theorem Mem.le_refl (I:Mem):Mem.le I I:=fun _ _ h=>h
theorem Mem.JH (x y z:Mem):Mem.un (Mem.un x y) z=Mem.un x (Mem.un y z):=by
 funext b;simp only[Mem.un];cases x b<;>rfl
theorem Mem.Xx (x y:Mem) (h:Mem.dj x y):Mem.un x y=Mem.un y x:=by
 funext b;simp only[Mem.un];rcases h b with h|h<;>rw[h]
 ·cases y b<;>rfl
 ·cases x b<;>rfl
theorem Mem.qP (x:Mem):Mem.un Mem.no x=x:=by funext b;simp[Mem.un,Mem.no]
theorem Mem.O5 {x y:Mem} {b:Nat} {o:Obj} (h:Mem.un x y b=some o):x b=some o∨y b=some o:=by
 simp only[Mem.un] at h;cases hx:x b with
 | some u=>rw[hx] at h;exact .inl h
 | none=>rw[hx] at h;exact .inr h
theorem Mem.un_l {x y:Mem} {b:Nat} {o:Obj} (h:x b=some o):Mem.un x y b=some o:=by simp[Mem.un,h]
theorem Mem.un_r {x y:Mem} {b:Nat} {o:Obj} (hd:Mem.dj x y) (h:y b=some o):Mem.un x y b=some o:=by
 rcases hd b with h'|h'
 ·simp[Mem.un,h',h]
 ·rw[h'] at h;cases h
structure aG where
 sat:Mem→Mem→Prop
 mono:∀{I J m:Mem},Mem.le I J→sat I m→sat J m
theorem aG.ext' {A B:aG} (h:∀I m,A.sat I m↔B.sat I m):A=B:=by
 cases A;cases B;congr;funext I m;exact propext (h I m)
def emp:aG:=⟨fun _ m=>m=Mem.no,fun _ h=>h⟩
def sep (A B:aG):aG:=⟨fun I m=>∃x y,Mem.dj x y∧m=Mem.un x y∧A.sat I x∧B.sat I y,
 fun hl ⟨x,y,h1,h2,h3,h4⟩=>⟨x,y,h1,h2,A.mono hl h3,B.mono hl h4⟩⟩
def fact (p:Prop):aG:=⟨fun _ m=>m=Mem.no∧p,fun _ h=>h⟩
def ex {α:Sort _} (A:α→aG):aG:=⟨fun I m=>∃x,(A x).sat I m,fun hl ⟨x,h⟩=>⟨x,(A x).mono hl h⟩⟩
def MS (p:Mem→Prop) (hp:∀I J,Mem.le I J→p I→p J):aG:=⟨fun I m=>m=Mem.no∧p I,fun hl ⟨h1,h2⟩=>⟨h1,hp _ _ hl h2⟩⟩
def blk (b:Nat) (o:Obj):aG:=⟨fun _ m=>m=fun x=>if x=b then some o else none,fun _ h=>h⟩
def Y0 (b:Nat) (o:Obj):aG:=MS (fun I=>I b=some o) fun _ _ hl h=>hl _ _ h
theorem ay (A B:aG):sep A B=sep B A:=aG.ext' fun I m=>by
 constructor<;>rintro⟨x,y,h1,h2,h3,h4⟩<;>exact⟨y,x,fun b=>(h1 b).symm,by rw[h2,Mem.Xx _ _ h1],h4,h3⟩
theorem aj (A B C:aG):sep (sep A B) C=sep A (sep B C):=aG.ext' fun I m=>by
 constructor
 ·rintro⟨x,z,h1,rfl,⟨x,y,h3,rfl,h4,h5⟩,h6⟩
  refine⟨x,Mem.un y z,fun b=>?_,Mem.JH _ _ _,h4,y,z,fun b=>?_,rfl,h5,h6⟩
  ·rcases h1 b with h|h
   ·simp only[Mem.un] at h;cases hx:x b with
    | some u=>rw[hx] at h;cases h
    | none=>exact .inl rfl
   ·rcases h3 b with h'|h'
    ·exact .inl h'
    ·exact .inr (by simp[Mem.un,h',h])
  ·rcases h1 b with h|h
   ·simp only[Mem.un] at h;cases hx:x b with
    | some u=>rw[hx] at h;cases h
    | none=>rw[hx] at h;exact .inl h
   ·exact .inr h
 ·rintro⟨x,m,h1,rfl,h4,y,z,h3,rfl,h5,h6⟩
  refine⟨Mem.un x y,z,fun b=>?_,(Mem.JH _ _ _).symm,⟨x,y,fun b=>?_,rfl,h4,h5⟩,h6⟩
  ·rcases h1 b with h|h
   ·rcases h3 b with h'|h'
    ·exact .inl (by simp[Mem.un,h,h'])
    ·exact .inr h'
   ·simp only[Mem.un] at h;cases hy:y b with
    | some u=>rw[hy] at h;cases h
    | none=>rw[hy] at h;exact .inr h
  ·rcases h1 b with h|h
   ·exact .inl h
   ·simp only[Mem.un] at h;cases hy:y b with
    | some u=>rw[hy] at h;cases h
    | none=>exact .inr rfl
theorem au (A B C:aG):sep A (sep B C)=sep B (sep A C):=by rw[←aj,ay A B,aj]
theorem bU (A:aG):sep emp A=A:=aG.ext' fun I m=>by
 constructor
 ·rintro⟨x,y,h1,rfl,rfl,h4⟩;rw[Mem.qP];exact h4
 ·intro h;exact⟨Mem.no,m,fun _=>.inl rfl,(Mem.qP _).symm,rfl,h⟩
theorem dA {α:Sort _} (A:α→aG) (B:aG):sep (ex A) B=ex fun x=>sep (A x) B:=aG.ext' fun I m=>by
 constructor
 ·rintro⟨x,y,h1,h2,⟨u,h3⟩,h4⟩;exact⟨u,x,y,h1,h2,h3,h4⟩
 ·rintro⟨u,x,y,h1,h2,h3,h4⟩;exact⟨x,y,h1,h2,⟨u,h3⟩,h4⟩
structure Sat (W w:World) (A:aG):Prop where
 os:w.os=W.os
 tape:w.tape=W.tape
 output:w.output=W.output
 has:∃I m:Mem,(∀b o,W.heap[b]?=some o→I b=some o)∧(∀b o,I b=some o→w.heap[b]?=some o)∧(∀b o,m b=some o→w.heap[b]?=some o∧I b=none)∧A.sat I m
theorem Sat.wk {W w:World} {A B:aG} (h:Sat W w A) (hi:∀I m,A.sat I m→B.sat I m):Sat W w B:=
 let ⟨h1,h2,h3,I,m,h4,h5,h6,h7⟩:=h
 ⟨h1,h2,h3,I,m,h4,h5,h6,hi _ _ h7⟩
theorem Sat.start (W:World):Sat W W emp:=
 ⟨rfl,rfl,rfl,fun b=>W.heap[b]?,Mem.no,fun _ _ h=>h,fun _ _ h=>h,fun _ _ h=>(by simp[Mem.no] at h),rfl⟩
theorem Sat.drew {W w:World} {A:aG} (h:Sat W w A):Sat W w.drew A:=let ⟨h1,h2,h3,h4⟩:=h;⟨h1,h2,h3,h4⟩
theorem Sat.alike {W w w':World} {A:aG} (h:Sat W w A) (h1:w'.heap=w.heap) (h2:w'.os=w.os) (h3:w'.tape=w.tape) (h4:w'.output=w.output):Sat W w' A:=
 ⟨h2.trans h.os,h3.trans h.tape,h4.trans h.output,by rw[h1];exact h.has⟩
theorem Sat.fact {W w:World} {p:Prop} {A:aG}:Sat W w (sep (fact p) A)↔p∧Sat W w A:=by
 constructor
 ·rintro⟨h1,h2,h3,I,m,h4,h5,h6,x,y,h7,rfl,⟨rfl,hp⟩,h9⟩
  exact⟨hp,h1,h2,h3,I,y,h4,h5,by simpa only[Mem.qP] using h6,h9⟩
 ·rintro⟨hp,h1,h2,h3,I,m,h4,h5,h6,h7⟩
  exact⟨h1,h2,h3,I,m,h4,h5,h6,Mem.no,m,fun _=>.inl rfl,(Mem.qP _).symm,⟨rfl,hp⟩,h7⟩
theorem Sat.ex {W w:World} {α:Sort _} {A:α→aG}:Sat W w (ex A)↔∃x,Sat W w (A x):=by
 constructor
 ·rintro⟨h1,h2,h3,I,m,h4,h5,h6,x,h7⟩;exact⟨x,h1,h2,h3,I,m,h4,h5,h6,h7⟩
 ·rintro⟨x,h1,h2,h3,I,m,h4,h5,h6,h7⟩;exact⟨h1,h2,h3,I,m,h4,h5,h6,x,h7⟩
theorem Sat.tail {W w:World} {p:Mem→Prop} {hp:∀I J,Mem.le I J→p I→p J} {A:aG} (h:Sat W w (sep (MS p hp) A)):Sat W w A:=
 h.wk fun I m ⟨x,y,_,e,⟨e1,_⟩,h4⟩=>by rw[e,e1,Mem.qP];exact h4
theorem Sat.EP {W w:World} {p:Mem→Prop} {hp:∀I J,Mem.le I J→p I→p J} {A:aG} (h:Sat W w (sep (MS p hp) A)):p fun b=>w.heap[b]?:=by
 obtain⟨_,_,_,I,m,h4,h5,h6,x,y,h7,rfl,⟨rfl,hq⟩,h9⟩:=h
 exact hp _ _ h5 hq
theorem Sat.below {W w:World} {A:aG} (h:Sat W w A):Below W.heap.size W w:=by
 obtain⟨h1,h2,h3,I,m,h4,h5,_,_⟩:=h
 have hb:∀b,b<W.heap.size→w.heap[b]?=W.heap[b]?:=fun b hb=>by
  rw[Array.getElem?_eq_getElem hb];exact h5 _ _ (h4 _ _ (Array.getElem?_eq_getElem hb))
 refine⟨h1,h2,h3,?_,hb⟩
 rcases Nat.eq_zero_or_pos W.heap.size with h0|h0
 ·omega
 ·have:=hb (W.heap.size-1) (by omega)
  rw[Array.getElem?_eq_getElem (show W.heap.size-1<W.heap.size by omega)] at this
  have:=(Array.getElem?_eq_some_iff.1 this).1
  omega
theorem Sat.aN {W w:World} {b:Nat} {o:Obj} {A:aG} (h:Sat W w (sep (blk b o) A)):w.heap[b]?=some o:=by
 obtain⟨_,_,_,I,m,h4,h5,h6,x,y,h7,rfl,rfl,h9⟩:=h
 exact (h6 b o (Mem.un_l (by simp))).1
theorem Sat.lt {W w:World} {b:Nat} {o:Obj} {A:aG} (h:Sat W w (sep (blk b o) A)):b<w.heap.size:=(Array.getElem?_eq_some_iff.1 h.aN).1
theorem Sat.settle {W w:World} {b:Nat} {o:Obj} {A:aG} (h:Sat W w (sep (blk b o) A)):Sat W w (sep (Y0 b o) A):=by
 obtain⟨h1,h2,h3,I,m,h4,h5,h6,x,y,h7,rfl,rfl,h9⟩:=h
 have hb:=h6 b o (Mem.un_l (by simp))
 have hle:Mem.le I (fun x=>if x=b then some o else I x):=fun c u hc=>by
  by_cases e:c=b
  ·subst e;rw[hb.2] at hc;cases hc
  ·simpa[e] using hc
 refine⟨h1,h2,h3,_,y,fun c u hc=>hle _ _ (h4 _ _ hc),?_,?_,Mem.no,y,fun _=>.inl rfl,(Mem.qP _).symm,⟨rfl,?_⟩,A.mono hle h9⟩
 ·intro c u hc
  by_cases e:c=b
  ·subst e;simp at hc;subst hc;exact hb.1
  ·simp[e] at hc;exact h5 _ _ hc
 ·intro c u hc
  have hcu:=h6 c u (Mem.un_r h7 hc)
  refine⟨hcu.1,?_⟩
  by_cases e:c=b
  ·subst e;rcases h7 c with h|h
   ·simp at h
   ·rw[h] at hc;cases hc
  ·simp[e,hcu.2]
 ·simp
theorem Sat.change {W w w':World} {g:Nat} {o o':Obj} {A:aG} (h:Sat W w (sep (blk g o) A)) (e1:w'.os=w.os) (e2:w'.tape=w.tape) (e3:w'.output=w.output)
 (hg:w'.heap[g]?=some o') (hk:∀k,k≠g→k<w.heap.size→w'.heap[k]?=w.heap[k]?):Sat W w' (sep (blk g o') A):=by
 obtain⟨h1,h2,h3,I,m,h4,h5,h6,x,y,h7,rfl,rfl,h9⟩:=h
 have hb:=h6 g o (Mem.un_l (by simp))
 have kept:∀k u,k≠g→w.heap[k]?=some u→w'.heap[k]?=some u:=fun k u hne hu=>(hk k hne (Array.getElem?_eq_some_iff.1 hu).1).trans hu
 refine⟨e1.trans h1,e2.trans h2,e3.trans h3,I,_,h4,?_,?_,fun x=>if x=g then some o' else none,y,?_,rfl,rfl,h9⟩
 ·intro c u hc
  refine kept c u (fun e=>?_) (h5 _ _ hc)
  subst e;rw[hb.2] at hc;cases hc
 ·intro c u hc
  rcases Mem.O5 hc with hc'|hc'
  ·by_cases e:c=g
   ·subst e;simp at hc';subst hc';exact⟨hg,hb.2⟩
   ·simp[e] at hc'
  ·have hcu:=h6 c u (Mem.un_r h7 hc')
   refine⟨kept c u (fun e=>?_) hcu.1,hcu.2⟩
   subst e;rcases h7 c with h|h
   ·simp at h
   ·rw[h] at hc';cases hc'
 ·intro c
  rcases h7 c with h|h
  ·by_cases e:c=g
   ·simp[e] at h
   ·exact .inl (by simp[e])
  ·exact .inr h
theorem Sat.grow {W w w':World} {g:Nat} {o:Obj} {A:aG} (h:Sat W w A) (e1:w'.os=w.os) (e2:w'.tape=w.tape) (e3:w'.output=w.output)
 (hg:w'.heap[g]?=some o) (hnew:w.heap.size≤g) (hk:∀k,k<w.heap.size→w'.heap[k]?=w.heap[k]?):Sat W w' (sep (blk g o) A):=by
 obtain⟨h1,h2,h3,I,m,h4,h5,h6,h9⟩:=h
 have kept:∀k u,w.heap[k]?=some u→w'.heap[k]?=some u:=fun k u hu=>(hk k (Array.getElem?_eq_some_iff.1 hu).1).trans hu
 have old:∀k u,w.heap[k]?=some u→k≠g:=fun k u hu e=>by have:=(Array.getElem?_eq_some_iff.1 hu).1;omega
 refine⟨e1.trans h1,e2.trans h2,e3.trans h3,I,_,h4,fun c u hc=>kept _ _ (h5 _ _ hc),?_,fun x=>if x=g then some o else none,m,?_,rfl,rfl,h9⟩
 ·intro c u hc
  rcases Mem.O5 hc with hc|hc
  ·by_cases e:c=g
   ·subst e;simp at hc;subst hc
    refine⟨hg,?_⟩
    cases hI:I c with
    | none=>rfl
    | some v=>exact absurd rfl (old _ _ (h5 _ _ hI))
   ·simp[e] at hc
  ·exact⟨kept _ _ (h6 _ _ hc).1,(h6 _ _ hc).2⟩
 ·intro c
  by_cases e:c=g
  ·subst e
   cases hm:m c with
   | none=>exact .inr rfl
   | some v=>exact absurd rfl (old _ _ (h6 _ _ hm).1)
  ·exact .inl (by simp[e])
theorem Sat.alloc {W w:World} {A:aG} (h:Sat W w A) (o:Obj):Sat W (w.alloc o) (sep (blk w.heap.size o) A):=
 h.grow rfl rfl rfl (heap_alloc_new w o) (Nat.le_refl _) (fun k hk=>by show (w.heap.push o)[k]?=w.heap[k]?;rw[Array.getElem?_push,if_neg (Nat.ne_of_lt hk)])
theorem Sat.forget {W w:World} {b:Nat} {o:Obj} {A:aG} (h:Sat W w (sep (blk b o) A)):Sat W w A:=h.settle.tail
theorem Sat.dD {W w:World} {A:aG} (h:Sat W w A) (o:Obj):Sat W (w.alloc o) A:=(h.alloc o).forget
theorem Sat.setCell {W w:World} {g:Nat} {cs:Array Value} {t:TypeId} {A:aG} (h:Sat W w (sep (blk g (.cells cs t (0,0))) A)) (i:Nat) (v:Value):
 Sat W (w.setCell ⟨g,i,none⟩ v) (sep (blk g (.cells (cs.setIfInBounds i v) t (0,0))) A):=
 h.change rfl rfl rfl (heap_setCell_same w g i cs t v h.aN) fun k hk _=>heap_setCell_other w _ k v hk
theorem Sat.cell {W w:World} {g:Nat} {cs:Array Value} {t:TypeId} {f:Nat×Nat} {A:aG} (h:Sat W w (sep (blk g (.cells cs t f)) A)) (i:Nat):w.cell? ⟨g,i,none⟩=cs[i]?:=
 cell_of_row w g i cs t f h.aN
theorem Sat.aI {W w:World} {g:Nat} {cs:Array Value} {t:TypeId} {A:aG} (h:Sat W w (sep (blk g (.cells cs t (0,0))) A)) (i:Nat):w.frozen? ⟨g,i,none⟩=false:=
 frozen_of_row w g i cs t h.aN
theorem Sat.drop {W w:World} {X A:aG} (h:Sat W w (sep X A)):Sat W w A:=by
 obtain⟨h1,h2,h3,I,m,h4,h5,h6,x,y,h7,rfl,_,h9⟩:=h
 exact⟨h1,h2,h3,I,y,h4,h5,fun b o hb=>h6 b o (Mem.un_r h7 hb),h9⟩
theorem Sat.SV {W w:World} {b c:Nat} {o u:Obj} {A:aG} (h:Sat W w (sep (blk b o) (sep (blk c u) A))):b≠c:=by
 obtain⟨_,_,_,I,m,h4,h5,h6,x,y,h7,rfl,rfl,x',y',h8,rfl,rfl,_⟩:=h
 intro e
 subst e
 rcases h7 b with h|h
 ·simp at h
 ·simp[Mem.un] at h
section
variable {W w:World} {A B C D E F G H J K L M N O:aG}
theorem Sat.p1 (h:Sat W w (sep A (sep B C))):Sat W w (sep B (sep A C)):=by rw[au];exact h
theorem Sat.q1 (h:Sat W w (sep B (sep A C))):Sat W w (sep A (sep B C)):=by rw[au];exact h
theorem Sat.p2 (h:Sat W w (sep A (sep B (sep C D)))):Sat W w (sep C (sep A (sep B D))):=by simpa only[ay,au,aj] using h
theorem Sat.q2 (h:Sat W w (sep C (sep A (sep B D)))):Sat W w (sep A (sep B (sep C D))):=by simpa only[ay,au,aj] using h
theorem Sat.p3 (h:Sat W w (sep A (sep B (sep C (sep D E))))):Sat W w (sep D (sep A (sep B (sep C E)))):=by simpa only[ay,au,aj] using h
theorem Sat.q3 (h:Sat W w (sep D (sep A (sep B (sep C E))))):Sat W w (sep A (sep B (sep C (sep D E)))):=by simpa only[ay,au,aj] using h
theorem Sat.p4 (h:Sat W w (sep A (sep B (sep C (sep D (sep E F)))))):Sat W w (sep E (sep A (sep B (sep C (sep D F))))):=by simpa only[ay,au,aj] using h
theorem Sat.q4 (h:Sat W w (sep E (sep A (sep B (sep C (sep D F)))))):Sat W w (sep A (sep B (sep C (sep D (sep E F))))):=by simpa only[ay,au,aj] using h
theorem Sat.p5 (h:Sat W w (sep A (sep B (sep C (sep D (sep E (sep F G))))))):Sat W w (sep F (sep A (sep B (sep C (sep D (sep E G)))))):=by simpa only[ay,au,aj] using h
theorem Sat.q5 (h:Sat W w (sep F (sep A (sep B (sep C (sep D (sep E G))))))):Sat W w (sep A (sep B (sep C (sep D (sep E (sep F G)))))):=by simpa only[ay,au,aj] using h
theorem Sat.p6 (h:Sat W w (sep A (sep B (sep C (sep D (sep E (sep F (sep G H)))))))):Sat W w (sep G (sep A (sep B (sep C (sep D (sep E (sep F H))))))):=by simpa only[ay,au,aj] using h
theorem Sat.q6 (h:Sat W w (sep G (sep A (sep B (sep C (sep D (sep E (sep F H)))))))):Sat W w (sep A (sep B (sep C (sep D (sep E (sep F (sep G H))))))):=by simpa only[ay,au,aj] using h
theorem Sat.q7 (h:Sat W w (sep H (sep A (sep B (sep C (sep D (sep E (sep F (sep G J))))))))):Sat W w (sep A (sep B (sep C (sep D (sep E (sep F (sep G (sep H J)))))))):=by simpa only[ay,au,aj] using h
theorem Sat.q8 (h:Sat W w (sep J (sep A (sep B (sep C (sep D (sep E (sep F (sep G (sep H K)))))))))):Sat W w (sep A (sep B (sep C (sep D (sep E (sep F (sep G (sep H (sep J K))))))))):=by simpa only[ay,au,aj] using h
end
end PA
namespace PA
open Go Go.RowKit
def bP (a:Option Addr) (xs:List Value) (I:Mem):Prop:=
 xs=[]∨∃b o cs t f,a=some ⟨b,o,none⟩∧I b=some (.cells cs t f)∧∀i u,xs[i]?=some u→cs[o+i]?=some u
def SG (a:Option Addr) (xs:List Value):aG:=MS (bP a xs) fun I J hl h=>by
 rcases h with h|⟨b,o,cs,t,f,h1,h2,h3⟩
 ·exact .inl h
 ·exact .inr ⟨b,o,cs,t,f,h1,hl _ _ h2,h3⟩
theorem Sat.Xy {W w:World} {A:aG} (h:Sat W w A) (a:Option Addr):Sat W w (sep (SG a []) A):=by
 obtain⟨h1,h2,h3,I,m,h4,h5,h6,h7⟩:=h
 exact⟨h1,h2,h3,I,m,h4,h5,h6,Mem.no,m,fun _=>.inl rfl,(Mem.qP _).symm,⟨rfl,.inl rfl⟩,h7⟩
theorem Sat.rsl_at {W w:World} {A:aG} {a:Option Addr} {xs:List Value} (h:Sat W w (sep (SG a xs) A)) (hne:xs≠[]):
 ∃b o,a=some ⟨b,o,none⟩∧∀i u,xs[i]?=some u→w.cell? ⟨b,o+i,none⟩=some u:=by
 rcases h.EP with h|⟨b,o,cs,t,f,h1,h2,h3⟩
 ·exact absurd h hne
 ·exact⟨b,o,h1,fun i u hu=>by rw[cell_of_row w b (o+i) cs t f h2];exact h3 i u hu⟩
theorem Sat.zQ {W w:World} {A:aG} {b:Addr} {xs:List Value} (h:Sat W w (sep (SG (some b) xs) A)):∀i u,xs[i]?=some u→w.cell? (b.add i)=some u:=by
 intro i u hu
 obtain⟨c,o,e,hc⟩:=h.rsl_at (fun e=>by rw[e] at hu;simp at hu)
 cases e
 have:=hc i u hu
 unfold Addr.add
 split
 ·rename_i e;subst e;simpa using this
 ·exact this
def aK (E k:Nat) (a:Option Addr) (n c:Nat) (xs:List Value):aG:=
 ex fun s:Option (Nat×Array Value)=>match s with
  | none=>fact (a=none∧n=0∧c=0∧xs=[])
  | some (g,cur)=>sep (fact (a=some ⟨g,0,none⟩∧xs.length=n*k∧n≤c∧c≤maxLen∧cur.size=c*k∧cur.toList.take (n*k)=xs)) (blk g (.cells cur E (0,0)))
section
variable {W w:World} {A:aG} {E k:Nat} {a:Option Addr} {n c:Nat} {xs:List Value}
theorem Sat.dL (h:Sat W w (sep (aK E k a n c xs) A)):
 (a=none∧n=0∧c=0∧xs=[]∧Sat W w A) ∨
 ∃g cur,a=some ⟨g,0,none⟩∧xs.length=n*k∧n≤c∧c≤maxLen∧cur.size=c*k∧cur.toList.take (n*k)=xs∧Sat W w (sep (blk g (.cells cur E (0,0))) A):=by
 rw[aK,dA,Sat.ex] at h
 obtain⟨s,h⟩:=h
 cases s with
 | none=>
  have h':=Sat.fact.1 h
  exact .inl ⟨h'.1.1,h'.1.2.1,h'.1.2.2.1,h'.1.2.2.2,h'.2⟩
 | some s=>
  obtain⟨g,cur⟩:=s
  simp only[aj] at h
  obtain⟨⟨h1,h2,h3,h4,h5,h6⟩,h7⟩:=Sat.fact.1 h
  exact .inr ⟨g,cur,h1,h2,h3,h4,h5,h6,h7⟩
theorem Sat.cZ (h:Sat W w A) (E k:Nat):Sat W w (sep (aK E k none 0 0 []) A):=by
 rw[aK,dA,Sat.ex]
 exact⟨none,Sat.fact.2 ⟨⟨rfl,rfl,rfl,rfl⟩,h⟩⟩
theorem Sat.lI {g:Nat} {cur:Array Value} (h:Sat W w (sep (blk g (.cells cur E (0,0))) A)) (n c k:Nat) (xs:List Value) (h2:xs.length=n*k) (h3:n≤c) (h4:c≤maxLen) (h5:cur.size=c*k) (h6:cur.toList.take (n*k)=xs):
 Sat W w (sep (aK E k (some ⟨g,0,none⟩) n c xs) A):=by
 rw[aK,dA,Sat.ex]
 refine⟨some (g,cur),?_⟩
 rw[aj]
 exact Sat.fact.2 ⟨⟨rfl,h2,h3,h4,h5,h6⟩,h⟩
theorem Sat.zW (h:Sat W w (sep (aK E k a n c xs) A)):xs.length=n*k∧n≤c∧c≤maxLen:=by
 rcases h.dL with ⟨_,rfl,rfl,rfl,_⟩|⟨g,cur,_,h1,h2,h3,_⟩
 ·simp
 ·exact⟨h1,h2,h3⟩
theorem Sat.kD (h:Sat W w (sep (aK E k a n c xs) A)) (hne:xs≠[]):
 ∃g,a=some ⟨g,0,none⟩∧∀i u,xs[i]?=some u→w.cell? ⟨g,i,none⟩=some u:=by
 rcases h.dL with ⟨_,rfl,rfl,rfl,_⟩|⟨g,cur,rfl,h1,h2,h3,h4,h5,h6⟩
 ·exact absurd rfl hne
 ·refine⟨g,rfl,fun i u hu=>?_⟩
  rw[h6.cell i]
  rw[←h5,List.getElem?_take] at hu
  split at hu
  ·simpa using hu
  ·cases hu
theorem Sat.dQ (h:Sat W w (sep (aK E k a n c xs) A)):Sat W w (sep (SG a xs) A):=by
 rcases h.dL with ⟨rfl,rfl,rfl,rfl,h'⟩|⟨g,cur,rfl,h1,h2,h3,h4,h5,h6⟩
 ·exact h'.Xy _
 ·refine h6.settle.wk ?_
  rintro I m ⟨x,y,h7,h8,⟨h9,h10⟩,h11⟩
  refine⟨x,y,h7,h8,⟨h9,.inr ⟨g,0,cur,E,(0,0),rfl,h10,fun i u hu=>?_⟩⟩,h11⟩
  rw[←h5,List.getElem?_take] at hu
  split at hu
  ·simpa using hu
  ·cases hu
theorem Sat.cO (h:Sat W w (sep (aK E k a n c xs) A)):Sat W w A:=h.dQ.tail
end
section
variable {P:Program} {W w:World} {A:aG}
theorem wB (w:World) (g j:Nat) (cs:Array Value) (h:j≠g):(w.setRow g cs).heap[j]?=w.heap[j]?:=by
 simp only[World.setRow,Array.getElem?_modify]
 rw[if_neg (fun e=>h e.symm)]
theorem Sat.setRow {g:Nat} {cur:Array Value} {t:TypeId} (h:Sat W w (sep (blk g (.cells cur t (0,0))) A)) (cs:Array Value):Sat W (w.setRow g cs) (sep (blk g (.cells cs t (0,0))) A):=
 h.change rfl rfl rfl (setRow_heap w g cur cs t (0,0) h.aN) fun k hk _=>wB w g k cs hk
theorem qw (z:Array Value) (n:Nat):(Builtin.zeroCells z n).size=n*z.size:=by simp[Builtin.zeroCells]
theorem yV (w:World) (need old:Nat) (e:TypeId) (h:need≤maxLen):need≤grownCap w need old e∧grownCap w need old e≤maxLen:=
 ⟨grownCap_ge w need old e,grownCap_le_maxLen w need old e h⟩
theorem mV (t ty E k IQ:Nat) (i:TypeInfo) (z:Value) (ht:P.underlying t=some (.slice E)) (hi:P.info? E=some i) (hz:i.zero=some z)
 (hk:i.size=k) (hb:i.bytes=IQ) (hzs:z.cells.size=k) {a:Option Addr} {n c:Nat} {xs:List Value} (h:Sat W w (sep (aK E k a n c xs) A))
 (x:Option Addr) (m cc:Nat) (news:List Value) (hl:news.length=m*k) (hx0:x=none→m=0) (hx:∀b,x=some b→∀j u,news[j]?=some u→w.cell? (b.add j)=some u)
 (h1:∀u∈news,u.oneCell'=true) (h63:n+m≤maxLen) (hby:(n+m)*IQ≤140737488355328):
 ∃a' c' w',(Builtin.append_ #[t,t] ty #[.slice a n c,.slice x m cc]).run P w=.ok (.slice a' (n+m) c') w'∧Sat W w' (sep (aK E k a' (n+m) c' (xs++news)) A):=by
 subst hk
 subst hb
 have hsmall:n+m≤9223372036854775807:=by simp only[maxLen] at h63;omega
 by_cases hm:m=0
 ·subst hm
  have hnews:news=[]:=List.eq_nil_of_length_eq_zero (by simpa using hl)
  subst hnews
  have hnc:=h.zW.2.1
  refine⟨a,c,w,?_,by simpa using h⟩
  cases x<;>cases a<;>simp[Builtin.append_,run_underlying ht,Go.sizeOf,typeInfo,hi,Builtin.lenOf,hnc,Builtin.firstCells,loadCells,loadCellsFrom,storeCells]
 ·obtain⟨b,rfl⟩:∃b,x=some b:=by
   cases x with
   | none=>exact absurd (hx0 rfl) hm
   | some b=>exact⟨b,rfl⟩
  have hsrc:=hx b rfl
  have fits:∀old,old<n+m→Builtin.nextslicecap (n+m) old*i.bytes≤281474976710656:=fun old ho=>growslice_fits ho hby
  rcases h.dL with ⟨rfl,rfl,rfl,rfl,h0⟩|⟨g,cur,rfl,hlen,hnc,hcm,hcs,htake,hS⟩
  ·have hrun:=run_append_nil (P:=P) w t ty E i z ht hi hz b m cc news hl hsrc (by omega) (by omega) (by have:=fits 0 (by omega);rw[Nat.zero_add,nextslicecap_zero (by omega)] at this;exact this)
   have hcap:=yV w m 0 E (by omega)
   refine⟨_,_,_,by rw[Nat.zero_add];exact hrun,?_⟩
   refine ((h0.drew.alloc _).lI (0+m) _ i.size ([]++news) (by simpa using hl) (by omega) hcap.2 ?_ ?_)
   ·simp only[Array.size_append,List.size_toArray,qw,hzs,hl]
    rw[←Nat.add_mul];congr 1;omega
   ·simp[←hl]
  ·by_cases hroom:n+m≤c
   ·have hfit:n*i.size+news.length≤cur.size:=by rw[hl,hcs,←Nat.add_mul];exact Nat.mul_le_mul_right _ hroom
    have hrun:=run_append_room (P:=P) w t ty E i ht hi g n c cur hS.aN b m cc news hl hsrc h1 hroom hfit
    refine⟨_,_,_,hrun,(hS.setRow _).lI (n+m) c i.size (xs++news) (by rw[dI,hlen,hl,Nat.add_mul]) hroom hcm ?_ ?_⟩
    ·have:n*i.size≤cur.size:=by omega
     simp only[List.size_toArray,dI,List.length_take,List.length_drop,Array.length_toList]
     rw[←hcs];omega
    ·rw[htake,List.take_append_of_le_length (by rw[dI,hlen,hl,Nat.add_mul];omega),List.take_of_length_le (by rw[dI,hlen,hl,Nat.add_mul];omega)]
   ·have hrun:=run_append_grow (P:=P) w t ty E i z ht hi hz ⟨g,0,none⟩ n c xs hlen (fun j u hu=>by
     obtain⟨g',e,hc⟩:=h.kD (fun e=>by rw[e] at hu;simp at hu)
     cases e
     have:=hc j u hu
     unfold Addr.add
     split
     ·rename_i e;subst e;exact this
     ·simpa using this) b m cc news hl hsrc (by omega) (by omega) (fits c (by omega))
    have hcap:=yV w (n+m) c E h63
    refine⟨_,_,_,hrun,((hS.forget.drew).alloc _).lI (n+m) _ i.size (xs++news) (by rw[dI,hlen,hl,Nat.add_mul]) hcap.1 hcap.2 ?_ ?_⟩
    ·simp only[Array.size_append,List.size_toArray,qw,hzs,hl,hlen]
     rw[←Nat.add_mul,←Nat.add_mul];congr 1;omega
    ·have:xs.length+news.length=(n+m)*i.size:=by rw[hlen,hl,Nat.add_mul]
     rw[←this,←dI];simp only[Array.toList_append,List.append_toArray,List.take_left]
theorem Qp {o:Oper} {a:Act} {w w':World} {K:Act→World→Prop} {Q:Exit→Act→World→Prop} {v:Value} (h:(execOp a.eval o).run P w=.ok (.value v) w') (hK:K (a.put o.dst v) w'):o.wp P a w K Q:=by
 simp only[Oper.wp,h,Oper.upon];exact hK
theorem rH {a:Act} {o:Oper} (s x:Operand) (t t2:TypeId) (ho:o.op=.call { callee:=.builtin .append,args:=#[s,x],argTypes:=#[t,t2] }) {v:Value} {w':World}
 (hr:(Builtin.append_ #[t,t2] o.type #[a.eval s,a.eval x]).run P w=.ok v w'):(execOp a.eval o).run P w=.ok (.value v) w':=by
 simp[execOp,ho,resolve,invoke,builtin,hr]
theorem fO {o:Oper} {ac:Act} {K:Act→World→Prop} {Q:Exit→Act→World→Prop} (s y:Operand) (t:TypeId)
 (ho:o.op=.call { callee:=.builtin .append,args:=#[s,y],argTypes:=#[t,t] })
 (E k IQ:Nat) (z:Value) (ht:P.underlying t=some (.slice E)) (hi:(P.info? E).map (fun i=>(i.zero,i.size,i.bytes))=some (some z,k,IQ)) (hzs:z.cells.size=k)
 {a:Option Addr} {n c:Nat} {xs:List Value} (hs:ac.eval s=.slice a n c) (h:Sat W w (sep (aK E k a n c xs) A))
 {x:Option Addr} {m cc:Nat} (hy:ac.eval y=.slice x m cc) (news:List Value) (hl:news.length=m*k) (hx0:x=none→m=0) (hx:∀b,x=some b→∀j u,news[j]?=some u→w.cell? (b.add j)=some u)
 (h1:∀u∈news,u.oneCell'=true) (hby:(n+m)*IQ≤140737488355328) (h63:n+m≤maxLen)
 (hK:∀a' c' w',Sat W w' (sep (aK E k a' (n+m) c' (xs++news)) A)→K (ac.put o.dst (.slice a' (n+m) c')) w'):o.wp P ac w K Q:=by
 obtain⟨i,hi1,hi2,hi3,hi4⟩:=info_parts hi
 obtain⟨a',c',w',hr,hS⟩:=mV t o.type E k IQ i z ht hi1 hi2 hi3 hi4 hzs h x m cc news hl hx0 hx h1 h63 hby
 exact Qp (rH s y t t ho (by rw[hs,hy];exact hr)) (hK _ _ _ hS)
theorem aJ {ops:Array Oper} {rest:List Oper} {o:Oper} {ac:Act} {Q:Exit→Act→World→Prop} (hgd:o.guard=none) (s y:Operand) (t:TypeId)
 (ho:o.op=.call { callee:=.builtin .append,args:=#[s,y],argTypes:=#[t,t] })
 (E k IQ:Nat) (z:Value) (ht:P.underlying t=some (.slice E)) (hi:(P.info? E).map (fun i=>(i.zero,i.size,i.bytes))=some (some z,k,IQ)) (hzs:z.cells.size=k)
 {a:Option Addr} {n c:Nat} {xs:List Value} (hs:ac.eval s=.slice a n c) (h:Sat W w (sep (aK E k a n c xs) A))
 {x:Option Addr} {m cc:Nat} (hy:ac.eval y=.slice x m cc) (news:List Value) (hl:news.length=m*k) (hx0:x=none→m=0) (hx:∀b,x=some b→∀j u,news[j]?=some u→w.cell? (b.add j)=some u)
 (h1:∀u∈news,u.oneCell'=true) (hby:(n+m)*IQ≤140737488355328) (h63:n+m≤maxLen)
 (hK:∀a' c' w',Sat W w' (sep (aK E k a' (n+m) c' (xs++news)) A)→wpList P ops Q rest (ac.put o.dst (.slice a' (n+m) c')) w'):wpList P ops Q (o::rest) ac w:=
 wpList_plain hgd fun _ hk=>fO s y t ho E k IQ z ht hi hzs hs h hy news hl hx0 hx h1 hby h63 fun a' c' w' h'=>hk _ _ (hK a' c' w' h')
end
end PA
namespace PA
open Go Go.RowKit
abbrev Kd:=Sum Bool (Option Bool)
abbrev Kd.e (b:Bool):Kd:=Sum.inl b
abbrev Kd.p:Kd:=Sum.inr none
abbrev Kd.s:Kd:=Sum.inr (some true)
abbrev Kd.t:Kd:=Sum.inr (some false)
def Kd.eff:Kd→Bool|.inl _=>true|.inr _=>false
def Qg (P:Program) (ops:Array Oper) (o:Oper) (v:Value) (a:Act) (w:World):Prop:=
 (Region.wanted o (yielded ops a.tmps)=true∧(execOp a.eval o).run P w=.ok (.value v) w) ∨
 (Region.wanted o (yielded ops a.tmps)=false∧v=undef)
def Alk (ops:Array Oper) (o:Oper) (a b:Act):Prop:=execOp b.eval o=execOp a.eval o∧Region.wanted o (yielded ops b.tmps)=Region.wanted o (yielded ops a.tmps)
section
variable {P:Program} {ops:Array Oper} {Q:Exit→Act→World→Prop} {S:World→Prop}
theorem Qg.alk {o:Oper} {v:Value} {a b:Act} {w:World} (h:Qg P ops o v a w) (hk:Alk ops o a b):Qg P ops o v b w:=by
 unfold Qg at *;rw[hk.1,hk.2];exact h
theorem Qg.wpOp {i:Nat} {o:Oper} {v:Value} {a:Act} {w:World} (hi:ops[i]?=some o) (hy:Qg P ops o v a w) {K:Act→World→Prop} (h:K (a.put o.dst v) w):wpOp P ops Q i K a w:=by
 unfold Go.wpOp
 simp only[hi]
 rcases hy with ⟨hw,hv⟩|⟨hw,rfl⟩
 ·simp only[hw,if_true,Oper.wp,hv,Oper.upon];exact .inl h
 ·simp only[hw,Bool.false_eq_true,if_false];exact h
theorem ER {j:Nat} {oi oj:Oper} {v:Value} (hj:ops[j]?=some oj) (hap:oi.apart ops oj=true)
 (hsi:∀cs b,oi.op≠.select cs b) (hsj:∀cs b,oj.op≠.select cs b)
 (hQ:∀c a d v w,Q (.panic c) (a.put d v) w→Q (.panic c) a w) {K:Act→World→Prop} {a:Act} {w:World}
 (h:wpOp P ops Q j K (a.put oi.dst v) w):
 wpOp P ops Q j (fun a' w'=>Alk ops oi a a'∧K (a'.put oi.dst v) w') a w:=by
 obtain⟨h1,h2,h3⟩:=Oper.apart_spec hap
 have keep:∀u,Alk ops oi a (a.put oj.dst u):=fun u=>⟨execOp_put oi hsi a oj.dst u h3,wanted_put oi a oj.dst u h3⟩
 unfold wpOp at *
 simp only[hj] at *
 rw[wanted_put oj a oi.dst v h1] at h
 split
 ·rename_i hw
  simp only[hw,if_true] at h
  rcases h with h|⟨hasks,hlets⟩
  case inr=>exact .inr ⟨by unfold Oper.asks at *;rw[execOp_put oj hsj a oi.dst v h1] at hasks;exact hasks,hlets⟩
  refine .inl ?_
  unfold Oper.wp at *
  rw[execOp_put oj hsj a oi.dst v h1] at h
  generalize (execOp a.eval oj).run P w=r at *
  cases r with
  | ok n w'=>
   cases n<;>simp only[Oper.upon] at h ⊢
   case value u=>exact⟨keep u,by rw[←Act.put_comm a v u h2];exact h⟩
   case skip=>exact⟨keep _,by rw[←Act.put_comm a v undef h2];exact h⟩
   case defer d=>
    refine⟨⟨execOp_put oi hsi { a with defers:=d::a.defers } oj.dst undef h3,wanted_put oi { a with defers:=d::a.defers } oj.dst undef h3⟩,?_⟩
    rw[←Act.put_comm _ v undef h2,←Act.put_defers]
    exact h
   case enter f args=>
    refine Calls.mono h fun e w'' he=>?_
    cases e with
    | returned u=>exact⟨keep u,by rw[←Act.put_comm a v u h2];exact he⟩
    | panicked c=>exact hQ _ _ _ _ _ he
    | outgrown=>exact he
   case row row args=>exact Rows.mono h fun u w'' he=>⟨keep u,by rw[←Act.put_comm a v u h2];exact he⟩
  | halt x w'=>
   cases x<;>simp only[Oper.upon] at h ⊢
   case panic u=>exact hQ _ _ _ _ _ h
 ·rename_i hw
  simp only[hw] at h
  exact⟨keep _,by rw[←Act.put_comm a v undef h2];exact h⟩
def wpC (P:Program) (ops:Array Oper) (Q:Exit→Act→World→Prop) (S:World→Prop):List (Nat×Kd)→Act→World→Prop
 | [],a,w=>Q .normal a w
 | (i,k)::l,a,w=>∃o,ops[i]?=some o∧match k with
  | .inr none=>∃v,(∀w',Qg P ops o v a w')∧wpC P ops Q S l (a.put o.dst v) w
  | .inr (some true)=>S w∧∃v,(∀w',S w'→Qg P ops o v a w')∧wpC P ops Q S l (a.put o.dst v) w
  | .inr (some false)=>∃v,Qg P ops o v a w∧wpC P ops Q S l (a.put o.dst v) w
  | .inl b=>wpOp P ops Q i (fun a' w'=>(b=true→S w')∧wpC P ops Q S l a' w') a w
def jQ (ops:Array Oper) (j r:Nat):Bool:=match ops[j]? with|some o=>o.after.any fun e=>Region.binds .any e&&e.on==r|none=>false
def dH (ops:Array Oper) (bf:Array Nat) (x y:Nat×Kd):Bool:=
 !jQ ops x.1 y.1&&((bf.getD y.1 0).testBit x.1 ||
  (!x.2.eff&&(match ops[x.1]?,ops[y.1]? with|some o,some u=>o.apart ops u|_,_=>false) &&
   (match x.2,y.2 with|.inr (some false),.inl _=>false|.inr (some true),.inl b=>b|_,_=>true)))
def yS (ops:Array Oper) (bf:Array Nat):List (Nat×Kd)→Bool
 | []=>true
 | x::l=>l.all (dH ops bf x)&&!jQ ops x.1 x.1&&yS ops bf l
def ES (ops:Array Oper):Bool:=ops.all fun o=>match o.op with|.select ..=>false|_=>true
def jU (ops:Array Oper) (bf:Array Nat):Bool:=
 (List.range ops.size).all fun j=>(List.range ops.size).all fun r=>!(bf.getD j 0).testBit r||jQ ops j r||(List.range ops.size).any fun d=>jQ ops j d&&(bf.getD d 0).testBit r
def nodupB:List Nat→Bool
 | []=>true
 | x::l=>!l.contains x&&nodupB l
theorem pO:∀(l:List Nat),nodupB l=true→l.Nodup
 | [],_=>List.nodup_nil
 | x::l,h=>by
  simp only[nodupB,Bool.and_eq_true,Bool.not_eq_true'] at h
  exact List.nodup_cons.2 ⟨by simpa using h.1,pO l h.2⟩
def OX (ops:Array Oper) (bf:Array Nat) (l:List (Nat×Kd)):Bool:=
 yS ops bf l&&ES ops&&jU ops bf&&(l.map (·.1)).length==ops.size&&nodupB (l.map (·.1))&&(l.map (·.1)).all (fun i=>decide (i<ops.size))&&(List.range ops.size).all (fun i=>(l.map (·.1)).contains i) &&
 ops.all (fun o=>o.after.all fun e=>!Region.binds .any e||decide (e.on<ops.size))
theorem pull {j:Nat} {kj:Kd} {bf:Array Nat} (hsel:∀(j:Nat) (o:Oper) cs b,ops[j]?=some o→o.op≠.select cs b) (hQ:∀c a d v w,Q (.panic c) (a.put d v) w→Q (.panic c) a w) (l2:List (Nat×Kd)):
 ∀(l1:List (Nat×Kd)),(∀x∈l1,dH ops bf x (j,kj)=true∧(bf.getD j 0).testBit x.1=false)→∀(a:Act) (w:World),wpC P ops Q S (l1++(j,kj)::l2) a w →
  wpOp P ops Q j (fun a' w'=>wpC P ops Q S (l1++l2) a' w'∧(kj=.e true→S w')∧(kj.eff=false→w'=w)) a w
 | [],_,a,w,h=>by
  obtain⟨o,ho,h⟩:=h
  rcases kj with b|_|_|_
  case inr.none=>obtain⟨v,hy,h⟩:=h;exact (hy w).wpOp ho ⟨h,fun h=>(by cases h),fun _=>rfl⟩
  case inr.some.true=>obtain⟨hS,v,hy,h⟩:=h;exact (hy w hS).wpOp ho ⟨h,fun h=>(by cases h),fun _=>rfl⟩
  case inr.some.false=>obtain⟨v,hy,h⟩:=h;exact hy.wpOp ho ⟨h,fun h=>(by cases h),fun _=>rfl⟩
  case inl=>exact wpOp_mono (fun a' w' ⟨h1,h2⟩=>⟨h2,fun hb=>h1 (by cases hb;rfl),fun hb=>(by simp[Kd.eff] at hb)⟩) h
 | (r,kr)::l1,hl,a,w,h=>by
  obtain⟨o,ho,h⟩:=h
  obtain⟨hp,hnd⟩:=hl (r,kr) (by simp)
  simp only[dH,hnd,Bool.false_or,Bool.and_eq_true,ho] at hp
  obtain⟨_,⟨hne,hap⟩,hk⟩:=hp
  cases hj:ops[j]? with
  | none=>simp[hj] at hap
  | some oj=>
   simp only[hj] at hap
   have ih:=pull hsel hQ l2 l1 (fun x hx=>hl x (by simp[hx]))
   have go:∀(v:Value),wpC P ops Q S (l1++(j,kj)::l2) (a.put o.dst v) w →
    wpOp P ops Q j (fun a' w'=>Alk ops o a a'∧wpC P ops Q S (l1++l2) (a'.put o.dst v) w'∧(kj=.e true→S w')∧(kj.eff=false→w'=w)) a w:=fun v hv=>
    ER hj hap (fun cs b=>hsel r o cs b ho) (fun cs b=>hsel j oj cs b hj) hQ (ih _ _ hv)
   rcases kr with b|_|_|_
   case inr.none=>
    obtain⟨v,hy,h⟩:=h
    exact wpOp_mono (fun a' w' ⟨h1,h2,h3,h4⟩=>⟨⟨o,ho,v,fun w'=>(hy w').alk h1,h2⟩,h3,h4⟩) (go v h)
   case inr.some.true=>
    obtain⟨hS,v,hy,h⟩:=h
    refine wpOp_mono (fun a' w' ⟨h1,h2,h3,h4⟩=>⟨⟨o,ho,?_,v,fun w' hw'=>(hy w' hw').alk h1,h2⟩,h3,h4⟩) (go v h)
    rcases kj with b|_
    ·exact h3 (by simp at hk;rw[hk])
    ·rw[h4 rfl];exact hS
   case inr.some.false=>
    obtain⟨v,hy,h⟩:=h
    refine wpOp_mono (fun a' w' ⟨h1,h2,h3,h4⟩=>⟨⟨o,ho,v,?_,h2⟩,h3,h4⟩) (go v h)
    rcases kj with b|_
    ·simp at hk
    ·rw[h4 rfl];exact hy.alk h1
   case inl=>simp[Kd.eff] at hne
theorem getD_set_ne (l:Array Bool) (i j:Nat) (x y:Bool) (h:i≠j):(l.setIfInBounds j x).getD i y=l.getD i y:=by
 rw[Array.getD_eq_getD_getElem?,Array.getD_eq_getD_getElem?,Array.getElem?_setIfInBounds_ne (Ne.symm h)]
structure InvC (ops:Array Oper) (bf:Array Nat) (listed:Array Bool) (l:List (Nat×Kd)):Prop where
 size:listed.size=ops.size
 mem:∀i,i∈l.map (·.1)↔i<ops.size∧listed.getD i true=false
 nodup:(l.map (·.1)).Nodup
 pair:l.Pairwise fun x y=>dH ops bf x y=true
 self:∀x∈l,jQ ops x.1 x.1=false
 closed:∀d r,r<ops.size→listed.getD d false=true→(bf.getD d 0).testBit r=true→listed.getD r false=true
theorem TK {bf:Array Nat} (hsel:∀(j:Nat) (o:Oper) cs b,ops[j]?=some o→o.op≠.select cs b) (hQ:∀c a d v w,Q (.panic c) (a.put d v) w→Q (.panic c) a w)
 (hbf:jU ops bf=true) (hon:∀(j:Nat) (o:Oper),ops[j]?=some o→∀e∈o.after,Region.binds .any e=true→e.on<ops.size):
 ∀(n:Nat) (l:List (Nat×Kd)) (listed:Array Bool),l.length=n→InvC ops bf listed l→∀(a:Act) (w:World),wpC P ops Q S l a w→wpAny P .any ops Q n listed a w:=by
 have Jq:∀(listed:Array Bool) (i:Nat),listed.size=ops.size→i<ops.size→(listed.getD i false=true↔¬listed.getD i true=false):=fun listed i hs hi=>by
  simp[Array.getD,hs,hi]
 have nil:∀(listed:Array Bool),InvC ops bf listed []→Region.ready .any ops listed=[]:=fun listed hI=>by
  simp only[Region.ready,List.filter_eq_nil_iff,List.mem_range]
  intro i hi
  have h':¬listed.getD i true=false:=fun hh=>by have:=(hI.mem i).2 ⟨hi,hh⟩;simp at this
  have h'':listed.getD i true=true:=by simpa using h'
  simp[h'']
 intro n
 induction n with
 | zero=>
  intro l listed hn hI a w h
  obtain rfl:=List.eq_nil_of_length_eq_zero hn
  exact⟨nil _ hI,h⟩
 | succ n ih=>
  intro l listed hn hI a w h
  refine⟨fun hr=>?_,fun j hj=>?_⟩
  ·match l,hn with
   | x::l,_=>
    exfalso
    have hx:=(hI.mem x.1).1 (by simp)
    obtain⟨o,ho,_⟩:=h
    have hmem:x.1∈Region.ready .any ops listed:=by
     simp only[Region.ready,List.mem_filter,List.mem_range]
     refine⟨hx.1,?_⟩
     have:listed.getD x.1 true=false:=hx.2
     simp only[this,Bool.not_false,Bool.true_and,ho,Option.map_some,Option.getD_some]
     rw[Array.all_eq_true]
     intro k hk
     have hmem:=Array.getElem_mem hk
     by_cases hb:Region.binds .any o.after[k]=true
     ·have hlt:=hon x.1 o ho _ hmem hb
      have AX:jQ ops x.1 o.after[k].on=true:=by
       simp only[jQ,ho,Array.any_eq_true]
       exact⟨k,hk,by simp[hb]⟩
      have hnot:o.after[k].on∉(x::l).map (·.1):=by
       intro hm
       simp only[List.map_cons,List.mem_cons,List.mem_map] at hm
       rcases hm with hm|⟨y,hy,hm⟩
       ·have:=hI.self x (by simp)
        rw[←hm] at this
        rw[←hm] at AX
        rw[AX] at this;cases this
       ·have:=(List.pairwise_cons.1 hI.pair).1 y hy
        simp only[dH,Bool.and_eq_true,Bool.not_eq_true',hm,AX] at this
        exact absurd this.1 (by simp)
      have h2:¬listed.getD o.after[k].on true=false:=fun e=>hnot ((hI.mem _).2 ⟨hlt,e⟩)
      have:=(Jq listed _ hI.size hlt).2 h2
      simp[this]
     ·simp[hb]
    rw[hr] at hmem;cases hmem
  ·simp only[Region.ready,List.mem_filter,List.mem_range,Bool.and_eq_true,Bool.not_eq_true'] at hj
   obtain⟨hjs,hjl,hja⟩:=hj
   have hjm:=(hI.mem j).2 ⟨hjs,hjl⟩
   obtain⟨y,hy,rfl⟩:=List.mem_map.1 hjm
   obtain⟨l1,l2,rfl⟩:=List.append_of_mem hy
   obtain⟨j,kj⟩:=y
   cases hoj:ops[j]? with
   | none=>simp[hoj] at hja
   | some oj=>
    simp only[hoj,Option.map_some,Option.getD_some] at hja
    have yT:∀d,jQ ops j d=true→listed.getD d false=true:=fun d hd=>by
     simp only[jQ,hoj,Array.any_eq_true] at hd
     obtain⟨k,hk,hd⟩:=hd
     simp only[Bool.and_eq_true,beq_iff_eq] at hd
     rw[Array.all_eq_true] at hja
     have:=hja k hk
     rw[hd.1] at this
     simpa[hd.2] using this
    have hbl:∀r,r<ops.size→(bf.getD j 0).testBit r=true→listed.getD r false=true:=fun r hr hb=>by
     simp only[jU,List.all_eq_true,List.mem_range] at hbf
     have:=hbf j hjs r hr
     simp only[hb,Bool.not_true,Bool.false_or,Bool.or_eq_true,List.any_eq_true,List.mem_range,Bool.and_eq_true] at this
     rcases this with h|⟨d,_,h1,h2⟩
     ·exact yT r h
     ·exact hI.closed d r hr (yT d h1) h2
    have hnotin:∀x∈l1,(bf.getD j 0).testBit x.1=false:=fun x hx=>by
     have hxm:=(hI.mem x.1).1 (by simp;exact .inl ⟨x.2,hx⟩)
     cases hb:(bf.getD j 0).testBit x.1 with
     | false=>rfl
     | true=>exact absurd hxm.2 ((Jq listed x.1 hI.size hxm.1).1 (hbl x.1 hxm.1 hb))
    have hpw:=List.pairwise_append.1 hI.pair
    refine wpOp_mono (fun a' w' ⟨h1,_,_⟩=>ih (l1++l2) (listed.setIfInBounds j true) ?_ ?_ a' w' h1) (pull hsel hQ l2 l1 (fun x hx=>⟨hpw.2.2 x hx (j,kj) (by simp),hnotin x hx⟩) a w h)
    ·simp at hn ⊢;omega
    ·have hnd:=hI.nodup
     simp only[lS,List.map_cons,List.nodup_append,List.nodup_cons,List.mem_cons] at hnd
     refine⟨by simp[hI.size],fun i=>?_,?_,?_,fun x hx=>hI.self x (by simp at hx ⊢;rcases hx with h|h<;>simp[h]),?_⟩
     ·have:=hI.mem i
      simp only[lS,List.map_cons,List.mem_append,List.mem_cons] at this ⊢
      by_cases e:i=j
      ·subst e
       constructor
       ·rintro (hi|hi)
        ·exact absurd rfl (hnd.2.2 i hi i (.inl rfl))
        ·exact absurd hi hnd.2.1.1
       ·rintro⟨h1,h2⟩
        simp[Array.getD,hI.size,h1] at h2
      ·have hg:(listed.setIfInBounds j true).getD i true=listed.getD i true:=getD_set_ne _ _ _ _ _ e
       rw[hg,←this]
       simp[e]
     ·simp only[lS,List.nodup_append]
      exact⟨hnd.1,hnd.2.1.2,fun x hx y hy=>hnd.2.2 x hx y (.inr hy)⟩
     ·refine List.pairwise_append.2 ⟨hpw.1,(List.pairwise_cons.1 hpw.2.1).2,fun x hx y hy=>hpw.2.2 x hx y (by simp[hy])⟩
     ·intro d r hr hd hb
      by_cases e:r=j
      ·subst e;simp[Array.getD,hI.size,hr]
      ·have hg:(listed.setIfInBounds j true).getD r false=listed.getD r false:=getD_set_ne _ _ _ _ _ e
       rw[hg]
       by_cases e2:d=j
       ·subst e2;exact hbl r hr hb
       ·have hg2:(listed.setIfInBounds j true).getD d false=listed.getD d false:=getD_set_ne _ _ _ _ _ e2
        rw[hg2] at hd
        exact hI.closed d r hr hd hb
theorem AY {bf:Array Nat}:∀(l:List (Nat×Kd)),yS ops bf l=true→(l.Pairwise fun x y=>dH ops bf x y=true)∧∀x∈l,jQ ops x.1 x.1=false
 | [],_=>⟨.nil,fun _ h=>(by cases h)⟩
 | x::l,h=>by
  simp only[yS,Bool.and_eq_true,List.all_eq_true,Bool.not_eq_true'] at h
  have ih:=AY l h.2
  refine⟨List.pairwise_cons.2 ⟨h.1.1,ih.1⟩,fun y hy=>?_⟩
  rcases List.mem_cons.1 hy with rfl|hy
  ·exact h.1.2
  ·exact ih.2 y hy
theorem aA {id:Nat} {a:Act} {w:World} (hm:P.follows .mixedOrders=true) (S:World→Prop) (l:List (Nat×Kd)) (hok:OX ops (Region.before ops) l=true)
 (h:wpC P ops (NoPanic Q) S l a w.drew):(Code.region id ops true).wp P Q a w:=by
 simp only[OX,Bool.and_eq_true] at hok
 obtain⟨⟨⟨⟨⟨⟨⟨h1,h2⟩,h3⟩,h4⟩,h7⟩,h8⟩,h5⟩,h6⟩:=hok
 have hlen:l.length=ops.size:=by simpa using h4
 have hall:∀i,i<ops.size→i∈l.map (·.1):=fun i hi=>by
  simp only[List.all_eq_true,List.mem_range] at h5
  simpa using h5 i hi
 have hback:∀i,i∈l.map (·.1)→i<ops.size:=fun i hi=>by
  rw[List.all_eq_true] at h8
  simpa using h8 i hi
 have hp:=AY l h1
 refine wp_region_noPanic (wp_region_any hm ?_)
 refine TK (bf:=Region.before ops) (S:=S) ?_ ?_ h3 ?_ ops.size l _ hlen ?_ a w.drew h
 ·intro j o cs b ho hsel
  simp only[ES,Array.all_eq_true] at h2
  obtain⟨hj,rfl⟩:=Array.getElem?_eq_some_iff.1 ho
  have:=h2 j hj
  rw[hsel] at this
  cases this
 ·intro c a d v w hh;exact hh
 ·intro j o ho e he hb
  obtain⟨hj,rfl⟩:=Array.getElem?_eq_some_iff.1 ho
  rw[Array.all_eq_true] at h6
  have:=h6 j hj
  rw[Array.all_eq_true] at this
  obtain⟨k,hk,rfl⟩:=Array.mem_iff_getElem.1 he
  have:=this k hk
  simpa[hb] using this
 ·refine⟨by simp,fun i=>⟨fun hi=>?_,fun hi=>hall i hi.1⟩,pO _ h7,hp.1,hp.2,fun d r _ hd=>?_⟩
  ·have:=hback i hi
   exact⟨this,by simp[Array.getD,this]⟩
  ·exfalso
   simp only[Array.getD,Array.size_replicate] at hd
   split at hd<;>simp at hd
end
end PA
namespace PA
open Go Go.RowKit
section
variable {P:Program} {ops:Array Oper} {Q:Exit→Act→World→Prop} {S:World→Prop} {i:Nat} {l:List (Nat×Kd)} {a:Act} {w:World} {o:Oper} {v:Value}
theorem eF (ho:ops.toList[i]?=some o) (hg:Region.wanted o (yielded ops a.tmps)=true) (hv:∀w',(execOp a.eval o).run P w'=.ok (.value v) w') (h:wpC P ops Q S l (a.put o.dst v) w):wpC P ops Q S ((i,.p)::l) a w:=
 have ho':=(Array.getElem?_toList (xs:=ops) (i:=i)).symm.trans ho
 ⟨o,ho',v,fun w'=>.inl ⟨hg,hv w'⟩,h⟩
theorem eG (ho:ops.toList[i]?=some o) (hg:Region.wanted o (yielded ops a.tmps)=true) (hS:S w) (hv:∀w',S w'→(execOp a.eval o).run P w'=.ok (.value v) w') (h:wpC P ops Q S l (a.put o.dst v) w):wpC P ops Q S ((i,.s)::l) a w:=
 have ho':=(Array.getElem?_toList (xs:=ops) (i:=i)).symm.trans ho
 ⟨o,ho',hS,v,fun w' hw=>.inl ⟨hg,hv w' hw⟩,h⟩
theorem eH (ho:ops.toList[i]?=some o) (hg:Region.wanted o (yielded ops a.tmps)=true) (hv:(execOp a.eval o).run P w=.ok (.value v) w) (h:wpC P ops Q S l (a.put o.dst v) w):wpC P ops Q S ((i,.t)::l) a w:=
 have ho':=(Array.getElem?_toList (xs:=ops) (i:=i)).symm.trans ho
 ⟨o,ho',v,.inl ⟨hg,hv⟩,h⟩
theorem bD (ho:ops.toList[i]?=some o) (hg:Region.wanted o (yielded ops a.tmps)=false) (h:wpC P ops Q S l (a.put o.dst undef) w):wpC P ops Q S ((i,.p)::l) a w:=
 have ho':=(Array.getElem?_toList (xs:=ops) (i:=i)).symm.trans ho
 ⟨o,ho',undef,fun _=>.inr ⟨hg,rfl⟩,h⟩
theorem bG (ho:ops.toList[i]?=some o) (hg:Region.wanted o (yielded ops a.tmps)=false) (hS:S w) (h:wpC P ops Q S l (a.put o.dst undef) w):wpC P ops Q S ((i,.s)::l) a w:=
 have ho':=(Array.getElem?_toList (xs:=ops) (i:=i)).symm.trans ho
 ⟨o,ho',hS,undef,fun _ _=>.inr ⟨hg,rfl⟩,h⟩
theorem bH (ho:ops.toList[i]?=some o) (hg:Region.wanted o (yielded ops a.tmps)=false) (h:wpC P ops Q S l (a.put o.dst undef) w):wpC P ops Q S ((i,.t)::l) a w:=
 have ho':=(Array.getElem?_toList (xs:=ops) (i:=i)).symm.trans ho
 ⟨o,ho',undef,.inr ⟨hg,rfl⟩,h⟩
theorem Xr {b:Bool} (ho:ops.toList[i]?=some o) (hg:Region.wanted o (yielded ops a.tmps)=false) (hS:b=true→S w) (h:wpC P ops Q S l (a.put o.dst undef) w):wpC P ops Q S ((i,.e b)::l) a w:=
 have ho':=(Array.getElem?_toList (xs:=ops) (i:=i)).symm.trans ho
 ⟨o,ho',by unfold wpOp;simp only[ho',hg,Bool.false_eq_true,if_false];exact⟨hS,h⟩⟩
theorem iQ {b:Bool} (ho:ops.toList[i]?=some o) (hg:Region.wanted o (yielded ops a.tmps)=true)
 (h:∀K:Act→World→Prop,(∀a w,(b=true→S w)→wpC P ops Q S l a w→K a w)→o.wp P a w K Q):wpC P ops Q S ((i,.e b)::l) a w:=
 have ho':=(Array.getElem?_toList (xs:=ops) (i:=i)).symm.trans ho
 ⟨o,ho',by unfold wpOp;simp only[ho',hg,if_true];exact .inl (h _ fun _ _ h1 h2=>⟨h1,h2⟩)⟩
theorem bM (h:Q .normal a w):wpC P ops (NoPanic Q) S [] a w:=h
end
end PA
namespace PA
open Go Go.RowKit
def zB (a:Option Addr) (n c:Nat):Prop:=n≤c∧c≤maxLen∧(a=none→c=0)
structure Rep (α:Type) where
 rel:Mem→List Value→α→Prop
 mono:∀{I J cs x},Mem.le I J→rel I cs x→rel J cs x
def dX {α β:Type} (p:α→β→Prop):List α→List β→Prop
 | [],[]=>True
 | a::l,b::m=>p a b∧dX p l m
 | _,_=>False
theorem dX.wk {α β:Type} {p q:α→β→Prop} (h:∀a b,p a b→q a b):∀{l:List α} {m:List β},dX p l m→dX q l m
 | [],[],_=>trivial
 | _::_,_::_,hh=>⟨h _ _ hh.1,dX.wk h hh.2⟩
 | [],_::_,hh=>hh.elim
 | _::_,[],hh=>hh.elim
theorem dX.length {α β:Type} {p:α→β→Prop}:∀{l:List α} {m:List β},dX p l m→l.length=m.length
 | [],[],_=>rfl
 | _::l,_::m,hh=>by simp[dX.length hh.2]
 | [],_::_,hh=>hh.elim
 | _::_,[],hh=>hh.elim
theorem dX.append {α β:Type} {p:α→β→Prop}:∀{l l':List α} {m m':List β},dX p l m→dX p l' m'→dX p (l++l') (m++m')
 | [],_,[],_,_,h=>h
 | _::_,_,_::_,_,hh,h=>⟨hh.1,dX.append hh.2 h⟩
 | [],_,_::_,_,hh,_=>hh.elim
 | _::_,_,[],_,hh,_=>hh.elim
theorem dX.drop {α β:Type} {p:α→β→Prop}:∀{l:List α} {m:List β} (k:Nat),dX p l m→dX p (l.drop k) (m.drop k)
 | l,m,0,h=>by simpa using h
 | [],[],_+1,h=>h
 | _::_,_::_,k+1,h=>by simpa using dX.drop k h.2
 | [],_::_,_+1,hh=>hh.elim
 | _::_,[],_+1,hh=>hh.elim
theorem dX.take {α β:Type} {p:α→β→Prop}:∀{l:List α} {m:List β} (k:Nat),dX p l m→dX p (l.take k) (m.take k)
 | l,m,0,h=>by simp[dX]
 | [],[],_+1,h=>by simp[dX]
 | _::_,_::_,k+1,h=>by simp only[List.take_succ_cons];exact⟨h.1,dX.take k h.2⟩
 | [],_::_,_+1,hh=>hh.elim
 | _::_,[],_+1,hh=>hh.elim
theorem dX.get {α β:Type} {p:α→β→Prop}:∀{l:List α} {m:List β},dX p l m→∀(i:Nat) (hl:i<l.length) (hm:i<m.length),p l[i] m[i]
 | _::_,_::_,h,0,_,_=>h.1
 | _::_,_::_,h,i+1,hl,hm=>dX.get h.2 i (by simpa using hl) (by simpa using hm)
section
variable {α:Type}
def Rep.is (R:Rep α) (cs:List Value) (x:α):aG:=MS (fun I=>R.rel I cs x) fun _ _ hl h=>R.mono hl h
def Rep.rows (R:Rep α) (k:Nat):Rep (List α) where
 rel I cs xs:=∃css:List (List Value),cs=css.flatten∧dX (fun c x=>R.rel I c x∧c.length=k) css xs
 mono hl:=fun ⟨css,h1,h2⟩=>⟨css,h1,h2.wk fun _ _ h=>⟨R.mono hl h.1,h.2⟩⟩
def Rep.slice (R:Rep α) (k:Nat):Rep (List α) where
 rel I cs xs:=∃a c cells,cs=[.slice a xs.length c]∧zB a xs.length c∧bP a cells I∧(R.rows k).rel I cells xs
 mono hl:=fun ⟨a,c,cells,h1,h2,h3,h4⟩=>⟨a,c,cells,h1,h2,(by
  rcases h3 with h|⟨b,o,cs,t,f,e1,e2,e3⟩
  ·exact .inl h
  ·exact .inr ⟨b,o,cs,t,f,e1,hl _ _ e2,e3⟩),(R.rows k).mono hl h4⟩
end
def ZA:Rep UInt8:=⟨fun _ cs b=>cs=[.int .u8 b.toNat],fun _ h=>h⟩
def qI:Rep Int:=⟨fun _ cs n=>cs=[.int .i64 n],fun _ h=>h⟩
def fB:Rep (List UInt8):=ZA.slice 1
def bv (b:UInt8):Value:=.int .u8 b.toNat
def iv (n:Int):Value:=.int .i64 n
theorem CO:∀(l:List Value),(l.map fun v=>[v]).flatten=l
 | []=>rfl
 | v::l=>by simp[CO l]
theorem uS (I:Mem):∀(cs:List Value) (bs:List UInt8),(ZA.rows 1).rel I cs bs↔cs=bs.map bv:=by
 intro cs bs
 constructor
 ·rintro⟨css,rfl,h⟩
  induction bs generalizing css with
  | nil=>cases css with
   | nil=>rfl
   | cons _ _=>exact h.elim
  | cons b bs ih=>cases css with
   | nil=>exact h.elim
   | cons c css=>
    have h1:c=[.int .u8 b.toNat]:=h.1.1
    simp only[List.flatten_cons,ih css h.2,h1,List.map_cons,bv];rfl
 ·rintro rfl
  refine⟨bs.map fun b=>[bv b],?_,?_⟩
  ·rw[←CO (bs.map bv)];simp[Function.comp_def]
  ·induction bs with
   | nil=>trivial
   | cons b bs ih=>exact⟨⟨rfl,rfl⟩,ih⟩
theorem EI (I:Mem):∀(cs:List Value) (bs:List Int),(qI.rows 1).rel I cs bs↔cs=bs.map iv:=by
 intro cs bs
 constructor
 ·rintro⟨css,rfl,h⟩
  induction bs generalizing css with
  | nil=>cases css with
   | nil=>rfl
   | cons _ _=>exact h.elim
  | cons b bs ih=>cases css with
   | nil=>exact h.elim
   | cons c css=>
    have h1:c=[.int .i64 b]:=h.1.1
    simp only[List.flatten_cons,ih css h.2,h1,List.map_cons,iv];rfl
 ·rintro rfl
  refine⟨bs.map fun b=>[iv b],?_,?_⟩
  ·rw[←CO (bs.map iv)];simp[Function.comp_def]
  ·induction bs with
   | nil=>trivial
   | cons b bs ih=>exact⟨⟨rfl,rfl⟩,ih⟩
section
variable {W w:World} {A:aG}
theorem Sat.Vd {a:Option Addr} {c:Nat} {bs:List UInt8} (h:Sat W w (sep (SG a (bs.map bv)) A)) (hw:zB a bs.length c):Sat W w (sep (fB.is [.slice a bs.length c] bs) A):=by
 refine h.wk ?_
 rintro I m ⟨x,y,h5,h6,⟨h7,h8⟩,h9⟩
 exact⟨x,y,h5,h6,⟨h7,a,c,_,rfl,hw,h8,(uS _ _ _).2 rfl⟩,h9⟩
theorem Sat.fA {E k:Nat} {a:Option Addr} {n c:Nat} {xs:List Value} (h:Sat W w (sep (aK E k a n c xs) A)):zB a n c:=by
 rcases h.dL with ⟨rfl,rfl,rfl,rfl,_⟩|⟨g,cur,rfl,h1,h2,h3,_⟩
 ·exact⟨Nat.le_refl _,Nat.zero_le _,fun _=>rfl⟩
 ·exact⟨h2,h3,fun h=>(by cases h)⟩
theorem Sat.Hu {E:Nat} {a:Option Addr} {n c:Nat} {bs:List UInt8} (h:Sat W w (sep (aK E 1 a n c (bs.map bv)) A)):n=bs.length∧Sat W w (sep (fB.is [.slice a n c] bs) A):=by
 have hn:n=bs.length:=by have:=h.zW.1;simp at this;exact this.symm
 subst hn
 exact⟨rfl,h.dQ.Vd h.fA⟩
end
theorem lZ {α:Type} {R:Rep α} {k:Nat} {I:Mem} {cs c:List Value} {xs:List α} {x:α} (h:(R.rows k).rel I cs xs) (hx:R.rel I c x) (hk:c.length=k):(R.rows k).rel I (cs++c) (xs++[x]):=by
 obtain⟨css,rfl,h2⟩:=h
 exact⟨css++[c],by simp,h2.append ⟨⟨hx,hk⟩,trivial⟩⟩
theorem Sat.snoc {W w:World} {A:aG} {α:Type} {R:Rep α} {k:Nat} {cs c:List Value} {xs:List α} {x:α} (h:Sat W w (sep ((R.rows k).is cs xs) (sep (R.is c x) A))) (hk:c.length=k):Sat W w (sep ((R.rows k).is (cs++c) (xs++[x])) A):=by
 refine h.wk ?_
 rintro I m ⟨x1,y1,d1,e1,⟨rfl,h1⟩,x2,y2,d2,rfl,⟨rfl,h2⟩,h3⟩
 refine⟨Mem.no,y2,fun _=>.inl rfl,by rw[e1,Mem.qP],⟨rfl,lZ h1 h2 hk⟩,h3⟩
theorem dX.mem {α β:Type} {p:α→β→Prop}:∀{l:List α} {m:List β},dX p l m→∀a∈l,∃b,p a b
 | a::l,b::m,h,x,hx=>by
  rcases List.mem_cons.1 hx with rfl|hx
  ·exact⟨b,h.1⟩
  ·exact dX.mem h.2 x hx
 | [],_,_,_,hx=>by cases hx
def gY (k:Int) (e:MapEntry):Bool:=match e.key with|.int _ n=>n==k|_=>false
structure fM (es:List MapEntry) (f:Int→Option Value):Prop where
 keys:∀e∈es,∃k,e.key=.int .i64 k
 nodup:es.Pairwise fun x y=>x.key≠y.key
 get:∀k,(es.find? (gY k)).map (·.val)=f k
def P6 (b:Nat) (f:Int→Option Value) (n:Nat):aG:=ex fun s:Array MapEntry×Nat=>sep (fact (fM s.1.toList f∧s.1.size=n)) (blk b (.map s.1 s.2))
def ou {α:Type} (f:Int→Option α) (k:Int) (v:Option α):Int→Option α:=fun x=>if x=k then v else f x
theorem CP (k:Int):∀(es:List MapEntry),(∀e∈es,∃n,e.key=.int .i64 n)→∀i,∃r,Instr.findNow (.int .i64) (.int .i64 k) es i=some r ∧
 r.map (·.2)=(es.find? (gY k)).map (·.val)∧∀j v,r=some (j,v)→i≤j∧∃e,es[j-i]?=some e∧e.key=.int .i64 k∧e.val=v
 | [],_,i=>⟨none,rfl,rfl,fun _ _ h=>(by cases h)⟩
 | e::es,h,i=>by
  obtain⟨n,hn⟩:=h e (by simp)
  simp only[Instr.findNow,hn,Instr.sameNow,if_true]
  by_cases hk:k=n
  ·subst hk
   refine⟨some (i,e.val),by simp,by simp[gY,hn],?_⟩
   rintro j v h
   cases h
   exact⟨Nat.le_refl _,e,by simp,hn,rfl⟩
  ·obtain⟨r,h1,h2,h3⟩:=CP k es (fun x hx=>h x (by simp[hx])) (i+1)
   have:(k==n)=false:=by simp[hk]
   refine⟨r,by simp[this,h1],?_,?_⟩
   ·rw[h2]
    have:gY k e=false:=by simp[gY,hn];omega
    simp[this]
   ·intro j v hr
    obtain⟨h4,e',h5,h6⟩:=h3 j v hr
    refine⟨by omega,e',?_,h6⟩
    rw[show j-i=(j-(i+1))+1 by omega]
    simpa using h5
section
variable {P:Program} {W w:World} {A:aG}
theorem Sat.QW {b:Nat} {f:Int→Option Value} {n:Nat} (h:Sat W w (sep (P6 b f n) A)):∃es clock,fM es.toList f∧es.size=n∧Sat W w (sep (blk b (.map es clock)) A):=by
 rw[P6,dA,Sat.ex] at h
 obtain⟨⟨es,clock⟩,h⟩:=h
 rw[aj] at h
 have h':=Sat.fact.1 h
 exact⟨es,clock,h'.1.1,h'.1.2,h'.2⟩
theorem Sat.Xb {b:Nat} {f:Int→Option Value} {n:Nat} {es:Array MapEntry} {clock:Nat} (h:Sat W w (sep (blk b (.map es clock)) A)) (h1:fM es.toList f) (h2:es.size=n):Sat W w (sep (P6 b f n) A):=by
 rw[P6,dA,Sat.ex]
 refine⟨(es,clock),?_⟩
 rw[aj]
 exact Sat.fact.2 ⟨⟨h1,h2⟩,h⟩
theorem fM.nil:fM [] (fun _=>none):=⟨fun _ h=>(by cases h),.nil,fun _=>rfl⟩
theorem fM.push {es:List MapEntry} {f:Int→Option Value} (h:fM es f) (k:Int) (v:Value) (c:Nat) (hk:f k=none):fM (es++[{ key:=.int .i64 k,val:=v,born:=c }]) (ou f k (some v)):=by
 have hno:∀e∈es,e.key≠.int .i64 k:=fun e he hke=>by
  have h1:=h.get k
  rw[hk] at h1
  cases hf:es.find? (gY k) with
  | some x=>rw[hf] at h1;cases h1
  | none=>rw[List.find?_eq_none] at hf;exact hf e he (by simp[gY,hke])
 refine⟨fun e he=>?_,List.pairwise_append.2 ⟨h.nodup,by simp,fun x hx y hy=>?_⟩,fun x=>?_⟩
 ·rcases List.mem_append.1 he with he|he
  ·exact h.keys e he
  ·simp at he;subst he;exact⟨k,rfl⟩
 ·simp at hy;subst hy;exact hno x hx
 ·rw[List.find?_append]
  have h1:=h.get x
  by_cases e:x=k
  ·subst e
   rw[hk] at h1
   have hf:es.find? (gY x)=none:=by
    cases hf:es.find? (gY x) with
    | none=>rfl
    | some _=>rw[hf] at h1;cases h1
   simp[hf,gY,ou]
  ·have:(if k=x then some ({ key:=.int .i64 k,val:=v,born:=c }:MapEntry) else none)=none:=if_neg (fun h=>e h.symm)
   simp[gY,ou,e,←h1,beq_false_of_ne (fun h=>e h.symm:k≠x)]
theorem Vt {es:List MapEntry} (hnd:es.Pairwise fun x y=>x.key≠y.key) {j:Nat} {e:MapEntry} {k:Int} (hj:es[j]?=some e) (hek:e.key=.int .i64 k):
 ∀x∈es,x.key=.int .i64 k→∃j',es[j']?=some x∧j'=j:=by
 intro x hx hxk
 obtain⟨i,hi,rfl⟩:=List.mem_iff_getElem.1 hx
 refine⟨i,List.getElem?_eq_getElem hi,?_⟩
 obtain⟨hj1,rfl⟩:=List.getElem?_eq_some_iff.1 hj
 rcases Nat.lt_trichotomy i j with h|h|h
 ·exact absurd (hxk.trans hek.symm) (List.pairwise_iff_getElem.1 hnd i j hi hj1 h)
 ·exact h
 ·exact absurd (hek.trans hxk.symm) (List.pairwise_iff_getElem.1 hnd j i hj1 hi h)
theorem fM.erase {es:List MapEntry} {f:Int→Option Value} (h:fM es f) (k:Int) {j:Nat} {e:MapEntry} (hj:es[j]?=some e) (he:e.key=.int .i64 k):fM (es.eraseIdx j) (ou f k none):=by
 have hsub:=List.eraseIdx_sublist es j
 obtain⟨hj1,hj2⟩:=List.getElem?_eq_some_iff.1 hj
 have hno:∀x∈es.eraseIdx j,x.key≠.int .i64 k:=fun x hx hxk=>by
  obtain⟨i,hne,hi⟩:=List.mem_eraseIdx_iff_getElem?.1 hx
  obtain⟨j',h1,h2⟩:=Vt h.nodup hj he x (hsub.mem hx) hxk
  obtain⟨hi1,hi2⟩:=List.getElem?_eq_some_iff.1 hi
  rcases Nat.lt_trichotomy i j with h3|h3|h3
  ·exact List.pairwise_iff_getElem.1 h.nodup i j hi1 hj1 h3 (by rw[hi2,hj2,hxk,he])
  ·exact hne h3
  ·exact List.pairwise_iff_getElem.1 h.nodup j i hj1 hi1 h3 (by rw[hi2,hj2,hxk,he])
 refine⟨fun x hx=>h.keys x (hsub.mem hx),h.nodup.sublist hsub,fun x=>?_⟩
 by_cases e':x=k
 ·subst e'
  have:(es.eraseIdx j).find? (gY x)=none:=by
   rw[List.find?_eq_none]
   intro y hy hky
   obtain⟨n,hn⟩:=h.keys y (hsub.mem hy)
   simp[gY,hn] at hky
   subst hky
   exact hno y hy hn
  simp[this,ou]
 ·rw[show ou f k none x=f x by simp[ou,e'],←h.get x]
  have hsplit:es=es.take j++e::es.drop (j+1):=by
   rw[←hj2,←List.drop_eq_getElem_cons hj1,List.take_append_drop]
  have hke:gY x e=false:=by simp[gY,he];exact fun h=>e' h.symm
  rw[List.eraseIdx_eq_take_drop_succ]
  conv=>rhs;rw[hsplit]
  simp[List.find?_append,hke]
theorem fP {K:TypeId} {k:Int} (hK:P.underlying K=some (.int .i64)) (b:Bool) (w:World):(Instr.checkKey b 10000 K (.int .i64 k)).run P w=.ok () w:=by
 have:∀n,(Instr.checkKey b (n+1) K (.int .i64 k)).run P w=.ok () w:=fun n=>by simp[Instr.checkKey,run_underlying hK]
 exact this 9999
theorem run_getObj_map {b:Nat} {es:Array MapEntry} {clock:Nat} (h:w.heap[b]?=some (.map es clock)):(getObj b).run P w=.ok (.map es clock) w:=by
 simp[getObj,Sem.run,h]
theorem lJ {K:TypeId} {k:Int} {es:List MapEntry} {f:Int→Option Value} (hK:P.underlying K=some (.int .i64)) (hr:fM es f) (w:World):
 ∃r,(Instr.findKey K (.int .i64 k) es).run P w=.ok r w∧r.map (·.2)=f k∧∀j v,r=some (j,v)→∃e,es[j]?=some e∧e.key=.int .i64 k∧e.val=v:=by
 obtain⟨r,h1,h2,h3⟩:=CP k es hr.keys 0
 refine⟨r,?_,by rw[h2,hr.get],fun j v h=>by simpa using (h3 j v h).2⟩
 simp[Instr.findKey,run_underlying hK,h1]
theorem zC {T K E:TypeId} {z:Value} (hT:P.underlying T=some (.map K E)) (hK:P.underlying K=some (.int .i64)) (hz:∀w,(zeroValue E).run P w=.ok z w)
 {b:Nat} {f:Int→Option Value} {n:Nat} (h:Sat W w (sep (P6 b f n) A)) (k:Int) (ok:Bool):
 (Instr.lookup T (.map (some b)) (.int .i64 k) ok).run P w=.ok (if ok then .tuple #[(f k).getD z,.bool (f k).isSome] else (f k).getD z) w:=by
 obtain⟨es,clock,h1,h2,h3⟩:=h.QW
 obtain⟨r,e1,e2,e3⟩:=lJ (P:=P) (k:=k) hK h1 w
 have hg:=run_getObj_map (P:=P) h3.aN
 rw[←e2]
 cases r with
 | none=>cases ok<;>simp[Instr.lookup,run_underlying hT,hg,fP hK,e1,hz]
 | some r=>obtain⟨i,v⟩:=r;cases ok<;>simp[Instr.lookup,run_underlying hT,hg,fP hK,e1]
theorem run_setObj_map {b:Nat} {es:Array MapEntry} {clock:Nat} (h:w.heap[b]?=some (.map es clock)) (o:Obj):(setObj b o).run P w=.ok () { w with heap:=w.heap.setIfInBounds b o }:=by
 simp[setObj,Sem.run,h]
theorem Sat.setObj {b:Nat} {o:Obj} (h:Sat W w (sep (blk b o) A)) (o':Obj):Sat W { w with heap:=w.heap.setIfInBounds b o' } (sep (blk b o') A):=
 h.change rfl rfl rfl (by simp[h.lt]) fun k hk _=>by simp[Ne.symm hk]
theorem fM.modify {es:List MapEntry} {f:Int→Option Value} (h:fM es f) (k:Int) (v:Value) {j:Nat} {e:MapEntry} (hj:es[j]?=some e) (he:e.key=.int .i64 k):
 fM (es.modify j fun x=>{ x with key:=.int .i64 k,val:=v }) (ou f k (some v)):=by
 obtain⟨hj1,hj2⟩:=List.getElem?_eq_some_iff.1 hj
 have hsplit:es=es.take j++e::es.drop (j+1):=by
  rw[←hj2,←List.drop_eq_getElem_cons hj1,List.take_append_drop]
 have hmod:(es.modify j fun x=>{ x with key:=.int .i64 k,val:=v })=es.take j++{ e with key:=.int .i64 k,val:=v }::es.drop (j+1):=by
  rw[List.modify_eq_take_cons_drop hj1,hj2]
 have hnd:=h.nodup
 rw[hsplit] at hnd
 rw[hmod]
 have hp:=List.pairwise_append.1 hnd
 have hc:=List.pairwise_cons.1 hp.2.1
 refine⟨fun x hx=>?_,List.pairwise_append.2 ⟨hp.1,List.pairwise_cons.2 ⟨fun y hy=>?_,hc.2⟩,fun x hx y hy=>?_⟩,fun x=>?_⟩
 ·simp only[List.mem_append,List.mem_cons] at hx
  rcases hx with hx|rfl|hx
  ·exact h.keys x (List.mem_of_mem_take hx)
  ·exact⟨k,rfl⟩
  ·exact h.keys x (List.mem_of_mem_drop hx)
 ·have:=hc.1 y hy;rw[he] at this;exact this
 ·rcases List.mem_cons.1 hy with rfl|hy
  ·have:=hp.2.2 x hx e (by simp);rw[he] at this;exact this
  ·exact hp.2.2 x hx y (by simp[hy])
 ·by_cases e':x=k
  ·subst e'
   have hno:(es.take j).find? (gY x)=none:=by
    rw[List.find?_eq_none]
    intro y hy hky
    obtain⟨n,hn⟩:=h.keys y (List.mem_of_mem_take hy)
    simp[gY,hn] at hky
    subst hky
    exact hp.2.2 y hy e (by simp) (hn.trans he.symm)
   simp[List.find?_append,hno,gY,ou]
  ·rw[show ou f k (some v) x=f x by simp[ou,e'],←h.get x]
   have h1:gY x e=false:=by simp[gY,he];exact fun h=>e' h.symm
   have h2:gY x { e with key:=.int .i64 k,val:=v }=false:=by simp[gY];exact fun h=>e' h.symm
   conv=>rhs;rw[hsplit]
   simp[List.find?_append,h1,h2]
theorem vT (n:Nat) (k:Int):Instr.sameBits n (.int .i64 k) (.int .i64 k)=true:=by cases n<;>simp[Instr.sameBits]
end
end PA
namespace PA
open Go Go.RowKit
def kn (I:Mem):aG:=MS (Mem.le I) fun _ _ hl h b o hb=>hl _ _ (h b o hb)
def Ext (I:Mem) (w:World):Prop:=∀b o,I b=some o→w.heap[b]?=some o
section
variable {W w w':World} {A:aG} {I J:Mem}
theorem Sat.ext (h:Sat W w (sep (kn I) A)):Ext I w:=h.EP
theorem Sat.know (h:Sat W w A):∃I,Sat W w (sep (kn I) A):=by
 obtain⟨h1,h2,h3,I,m,h4,h5,h6,h7⟩:=h
 exact⟨I,h1,h2,h3,I,m,h4,h5,h6,Mem.no,m,fun _=>.inl rfl,(Mem.qP _).symm,⟨rfl,Mem.le_refl I⟩,h7⟩
theorem Sat.learn {p:Mem→Prop} {hp:∀I J,Mem.le I J→p I→p J} (h:Sat W w (sep (MS p hp) (sep (kn I) A))):∃J,Mem.le I J∧p J∧Sat W w (sep (kn J) A):=by
 obtain⟨h1,h2,h3,J,m,h4,h5,h6,x,y,h7,rfl,⟨rfl,hp'⟩,x',y',h8,rfl,⟨rfl,hle⟩,h9⟩:=h
 refine⟨J,hle,hp',h1,h2,h3,J,_,h4,h5,h6,Mem.no,y',fun _=>.inl rfl,?_,⟨rfl,Mem.le_refl J⟩,h9⟩
 rw[Mem.qP]
theorem Sat.dO (h:Sat W w (sep (kn J) A)) (hle:Mem.le I J):Sat W w (sep (kn I) A):=by
 refine h.wk ?_
 rintro K m ⟨x,y,h7,rfl,⟨rfl,hle'⟩,h9⟩
 exact⟨Mem.no,y,fun _=>.inl rfl,rfl,⟨rfl,fun b o hb=>hle' _ _ (hle _ _ hb)⟩,h9⟩
theorem Mem.le_trans {I J K:Mem} (h:Mem.le I J) (k:Mem.le J K):Mem.le I K:=fun _ _ hb=>k _ _ (h _ _ hb)
theorem fV {a:Option Addr} {xs:List Value} (h:bP a xs I) (hne:xs≠[]):∃b o,a=some ⟨b,o,none⟩∧∀w',Ext I w'→∀i u,xs[i]?=some u→w'.cell? ⟨b,o+i,none⟩=some u:=by
 rcases h with h|⟨b,o,cs,t,f,h1,h2,h3⟩
 ·exact absurd h hne
 ·exact⟨b,o,h1,fun w' he i u hu=>by rw[cell_of_row w' b (o+i) cs t f (he _ _ h2)];exact h3 i u hu⟩
theorem fZ {a:Option Addr} {xs:List Value} (hl:Mem.le I J) (h:bP a xs I):bP a xs J:=by
 rcases h with h|⟨b,o,cs,t,f,h1,h2,h3⟩
 ·exact .inl h
 ·exact .inr ⟨b,o,cs,t,f,h1,hl _ _ h2,h3⟩
theorem xK {v:Value} {bs:List UInt8}:fB.rel I [v] bs↔∃a c,v=.slice a bs.length c∧zB a bs.length c∧bP a (bs.map bv) I:=by
 constructor
 ·rintro⟨a,c,cells,h1,h2,h3,h4⟩
  cases h1
  rw[(uS _ _ _).1 h4] at h3
  exact⟨a,c,rfl,h2,h3⟩
 ·rintro⟨a,c,rfl,h2,h3⟩
  exact⟨a,c,_,rfl,h2,h3,(uS _ _ _).2 rfl⟩
end
theorem dS (w:World) (cs:List Value) (t:TypeId):∀j u,cs[j]?=some u→(w.alloc (.cells cs.toArray t)).cell? ((⟨w.heap.size,0,none⟩:Addr).add j)=some u:=by
 intro j u h
 have:(⟨w.heap.size,0,none⟩:Addr).add j=⟨w.heap.size,j,none⟩:=by unfold Addr.add;split<;>simp_all
 rw[this,World.cell?_alloc_new]
 simpa using h
theorem WZ {w:World} {b:Addr} {xs:List Value} (h:∀j u,xs[j]?=some u→w.cell? (b.add j)=some u) (o:Obj):∀j u,xs[j]?=some u→(w.alloc o).cell? (b.add j)=some u:=by
 intro j u hu
 have:=h j u hu
 rw[World.cell?_alloc_lt w o _ (World.block_lt_of_cell? w _ this)]
 exact this
theorem TJ (bs:List UInt8):∀u∈bs.map bv,u.oneCell'=true:=by
 intro u hu
 obtain⟨b,_,rfl⟩:=List.mem_map.1 hu
 rfl
theorem vS {I:Mem} {w:World} {a:Option Addr} {xs:List Value} (h:bP a xs I) (he:Ext I w):∀b,a=some b→∀j u,xs[j]?=some u→w.cell? (b.add j)=some u:=by
 intro b hb j u hu
 obtain⟨b',o,e,hc⟩:=fV h (fun e=>by rw[e] at hu;simp at hu)
 rw[hb] at e;cases e
 have:=hc w he j u hu
 unfold Addr.add
 split
 ·rename_i e;subst e;simpa using this
 ·exact this
end PA
namespace PA
open Go
abbrev U64:={ x:Nat // x<18446744073709551616 }
end PA
namespace PA
open Go
structure Rt where
 n:Int
 d:Int
 deriving DecidableEq
def kK:Nat:=1099511627776
def kL:Nat:=1048576
def kJ (neg:Bool) (n d:Nat):Rt×Int:=
 if kK<n / Nat.gcd n d∨kL<d / Nat.gcd n d then (⟨0,0⟩,5)
 else (⟨if neg=true then -((n / Nat.gcd n d:Nat):Int) else ((n / Nat.gcd n d:Nat):Int),((d / Nat.gcd n d:Nat):Int)⟩,0)
def newR (num den:Int):Rt×Int:=
 if den=0 then (⟨0,0⟩,1) else kJ (decide (num<0) !=decide (den<0)) num.natAbs den.natAbs
def okR (r:Rt):Bool:=decide (1≤r.d)&&decide (newR r.n r.d=(r,0))
def jB (a b:Rt):Rt×Int:=if okR a=true∧okR b=true then newR (a.n*b.d+b.n*a.d) (a.d*b.d) else (⟨0,0⟩,1)
def negR (a:Rt):Rt:=⟨-a.n,a.d⟩
def uX (a b:Rt):Rt×Int:=jB a (negR b)
theorem yh {neg:Bool} {n d:Nat} {r:Rt} (h:kJ neg n d=(r,0)):r.n.natAbs=n / Nat.gcd n d∧r.d=((d / Nat.gcd n d:Nat):Int)∧n / Nat.gcd n d≤kK∧d / Nat.gcd n d≤kL:=by
 unfold kJ at h
 split at h
 ·cases h
 ·rename_i h'
  have h1:n / Nat.gcd n d≤kK:=by
   rcases Nat.lt_or_ge kK (n / Nat.gcd n d) with h2|h2
   ·exact absurd (.inl h2) h'
   ·exact h2
  have h2:d / Nat.gcd n d≤kL:=by
   rcases Nat.lt_or_ge kL (d / Nat.gcd n d) with h2|h2
   ·exact absurd (.inr h2) h'
   ·exact h2
  obtain⟨rfl⟩:=(Prod.mk.inj h).1
  refine⟨?_,rfl,h1,h2⟩
  show Int.natAbs (if neg=true then -((n / Nat.gcd n d:Nat):Int) else ((n / Nat.gcd n d:Nat):Int))=_
  by_cases e:neg=true
  ·rw[if_pos e,Int.natAbs_neg,Int.natAbs_natCast]
  ·rw[if_neg e,Int.natAbs_natCast]
structure Rok (r:Rt):Prop where
 d1:1≤r.d
 d2:r.d≤1048576
 n1:-1099511627776≤r.n
 n2:r.n≤1099511627776
theorem G7 {n d:Int} {r:Rt} (h:newR n d=(r,0)) (hd:0<d):Rok r∧(r.n=0↔n=0)∧(0<r.n↔0<n):=by
 unfold newR at h
 rw[if_neg (by omega)] at h
 have h0:=h
 obtain⟨h1,h2,h3,h4⟩:=yh h
 unfold kK at h3
 unfold kL at h4
 have hg:0<Nat.gcd n.natAbs d.natAbs:=Nat.gcd_pos_of_pos_right _ (by omega)
 have hdv:0<d.natAbs / Nat.gcd n.natAbs d.natAbs:=Nat.div_pos (Nat.le_of_dvd (by omega) (Nat.gcd_dvd_right _ _)) hg
 have hz:n.natAbs / Nat.gcd n.natAbs d.natAbs=0↔n.natAbs=0:=by
  constructor
  ·intro e
   rcases (Nat.div_eq_zero_iff).1 e with e|e
   ·omega
   ·rcases Nat.eq_zero_or_pos n.natAbs with h|h
    ·exact h
    ·have:=Nat.le_of_dvd h (Nat.gcd_dvd_left n.natAbs d.natAbs);omega
  ·intro e;rw[e];simp
 refine⟨⟨by omega,by omega,by omega,by omega⟩,by omega,?_⟩
 unfold kJ at h0
 split at h0
 ·cases h0
 ·have e:=(Prod.mk.inj h0).1
  have hd':decide (d<0)=false:=decide_eq_false (by omega)
  rw[hd'] at e
  subst e
  by_cases hn:n<0
  ·simp only[hn,decide_true]
   simp
   omega
  ·simp only[hn,decide_false]
   simp
   constructor
   ·intro h
    have:n.natAbs≠0:=fun e=>by rw[e] at h;simp at h
    omega
   ·intro h
    have:=hz
    omega
theorem dM {r:Rt} (h:okR r=true):Rok r∧newR r.n r.d=(r,0):=by
 simp only[okR,Bool.and_eq_true,decide_eq_true_eq] at h
 exact⟨(G7 h.2 (by omega)).1,h.2⟩
theorem Kw (n d:Int) (hd:0<d) (hdn:okR ⟨n,d⟩=true):Nat.gcd n.natAbs d.natAbs=1:=by
 have h:=(dM hdn).2
 unfold newR at h
 rw[if_neg (by show ¬d=0;omega)] at h
 obtain⟨-,h2,-,-⟩:=yh h
 have h2':d=((d.natAbs / Nat.gcd n.natAbs d.natAbs:Nat):Int):=h2
 rcases Nat.lt_or_ge 1 (Nat.gcd n.natAbs d.natAbs) with h3|h3
 ·have:=Nat.div_lt_self (n:=d.natAbs) (by omega) h3
  omega
 ·have:0<Nat.gcd n.natAbs d.natAbs:=Nat.gcd_pos_of_pos_right _ (by omega)
  omega
theorem Nz {n d:Int} {r:Rt} (h:newR n d=(r,0)) (hd:0<d):okR r=true:=by
 obtain⟨hr,hz,hp⟩:=G7 h hd
 have h':=h
 unfold newR at h
 rw[if_neg (by omega)] at h
 obtain⟨h1,h2,h3,h4⟩:=yh h
 have hg:0<Nat.gcd n.natAbs d.natAbs:=Nat.gcd_pos_of_pos_right _ (by omega)
 have hco:Nat.gcd r.n.natAbs r.d.natAbs=1:=by
  rw[h1,h2,Int.natAbs_natCast]
  rw[Nat.gcd_div (Nat.gcd_dvd_left _ _) (Nat.gcd_dvd_right _ _),Nat.div_self hg]
 simp only[okR,Bool.and_eq_true,decide_eq_true_eq]
 refine⟨hr.d1,?_⟩
 unfold newR kJ
 rw[if_neg (by have:=hr.d1;omega),hco,Nat.div_one,Nat.div_one,if_neg]
 ·have hdd:decide (r.d<0)=false:=decide_eq_false (by have:=hr.d1;omega)
  rw[hdd]
  refine congrArg (·,(0:Int)) ?_
  cases r with
  | mk rn rd=>
   simp only at *
   by_cases hn:rn<0
   ·simp only[hn,decide_true]
    simp
    exact⟨by omega,by have:=hr.d1;simp at this;omega⟩
   ·simp only[hn,decide_false]
    simp
    exact⟨by omega,by have:=hr.d1;simp at this;omega⟩
 ·rw[h1,h2,Int.natAbs_natCast]
  omega
theorem mY (n d:Int) (h1:1≤d) (h2:d≤1048576) (h3:n.natAbs≤1099511627776) (h4:Nat.gcd n.natAbs d.natAbs=1):okR ⟨n,d⟩=true:=by
 simp only[okR,Bool.and_eq_true,decide_eq_true_eq]
 refine⟨h1,?_⟩
 unfold newR kJ
 rw[if_neg (by omega),h4,Nat.div_one,Nat.div_one,if_neg]
 ·have hdd:decide (d<0)=false:=decide_eq_false (by omega)
  rw[hdd]
  refine congrArg (·,(0:Int)) ?_
  by_cases hn:n<0
  ·simp only[hn,decide_true]
   simp
   exact⟨by omega,by omega⟩
  ·simp only[hn,decide_false]
   simp
   exact⟨by omega,by omega⟩
 ·unfold kK kL
  omega
theorem Xz {r:Rt} (h:okR r=true):okR (negR r)=true:=by
 have h1:=(dM h).1
 have hc:=Kw r.n r.d (by have:=h1.d1;omega) h
 exact mY _ _ h1.d1 h1.d2 (by have:=h1.n1;have:=h1.n2;omega) (by rw[Int.natAbs_neg];exact hc)
theorem BZ {a b r:Rt} (h:jB a b=(r,0)):okR r=true∧okR a=true∧okR b=true:=by
 unfold jB at h
 split at h
 ·rename_i hh
  have ha:=(dM hh.1).1
  have hb:=(dM hh.2).1
  exact⟨Nz h (Int.mul_pos (by have:=ha.d1;omega) (by have:=hb.d1;omega)),hh.1,hh.2⟩
 ·cases h
end PA
namespace Go.Proofs.YtgicfogmdfdjmaaGreatDoor
open Go.RowKit PA
set_option maxHeartbeats 1000000 in
theorem Uc {W w:World} {A:aG} (a b:Nat) (ha:a<18446744073709551616) (hb:b<18446744073709551616) (h:Sat W w A):
 Calls Tryz.prog 127 #[.int .u64 a,.int .u64 b] w fun e w'=>e=.returned (.int .u64 (Nat.gcd a b:Nat))∧Sat W w' A:=by
 obtain⟨g,hg⟩:=aC (Nat.gcd a b)
 rw[←hg]
 have HG:=ah hg
 clear hg
 go_enter Tryz.func127,Tryz.ntmps127
 go_wp2
 go_loopw [0,1] (fun av bv wr=>∃x y:Nat,av=.int .u64 x∧bv=.int .u64 y∧x<18446744073709551616∧y<18446744073709551616∧Nat.gcd x y=g∧Sat W wr A) (fun _ bv _=>(intOf bv).toNat)
 case atStart=>exact⟨a,b,rfl,rfl,ha,hb,HG.out.symm,h⟩
 case round=>
  obtain⟨x,y,rfl,rfl,hx,hy,hxy,hS⟩:=hrel
  have WC:=ah hxy
  clear hxy
  by_cases h0:0<y
  ·have h0I:(0:Int)<y:=by omega
   have hy0:¬y=0:=by omega
   obtain⟨z,hz⟩:=aC (x % y)
   have hm:(x:Int).tmod (y:Int)=(z:Int):=by rw[hz,Int.tmod_eq_emod_of_nonneg (by omega)];omega
   have hm2:z<y:=by rw[hz];exact Nat.mod_lt _ h0
   have HZ:=ah hz
   clear hz
   go_wp2
   refine aA rfl (fun _=>True) [(0,.p),(1,.p),(2,.p),(3,.p),(4,.p),(5,.p)] (by kernel_rfl) ?_
   have hS0:True:=trivial
   (repeat ((first|(refine eF (v:=?_) rfl rfl (fun w'=>?_) ?_;rotate_left;(go_simp;with_reducible rfl))|(refine eG (v:=?_) rfl rfl hS0 (fun w' hS=>?_) ?_;rotate_left;((try dsimp only at hS);go_simp;with_reducible rfl))|(refine eH (v:=?_) rfl rfl ?_ ?_;rotate_left;(go_simp;with_reducible rfl))|(refine bD rfl rfl ?_)|(refine bG rfl rfl hS0 ?_)|(refine bH rfl rfl ?_));simp only[Act.put,lsA,lsB,bC]))
   refine bM ?_
   go_wp2
   go_roundw
   case rel=>exact⟨y,z,rfl,rfl,hy,by omega,by rw[HZ.out,←WC.out,Nat.gcd_comm y,←Nat.gcd_rec,Nat.gcd_comm],hS.drew⟩
   case measure=>simp[intOf];omega
  ·obtain rfl:y=0:=by omega
   go_wp2
   go_ret
   exact⟨by rw[←WC.out];simp,hS⟩
theorem EX (n:Int) (h1:-9223372036854775808≤n) (h2:n≤9223372036854775807) (w:World):
 Calls Tryz.prog 91 #[.int .i64 n] w fun e w'=>e=.returned (.int .u64 (n.natAbs:Nat))∧w=w':=by
 by_cases hn:n<0
 ·have e1:IntKind.u64.wrap n=n+18446744073709551616:=by rw[IntKind.wrap_u64];omega
  have e2:IntKind.u64.wrap (-(n+18446744073709551616))=(n.natAbs:Int):=by rw[IntKind.wrap_u64];omega
  go_enter Tryz.func91,Tryz.ntmps91
  go_wp2
  go_ret
  exact⟨rfl,rfl⟩
 ·have e1:IntKind.u64.wrap n=(n.natAbs:Int):=by rw[IntKind.wrap_u64];omega
  go_enter Tryz.func91,Tryz.ntmps91
  go_wp2
  go_ret
  exact⟨rfl,rfl⟩
theorem gX {W w:World} {A:aG} {q:Nat} {u v:Value} {t:TypeId} (h:Sat W w (sep (blk q (.cells #[u,v] t (0,0))) A)):
 w.cell? ⟨q,0,none⟩=some u∧w.cell? ⟨q,1,none⟩=some v∧w.frozen? ⟨q,0,none⟩=false∧w.frozen? ⟨q,1,none⟩=false:=⟨h.cell 0,h.cell 1,h.aI 0,h.aI 1⟩
theorem fH {W w:World} {A:aG} {q:Nat} {u v:Value} {t:TypeId} (h:Sat W w (sep (blk q (.cells #[u,v] t (0,0))) A)) (x y:Value):
 Sat W ((w.setCell ⟨q,0,none⟩ x).setCell ⟨q,1,none⟩ y) (sep (blk q (.cells #[x,y] t (0,0))) A):=(h.setCell 0 x).setCell 1 y
set_option maxHeartbeats 1000000 in
theorem MZ {W w:World} {A:aG} (neg:Bool) (n d:Nat) (hn:n<18446744073709551616) (hd:d<18446744073709551616) (h0:0<d) (h:Sat W w A):
 Calls Tryz.prog 90 #[.bool neg,.int .u64 n,.int .u64 d] w fun e w'=>e=.returned (.tuple #[.agg #[.int .i64 (kJ neg n d).1.n,.int .i64 (kJ neg n d).1.d],.int .i64 (kJ neg n d).2])∧Sat W w' A:=by
 obtain⟨g,hg⟩:=aC (Nat.gcd n d)
 have hg0:0<g:=by rw[hg];exact Nat.gcd_pos_of_pos_right _ h0
 have hg1:¬g=0:=by omega
 have hgl:g<18446744073709551616:=by rw[hg];exact Nat.lt_of_le_of_lt (Nat.gcd_le_right _ h0) hd
 obtain⟨x,hx⟩:=aC (n / g)
 obtain⟨y,hy⟩:=aC (d / g)
 have hxl:x≤n:=by rw[hx];exact Nat.div_le_self _ _
 have hyl:y≤d:=by rw[hy];exact Nat.div_le_self _ _
 have hdx:(n:Int).tdiv (g:Int)=(x:Int):=by rw[hx,Int.tdiv_eq_ediv_of_nonneg (by omega)];omega
 have hdy:(d:Int).tdiv (g:Int)=(y:Int):=by rw[hy,Int.tdiv_eq_ediv_of_nonneg (by omega)];omega
 have hgc:=fun w0 (A0:aG) (h0:Sat W w0 A0)=>Uc n d hn hd h0
 rw[←hg] at hgc
 have hux:IntKind.u64.wrap (x:Int)=x:=IntWalk.u64_in _ (by omega)
 have huy:IntKind.u64.wrap (y:Int)=y:=IntWalk.u64_in _ (by omega)
 have eB:kJ neg n d=if 1099511627776<x∨1048576<y then (⟨0,0⟩,5) else (⟨if neg=true then -(x:Int) else (x:Int),(y:Int)⟩,0):=by
  rw[hx,hy,hg];rfl
 have HGC:=ah hgc
 have EB:=ah eB
 have h1:=h.alloc (.cells #[.int .i64 0,.int .i64 0] 57)
 obtain⟨B,hB⟩:=aC (w.heap.size)
 rw[←hB] at h1
 clear hgc eB hg hx hy h
 go_enter Tryz.func90,Tryz.ntmps90
 go_wp2_with fail
 rw[←hB]
 refine (HGC.out _ _ h1).mono ?_
 rintro e w2 ⟨rfl,h2⟩
 clear h1 HGC hB
 go_wp2
 refine aA rfl (fun _=>True) [(0,.p),(1,.p),(2,.p),(3,.p),(4,.p),(5,.p),(6,.p),(7,.p)] (by kernel_rfl) ?_
 have hS0:True:=trivial
 (repeat ((first|(refine eF (v:=?_) rfl rfl (fun w'=>?_) ?_;rotate_left;(go_simp;with_reducible rfl))|(refine eG (v:=?_) rfl rfl hS0 (fun w' hS=>?_) ?_;rotate_left;((try dsimp only at hS);go_simp;with_reducible rfl))|(refine eH (v:=?_) rfl rfl ?_ ?_;rotate_left;(go_simp;with_reducible rfl))|(refine bD rfl rfl ?_)|(refine bG rfl rfl hS0 ?_)|(refine bH rfl rfl ?_));simp only[Act.put,lsA,lsB,bC]))
 refine bM ?_
 clear hdx hdy hux huy
 have h3:=h2.drew
 obtain⟨w3,hw3⟩:=aC (w2.drew)
 rw[←hw3] at h3 ⊢
 clear hw3 h2
 have bad:(1099511627776<x∨1048576<y)→kJ neg n d=(⟨0,0⟩,5):=fun hh=>by rw[EB.out,if_pos hh]
 have BAD:=ah bad
 clear bad
 by_cases c1:1099511627776<x
 ·have c1I:(1099511627776:Int)<x:=by omega
  obtain⟨k0,k1,k2,k3⟩:=gX h3
  have h4:=fH h3 (.int .i64 0) (.int .i64 0)
  obtain⟨w4,hw4⟩:=aC ((w3.setCell ⟨B,0,none⟩ (.int .i64 0)).setCell ⟨B,1,none⟩ (.int .i64 0))
  rw[←hw4] at h4
  obtain⟨d0,d1,-,-⟩:=gX h4
  have uQ:=ah hw4
  clear hw4
  go_wp2
  rw[←uQ.out]
  exact bodyPost_ret (v:=.tuple #[.agg #[.int .i64 0,.int .i64 0],.int .i64 5]) (by simp[results,Tryz.results90,go_sem,d0,d1]) rfl ⟨by rw[BAD.out (.inl c1)],h4.forget⟩
 ·have c1I:¬(1099511627776:Int)<x:=by omega
  by_cases c2:1048576<y
  ·have c2I:(1048576:Int)<y:=by omega
   obtain⟨k0,k1,k2,k3⟩:=gX h3
   have h4:=fH h3 (.int .i64 0) (.int .i64 0)
   obtain⟨w4,hw4⟩:=aC ((w3.setCell ⟨B,0,none⟩ (.int .i64 0)).setCell ⟨B,1,none⟩ (.int .i64 0))
   rw[←hw4] at h4
   obtain⟨d0,d1,-,-⟩:=gX h4
   have uQ:=ah hw4
   clear hw4
   go_wp2
   rw[←uQ.out]
   exact bodyPost_ret (v:=.tuple #[.agg #[.int .i64 0,.int .i64 0],.int .i64 5]) (by simp[results,Tryz.results90,go_sem,d0,d1]) rfl ⟨by rw[BAD.out (.inr c2)],h4.forget⟩
  ·have c2I:¬(1048576:Int)<y:=by omega
   have e1:IntKind.i64.wrap (x:Int)=x:=IntWalk.i64_in _ (by omega)
   have e2:IntKind.i64.wrap (y:Int)=y:=IntWalk.i64_in _ (by omega)
   have eB2:=EB.out
   rw[if_neg (by omega)] at eB2
   have EB2:=ah eB2
   have g1:=h3.alloc (.cells #[.int .i64 x,.int .i64 y] 57)
   obtain⟨C,hC⟩:=aC (w3.heap.size)
   obtain⟨w4,hw4⟩:=aC (w3.alloc (.cells #[.int .i64 x,.int .i64 y] 57))
   rw[←hC,←hw4] at g1
   have HC:=ah hC
   have uQ:=ah hw4
   clear EB eB2 BAD hC hw4 h3
   go_upto_region 6 with (fail)
   rw[←HC.out,←uQ.out]
   cases neg with
   | true=>
    have e3:IntKind.i64.wrap (-(x:Int))=-x:=IntWalk.i64_in _ (by omega)
    obtain⟨k0,k1,k2,k3⟩:=gX g1
    have g2:=(g1.setCell 0 (.int .i64 (-(x:Int)))).p1
    obtain⟨w5,hw5⟩:=aC (w4.setCell ⟨C,0,none⟩ (.int .i64 (-(x:Int))))
    rw[←hw5] at g2
    have Xv:=ah hw5
    clear hw5 g1
    go_upto_region 8 with (fail)
    clear k0 k1 k2 k3
    rw[←Xv.out]
    obtain⟨k0,k1,-,-⟩:=gX g2.p1
    obtain⟨b0,b1,b2,b3⟩:=gX g2
    have g3:=fH g2 (.int .i64 (-(x:Int))) (.int .i64 y)
    obtain⟨w6,hw6⟩:=aC ((w5.setCell ⟨B,0,none⟩ (.int .i64 (-(x:Int)))).setCell ⟨B,1,none⟩ (.int .i64 y))
    rw[←hw6] at g3
    obtain⟨d0,d1,-,-⟩:=gX g3
    have HW6:=ah hw6
    clear hw6
    go_wp2
    rw[←HW6.out]
    exact bodyPost_ret (v:=.tuple #[.agg #[.int .i64 (-(x:Int)),.int .i64 y],.int .i64 0]) (by simp[results,Tryz.results90,go_sem,d0,d1]) rfl ⟨by rw[EB2.out];rfl,g3.forget.forget⟩
   | false=>
    obtain⟨k0,k1,-,-⟩:=gX g1
    obtain⟨b0,b1,b2,b3⟩:=gX g1.p1
    have g3:=fH g1.p1 (.int .i64 x) (.int .i64 y)
    obtain⟨w6,hw6⟩:=aC ((w4.setCell ⟨B,0,none⟩ (.int .i64 x)).setCell ⟨B,1,none⟩ (.int .i64 y))
    rw[←hw6] at g3
    obtain⟨d0,d1,-,-⟩:=gX g3
    have HW6:=ah hw6
    clear hw6
    go_wp2
    rw[←HW6.out]
    exact bodyPost_ret (v:=.tuple #[.agg #[.int .i64 x,.int .i64 y],.int .i64 0]) (by simp[results,Tryz.results90,go_sem,d0,d1]) rfl ⟨by rw[EB2.out];rfl,g3.forget.forget⟩
end Go.Proofs.YtgicfogmdfdjmaaGreatDoor
namespace Go.Proofs.YtgicfogmdfdjmaaGreatDoor
open Go.RowKit PA
def Ud (r:Rt):Value:=.agg #[.int .i64 r.n,.int .i64 r.d]
def eX (r:Rt×Int):Value:=.tuple #[.agg #[.int .i64 r.1.n,.int .i64 r.1.d],.int .i64 r.2]
set_option maxHeartbeats 1000000 in
theorem JC {W w:World} {A:aG} (n d:Int) (hn1:-9223372036854775808≤n) (hn2:n≤9223372036854775807) (hd1:-9223372036854775808≤d) (hd2:d≤9223372036854775807) (h:Sat W w A):
 Calls Tryz.prog 71 #[.int .i64 n,.int .i64 d] w fun e w'=>e=.returned (eX (newR n d))∧Sat W w' A:=by
 obtain⟨r,hr⟩:=aC (newR n d)
 rw[←hr]
 have HR:=ah hr
 have h1:=h.alloc (.cells #[.int .i64 0,.int .i64 0] 57)
 obtain⟨B,hB⟩:=aC (w.heap.size)
 obtain⟨w1,hw1⟩:=aC (w.alloc (.cells #[.int .i64 0,.int .i64 0] 57))
 rw[←hB,←hw1] at h1
 have HB:=ah hB
 have HW1:=ah hw1
 clear hB hw1 h hr
 go_enter Tryz.func71,Tryz.ntmps71
 go_upto_region 1 with (fail)
 rw[←HB.out,←HW1.out]
 by_cases h0:d=0
 ·subst h0
  obtain⟨k0,k1,k2,k3⟩:=gX h1
  have h4:=fH h1 (.int .i64 0) (.int .i64 0)
  obtain⟨w4,hw4⟩:=aC ((w1.setCell ⟨B,0,none⟩ (.int .i64 0)).setCell ⟨B,1,none⟩ (.int .i64 0))
  rw[←hw4] at h4
  obtain⟨d0,d1,-,-⟩:=gX h4
  have uQ:=ah hw4
  clear hw4
  go_wp2
  rw[←uQ.out]
  exact bodyPost_ret (v:=.tuple #[.agg #[.int .i64 0,.int .i64 0],.int .i64 1]) (by simp[results,Tryz.results71,go_sem,d0,d1]) rfl ⟨by rw[HR.out];rfl,h4.forget⟩
 ·obtain⟨neg,hneg⟩:∃neg,(!(decide (n<0)==decide (d<0)))=neg:=⟨_,rfl⟩
  have eN:kJ neg n.natAbs d.natAbs=r:=by rw[HR.out];unfold newR;rw[if_neg h0,←hneg];rfl
  have hs1:=fun w0=>EX n hn1 hn2 w0
  have hs2:=fun w0=>EX d hd1 hd2 w0
  have hb:=fun w0 (A0:aG) (hh:Sat W w0 A0)=>MZ neg n.natAbs d.natAbs (by omega) (by omega) (by omega) hh
  rw[eN] at hb
  obtain⟨a1,ha1⟩:=aC (n.natAbs)
  obtain⟨a2,ha2⟩:=aC (d.natAbs)
  rw[←ha1] at hs1 hb
  rw[←ha2] at hs2 hb
  have OM:=ah hs1
  have HS2:=ah hs2
  have tX:=ah hb
  clear hs1 hs2 hb ha1 ha2 eN HR
  go_wp2_with fail
  refine (OM.out _).mono ?_
  rintro e w2 ⟨rfl,rfl⟩
  go_wp2_with fail
  refine (HS2.out _).mono ?_
  rintro e w2 ⟨rfl,rfl⟩
  clear OM HS2
  go_wp2_with fail
  refine (tX.out _ _ h1).mono ?_
  rintro e w2 ⟨rfl,h2⟩
  obtain⟨⟨rn,rd⟩,re⟩:=r
  clear tX h1 hneg
  obtain⟨k0,k1,k2,k3⟩:=gX h2
  have h4:=fH h2 (.int .i64 rn) (.int .i64 rd)
  obtain⟨w4,hw4⟩:=aC ((w2.setCell ⟨B,0,none⟩ (.int .i64 rn)).setCell ⟨B,1,none⟩ (.int .i64 rd))
  rw[←hw4] at h4
  obtain⟨d0,d1,-,-⟩:=gX h4
  have uQ:=ah hw4
  clear hw4
  go_wp2
  rw[←uQ.out]
  exact bodyPost_ret (v:=.tuple #[.agg #[.int .i64 rn,.int .i64 rd],.int .i64 re]) (by simp[results,Tryz.results71,go_sem,d0,d1]) rfl ⟨rfl,h4.forget⟩
theorem Na (w:World) (a b c d:Int):(binOp .neq 57 (.agg #[.int .i64 a,.int .i64 b]) (.agg #[.int .i64 c,.int .i64 d])).run Tryz.prog w=.ok (.bool (!(a==c&&b==d))) w:=by
 have h1:Tryz.prog.underlying 57=some (.struct (Tryz.prog.fieldsOf 57)):=by kernel_rfl
 have h2:Tryz.prog.stoodInHeld 57=false:=by kernel_rfl
 have e:=run_equalIn_struct (P:=Tryz.prog) w 9999 57 #[.int .i64 a,.int .i64 b] #[.int .i64 c,.int .i64 d] h1 h2
 rw[run_neq_struct,e]
 clear e
 have q0:∀a b:Int,(part 3 #[.int .i64 a,.int .i64 b] 0).run Tryz.prog w=.ok (.int .i64 a) w:=fun a b=>by kernel_rfl
 have q1:∀a b:Int,(part 3 #[.int .i64 a,.int .i64 b] 1).run Tryz.prog w=.ok (.int .i64 b) w:=fun a b=>by kernel_rfl
 have r0:∀a b:Int,(Op.equalIn 9999 3 (.int .i64 a) (.int .i64 b)).run Tryz.prog w=.ok (a==b) w:=fun a b=>run_equalIn_int (P:=Tryz.prog) w 9998 3 .i64 .i64 a b Tryz.underlying3
 by_cases e1:a=c
 ·by_cases e2:b=d
  ·simp[Program.fieldsOf,Tryz.underlying57,Op.eqFields,q0,q1,r0,e1,e2]
  ·simp[Program.fieldsOf,Tryz.underlying57,Op.eqFields,q0,q1,r0,e1,e2]
 ·simp[Program.fieldsOf,Tryz.underlying57,Op.eqFields,q0,r0,e1]
set_option maxHeartbeats 1000000 in
theorem yU {W w:World} {A:aG} (r:Rt) (hn1:-9223372036854775808≤r.n) (hn2:r.n≤9223372036854775807) (hd1:-9223372036854775808≤r.d) (hd2:r.d≤9223372036854775807) (h:Sat W w A):
 Calls Tryz.prog 89 #[.agg #[.int .i64 r.n,.int .i64 r.d]] w fun e w'=>e=.returned (.int .i64 (if okR r=true then 0 else 1))∧Sat W w' A:=by
 obtain⟨n,d⟩:=r
 simp only at hn1 hn2 hd1 hd2 ⊢
 obtain⟨ok,hok⟩:=aC (okR ⟨n,d⟩)
 rw[←hok]
 obtain⟨rv,fQ⟩:∃rv:Int,rv=if ok=true then 0 else 1:=⟨_,rfl⟩
 rw[←fQ]
 have ku:=ah hok
 have dP:=ah fQ
 have h1:=h.alloc (.cells #[.int .i64 n,.int .i64 d] 57)
 obtain⟨k0,k1,-,-⟩:=gX h1
 clear hok fQ h
 by_cases c1:d<1
 ·obtain rfl:ok=false:=by rw[ku.out];unfold okR;rw[decide_eq_false (by show ¬1≤d;omega)];rfl
  go_enter Tryz.func89,Tryz.ntmps89
  go_wp2
  go_ret
  exact⟨by rw[dP.out];rfl,h1.forget⟩
 ·have hnew:=JC n d hn1 hn2 hd1 hd2 h1
  obtain⟨⟨⟨rn,rd⟩,re⟩,hr⟩:∃r,r=newR n d:=⟨_,rfl⟩
  rw[←hr] at hnew
  have hnew2:Calls Tryz.prog 71 #[.int .i64 n,.int .i64 d] (w.alloc (.cells #[.int .i64 n,.int .i64 d] 57)) fun e w'=>e=.returned (.tuple #[.agg #[.int .i64 rn,.int .i64 rd],.int .i64 re])∧Sat W w' (sep (blk w.heap.size (.cells #[.int .i64 n,.int .i64 d] 57)) A):=hnew
  have JD:=ah hnew2
  have HR:=ah hr
  clear hr hnew hnew2
  go_enter Tryz.func89,Tryz.ntmps89
  go_wp2_with fail
  refine JD.out.mono ?_
  rintro e w2 ⟨rfl,h2⟩
  clear k0 k1 h1 JD
  have h3:=h2.alloc (.cells #[.int .i64 rn,.int .i64 rd] 57)
  obtain⟨k0,k1,-,-⟩:=gX h3
  obtain⟨j0,j1,-,-⟩:=gX h3.p1
  obtain⟨C,hC⟩:=aC (w2.heap.size)
  obtain⟨B,hB⟩:=aC (w.heap.size)
  obtain⟨w3,hw3⟩:=aC (w2.alloc (.cells #[.int .i64 rn,.int .i64 rd] 57))
  rw[←hC,←hB,←hw3] at h3
  rw[←hC,←hw3] at k0 k1
  rw[←hB,←hw3] at j0 j1
  have HC:=ah hC
  have HB:=ah hB
  have HW3:=ah hw3
  have h4:=h3.forget.forget
  clear hC hB hw3 h2 h3
  go_upto_region 4 with (fail)
  rw[←HC.out,←HB.out,←HW3.out]
  have hg:=fun w0=>Na w0 rn rd n d
  by_cases c2:re=0
  ·subst c2
   obtain⟨eq,heq⟩:=aC (!(rn==n&&rd==d))
   rw[←heq] at hg
   have hko:ok=!eq:=by
    rw[ku.out]
    unfold okR
    rw[←HR.out,decide_eq_true (show 1≤d by omega),heq]
    by_cases e1:rn=n
    ·by_cases e2:rd=d
     ·simp[e1,e2]
     ·simp[e1,e2]
    ·simp[e1]
   have HKO:=ah hko
   clear heq hko
   cases eq with
   | true=>
    go_wp2
    go_ret
    exact⟨by rw[dP.out,HKO.out];rfl,h4⟩
   | false=>
    go_wp2
    go_ret
    exact⟨by rw[dP.out,HKO.out];rfl,h4⟩
  ·obtain rfl:ok=false:=by
    rw[ku.out]
    unfold okR
    rw[←HR.out]
    have:¬(((⟨rn,rd⟩:Rt),re)=(⟨n,d⟩,0)):=fun e=>c2 (Prod.mk.inj e).2
    rw[decide_eq_false this,Bool.and_false]
   have hz:(re !=0)=true:=by simp[c2]
   go_wp2
   go_ret
   exact⟨by rw[dP.out];rfl,h4⟩
structure Qo (r:Rt):Prop where
 n1:-9223372036854775808≤r.n
 n2:r.n≤9223372036854775807
 d1:-9223372036854775808≤r.d
 d2:r.d≤9223372036854775807
theorem Qo.of {r:Rt} (h:Rok r):Qo r:=⟨by have:=h.n1;omega,by have:=h.n2;omega,by have:=h.d1;omega,by have:=h.d2;omega⟩
set_option maxHeartbeats 1000000 in
theorem JE {W w:World} {A:aG} (a b:Rt) (ha:Qo a) (hb:Qo b) (C:Nat) (h:Sat W w (sep (blk C (.cells #[.int .i64 a.n,.int .i64 a.d,.int .i64 b.n,.int .i64 b.d] 57 (0,0))) A)):
 Calls Tryz.prog 70 #[.slice (some ⟨C,0,none⟩) 2 2] w fun e w'=>e=.returned (.int .i64 (if okR a=true∧okR b=true then 0 else 1))∧Sat W w' A:=by
 obtain⟨rv,fQ⟩:∃rv:Int,rv=if okR a=true∧okR b=true then 0 else 1:=⟨_,rfl⟩
 rw[←fQ]
 have dP:=ah fQ
 have HA:=fun w0 (A0:aG) (h0:Sat W w0 A0)=>yU a ha.n1 ha.n2 ha.d1 ha.d2 h0
 have HB:=fun w0 (A0:aG) (h0:Sat W w0 A0)=>yU b hb.n1 hb.n2 hb.d1 hb.d2 h0
 obtain⟨oa,hoa⟩:=aC (okR a)
 obtain⟨ob,hob⟩:=aC (okR b)
 rw[←hoa] at HA
 rw[←hob] at HB
 have HOA:=ah hoa
 have vO:=ah hob
 have HHA:=ah HA
 have HHB:=ah HB
 obtain⟨an,ad⟩:=a
 obtain⟨bn,bd⟩:=b
 clear fQ hoa hob HA HB ha hb
 go_enter Tryz.func70,Tryz.ntmps70
 go_wp2
 go_loopw [8] (fun kv wr=>∃k:Nat,kv=.int .i64 k∧k≤2∧(1≤k→oa=true)∧(2≤k→ob=true)∧Sat W wr (sep (blk C (.cells #[.int .i64 an,.int .i64 ad,.int .i64 bn,.int .i64 bd] 57 (0,0))) A)) (fun kv _=>2-(intOf kv).toNat)
 case atStart=>exact⟨0,rfl,by omega,by omega,by omega,h⟩
 case round=>
  obtain⟨k,rfl,hk,q1,q2,hS⟩:=hrel
  have Q1:=ah q1
  have Q2:=ah q2
  clear q1 q2
  obtain rfl|rfl|rfl:k=0∨k=1∨k=2:=by omega
  ·have c0:wr.cell? ⟨C,0,none⟩=some (.int .i64 an):=hS.cell 0
   have c1:wr.cell? ⟨C,1,none⟩=some (.int .i64 ad):=hS.cell 1
   have h2:=hS.dD (.cells #[.int .i64 an,.int .i64 ad] 57)
   clear hS
   go_wp2_with fail
   refine (HHA.out _ _ h2).mono ?_
   rintro e w3 ⟨rfl,h3⟩
   clear c0 c1 h2
   cases oa with
   | true=>
    go_wp2_with fail
    go_roundw
    case rel=>exact⟨1,rfl,by omega,fun _=>(by first|rfl|trivial),by omega,h3⟩
    case measure=>simp[intOf]
   | false=>
    go_wp2_with fail
    go_ret
    exact⟨by rw[dP.out,if_neg (by rw[←HOA.out];simp)];rfl,h3.forget⟩
  ·have c0:wr.cell? ⟨C,2,none⟩=some (.int .i64 bn):=hS.cell 2
   have c1:wr.cell? ⟨C,3,none⟩=some (.int .i64 bd):=hS.cell 3
   have h2:=hS.dD (.cells #[.int .i64 bn,.int .i64 bd] 57)
   clear hS
   go_wp2_with fail
   refine (HHB.out _ _ h2).mono ?_
   rintro e w3 ⟨rfl,h3⟩
   clear c0 c1 h2
   cases ob with
   | true=>
    go_wp2_with fail
    go_roundw
    case rel=>exact⟨2,rfl,by omega,fun _=>Q1.out (by omega),fun _=>(by first|rfl|trivial),h3⟩
    case measure=>simp[intOf]
   | false=>
    go_wp2_with fail
    go_ret
    exact⟨by rw[dP.out,if_neg (by rw[←vO.out];simp)];rfl,h3.forget⟩
  ·go_wp2_with fail
   go_ret
   exact⟨by rw[dP.out,if_pos ⟨by rw[←HOA.out];exact Q1.out (by omega),by rw[←vO.out];exact Q2.out (by omega)⟩];rfl,hS.forget⟩
end Go.Proofs.YtgicfogmdfdjmaaGreatDoor
namespace Go.Proofs.YtgicfogmdfdjmaaGreatDoor
open Go.RowKit PA
theorem nT {a b:Int} (h1:-1099511627776≤a) (h2:a≤1099511627776) (h3:0≤b) (h4:b≤1048576):-1152921504606846976≤a*b∧a*b≤1152921504606846976:=by
 have e1:a*b≤1099511627776*b:=Int.mul_le_mul_of_nonneg_right h2 h3
 have e2:-1099511627776*b≤a*b:=Int.mul_le_mul_of_nonneg_right h1 h3
 omega
set_option maxHeartbeats 1000000 in
theorem JF {W w:World} {A:aG} (a b:Rt) (ha:Qo a) (hb:Qo b) (h:Sat W w A):
 Calls Tryz.prog 56 #[.agg #[.int .i64 a.n,.int .i64 a.d],.agg #[.int .i64 b.n,.int .i64 b.d]] w fun e w'=>e=.returned (eX (jB a b))∧Sat W w' A:=by
 obtain⟨rs,hrs⟩:=aC (jB a b)
 rw[←hrs]
 have WG:=ah hrs
 have h1:=((h.alloc (.cells #[.int .i64 a.n,.int .i64 a.d] 57)).alloc (.cells #[.int .i64 b.n,.int .i64 b.d] 57)).alloc (.cells #[.int .i64 0,.int .i64 0] 57)
 obtain⟨B,hB⟩:=aC (w.heap.size)
 simp only[World.size_alloc,←hB] at h1
 obtain⟨w1,hw1⟩:=aC (((w.alloc (.cells #[.int .i64 a.n,.int .i64 a.d] 57)).alloc (.cells #[.int .i64 b.n,.int .i64 b.d] 57)).alloc (.cells #[.int .i64 0,.int .i64 0] 57))
 rw[←hw1] at h1
 have HV:=fun w0 (A0:aG) C (h0:Sat W w0 (sep (blk C (.cells #[.int .i64 a.n,.int .i64 a.d,.int .i64 b.n,.int .i64 b.d] 57 (0,0))) A0))=>JE a b ha hb C h0
 obtain⟨ok,hok⟩:∃ok:Bool,ok=decide (okR a=true∧okR b=true):=⟨_,rfl⟩
 have hif:(if okR a=true∧okR b=true then (0:Int) else 1)=if ok=true then 0 else 1:=by
  rw[hok]
  by_cases hh:okR a=true∧okR b=true
  ·rw[if_pos hh,decide_eq_true hh,if_pos rfl]
  ·rw[if_neg hh,decide_eq_false hh,if_neg (by simp)]
 rw[hif] at HV
 have HB:=ah hB
 have HW1:=ah hw1
 have HHV:=ah HV
 have ku:=ah hok
 have HBA:=ah ha
 have tX:=ah hb
 obtain⟨an,ad⟩:=a
 obtain⟨bn,bd⟩:=b
 clear hrs hB hw1 HV hif hok h ha hb
 go_enter Tryz.func56,Tryz.ntmps56
 go_upto_region 1 with (fail)
 simp only[←HB.out,←HW1.out]
 obtain⟨k0,k1,-,-⟩:=gX h1.p1
 obtain⟨j0,j1,-,-⟩:=gX h1.p2
 have h2:=h1.alloc (.cells #[.int .i64 an,.int .i64 ad,.int .i64 bn,.int .i64 bd] 57)
 go_wp2_with fail
 refine (HHV.out _ _ _ h2).mono ?_
 rintro e w3 ⟨rfl,h3⟩
 clear h2 h1 k0 k1 j0 j1 HHV
 cases ok with
 | false=>
  obtain⟨k0,k1,k2,k3⟩:=gX h3
  have h4:=fH h3 (.int .i64 0) (.int .i64 0)
  obtain⟨w4,hw4⟩:=aC ((w3.setCell ⟨B+1+1,0,none⟩ (.int .i64 0)).setCell ⟨B+1+1,1,none⟩ (.int .i64 0))
  rw[←hw4] at h4
  obtain⟨d0,d1,-,-⟩:=gX h4
  have uQ:=ah hw4
  clear hw4
  go_wp2
  rw[←uQ.out]
  exact bodyPost_ret (v:=.tuple #[.agg #[.int .i64 0,.int .i64 0],.int .i64 1]) (by simp[results,Tryz.results56,go_sem,d0,d1]) rfl ⟨by rw[WG.out];unfold jB;rw[if_neg (of_decide_eq_false ku.out.symm)];rfl,h4.forget.forget.forget⟩
 | true=>
  have Xw:=of_decide_eq_true ku.out.symm
  have r1:=(dM Xw.1).1
  have r2:=(dM Xw.2).1
  obtain⟨a1,a2,a3,a4⟩:=r1
  obtain⟨b1,b2,b3,b4⟩:=r2
  simp only at a1 a2 a3 a4 b1 b2 b3 b4
  have m1:=nT a3 a4 (show 0≤bd by omega) b2
  have m2:=nT b3 b4 (show 0≤ad by omega) a2
  have m3:=nT (show -1099511627776≤ad by omega) (show ad≤1099511627776 by omega) (show 0≤bd by omega) b2
  have heq:newR (an*bd+bn*ad) (ad*bd)=rs:=by rw[WG.out];unfold jB;rw[if_pos Xw]
  obtain⟨x,hx⟩:=aC (an*bd)
  obtain⟨y,hy⟩:=aC (bn*ad)
  obtain⟨z,hz⟩:=aC (ad*bd)
  rw[←hx] at m1
  rw[←hy] at m2
  rw[←hz] at m3
  rw[←hx,←hy,←hz] at heq
  have e1:IntKind.i64.wrap (an*bd)=x:=by rw[←hx];exact IntWalk.i64_in _ (by omega)
  have e2:IntKind.i64.wrap (bn*ad)=y:=by rw[←hy];exact IntWalk.i64_in _ (by omega)
  have e3:IntKind.i64.wrap (ad*bd)=z:=by rw[←hz];exact IntWalk.i64_in _ (by omega)
  have e4:IntKind.i64.wrap (x+y)=x+y:=IntWalk.i64_in _ (by omega)
  have hnew:=fun w0 (A0:aG) (h0:Sat W w0 A0)=>JC (x+y) z (by omega) (by omega) (by omega) (by omega) h0
  rw[heq] at hnew
  have JD:=ah hnew
  obtain⟨k0,k1,-,-⟩:=gX h3.p1
  obtain⟨j0,j1,-,-⟩:=gX h3.p2
  clear hnew heq hx hy hz m1 m2 m3 Xw a1 a2 a3 a4 b1 b2 b3 b4 WG ku HBA tX
  go_wp2_with fail
  refine (JD.out _ _ h3).mono ?_
  rintro e w4 ⟨rfl,h4⟩
  clear e1 e2 e3 e4 k0 k1 j0 j1 h3 JD
  obtain⟨⟨rn,rd⟩,re⟩:=rs
  simp only[eX]
  obtain⟨k0,k1,k2,k3⟩:=gX h4
  have h5:=fH h4 (.int .i64 rn) (.int .i64 rd)
  obtain⟨w5,hw5⟩:=aC ((w4.setCell ⟨B+1+1,0,none⟩ (.int .i64 rn)).setCell ⟨B+1+1,1,none⟩ (.int .i64 rd))
  rw[←hw5] at h5
  obtain⟨d0,d1,-,-⟩:=gX h5
  have Xv:=ah hw5
  clear hw5
  go_wp2
  rw[←Xv.out]
  exact bodyPost_ret (v:=.tuple #[.agg #[.int .i64 rn,.int .i64 rd],.int .i64 re]) (by simp[results,Tryz.results56,go_sem,d0,d1]) rfl ⟨rfl,h5.forget.forget.forget⟩
set_option maxHeartbeats 1000000 in
theorem Uk {W w:World} {A:aG} (a b:Rt) (ha:Qo a) (hb:Qo b) (hb2:Qo (negR b)) (h:Sat W w A):
 Calls Tryz.prog 55 #[.agg #[.int .i64 a.n,.int .i64 a.d],.agg #[.int .i64 b.n,.int .i64 b.d]] w fun e w'=>e=.returned (eX (uX a b))∧Sat W w' A:=by
 obtain⟨rs,hrs⟩:=aC (uX a b)
 rw[←hrs]
 have hadd:=fun w0 (A0:aG) (h0:Sat W w0 A0)=>JF a (negR b) ha hb2 h0
 rw[show jB a (negR b)=rs from hrs.symm] at hadd
 have JG:=ah hadd
 have h1:=((h.alloc (.cells #[.int .i64 a.n,.int .i64 a.d] 57)).alloc (.cells #[.int .i64 b.n,.int .i64 b.d] 57)).alloc (.cells #[.int .i64 0,.int .i64 0] 57)
 obtain⟨B,hB⟩:=aC (w.heap.size)
 simp only[World.size_alloc,←hB] at h1
 obtain⟨w1,hw1⟩:=aC (((w.alloc (.cells #[.int .i64 a.n,.int .i64 a.d] 57)).alloc (.cells #[.int .i64 b.n,.int .i64 b.d] 57)).alloc (.cells #[.int .i64 0,.int .i64 0] 57))
 rw[←hw1] at h1
 have HB:=ah hB
 have HW1:=ah hw1
 have en:IntKind.i64.wrap (-b.n)=-b.n:=IntWalk.i64_in _ ⟨hb2.n1,hb2.n2⟩
 obtain⟨an,ad⟩:=a
 obtain⟨bn,bd⟩:=b
 simp only at en
 have hs:=((h1.p1.setCell 0 (.int .i64 (-bn))))
 obtain⟨w2,hw2⟩:=aC (w1.setCell ⟨B+1,0,none⟩ (.int .i64 (-bn)))
 rw[←hw2] at hs
 have HW2:=ah hw2
 obtain⟨k0,k1,k2,k3⟩:=gX h1.p1
 clear hrs hB hw1 h ha hb hb2 hadd hw2
 go_enter Tryz.func55,Tryz.ntmps55
 go_upto_region 1 with (fail)
 simp only[←HB.out,←HW1.out]
 go_upto_region 2 with (fail)
 clear k0 k1 k2 k3 en
 rw[←HW2.out]
 obtain⟨k0,k1,-,-⟩:=gX hs
 obtain⟨j0,j1,-,-⟩:=gX hs.p2
 go_wp2_with fail
 refine (JG.out _ _ hs).mono ?_
 rintro e w4 ⟨rfl,h4⟩
 clear k0 k1 j0 j1 hs h1 JG
 obtain⟨⟨rn,rd⟩,re⟩:=rs
 simp only[eX]
 obtain⟨k0,k1,k2,k3⟩:=gX h4.p1
 have h5:=fH h4.p1 (.int .i64 rn) (.int .i64 rd)
 obtain⟨w5,hw5⟩:=aC ((w4.setCell ⟨B+1+1,0,none⟩ (.int .i64 rn)).setCell ⟨B+1+1,1,none⟩ (.int .i64 rd))
 rw[←hw5] at h5
 obtain⟨d0,d1,-,-⟩:=gX h5
 have Xv:=ah hw5
 clear hw5
 go_wp2
 rw[←Xv.out]
 exact bodyPost_ret (v:=.tuple #[.agg #[.int .i64 rn,.int .i64 rd],.int .i64 re]) (by simp[results,Tryz.results55,go_sem,d0,d1]) rfl ⟨rfl,h5.forget.forget.forget⟩
end Go.Proofs.YtgicfogmdfdjmaaGreatDoor
namespace PA
open Go Go.RowKit
structure Sv where
 a:Option Addr
 n:Nat
 c:Nat
def Sv.v (s:Sv):Value:=.slice s.a s.n s.c
def Sv.none:Sv:=⟨.none,0,0⟩
structure Ac where
 k:Int
 d:Int
 n:Int
 f:Int
 o:Int
 p:Int
 q:Int
 u:Int
 m:Int
 sn:Int
 sd:Int
 td:Sv
 tc:Sv
 cl:Sv
 ea:Sv
 fo:Int
 fn:Int
 fi:Sv
 fk:Sv
def Ac.cells (x:Ac):List Value:=[.int .i64 x.k,.int .i64 x.d,.int .i64 x.n,.int .i64 x.f,.int .i64 x.o,.int .i64 x.p,.int .i64 x.q,.int .i64 x.u,.int .i64 x.m,.int .i64 x.sn,.int .i64 x.sd,
 .slice x.td.a x.td.n x.td.c,.slice x.tc.a x.tc.n x.tc.c,.slice x.cl.a x.cl.n x.cl.c,.slice x.ea.a x.ea.n x.ea.c,.int .i64 x.fo,.int .i64 x.fn,.slice x.fi.a x.fi.n x.fi.c,.slice x.fk.a x.fk.n x.fk.c]
theorem Ac.len (x:Ac):x.cells.length=19:=rfl
theorem Ac.one (x:Ac):∀u∈x.cells,u.oneCell'=true:=by
 intro u hu
 simp only[Ac.cells,List.mem_cons,List.not_mem_nil,or_false] at hu
 rcases hu with rfl|rfl|rfl|rfl|rfl|rfl|rfl|rfl|rfl|rfl|rfl|rfl|rfl|rfl|rfl|rfl|rfl|rfl|rfl<;>rfl
def Ac.sh (x:Ac):Rt:=⟨x.sn,x.sd⟩
def Ac.zero:Ac:=⟨0,0,0,0,0,0,0,0,0,0,0,Sv.none,Sv.none,Sv.none,Sv.none,0,0,Sv.none,Sv.none⟩
def bI (xs:List Ac):List Value:=xs.flatMap Ac.cells
theorem fF (xs:List Ac):(bI xs).length=xs.length*19:=by
 induction xs with
 | nil=>rfl
 | cons x xs ih=>rw[bI,List.flatMap_cons,dI,←bI,ih,Ac.len,List.length_cons];omega
theorem gG (xs ys:List Ac):bI (xs++ys)=bI xs++bI ys:=by simp[bI]
theorem vP (xs:List Ac):∀u∈bI xs,u.oneCell'=true:=by
 intro u hu
 obtain⟨x,_,hx⟩:=List.mem_flatMap.1 hu
 exact x.one u hx
theorem xA (xs:List Ac) (i:Nat) (hi:i<xs.length) (j:Nat) (hj:j<19):(bI xs)[i*19+j]?=xs[i].cells[j]?:=by
 have e:xs=xs.take i++xs[i]::xs.drop (i+1):=by rw[←List.drop_eq_getElem_cons hi,List.take_append_drop]
 have hl:(bI (xs.take i)).length=i*19:=by rw[fF,List.length_take,Nat.min_eq_left (by omega)]
 conv=>lhs;rw[e]
 rw[gG,List.getElem?_append_right (by omega),hl,Nat.add_sub_cancel_left]
 show (List.flatMap Ac.cells (xs[i]::xs.drop (i+1)))[j]?=_
 rw[List.flatMap_cons,List.getElem?_append_left (by rw[Ac.len];exact hj)]
def cmpK (x y:Ac):Int:=if x.d<y.d then -1 else if y.d<x.d then 1 else if x.n<y.n then -1 else if y.n<x.n then 1 else 0
def fD (x y:Ac):Prop:=x.d≠y.d∨x.n≠y.n
theorem fD.symm {x y:Ac} (h:fD x y):fD y x:=h.imp Ne.symm Ne.symm
theorem xB (x y:Ac):cmpK y x=-cmpK x y:=by
 unfold cmpK
 repeat' split
 all_goals first|rfl|omega
theorem uK {x y z:Ac} (h1:cmpK x y≤0) (h2:cmpK y z≤0):cmpK x z≤0:=by
 unfold cmpK at *
 repeat' split
 all_goals first|omega|skip
 all_goals (repeat' split at h1)<;>(repeat' split at h2)<;>omega
def Asc (c:Ac→Ac→Int) (l:List Ac):Prop:=l.Pairwise fun x y=>c x y≤0
theorem Aj {c:Ac→Ac→Int} (hne:∀x y,c x y≤0→c y x≤0→fD x y→False):∀(l m:List Ac),Asc c l→Asc c m→l.Perm m→l.Pairwise fD→l=m
 | [],m,_,_,hp,_=>(List.Perm.nil_eq hp)
 | x::l,[],_,_,hp,_=>absurd hp.length_eq (by simp)
 | x::l,y::m,h1,h2,hp,hk=>by
  have a1:=List.pairwise_cons.1 h1
  have a2:=List.pairwise_cons.1 h2
  have k1:=List.pairwise_cons.1 hk
  have hxy:x=y:=by
   have hx:x∈y::m:=hp.subset (by simp)
   have hy:y∈x::l:=hp.symm.subset (by simp)
   rcases List.mem_cons.1 hx with e|hx
   ·exact e
   ·rcases List.mem_cons.1 hy with e|hy
    ·exact e.symm
    ·exact False.elim (hne x y (a1.1 y hy) (a2.1 x hx) (k1.1 y hy))
  subst hxy
  rw[Aj hne l m a1.2 a2.2 ((List.perm_cons x).1 hp) k1.2]
theorem WX (x y:Ac) (h1:cmpK x y≤0) (h2:cmpK y x≤0) (h:fD x y):False:=by
 unfold cmpK at h1 h2
 unfold fD at h
 repeat' split at h1
 all_goals (repeat' split at h2)
 all_goals omega
theorem DY {R:Ac→Ac→Prop} (hs:∀x y,R x y→R y x) {l m:List Ac} (h:l.Perm m) (hl:l.Pairwise R):m.Pairwise R:=(List.Perm.pairwise_iff (fun h=>hs _ _ h) h).1 hl
end PA
namespace PA
open Go
abbrev l7:=Int→Option Rt
def aQ (S:l7) (p:Int):Rt:=(S p).getD ⟨0,1⟩
def jd (S:l7) (p:Int) (r:Rt):l7:=fun x=>if x=p then some r else S x
def lN (S:l7) (x:Ac):l7×Bool:=
 if (uX (aQ S x.p) x.sh).2≠0∨(uX (aQ S x.p) x.sh).1.n<0 then (S,false)
 else if (jB (aQ S x.q) x.sh).2≠0 then (S,false)
 else (jd (jd S x.p (uX (aQ S x.p) x.sh).1) x.q (jB (aQ S x.q) x.sh).1,true)
def gu (k:Int):Bool:=!(decide (k=5)||decide (k=19)||decide (k=20)||decide (k=21))
def aX (file fK day:Int) (x:Ac):Bool:=gu x.k&&(decide (x.f=file)&&(decide (fK≤x.d)&&(decide (x.d≤day)&&(decide (x.k=16)||decide (x.k=17)))))
def stepT (S:l7) (x:Ac):l7×Bool:=if x.k=16 then lN S x else (S,decide (0<(aQ S x.p).n))
def walkT {σ:Type} (file fK day:Int) (ev:σ→Nat→Ac→Bool→σ):Nat→List Ac→l7→σ→l7×σ
 | _,[],S,s=>(S,s)
 | i,x::l,S,s=>if aX file fK day x=true then walkT file fK day ev (i+1) l (stepT S x).1 (ev s i x (stepT S x).2) else walkT file fK day ev (i+1) l S s
def eY (file:Int) (x:Ac):Bool:=decide (x.k=0)&&decide (x.f=file)
def dF (file:Int) (S:List Ac):Option Ac:=S.find? (eY file)
def aP (file day:Int) (S:List Ac):Int:=
 if file<0∨4095<file∨day<0∨131072<day then 5 else match dF file S with
 | none=>7
 | some f=>if day<f.d then 7 else 0
def bW (p:Int):l7:=jd (fun _=>none) p ⟨1,1⟩
def uY (S:l7):Prop:=∀p r,S p=some r→okR r=true∧0≤r.n
theorem XR:okR ⟨1,1⟩=true:=by decide
theorem UQ:okR ⟨0,1⟩=true:=by decide
theorem uY.first (p:Int):uY (bW p):=by
 intro q r h
 unfold bW jd at h
 split at h
 ·cases h;exact⟨XR,by decide⟩
 ·cases h
theorem uY.share {S:l7} (h:uY S) (p:Int):okR (aQ S p)=true∧0≤(aQ S p).n:=by
 unfold aQ
 cases e:S p with
 | none=>exact⟨UQ,by decide⟩
 | some r=>exact h p r e
theorem Ux {S:l7} (h:uY S) (x:Ac) (hx:0≤x.sn):uY (lN S x).1:=by
 unfold lN
 split
 ·exact h
 ·rename_i h1
  split
  ·exact h
  ·rename_i h2
   have a1:(uX (aQ S x.p) x.sh).2=0:=by
    rcases Int.lt_trichotomy (uX (aQ S x.p) x.sh).2 0 with e|e|e
    ·exact absurd (.inl (by omega)) h1
    ·exact e
    ·exact absurd (.inl (by omega)) h1
   have a2:0≤(uX (aQ S x.p) x.sh).1.n:=by
    rcases Int.lt_or_le (uX (aQ S x.p) x.sh).1.n 0 with e|e
    ·exact absurd (.inr e) h1
    ·exact e
   have a3:(jB (aQ S x.q) x.sh).2=0:=by
    rcases Int.lt_trichotomy (jB (aQ S x.q) x.sh).2 0 with e|e|e
    ·exact absurd (by omega) h2
    ·exact e
    ·exact absurd (by omega) h2
   intro p r hr
   replace hr:(if p=x.q then some (jB (aQ S x.q) x.sh).1 else if p=x.p then some (uX (aQ S x.p) x.sh).1 else S p)=some r:=hr
   split at hr
   ·cases hr
    have e:jB (aQ S x.q) x.sh=((jB (aQ S x.q) x.sh).1,0):=Prod.ext rfl a3
    have hv:=BZ e
    refine⟨hv.1,?_⟩
    have hq:=h.share x.q
    obtain⟨r0,hr0⟩:=aC ((jB (aQ S x.q) x.sh).1)
    rw[←hr0] at e ⊢
    have e2:newR ((aQ S x.q).n*x.sh.d+x.sh.n*(aQ S x.q).d) ((aQ S x.q).d*x.sh.d)=(r0,0):=by
     rw[←e];unfold jB;rw[if_pos ⟨hv.2.1,hv.2.2⟩]
    have d1:=(dM hv.2.1).1.d1
    have d2:=(dM hv.2.2).1.d1
    have hn:=(G7 e2 (Int.mul_pos (by omega) (by omega)))
    have hnum:0≤(aQ S x.q).n*x.sh.d+x.sh.n*(aQ S x.q).d:=Int.add_nonneg (Int.mul_nonneg hq.2 (by omega)) (Int.mul_nonneg hx (by omega))
    rcases Int.lt_trichotomy ((aQ S x.q).n*x.sh.d+x.sh.n*(aQ S x.q).d) 0 with z|z|z
    ·omega
    ·have:=hn.2.1.2 z;omega
    ·have:=hn.2.2.2 z;omega
   ·split at hr
    ·cases hr
     have e:uX (aQ S x.p) x.sh=((uX (aQ S x.p) x.sh).1,0):=Prod.ext rfl a1
     exact⟨(BZ e).1,a2⟩
    ·exact h p r hr
theorem oW {σ τ:Type} (file fK day:Int) (ev:σ→Nat→Ac→Bool→σ) (ev':τ→Nat→Ac→Bool→τ):∀(l:List Ac) (i j:Nat) (S:l7) (s:σ) (t:τ),(walkT file fK day ev i l S s).1=(walkT file fK day ev' j l S t).1
 | [],_,_,_,_,_=>rfl
 | x::l,i,j,S,s,t=>by
  unfold walkT
  split
  ·exact oW file fK day ev ev' l _ _ _ _ _
  ·exact oW file fK day ev ev' l _ _ _ _ _
end PA
namespace PA
open Go Go.RowKit
structure Born (es:List MapEntry) (clock:Nat):Prop where
 lt:∀e∈es,e.born<clock
 nodup:(es.map (·.born)).Nodup
theorem Born.nil (c:Nat):Born [] c:=⟨fun _ h=>(by cases h),.nil⟩
theorem OC:∀{l:List MapEntry},(l.map (·.born)).Nodup→∀{x y:MapEntry},x∈l→y∈l→x.born=y.born→x=y
 | [],_,_,_,hx,_,_=>by cases hx
 | a::l,hn,x,y,hx,hy,h=>by
  rw[List.map_cons,List.nodup_cons] at hn
  rcases List.mem_cons.1 hx with rfl|hx'
  ·rcases List.mem_cons.1 hy with rfl|hy'
   ·rfl
   ·exact absurd (List.mem_map.2 ⟨y,hy',h.symm⟩) hn.1
  ·rcases List.mem_cons.1 hy with rfl|hy'
   ·exact absurd (List.mem_map.2 ⟨x,hx',h⟩) hn.1
   ·exact OC hn.2 hx' hy' h
theorem Born.push {es:List MapEntry} {c:Nat} (h:Born es c) (k v:Value):Born (es++[{ key:=k,val:=v,born:=c }]) (c+1):=by
 refine⟨fun e he=>?_,?_⟩
 ·rcases List.mem_append.1 he with he|he
  ·have:=h.lt e he;omega
  ·rw[List.mem_singleton.1 he];exact Nat.lt_succ_self c
 ·rw[lS,List.map_cons,List.map_nil]
  refine List.nodup_append.2 ⟨h.nodup,by simp,fun x hx y hy=>?_⟩
  obtain⟨e,he,rfl⟩:=List.mem_map.1 hx
  rw[List.mem_singleton.1 hy]
  have h1:=h.lt e he
  show e.born≠c
  omega
theorem yO (es:List MapEntry) (j:Nat) (k v:Value):(es.modify j fun x=>{ x with key:=k,val:=v }).map (·.born)=es.map (·.born):=by
 apply List.ext_getElem
 ·simp
 ·intro i h1 h2
  simp only[List.getElem_map,List.getElem_modify]
  split<;>rfl
theorem Born.modify {es:List MapEntry} {c:Nat} (h:Born es c) (j:Nat) (k v:Value):Born (es.modify j fun x=>{ x with key:=k,val:=v }) c:=by
 refine⟨fun e he=>?_,by rw[yO];exact h.nodup⟩
 have:e.born∈(es.modify j fun x=>{ x with key:=k,val:=v }).map (·.born):=List.mem_map.2 ⟨e,he,rfl⟩
 rw[yO] at this
 obtain⟨e',he',e2⟩:=List.mem_map.1 this
 rw[←e2];exact h.lt e' he'
theorem Born.erase {es:List MapEntry} {c:Nat} (h:Born es c) (j:Nat):Born (es.eraseIdx j) c:=
 ⟨fun e he=>h.lt e ((List.eraseIdx_sublist es j).mem he),h.nodup.sublist ((List.eraseIdx_sublist es j).map _)⟩
def iP (b:Nat) (f:Int→Option Value) (n:Nat):aG:=ex fun s:Array MapEntry×Nat=>sep (fact (fM s.1.toList f∧s.1.size=n∧Born s.1.toList s.2)) (blk b (.map s.1 s.2))
section
variable {P:Program} {W w:World} {A:aG}
theorem Sat.oL {b:Nat} {f:Int→Option Value} {n:Nat} (h:Sat W w (sep (iP b f n) A)):∃es clock,fM es.toList f∧es.size=n∧Born es.toList clock∧Sat W w (sep (blk b (.map es clock)) A):=by
 rw[iP,dA,Sat.ex] at h
 obtain⟨⟨es,clock⟩,h⟩:=h
 rw[aj] at h
 have h':=Sat.fact.1 h
 exact⟨es,clock,h'.1.1,h'.1.2.1,h'.1.2.2,h'.2⟩
theorem Sat.sK {b:Nat} {f:Int→Option Value} {n:Nat} {es:Array MapEntry} {clock:Nat} (h:Sat W w (sep (blk b (.map es clock)) A)) (h1:fM es.toList f) (h2:es.size=n) (h3:Born es.toList clock):Sat W w (sep (iP b f n) A):=by
 rw[iP,dA,Sat.ex]
 refine⟨(es,clock),?_⟩
 rw[aj]
 exact Sat.fact.2 ⟨⟨h1,h2,h3⟩,h⟩
theorem Sat.P5 {b:Nat} {f:Int→Option Value} {n:Nat} (h:Sat W w (sep (iP b f n) A)):Sat W w (sep (P6 b f n) A):=by
 obtain⟨es,clock,h1,h2,-,h4⟩:=h.oL
 exact h4.Xb h1 h2
theorem Sat.Ap (h:Sat W w A):Sat W (w.alloc (.map #[] 0)) (sep (iP w.heap.size (fun _=>none) 0) A):=
 (h.alloc (.map #[] 0)).sK fM.nil rfl (Born.nil 0)
theorem lK {T K E:TypeId} {z:Value} (hT:P.underlying T=some (.map K E)) (hK:P.underlying K=some (.int .i64)) (hz:∀w,(zeroValue E).run P w=.ok z w)
 {b:Nat} {f:Int→Option Value} {n:Nat} (h:Sat W w (sep (iP b f n) A)) (k:Int) (ok:Bool):
 (Instr.lookup T (.map (some b)) (.int .i64 k) ok).run P w=.ok (if ok then .tuple #[(f k).getD z,.bool (f k).isSome] else (f k).getD z) w:=zC hT hK hz h.P5 k ok
theorem jE {T K E:TypeId} (hT:P.underlying T=some (.map K E)) (hK:P.underlying K=some (.int .i64)) {b:Nat} {f:Int→Option Value} {n:Nat} (h:Sat W w (sep (iP b f n) A)) (k:Int) (v:Value):
 ∃w' n',(Instr.mapUpdate T (.map (some b)) (.int .i64 k) v).run P w=.ok () w'∧n'=(if (f k).isSome then n else n+1)∧Sat W w' (sep (iP b (ou f k (some v)) n') A):=by
 obtain⟨es,clock,h1,h2,hb,h3⟩:=h.oL
 obtain⟨r,e1,e2,e3⟩:=lJ (P:=P) (k:=k) hK h1 w
 have hg:=run_getObj_map (P:=P) h3.aN
 cases r with
 | none=>
  have hk:f k=none:=by rw[←e2];rfl
  refine⟨_,n+1,by simp[Instr.mapUpdate,run_underlying hT,hg,fP hK,e1,run_setObj_map (P:=P) h3.aN];rfl,by simp[hk],(h3.setObj _).sK ?_ (by simp[h2]) ?_⟩
  ·simpa using h1.push k v clock hk
  ·simpa using hb.push (.int .i64 k) v
 | some r=>
  obtain⟨j,u⟩:=r
  obtain⟨e,h4,h5,h6⟩:=e3 j u rfl
  have hk:(f k).isSome=true:=by rw[←e2];rfl
  have hkey:((es[j]?.map (·.key)).getD (.int .i64 k))=.int .i64 k:=by
   have:es[j]?=some e:=by simpa using h4
   simp[this,h5]
  refine⟨_,n,by simp[Instr.mapUpdate,run_underlying hT,hg,fP hK,e1,Instr.keyThatStays,hkey,vT,run_setObj_map (P:=P) h3.aN];rfl,by simp[hk],(h3.setObj _).sK ?_ (by simp[h2]) ?_⟩
  ·simpa using h1.modify k v h4 h5
  ·simpa using hb.modify j (.int .i64 k) v
structure SH (es:List MapEntry) (f:Int→Option Value) (clock since c0:Nat) (seen:Array Nat) (left:Int→Bool):Prop where
 rep:fM es f
 born:Born es clock
 old:∀e∈es,e.born<since
 sc:since≤c0
 scl:since≤clock
 lf:∀e∈es,∀k,e.key=.int .i64 k→left k=!seen.contains e.born
 lk:∀k,left k=true→(f k).isSome=true
def rng (b r:Nat) (f:Int→Option Value) (n:Nat) (left:Int→Bool) (cnt:Nat):aG:=ex fun s:Array MapEntry×Nat×Nat×Array Nat×Nat=>
 sep (fact (SH s.1.toList f s.2.1 s.2.2.1 s.2.2.2.2 s.2.2.2.1 left∧s.1.size=n∧(leftOf s.1 s.2.2.2.1).size=cnt)) (sep (blk b (.map s.1 s.2.1)) (blk r (.mapIter (some b) s.2.2.1 s.2.2.2.1 s.2.2.2.2)))
theorem Sat.Aq {b r:Nat} {f:Int→Option Value} {n:Nat} {left:Int→Bool} {cnt:Nat} (h:Sat W w (sep (rng b r f n left cnt) A)):
 ∃es clock since seen c0,SH es.toList f clock since c0 seen left∧es.size=n∧(leftOf es seen).size=cnt∧Sat W w (sep (blk b (.map es clock)) (sep (blk r (.mapIter (some b) since seen c0)) A)):=by
 rw[rng,dA,Sat.ex] at h
 obtain⟨⟨es,clock,since,seen,c0⟩,h⟩:=h
 rw[aj,aj] at h
 have h':=Sat.fact.1 h
 exact⟨es,clock,since,seen,c0,h'.1.1,h'.1.2.1,h'.1.2.2,h'.2⟩
theorem Sat.SI {b r:Nat} {f:Int→Option Value} {n:Nat} {left:Int→Bool} {cnt:Nat} {es:Array MapEntry} {clock since c0:Nat} {seen:Array Nat}
 (h:Sat W w (sep (blk b (.map es clock)) (sep (blk r (.mapIter (some b) since seen c0)) A))) (h1:SH es.toList f clock since c0 seen left) (h2:es.size=n) (h3:(leftOf es seen).size=cnt):Sat W w (sep (rng b r f n left cnt) A):=by
 rw[rng,dA,Sat.ex]
 refine⟨(es,clock,since,seen,c0),?_⟩
 rw[aj,aj]
 exact Sat.fact.2 ⟨⟨h1,h2,h3⟩,h⟩
theorem Sat.IY {b r:Nat} {f:Int→Option Value} {n:Nat} {left:Int→Bool} {cnt:Nat} (h:Sat W w (sep (rng b r f n left cnt) A)):w.rangeLeft b r=cnt:=by
 obtain⟨es,clock,since,seen,c0,-,-,h3,h4⟩:=h.Aq
 simp only[World.rangeLeft,h4.aN,h4.p1.aN]
 exact h3
theorem Sat.Xc {b r:Nat} {f:Int→Option Value} {n:Nat} {left:Int→Bool} {cnt:Nat} (h:Sat W w (sep (rng b r f n left cnt) A)):Sat W w (sep (iP b f n) A):=by
 obtain⟨es,clock,since,seen,c0,h1,h2,-,h4⟩:=h.Aq
 exact h4.p1.drop.sK h1.rep h2 h1.born
theorem fM.qV {es:List MapEntry} {f:Int→Option Value} (h:fM es f) {e:MapEntry} (he:e∈es) {k:Int} (hk:e.key=.int .i64 k):f k=some e.val:=by
 rw[←h.get k]
 cases hf:es.find? (gY k) with
 | none=>rw[List.find?_eq_none] at hf;exact absurd (by simp[gY,hk]) (hf e he)
 | some x=>
  have hx:=List.mem_of_find?_eq_some hf
  obtain⟨n,hn⟩:=h.keys x hx
  have hp:=List.find?_some hf
  simp[gY,hn] at hp
  subst hp
  have:=entry_eq_of_key h.nodup hx he (hn.trans hk.symm)
  rw[this];rfl
theorem fM.IZ {es:List MapEntry} {f:Int→Option Value} (h:fM es f) {k:Int} (hk:(f k).isSome=true):∃e∈es,e.key=.int .i64 k:=by
 rw[←h.get k] at hk
 cases hf:es.find? (gY k) with
 | none=>rw[hf] at hk;cases hk
 | some x=>
  have hx:=List.mem_of_find?_eq_some hf
  obtain⟨n,hn⟩:=h.keys x hx
  have hp:=List.find?_some hf
  simp[gY,hn] at hp
  subst hp
  exact⟨x,hx,hn⟩
theorem Au {T K E:TypeId} (hT:P.underlying T=some (.map K E)) {b:Nat} {f:Int→Option Value} {n:Nat} (h:Sat W w (sep (iP b f n) A)):
 ∃w',(Instr.range T (.map (some b))).run P w=.ok (.pointer (some ⟨w.heap.size,0,none⟩)) w'∧Sat W w' (sep (rng b w.heap.size f n (fun k=>(f k).isSome) n) A):=by
 obtain⟨es,clock,h1,h2,hb,h3⟩:=h.oL
 have hg:=run_getObj_map (P:=P) h3.aN
 refine⟨w.alloc (.mapIter (some b) clock #[] clock),by simp[Instr.range,run_underlying hT,hg],?_⟩
 refine ((h3.alloc (.mapIter (some b) clock #[] clock)).p1).SI ⟨h1,hb,hb.lt,Nat.le_refl _,Nat.le_refl _,fun e he k hk=>?_,fun k hk=>hk⟩ h2 ?_
 ·rw[h1.qV he hk];simp
 ·rw[←h2];simp[leftOf]
theorem I4 (es:Array MapEntry) (seen:Array Nat) (e:MapEntry) (he:e∈(leftOf es seen).toList):(leftOf es (seen.push e.born)).size<(leftOf es seen).size:=by
 have hsub:(leftOf es (seen.push e.born)).toList=(leftOf es seen).toList.filter fun x=>x.born !=e.born:=by
  unfold leftOf
  simp only[Array.toList_filter,List.filter_filter]
  congr 1
  funext x
  by_cases h:x.born=e.born
  ·simp[h]
  ·simp[h,bne]
 have hlt:(leftOf es (seen.push e.born)).toList.length<(leftOf es seen).toList.length:=by
  rw[hsub]
  exact List.length_filter_lt_length_iff_exists.2 ⟨e,he,by simp⟩
 simpa using hlt
theorem Gj {b r:Nat} {f:Int→Option Value} {n:Nat} {left:Int→Bool} {cnt:Nat} (ty:TypeId) (h:Sat W w (sep (rng b r f n left cnt) A)):
 ((∀k,left k=false)∧(Instr.next (.pointer (some ⟨r,0,none⟩)) false ty).run P w=.ok (.tuple #[.bool false]) w) ∨
 ∃k v w' cnt',left k=true∧f k=some v∧cnt'<cnt∧(Instr.next (.pointer (some ⟨r,0,none⟩)) false ty).run P w=.ok (.tuple #[.bool true,.int .i64 k,v]) w' ∧
  (Instr.entry (.pointer (some ⟨r,0,none⟩))).run P w'=.ok (.tuple #[.int .i64 k,v]) w'∧Sat W w' (sep (rng b r f n (fun z=>left z&&z !=k) cnt') A):=by
 obtain⟨es,clock,since,seen,c0,h1,h2,h3,h4⟩:=h.Aq
 rcases run_next_at (P:=P) w ty r b since c0 seen es clock h4.p1.aN h4.aN h1.old h1.sc with ⟨h0,hrun⟩|⟨e,he,w1,hw1,hrun⟩
 ·refine .inl ⟨fun k=>?_,hrun⟩
  cases hk:left k with
  | false=>rfl
  | true=>
   obtain⟨e,he,hek⟩:=h1.rep.IZ (h1.lk k hk)
   have:=h1.lf e he k hek
   rw[hk] at this
   have hm:e∈(leftOf es seen).toList:=by unfold leftOf;simp;exact⟨by simpa using he,by simpa using this.symm⟩
   have h00:(leftOf es seen).toList.length=0:=by simpa using h0
   rw[List.eq_nil_of_length_eq_zero h00] at hm
   cases hm
 ·have hmem:e∈es.toList∧seen.contains e.born=false:=by
   unfold leftOf at he;simp at he;exact⟨by simpa using he.1,by simpa using he.2⟩
  obtain⟨k,hk⟩:=h1.rep.keys e hmem.1
  have hlk:=h1.lf e hmem.1 k hk
  rw[hmem.2] at hlk
  have adP:Sat W w1 (sep (blk r (.mapIter (some b) since seen c0)) (sep (blk b (.map es clock)) A)):=by
   rcases hw1 with rfl|rfl
   ·exact h4.p1
   ·exact h4.p1.drew
  have hset:Sat W (Go.ChangeMaps.setBlock w1 r (.mapIter (some b) since (seen.push e.born) clock)) (sep (blk r (.mapIter (some b) since (seen.push e.born) clock)) (sep (blk b (.map es clock)) A)):=adP.setObj _
  refine .inr ⟨k,e.val,_,_,by simpa using hlk,h1.rep.qV hmem.1 hk,?_,by rw[hk] at hrun;exact hrun,?_,hset.p1.SI ⟨h1.rep,h1.born,h1.old,h1.scl,h1.scl,?_,?_⟩ h2 rfl⟩
  ·rw[←h3];exact I4 es seen e he
  ·have:=run_entry_at (P:=P) _ r b since seen es clock e hset.aN hset.p1.aN hmem.1 h1.born.nodup
   rw[hk] at this;exact this
  ·intro e2 he2 k2 hk2
   rw[h1.lf e2 he2 k2 hk2,Array.contains_push]
   by_cases hkk:k2=k
   ·subst hkk
    have:e2=e:=entry_eq_of_key h1.rep.nodup he2 hmem.1 (hk2.trans hk.symm)
    subst this
    simp
   ·have hb:¬e2.born=e.born:=fun hbe=>hkk (by
     have:e2=e:=OC h1.born.nodup he2 hmem.1 hbe
     subst this
     rw[hk2] at hk;cases hk;rfl)
    have e1:(k2 !=k)=true:=by simp[hkk]
    have e2:(e2.born==e.born)=false:=by simp[hb]
    rw[e1,e2];simp
  ·intro z hz
   simp at hz
   exact h1.lk z hz.1
end
end PA
namespace PA
open Go Go.RowKit
section
variable {P:Program} {W w:World} {A:aG}
theorem qR {T:TypeId} {b:Nat} {es:Array MapEntry} {clock:Nat} (hb:(es.toList.map (·.born)).Nodup) {j:Nat} {e:MapEntry} (hj:es[j]?=some e) (h:Sat W w (sep (blk b (.map es clock)) A)) (v:Value):
 ∃w',(Instr.entryStore T (.map (some b)) (.int .i64 (e.born:Nat)) v).run P w=.ok () w'∧Sat W w' (sep (blk b (.map (es.modify j fun x=>{ x with val:=v }) clock)) A):=by
 have hg2:=run_getObj_map (P:=P) h.aN
 have hidx:es.findIdx? (fun x=>((x.born:Nat):Int)==((e.born:Nat):Int))=some j:=by
  have hsz:j<es.size:=(Array.getElem?_eq_some_iff.1 hj).1
  have hje:es[j]=e:=(Array.getElem?_eq_some_iff.1 hj).2
  rw[Array.findIdx?_eq_some_iff_getElem]
  refine⟨hsz,by simp[hje],fun i hi=>?_⟩
  have hp:=List.pairwise_iff_getElem.1 (List.pairwise_map.1 hb) i j (by rw[Array.length_toList];omega) (by rw[Array.length_toList];exact hsz) hi
  simp only[Array.getElem_toList] at hp
  rw[hje] at hp
  simp only[beq_iff_eq]
  intro hq
  exact hp (by omega)
 exact⟨_,by simp[Instr.entryStore,hg2,asInt,asIntOf,hidx,run_setObj_map (P:=P) h.aN],h.setObj _⟩
theorem Am {es:List MapEntry} {j:Nat} {e:MapEntry} {k:Value} (h1:es[j]?=some e) (h2:e.key=k) (v:Value):es.modify j (fun x=>{ x with val:=v })=es.modify j fun x=>{ x with key:=k,val:=v }:=by
 apply List.ext_getElem?
 intro i
 rw[List.getElem?_modify,List.getElem?_modify]
 by_cases hi:j=i
 ·subst hi;rw[h1];simp[←h2]
 ·simp[hi]
theorem qU {T K E:TypeId} {z:Value} (hT:P.underlying T=some (.map K E)) (hK:P.underlying K=some (.int .i64)) (hz:∀w,(zeroValue E).run P w=.ok z w) {b:Nat} {f:Int→Option Value} {n:Nat} (h:Sat W w (sep (iP b f n) A)) (k:Int):
 ∃(v0:Value) (st:Int) (w1:World) (X:aG),(Instr.mapEntry T (.map (some b)) (.int .i64 k)).run P w=.ok (.tuple #[v0,.int .i64 st]) w1∧Sat W w1 (sep X A) ∧
  ∀(w2:World) (B:aG) (v:Value),Sat W w2 (sep X B)→∃w3 n',(Instr.entryStore T (.map (some b)) (.int .i64 st) v).run P w2=.ok () w3∧Sat W w3 (sep (iP b (ou f k (some v)) n') B):=by
 obtain⟨es,clock,h1,h2,hb,h3⟩:=h.oL
 obtain⟨r,e1,e2,e3⟩:=lJ (P:=P) (k:=k) hK h1 w
 have hg:=run_getObj_map (P:=P) h3.aN
 cases r with
 | none=>
  have hk:f k=none:=by rw[←e2];rfl
  have hp:=hb.push (.int .i64 k) z
  refine⟨z,(clock:Int),_,blk b (.map (es.push { key:=.int .i64 k,val:=z,born:=clock }) (clock+1)),by simp[Instr.mapEntry,run_underlying hT,hg,fP hK,e1,hz,run_setObj_map (P:=P) h3.aN,goInt],h3.setObj _,fun w2 B v hw2=>?_⟩
  obtain⟨w3,r3,h4⟩:=qR (T:=T) (P:=P) (j:=es.size) (e:={ key:=.int .i64 k,val:=z,born:=clock }) (by simpa using hp.nodup) (by simp) hw2 v
  have hmod:((es.push { key:=Value.int .i64 k,val:=z,born:=clock }).modify es.size fun x=>{ x with val:=v }).toList=es.toList++[{ key:=Value.int .i64 k,val:=v,born:=clock }]:=by
   rw[Array.toList_modify,Array.toList_push]
   apply List.ext_getElem?
   intro i
   rw[List.getElem?_modify]
   by_cases hi:es.size=i
   ·subst hi
    have:es.toList.length=es.size:=Array.length_toList
    simp
   ·simp only[hi,if_false]
    by_cases hlt:i<es.size
    ·rw[List.getElem?_append_left (by simpa using hlt),List.getElem?_append_left (by simpa using hlt)];simp
    ·rw[List.getElem?_append_right (by simp;omega),List.getElem?_append_right (by simp;omega)]
     have:i-es.toList.length≠0:=by simp;omega
     obtain⟨m,hm⟩:∃m,i-es.toList.length=m+1:=⟨i-es.toList.length-1,by omega⟩
     rw[hm];simp
  refine⟨w3,_,r3,h4.sK ?_ rfl ?_⟩
  ·rw[hmod];exact h1.push k v clock hk
  ·rw[hmod];exact hb.push (.int .i64 k) v
 | some r=>
  obtain⟨j,u⟩:=r
  obtain⟨e,h4,h5,h6⟩:=e3 j u rfl
  have hk:(f k).isSome=true:=by rw[←e2];rfl
  have hj:es[j]?=some e:=by simpa using h4
  have hsame:es.modify j (fun x=>{ x with key:=.int .i64 k })=es:=by
   apply Array.ext'
   rw[Array.toList_modify]
   apply List.ext_getElem?
   intro i
   rw[List.getElem?_modify]
   by_cases hi:j=i
   ·subst hi;rw[h4];simp[←h5]
   ·simp[hi]
  refine⟨u,(e.born:Int),_,blk b (.map es clock),by simp[Instr.mapEntry,run_underlying hT,hg,fP hK,e1,hj,h5,Instr.keyThatStays,vT,hsame,run_setObj_map (P:=P) h3.aN,goInt],h3.setObj _,fun w2 B v hw2=>?_⟩
  obtain⟨w3,r3,h7⟩:=qR (T:=T) (P:=P) hb.nodup hj hw2 v
  refine⟨w3,_,r3,h7.sK ?_ rfl ?_⟩
  ·rw[Array.toList_modify,Am h4 h5];exact h1.modify k v h4 h5
  ·rw[Array.toList_modify,Am h4 h5];exact hb.modify j (.int .i64 k) v
end
end PA
namespace Go.Proofs.YtgicfogmdfdjmaaGreatDoor
open Go.RowKit PA
def Eh (S:l7):Int→Option Value:=fun k=>(S k).map Ud
theorem zX (S:l7) (p:Int) (r:Rt):ou (Eh S) p (some (Ud r))=Eh (jd S p r):=by
 funext x
 unfold ou Eh jd
 split<;>rfl
def l9 (p:Nat) (app:Int) (S:l7):aG:=ex fun bn:Nat×Nat=>sep (blk p (.cells #[.int .i64 app,.map (some bn.1)] 78 (0,0))) (iP bn.1 (Eh S) bn.2)
section
variable {W w:World} {A:aG} {p:Nat} {app:Int} {S:l7}
theorem Bq (h:Sat W w (sep (l9 p app S) A)):∃b n,Sat W w (sep (blk p (.cells #[.int .i64 app,.map (some b)] 78 (0,0))) (sep (iP b (Eh S) n) A)):=by
 rw[l9,dA,Sat.ex] at h
 obtain⟨⟨b,n⟩,h⟩:=h
 rw[aj] at h
 exact⟨b,n,h⟩
theorem Bv {b n:Nat} (h:Sat W w (sep (blk p (.cells #[.int .i64 app,.map (some b)] 78 (0,0))) (sep (iP b (Eh S) n) A))):Sat W w (sep (l9 p app S) A):=by
 rw[l9,dA,Sat.ex]
 exact⟨(b,n),by rw[aj];exact h⟩
theorem sV (w:World):(zeroValue 57).run Tryz.prog w=.ok (.agg #[.int .i64 0,.int .i64 0]) w:=by kernel_rfl
set_option maxHeartbeats 1000000 in
theorem mW (x:Int) (h:Sat W w (sep (l9 p app S) A)):
 Calls Tryz.prog 29 #[.pointer (some ⟨p,0,none⟩),.int .i64 x] w fun e w'=>e=.returned (.agg #[.int .i64 (aQ S x).n,.int .i64 (aQ S x).d])∧Sat W w' (sep (l9 p app S) A):=by
 obtain⟨b,n,h0⟩:=Bq h
 obtain⟨r,hr⟩:=aC (aQ S x)
 rw[←hr]
 have h1:=h0.alloc (.cells #[.int .i64 0,.int .i64 0] 57)
 obtain⟨B,hB⟩:=aC (w.heap.size)
 obtain⟨w1,hw1⟩:=aC (w.alloc (.cells #[.int .i64 0,.int .i64 0] 57))
 have hsz:w1.heap.size=B+1:=by rw[hw1,World.size_alloc,hB]
 rw[←hB,←hw1] at h1
 have c1:w1.cell? ⟨p,1,none⟩=some (.map (some b)):=h1.p1.cell 1
 have hlk:=lK (P:=Tryz.prog) (T:=76) Tryz.underlying76 Tryz.underlying3 sV h1.p2 x true
 have HB:=ah hB
 have HW1:=ah hw1
 have HR:=ah hr
 clear hB hw1 h h0 hr
 cases e:S x with
 | some rr=>
  obtain⟨rn,rd⟩:=rr
  have hval:Eh S x=some (.agg #[.int .i64 rn,.int .i64 rd]):=by unfold Eh;rw[e];rfl
  rw[hval] at hlk
  have hlk2:(Instr.lookup 76 (.map (some b)) (.int .i64 x) true).run Tryz.prog w1=.ok (.tuple #[.agg #[.int .i64 rn,.int .i64 rd],.bool true]) w1:=hlk
  have fQ:r=⟨rn,rd⟩:=by rw[HR.out];unfold aQ;rw[e];rfl
  have dP:=ah fQ
  have h2:=h1.alloc (.cells #[.int .i64 rn,.int .i64 rd] 57)
  rw[hsz] at h2
  obtain⟨w2,hw2⟩:=aC (w1.alloc (.cells #[.int .i64 rn,.int .i64 rd] 57))
  rw[←hw2] at h2
  obtain⟨j0,j1,-,-⟩:=gX h2
  obtain⟨k0,k1,k2,k3⟩:=gX h2.p1
  have h4:=fH h2.p1 (.int .i64 rn) (.int .i64 rd)
  obtain⟨w4,hw4⟩:=aC ((w2.setCell ⟨B,0,none⟩ (.int .i64 rn)).setCell ⟨B,1,none⟩ (.int .i64 rd))
  rw[←hw4] at h4
  obtain⟨d0,d1,-,-⟩:=gX h4
  have HW2:=ah hw2
  have uQ:=ah hw4
  have GK:=ah hsz
  have h5:=Bv (S:=S) (h4.forget.forget)
  clear hw2 hw4 hlk hval fQ e h1 h2 h4 hsz
  go_enter Tryz.func29,Tryz.ntmps29
  go_upto_region 1 with (fail)
  rw[←HB.out,←HW1.out]
  go_upto_region 2 with (fail)
  rw[GK.out,←HW2.out]
  go_wp2
  rw[←uQ.out]
  exact bodyPost_ret (v:=.agg #[.int .i64 rn,.int .i64 rd]) (by simp[results,Tryz.results29,go_sem,d0,d1]) rfl ⟨by rw[dP.out],h5⟩
 | none=>
  have hval:Eh S x=none:=by unfold Eh;rw[e];rfl
  rw[hval] at hlk
  have hlk2:(Instr.lookup 76 (.map (some b)) (.int .i64 x) true).run Tryz.prog w1=.ok (.tuple #[.agg #[.int .i64 0,.int .i64 0],.bool false]) w1:=hlk
  have fQ:r=⟨0,1⟩:=by rw[HR.out];unfold aQ;rw[e];rfl
  have dP:=ah fQ
  have h2:=h1.alloc (.cells #[.int .i64 0,.int .i64 0] 57)
  rw[hsz] at h2
  obtain⟨w2,hw2⟩:=aC (w1.alloc (.cells #[.int .i64 0,.int .i64 0] 57))
  rw[←hw2] at h2
  obtain⟨k0,k1,k2,k3⟩:=gX h2.p1
  have h4:=fH h2.p1 (.int .i64 0) (.int .i64 1)
  obtain⟨w4,hw4⟩:=aC ((w2.setCell ⟨B,0,none⟩ (.int .i64 0)).setCell ⟨B,1,none⟩ (.int .i64 1))
  rw[←hw4] at h4
  obtain⟨d0,d1,-,-⟩:=gX h4
  have HW2:=ah hw2
  have uQ:=ah hw4
  have GK:=ah hsz
  have h5:=Bv (S:=S) (h4.forget.forget)
  clear hw2 hw4 hlk hval fQ e h1 h2 h4 hsz
  go_enter Tryz.func29,Tryz.ntmps29
  go_upto_region 1 with (fail)
  rw[←HB.out,←HW1.out]
  go_upto_region 2 with (fail)
  rw[GK.out,←HW2.out]
  go_wp2
  rw[←uQ.out]
  exact bodyPost_ret (v:=.agg #[.int .i64 0,.int .i64 1]) (by simp[results,Tryz.results29,go_sem,d0,d1]) rfl ⟨by rw[dP.out],h5⟩
end
end Go.Proofs.YtgicfogmdfdjmaaGreatDoor
namespace PA
open Go Go.RowKit
inductive It where
 | one (i:Nat) (k:Kd)
 | grp (b:Bool) (E:List Nat)
def It.fl:It→List (Nat×Kd)
 | .one i k=>[(i,k)]
 | .grp b E=>E.map fun i=>(i,.inl b)
def fls (l:List It):List (Nat×Kd):=l.flatMap It.fl
section
variable {P:Program} {ops:Array Oper} {Q:Exit→Act→World→Prop} {S:World→Prop}
structure InvI (ops:Array Oper) (bf:Array Nat) (listed:Array Bool) (l:List It):Prop where
 size:listed.size=ops.size
 mem:∀i,i∈(fls l).map (·.1)↔i<ops.size∧listed.getD i true=false
 nodup:((fls l).map (·.1)).Nodup
 pair:l.Pairwise fun x y=>∀u∈x.fl,∀v∈y.fl,dH ops bf u v=true
 dep:(fls l).Pairwise fun x y=>jQ ops x.1 y.1=false
 self:∀x∈fls l,jQ ops x.1 x.1=false
 closed:∀d r,r<ops.size→listed.getD d false=true→(bf.getD d 0).testBit r=true→listed.getD r false=true
def TT (ops:Array Oper):List (Nat×Kd)→Bool
 | []=>true
 | x::l=>!jQ ops x.1 x.1&&l.all (fun y=>!jQ ops x.1 y.1)&&TT ops l
theorem Gz:∀(l:List (Nat×Kd)),TT ops l=true→(l.Pairwise fun x y=>jQ ops x.1 y.1=false)∧∀x∈l,jQ ops x.1 x.1=false
 | [],_=>⟨.nil,fun _ h=>(by cases h)⟩
 | x::l,h=>by
  simp only[TT,Bool.and_eq_true,List.all_eq_true,Bool.not_eq_true'] at h
  have ih:=Gz l h.2
  refine⟨List.pairwise_cons.2 ⟨fun y hy=>h.1.2 y hy,ih.1⟩,fun y hy=>?_⟩
  rcases List.mem_cons.1 hy with rfl|hy
  ·exact h.1.1
  ·exact ih.2 y hy
variable {i:Nat} {l:List It} {a:Act} {w:World} {o:Oper} {v:Value} {K:Act→World→Prop}
end
end PA
namespace PA
open Go Go.RowKit
section
variable {P:Program} {ops:Array Oper} {Q:Exit→Act→World→Prop} {S:World→Prop} {W:World}
def iq (P:Program) (ops:Array Oper) (W:World) (o:Oper) (a:Act) (Pre:aG) (Post:Value→aG):Prop:=
 Region.wanted o (yielded ops a.tmps)=true∧∀(w:World) (A:aG),Sat W w (sep Pre A) →
  (∃v w',(execOp a.eval o).run P w=.ok (.value v) w'∧Sat W w' (sep (Post v) A)) ∨
  (∃f args w1,(execOp a.eval o).run P w=.ok (.enter f args) w1∧Calls P f args w1 fun e w'=>∃v,e=.returned v∧Sat W w' (sep (Post v) A))
theorem iq.put {o:Oper} {a:Act} {Pre:aG} {Post:Value→aG} (h:iq P ops W o a Pre Post) (hs:∀cs b,o.op≠.select cs b) {d:Option Tmp} (hd:∀t,d=some t→t∉o.looksAt ops) (v:Value):iq P ops W o (a.put d v) Pre Post:=by
 unfold iq at *
 rw[execOp_put o hs a d v hd,wanted_put o a d v hd]
 exact h
theorem iq.wpOp {i:Nat} {o:Oper} {a:Act} {Pre:aG} {Post:Value→aG} (ho:ops[i]?=some o) (h:iq P ops W o a Pre Post) {w:World} {A:aG} (hw:Sat W w (sep Pre A)) {K:Act→World→Prop}
 (hK:∀v w',Sat W w' (sep (Post v) A)→K (a.put o.dst v) w'):Go.wpOp P ops Q i K a w:=by
 unfold Go.wpOp
 simp only[ho,h.1,if_true]
 refine .inl ?_
 unfold Oper.wp
 rcases h.2 w A hw with ⟨v,w',h1,h2⟩|⟨f,args,w1,h1,h2⟩
 ·rw[h1];exact hK v w' h2
 ·rw[h1]
  refine Calls.mono h2 ?_
  rintro e w' ⟨v,rfl,h3⟩
  exact hK v w' h3
def aZ (ops:Array Oper) (i:Nat):Option Tmp:=(ops[i]?).bind (·.dst)
def puts (ops:Array Oper) (l:List (Nat×Value)) (a:Act):Act:=l.foldl (fun a x=>a.put (aZ ops x.1) x.2) a
theorem dK (l m:List (Nat×Value)) (a:Act):puts ops (l++m) a=puts ops m (puts ops l a):=by simp[puts]
def apartB (ops:Array Oper) (i j:Nat):Bool:=match ops[i]?,ops[j]? with|some o,some u=>o.apart ops u|_,_=>false
theorem mQ {i j:Nat} (h:apartB ops i j=true):(∀d,aZ ops i=some d→aZ ops j≠some d)∧(∀d,aZ ops j=some d→aZ ops i≠some d):=by
 unfold apartB at h
 unfold aZ
 cases hi:ops[i]? with
 | none=>rw[hi] at h;cases h
 | some o=>
  cases hj:ops[j]? with
  | none=>rw[hi,hj] at h;cases h
  | some u=>
   rw[hi,hj] at h
   obtain⟨h1,h2,h3⟩:=Oper.apart_spec h
   exact⟨fun d hd=>h2 d hd,fun d hd he=>h2 d he hd⟩
theorem EU {i:Nat} (v:Value):∀(l:List (Nat×Value)),(∀x∈l,apartB ops i x.1=true)→∀a:Act,puts ops l (a.put (aZ ops i) v)=(puts ops l a).put (aZ ops i) v
 | [],_,_=>rfl
 | x::l,h,a=>by
  show puts ops l ((a.put (aZ ops i) v).put (aZ ops x.1) x.2)=(puts ops l (a.put (aZ ops x.1) x.2)).put (aZ ops i) v
  rw[Act.put_comm a v x.2 (mQ (h x (by simp))).1,EU v l (fun y hy=>h y (by simp[hy]))]
theorem uU (l:List (Nat×Value)):∀(m:List (Nat×Value)),(∀x∈m,∀y∈l,apartB ops x.1 y.1=true)→∀a:Act,puts ops l (puts ops m a)=puts ops m (puts ops l a)
 | [],_,_=>rfl
 | x::m,h,a=>by
  show puts ops l (puts ops m (a.put (aZ ops x.1) x.2))=puts ops m ((puts ops l a).put (aZ ops x.1) x.2)
  rw[uU l m (fun y hy=>h y (by simp[hy])),EU x.2 l (h x (by simp))]
theorem iq.puts {o:Oper} {i:Nat} {Pre:aG} {Post:Value→aG} (ho:ops[i]?=some o) (hs:∀cs b,o.op≠.select cs b):∀(l:List (Nat×Value)),(∀x∈l,apartB ops x.1 i=true∨apartB ops i x.1=true)→∀{a:Act},iq P ops W o a Pre Post→iq P ops W o (puts ops l a) Pre Post
 | [],_,_,h=>h
 | x::l,hl,a,h=>by
  refine iq.puts ho hs l (fun y hy=>hl y (by simp[hy])) (h.put hs ?_ x.2)
  intro t ht
  unfold aZ at ht
  cases hx:ops[x.1]? with
  | none=>rw[hx] at ht;cases ht
  | some u=>
   rw[hx] at ht
   rcases hl x (by simp) with h1|h1
   ·unfold apartB at h1
    rw[hx,ho] at h1
    exact (Oper.apart_spec h1).1 t ht
   ·unfold apartB at h1
    rw[hx,ho] at h1
    exact (Oper.apart_spec h1).2.2 t ht
structure Thr where
 ids:List Nat
 A:List Value→aG
structure St where
 dn:List (Nat×Value)
 td:List Nat
 A:List Value→aG
def St.now (s:St):aG:=s.A (s.dn.map (·.2))
def kH (ops:Array Oper) (W:World) (a0:Act) (K:Act→World→Prop):List Thr→List (Nat×Value)→aG→Prop
 | [],D,B=>∀w,Sat W w B→K (puts ops D a0) w
 | t::ts,D,B=>∀dn:List (Nat×Value),dn.map (·.1)=t.ids→kH ops W a0 K ts (D++dn) (sep (t.A (dn.map (·.2))) B)
def MW (ops:Array Oper) (l m:List Nat):Prop:=∀i∈l,∀j∈m,apartB ops i j=true
def St.all (s:St):List Nat:=s.dn.map (·.1)++s.td
def O1 (ops:Array Oper) (l m:List Nat):Bool:=l.all fun i=>m.all fun j=>apartB ops i j
def wo (ops:Array Oper):List (List Nat)→Bool
 | []=>true
 | l::ls=>ls.all (O1 ops l)&&wo ops ls
end
end PA
namespace PA
open Go Go.RowKit
inductive iC where
 | one (i:Nat) (k:Kd)
 | grp (b:Bool) (E:List (Nat×List Nat))
def nK (b:Bool) (x:Nat×List Nat):List (Nat×Kd):=(x.1,.inl b)::x.2.map fun j=>(j,.inr none)
def iC.fl:iC→List (Nat×Kd)
 | .one i k=>[(i,k)]
 | .grp b E=>E.flatMap (nK b)
def bV (l:List iC):List (Nat×Kd):=l.flatMap iC.fl
theorem iK (x:iC) (l:List iC):bV (x::l)=x.fl++bV l:=by simp[bV]
theorem eu (l m:List iC):bV (l++m)=bV l++bV m:=by simp[bV]
def wpT (P:Program) (ops:Array Oper) (K:Act→World→Prop):List Nat→Act→World→Prop
 | [],a,w=>K a w
 | j::js,a,w=>∃o,ops[j]?=some o∧∃v,(∀w',Qg P ops o v a w')∧wpT P ops K js (a.put o.dst v) w
def uT (P:Program) (ops:Array Oper) (Q:Exit→Act→World→Prop) (S:World→Prop) (b:Bool):Nat→List (Nat×List Nat)→(Act→World→Prop)→Act→World→Prop
 | 0,_,K,a,w=>K a w
 | n+1,E,K,a,w=>∀x∈E,(E.all fun r=>!((Region.before ops).getD x.1 0).testBit r.1)=true →
  wpOp P ops Q x.1 (fun a' w'=>(b=true→S w')∧wpT P ops (uT P ops Q S b n (E.erase x) K) x.2 a' w') a w
def jT (P:Program) (ops:Array Oper) (Q:Exit→Act→World→Prop) (S:World→Prop):List iC→(Act→World→Prop)→Act→World→Prop
 | [],K,a,w=>K a w
 | .one i k::l,K,a,w=>∃o,ops[i]?=some o∧match k with
  | .inr none=>∃v,(∀w',Qg P ops o v a w')∧jT P ops Q S l K (a.put o.dst v) w
  | .inr (some true)=>S w∧∃v,(∀w',S w'→Qg P ops o v a w')∧jT P ops Q S l K (a.put o.dst v) w
  | .inr (some false)=>∃v,Qg P ops o v a w∧jT P ops Q S l K (a.put o.dst v) w
  | .inl b=>wpOp P ops Q i (fun a' w'=>(b=true→S w')∧jT P ops Q S l K a' w') a w
 | .grp b E::l,K,a,w=>uT P ops Q S b E.length E (jT P ops Q S l K) a w
def okGB (ops:Array Oper) (bf:Array Nat) (b:Bool) (E:List (Nat×List Nat)):Bool:=
 E.all (fun x=>x.2.all (fun j=>(bf.getD j 0).testBit x.1))&&E.all (fun x=>yS ops bf (x.2.map fun j=>(j,(.inr none:Kd)))) &&
 E.all (fun x=>E.all fun y=>x==y||x.2.all fun u=>(nK b y).all fun v=>dH ops bf (u,.inr none) v)
section
variable {P:Program} {ops:Array Oper} {Q:Exit→Act→World→Prop} {S:World→Prop}
structure okG (ops:Array Oper) (bf:Array Nat) (b:Bool) (E:List (Nat×List Nat)):Prop where
 own:∀x∈E,∀j∈x.2,(bf.getD j 0).testBit x.1=true
 seq:∀x∈E,x.2.Pairwise fun u v=>dH ops bf (u,.inr none) (v,.inr none)=true
 other:∀x∈E,∀y∈E,x≠y→∀u∈x.2,∀v∈nK b y,dH ops bf (u,.inr none) v=true
theorem Ba {bf:Array Nat}:∀(js:List Nat),yS ops bf (js.map fun j=>(j,(.inr none:Kd)))=true→js.Pairwise fun u v=>dH ops bf (u,.inr none) (v,.inr none)=true
 | [],_=>.nil
 | j::js,h=>by
  simp only[List.map_cons,yS,Bool.and_eq_true,List.all_eq_true] at h
  refine List.pairwise_cons.2 ⟨fun y hy=>h.1.1 _ (List.mem_map.2 ⟨y,hy,rfl⟩),Ba js h.2⟩
theorem Xu {bf:Array Nat} {b:Bool} {E:List (Nat×List Nat)} (h:okGB ops bf b E=true):okG ops bf b E:=by
 simp only[okGB,Bool.and_eq_true,List.all_eq_true,Bool.or_eq_true,beq_iff_eq] at h
 obtain⟨⟨h1,h2⟩,h3⟩:=h
 refine⟨h1,fun x hx=>Ba _ (h2 x hx),fun x hx y hy hne u hu v hv=>?_⟩
 rcases h3 x hx y hy with e|h
 ·exact absurd e hne
 ·exact h u hu v hv
theorem okG.erase {bf:Array Nat} {b:Bool} {E:List (Nat×List Nat)} (h:okG ops bf b E) (x:Nat×List Nat):okG ops bf b (E.erase x):=
 ⟨fun y hy=>h.own y (List.mem_of_mem_erase hy),fun y hy=>h.seq y (List.mem_of_mem_erase hy),fun y hy z hz=>h.other y (List.mem_of_mem_erase hy) z (List.mem_of_mem_erase hz)⟩
theorem TS (l:List iC) (K:Act→World→Prop):∀(js:List Nat) (a:Act) (w:World),wpT P ops (jT P ops Q S l K) js a w→jT P ops Q S (js.map (fun j=>.one j (.inr none))++l) K a w
 | [],_,_,h=>h
 | j::js,a,w,h=>by
  obtain⟨o,ho,v,hy,h⟩:=h
  exact⟨o,ho,v,hy,TS l K js _ w h⟩
theorem kG (l m:List iC) (K:Act→World→Prop):jT P ops Q S (l++m) K=jT P ops Q S l (jT P ops Q S m K):=by
 induction l with
 | nil=>rfl
 | cons x l ih=>
  funext a w
  cases x with
  | one i k=>rcases k with b|_|_|_<;>simp only[List.cons_append,jT,ih]
  | grp b E=>simp only[List.cons_append,jT,ih]
theorem xP {K:Act→World→Prop}:∀(l:List iC),bV l=[]→∀(a:Act) (w:World),jT P ops Q S l K a w→K a w
 | [],_,_,_,h=>h
 | .one i k::l,he,_,_,_=>by simp[iK,iC.fl] at he
 | .grp b E::l,he,a,w,h=>by
  rw[iK,List.append_eq_nil_iff] at he
  have hE:E=[]:=by
   cases E with
   | nil=>rfl
   | cons x E=>have:=he.1;simp[iC.fl,nK] at this
  subst hE
  exact xP l he.2 a w h
theorem ET {j:Nat} {kj:Kd} {oj:Oper} {bf:Array Nat} (hj:ops[j]?=some oj) (hsel:∀(j:Nat) (o:Oper) cs b,ops[j]?=some o→o.op≠.select cs b) (hQ:∀c a d v w,Q (.panic c) (a.put d v) w→Q (.panic c) a w)
 (T T':Act→World→Prop) (hT:∀a w,T a w→wpOp P ops Q j (fun a' w'=>T' a' w'∧(kj=.e true→S w')∧(kj.eff=false→w'=w)) a w):
 ∀(l1:List iC),(∀x∈bV l1,dH ops bf x (j,kj)=true∧(bf.getD j 0).testBit x.1=false)→∀(a:Act) (w:World),jT P ops Q S l1 T a w →
  wpOp P ops Q j (fun a' w'=>jT P ops Q S l1 T' a' w'∧(kj=.e true→S w')∧(kj.eff=false→w'=w)) a w
 | [],_,a,w,h=>hT a w h
 | .grp b E::l1,hl,a,w,h=>by
  have hE:E=[]:=by
   cases E with
   | nil=>rfl
   | cons r E=>
    obtain⟨hp,hnd⟩:=hl (r.1,.inl b) (by simp[iK,iC.fl,nK])
    simp only[dH,hnd,Bool.false_or,Bool.and_eq_true,Kd.eff,Bool.not_true,Bool.false_and] at hp
    exact absurd hp.2 (by simp)
  subst hE
  exact wpOp_mono (fun a' w' h=>h) (ET hj hsel hQ T T' hT l1 (fun x hx=>hl x (by rw[iK];exact List.mem_append_right _ hx)) a w h)
 | .one r kr::l1,hl,a,w,h=>by
  obtain⟨o,ho,h⟩:=h
  obtain⟨hp,hnd⟩:=hl (r,kr) (by simp[iK,iC.fl])
  simp only[dH,hnd,Bool.false_or,Bool.and_eq_true,ho,hj] at hp
  obtain⟨_,⟨hne,hap⟩,hk⟩:=hp
  have ih:=ET hj hsel hQ T T' hT l1 (fun x hx=>hl x (by rw[iK];exact List.mem_append_right _ hx))
  have go:∀(v:Value),jT P ops Q S l1 T (a.put o.dst v) w →
   wpOp P ops Q j (fun a' w'=>Alk ops o a a'∧jT P ops Q S l1 T' (a'.put o.dst v) w'∧(kj=.e true→S w')∧(kj.eff=false→w'=w)) a w:=fun v hv=>
   ER hj hap (fun cs b=>hsel r o cs b ho) (fun cs b=>hsel j oj cs b hj) hQ (ih _ _ hv)
  rcases kr with b|_|_|_
  case inr.none=>
   obtain⟨v,hy,h⟩:=h
   exact wpOp_mono (fun a' w' ⟨h1,h2,h3,h4⟩=>⟨⟨o,ho,v,fun w'=>(hy w').alk h1,h2⟩,h3,h4⟩) (go v h)
  case inr.some.true=>
   obtain⟨hS,v,hy,h⟩:=h
   refine wpOp_mono (fun a' w' ⟨h1,h2,h3,h4⟩=>⟨⟨o,ho,?_,v,fun w' hw'=>(hy w' hw').alk h1,h2⟩,h3,h4⟩) (go v h)
   rcases kj with b|_
   ·exact h3 (by simp at hk;rw[hk])
   ·rw[h4 rfl];exact hS
  case inr.some.false=>
   obtain⟨v,hy,h⟩:=h
   refine wpOp_mono (fun a' w' ⟨h1,h2,h3,h4⟩=>⟨⟨o,ho,v,?_,h2⟩,h3,h4⟩) (go v h)
   rcases kj with b|_
   ·simp at hk
   ·rw[h4 rfl];exact hy.alk h1
  case inl=>simp[Kd.eff] at hne
structure InvJ (ops:Array Oper) (bf:Array Nat) (listed:Array Bool) (l:List iC):Prop where
 size:listed.size=ops.size
 mem:∀i,i∈(bV l).map (·.1)↔i<ops.size∧listed.getD i true=false
 nodup:((bV l).map (·.1)).Nodup
 pair:l.Pairwise fun x y=>∀u∈x.fl,∀v∈y.fl,dH ops bf u v=true
 dep:(bV l).Pairwise fun x y=>jQ ops x.1 y.1=false
 self:∀x∈bV l,jQ ops x.1 x.1=false
 grp:∀b E,iC.grp b E∈l→okG ops bf b E
 closed:∀d r,r<ops.size→listed.getD d false=true→(bf.getD d 0).testBit r=true→listed.getD r false=true
theorem TV (hsel:∀(j:Nat) (o:Oper) cs b,ops[j]?=some o→o.op≠.select cs b) (hQ:∀c a d v w,Q (.panic c) (a.put d v) w→Q (.panic c) a w)
 (hbf:jU ops (Region.before ops)=true) (hon:∀(j:Nat) (o:Oper),ops[j]?=some o→∀e∈o.after,Region.binds .any e=true→e.on<ops.size):
 ∀(n:Nat) (l:List iC) (listed:Array Bool),(bV l).length=n→InvJ ops (Region.before ops) listed l→∀(a:Act) (w:World),jT P ops Q S l (Q .normal) a w→wpAny P .any ops Q n listed a w:=by
 obtain⟨bf,hbe⟩:=aC (Region.before ops)
 have Jq:∀(listed:Array Bool) (i:Nat),listed.size=ops.size→i<ops.size→(listed.getD i false=true↔¬listed.getD i true=false):=fun listed i hs hi=>by
  simp[Array.getD,hs,hi]
 have nil:∀(listed:Array Bool) (l:List iC),bV l=[]→InvJ ops (Region.before ops) listed l→Region.ready .any ops listed=[]:=fun listed l hl hI=>by
  simp only[Region.ready,List.filter_eq_nil_iff,List.mem_range]
  intro i hi
  have h':¬listed.getD i true=false:=fun hh=>by have:=(hI.mem i).2 ⟨hi,hh⟩;rw[hl] at this;simp at this
  have h'':listed.getD i true=true:=by simpa using h'
  simp[h'']
 intro n
 induction n with
 | zero=>
  intro l listed hn hI a w h
  have hl:=List.eq_nil_of_length_eq_zero hn
  exact⟨nil _ l hl hI,xP l hl a w h⟩
 | succ n ih=>
  intro l listed hn hI a w h
  refine⟨fun hr=>?_,fun j hj=>?_⟩
  ·exfalso
   cases hfl:bV l with
   | nil=>rw[hfl] at hn;simp at hn
   | cons x xs=>
    have hx:=(hI.mem x.1).1 (by rw[hfl];simp)
    have hmem:x.1∈Region.ready .any ops listed:=by
     simp only[Region.ready,List.mem_filter,List.mem_range]
     refine⟨hx.1,?_⟩
     have:listed.getD x.1 true=false:=hx.2
     have ho:ops[x.1]?=some ops[x.1]:=Array.getElem?_eq_getElem hx.1
     simp only[this,Bool.not_false,Bool.true_and,ho,Option.map_some,Option.getD_some]
     rw[Array.all_eq_true]
     intro k hk
     have hmem:=Array.getElem_mem hk
     by_cases hb:Region.binds .any (ops[x.1].after[k])=true
     ·have hlt:=hon x.1 _ ho _ hmem hb
      have AX:jQ ops x.1 (ops[x.1].after[k]).on=true:=by
       simp only[jQ,ho,Array.any_eq_true]
       exact⟨k,hk,by simp[hb]⟩
      have hnot:(ops[x.1].after[k]).on∉(bV l).map (·.1):=by
       intro hm
       rw[hfl] at hm
       simp only[List.map_cons,List.mem_cons,List.mem_map] at hm
       rcases hm with hm|⟨y,hy,hm⟩
       ·have:=hI.self x (by rw[hfl];simp)
        rw[hm] at AX
        rw[AX] at this;cases this
       ·have hd:=hI.dep
        rw[hfl] at hd
        have:=(List.pairwise_cons.1 hd).1 y hy
        rw[hm,AX] at this
        cases this
      have h2:¬listed.getD (ops[x.1].after[k]).on true=false:=fun e=>hnot ((hI.mem _).2 ⟨hlt,e⟩)
      have:=(Jq listed _ hI.size hlt).2 h2
      simp[this]
     ·simp[hb]
    rw[hr] at hmem;cases hmem
  ·simp only[Region.ready,List.mem_filter,List.mem_range,Bool.and_eq_true,Bool.not_eq_true'] at hj
   obtain⟨hjs,hjl,hja⟩:=hj
   have hjm:=(hI.mem j).2 ⟨hjs,hjl⟩
   cases hoj:ops[j]? with
   | none=>simp[hoj] at hja
   | some oj=>
    simp only[hoj,Option.map_some,Option.getD_some] at hja
    have yT:∀d,jQ ops j d=true→listed.getD d false=true:=fun d hd=>by
     simp only[jQ,hoj,Array.any_eq_true] at hd
     obtain⟨k,hk,hd⟩:=hd
     simp only[Bool.and_eq_true,beq_iff_eq] at hd
     rw[Array.all_eq_true] at hja
     have:=hja k hk
     rw[hd.1] at this
     simpa[hd.2] using this
    have hbl:∀r,r<ops.size→((Region.before ops).getD j 0).testBit r=true→listed.getD r false=true:=fun r hr hb=>by
     simp only[jU,List.all_eq_true,List.mem_range] at hbf
     have:=hbf j hjs r hr
     simp only[hb,Bool.not_true,Bool.false_or,Bool.or_eq_true,List.any_eq_true,List.mem_range,Bool.and_eq_true] at this
     rcases this with h|⟨d,_,h1,h2⟩
     ·exact yT r h
     ·exact hI.closed d r hr (yT d h1) h2
    have hnotin:∀x∈bV l,((Region.before ops).getD j 0).testBit x.1=false:=fun x hx=>by
     have hxm:=(hI.mem x.1).1 (List.mem_map.2 ⟨x,hx,rfl⟩)
     cases hb:((Region.before ops).getD j 0).testBit x.1 with
     | false=>rfl
     | true=>exact absurd hxm.2 ((Jq listed x.1 hI.size hxm.1).1 (hbl x.1 hxm.1 hb))
    have hclosed:∀d r,r<ops.size→(listed.setIfInBounds j true).getD d false=true→((Region.before ops).getD d 0).testBit r=true→(listed.setIfInBounds j true).getD r false=true:=by
     intro d r hr hd hb
     by_cases e:r=j
     ·subst e;simp[Array.getD,hI.size,hr]
     ·have hg:(listed.setIfInBounds j true).getD r false=listed.getD r false:=getD_set_ne _ _ _ _ _ e
      rw[hg]
      by_cases e2:d=j
      ·subst e2;exact hbl r hr hb
      ·have hg2:(listed.setIfInBounds j true).getD d false=listed.getD d false:=getD_set_ne _ _ _ _ _ e2
       rw[hg2] at hd
       exact hI.closed d r hr hd hb
    have TQ:(listed.setIfInBounds j true).getD j true=true:=by simp[Array.getD,hI.size,hjs]
    have Jt:∀(F:List Nat),(∀i,i∈F↔i∈(bV l).map (·.1)∧i≠j)→∀i,i∈F↔i<ops.size∧(listed.setIfInBounds j true).getD i true=false:=fun F hF i=>by
     rw[hF,hI.mem]
     by_cases e:i=j
     ·subst e;simp[TQ]
     ·have hg:(listed.setIfInBounds j true).getD i true=listed.getD i true:=getD_set_ne _ _ _ _ _ e
      rw[hg];simp[e]
    obtain⟨⟨j',kj⟩,hxf,hje⟩:=List.mem_map.1 hjm
    obtain rfl:j'=j:=hje
    obtain⟨it,hit,hin⟩:=List.mem_flatMap.1 hxf
    obtain⟨l1,l2,rfl⟩:=List.append_of_mem hit
    have hpw:=List.pairwise_append.1 hI.pair
    have hfe:bV (l1++it::l2)=bV l1++(it.fl++bV l2):=by rw[eu,iK]
    have hok:∀x∈bV l1,dH ops (Region.before ops) x (j',kj)=true∧((Region.before ops).getD j' 0).testBit x.1=false:=fun x hx=>by
     obtain⟨y,hy,hxy⟩:=List.mem_flatMap.1 hx
     exact⟨hpw.2.2 y hy it (by simp) x hxy (j',kj) hin,hnotin x (by rw[hfe];exact List.mem_append_left _ hx)⟩
    have hnd:=hI.nodup
    rw[hfe] at hnd
    rw[kG] at h
    cases it with
    | one i k=>
     simp only[iC.fl,List.mem_singleton,Prod.mk.injEq] at hin
     obtain⟨rfl,rfl⟩:=hin
     refine wpOp_mono (fun a' w' ⟨h1,_,_⟩=>ih (l1++l2) (listed.setIfInBounds j' true) ?_ ?_ a' w' (by rw[kG];exact h1)) (ET (kj:=kj) hoj hsel hQ (jT P ops Q S (.one j' kj::l2) (Q .normal)) (jT P ops Q S l2 (Q .normal)) ?_ l1 hok a w h)
     ·rintro a w ⟨o,ho,h⟩
      rcases kj with b|_|_|_
      case inr.none=>obtain⟨v,hy,h⟩:=h;exact (hy w).wpOp ho ⟨h,fun h=>(by cases h),fun _=>rfl⟩
      case inr.some.true=>obtain⟨hS,v,hy,h⟩:=h;exact (hy w hS).wpOp ho ⟨h,fun h=>(by cases h),fun _=>rfl⟩
      case inr.some.false=>obtain⟨v,hy,h⟩:=h;exact hy.wpOp ho ⟨h,fun h=>(by cases h),fun _=>rfl⟩
      case inl=>exact wpOp_mono (fun a' w' ⟨h1,h2⟩=>⟨h2,fun hb=>h1 (by cases hb;rfl),fun hb=>(by simp[Kd.eff] at hb)⟩) h
     ·rw[hfe] at hn;rw[eu];simp[iC.fl] at hn ⊢;omega
     ·have hpf:List.Sublist (l1++l2) (l1++iC.one j' kj::l2):=List.Sublist.append_left (List.sublist_cons_self _ _) _
      have hsf:List.Sublist (bV (l1++l2)) (bV (l1++iC.one j' kj::l2)):=by
       rw[hfe,eu]
       exact List.Sublist.append_left (List.sublist_append_right _ _) _
      refine⟨by simp[hI.size],Jt _ fun i=>?_,?_,hI.pair.sublist hpf,hI.dep.sublist hsf,fun x hx=>hI.self x (hsf.subset hx),fun b E hm=>hI.grp b E (hpf.subset hm),hclosed⟩
      ·rw[hfe,eu]
       simp only[iC.fl,lS,List.map_cons,List.map_nil,List.mem_append,List.mem_cons,List.not_mem_nil,or_false]
       have hn2:=hI.nodup
       rw[hfe] at hn2
       simp only[iC.fl,lS,List.map_cons,List.map_nil,List.nodup_append,List.mem_append,List.mem_cons,List.not_mem_nil,or_false] at hn2
       constructor
       ·rintro (hi|hi)
        ·exact⟨.inl hi,fun e=>hn2.2.2 i hi j' (.inl rfl) e⟩
        ·exact⟨.inr (.inr hi),fun e=>hn2.2.1.2.2 j' rfl i hi e.symm⟩
       ·rintro⟨hi|hi|hi,hne⟩
        ·exact .inl hi
        ·exact absurd hi hne
        ·exact .inr hi
      ·exact hI.nodup.sublist (hsf.map _)
    | grp b E=>
     obtain⟨x,Gy,aau⟩:=List.mem_flatMap.1 (show (j',kj)∈E.flatMap (nK b) from hin)
     have hG:=hI.grp b E (by simp)
     have hxm:(x.1,(.inl b:Kd))∈bV (l1++iC.grp b E::l2):=by
      rw[hfe]
      refine List.mem_append_right _ (List.mem_append_left _ ?_)
      exact List.mem_flatMap.2 ⟨x,Gy,List.mem_cons_self⟩
     have hj':(j',kj)=(x.1,.inl b):=by
      rcases List.mem_cons.1 aau with e|hm
      ·exact e
      ·exfalso
       obtain⟨u,hu,e⟩:=List.mem_map.1 hm
       have e1:u=j':=congrArg Prod.fst e
       have h1:=hG.own x Gy u hu
       have h2:=hnotin _ hxm
       rw[e1] at h1
       rw[h1] at h2
       cases h2
     obtain⟨rfl,rfl⟩:j'=x.1∧kj=.inl b:=Prod.mk.inj hj'
     obtain⟨E1,E2,aav,hEe,hEr⟩:=List.exists_erase_eq Gy
     have hfl:bV (l1++iC.grp b E::l2)=bV l1++(E1.flatMap (nK b)++((x.1,.inl b)::((x.2.map fun j=>(j,(.inr none:Kd)))++E2.flatMap (nK b)))++bV l2):=by
      rw[hfe];show bV l1++(E.flatMap (nK b)++bV l2)=_
      rw[hEe,List.flatMap_append,List.flatMap_cons]
      simp[nK]
     have hfn:bV (l1++(x.2.map (fun j=>iC.one j (.inr none))++iC.grp b (E.erase x)::l2))=bV l1++((x.2.map fun j=>(j,(.inr none:Kd)))++(E1.flatMap (nK b)++E2.flatMap (nK b))++bV l2):=by
      rw[eu,eu,iK]
      show bV l1++(_++((E.erase x).flatMap (nK b)++bV l2))=_
      rw[hEr,List.flatMap_append]
      have:bV (x.2.map fun j=>iC.one j (.inr none))=x.2.map fun j=>(j,(.inr none:Kd)):=by
       unfold bV
       rw[List.flatMap_map]
       induction x.2 with
       | nil=>rfl
       | cons u us ih=>rw[List.flatMap_cons,ih];rfl
      rw[this]
      simp
     have hperm:(bV (l1++iC.grp b E::l2)).Perm ((x.1,.inl b)::bV (l1++(x.2.map (fun j=>iC.one j (.inr none))++iC.grp b (E.erase x)::l2))):=by
      rw[hfl,hfn]
      refine List.Perm.trans ?_ List.perm_middle
      refine List.Perm.append_left _ ?_
      refine List.Perm.append_right (bV l2) (show List.Perm _ ((x.1,(.inl b:Kd))::_) from List.Perm.trans List.perm_middle (List.Perm.cons _ ?_))
      rw[←List.append_assoc,←List.append_assoc]
      exact List.Perm.append_right _ List.perm_append_comm
     have hnd':=(hperm.map (fun y:Nat×Kd=>y.1)).nodup_iff.1 hI.nodup
     rw[List.map_cons] at hnd'
     obtain⟨hxn,aaw⟩:=List.nodup_cons.1 hnd'
     have Ql:∀y∈E1,y∈E∧y≠x:=fun y hy=>⟨by rw[hEe];simp[hy],fun e=>aav (by rw[←e];exact hy)⟩
     have Qm:∀y∈E2,y∈E∧y≠x:=fun y hy=>by
      refine⟨by rw[hEe];simp[hy],fun e=>?_⟩
      have hn0:=hI.nodup
      rw[hfl] at hn0
      simp only[lS,List.map_cons] at hn0
      have h3:=(List.nodup_append.1 (List.nodup_append.1 (List.nodup_append.1 hn0).2.1).1).2.1
      refine (List.nodup_cons.1 h3).1 (List.mem_append_right _ (List.mem_map.2 ⟨(x.1,.inl b),List.mem_flatMap.2 ⟨y,hy,by rw[e];exact List.mem_cons_self⟩,rfl⟩))
     have wu:∀u∈x.2,∀v∈E1.flatMap (nK b)++E2.flatMap (nK b),dH ops (Region.before ops) (u,.inr none) v=true:=fun u hu v hv=>by
      rcases List.mem_append.1 hv with hv|hv
      ·obtain⟨y,hy,hvy⟩:=List.mem_flatMap.1 hv
       exact hG.other x Gy y (Ql y hy).1 (fun e=>(Ql y hy).2 e.symm) u hu v hvy
      ·obtain⟨y,hy,hvy⟩:=List.mem_flatMap.1 hv
       exact hG.other x Gy y (Qm y hy).1 (fun e=>(Qm y hy).2 e.symm) u hu v hvy
     have TR:∀{u v:Nat×Kd},dH ops (Region.before ops) u v=true→jQ ops u.1 v.1=false:=fun h=>by
      simp only[dH,Bool.and_eq_true,Bool.not_eq_true'] at h
      exact h.1
     refine wpOp_mono (fun a' w' ⟨h1,_,_⟩=>ih (l1++(x.2.map (fun j=>iC.one j (.inr none))++iC.grp b (E.erase x)::l2)) (listed.setIfInBounds x.1 true) ?_ ?_ a' w' (by rw[kG];exact h1)) (ET (kj:=.inl b) hoj hsel hQ (jT P ops Q S (.grp b E::l2) (Q .normal)) (jT P ops Q S (x.2.map (fun j=>iC.one j (.inr none))++iC.grp b (E.erase x)::l2) (Q .normal)) ?_ l1 hok a w h)
     ·intro a w h
      have xQ:(E.all fun r=>!((Region.before ops).getD x.1 0).testBit r.1)=true:=by
       rw[List.all_eq_true]
       intro r hr
       have h9:((Region.before ops).getD x.1 0).testBit r.1=false:=hnotin (r.1,.inl b) (by rw[hfe];refine List.mem_append_right _ (List.mem_append_left _ ?_);exact List.mem_flatMap.2 ⟨r,hr,List.mem_cons_self⟩)
       rw[h9];rfl
      have hlen:E.length=(E.erase x).length+1:=by
       have hp:0<E.length:=List.length_pos_of_mem Gy
       rw[List.length_erase_of_mem Gy];omega
      simp only[jT] at h
      rw[hlen] at h
      refine wpOp_mono (fun a' w' ⟨h1,h2⟩=>⟨TS (.grp b (E.erase x)::l2) (Q .normal) x.2 a' w' h2,fun hb=>h1 (by cases hb;rfl),fun hb=>(by simp[Kd.eff] at hb)⟩) (h x Gy xQ)
     ·have:=hperm.length_eq
      rw[List.length_cons] at this
      omega
     ·have hc:=List.pairwise_cons.1 hpw.2.1
      have hl1:∀y∈l1,∀u∈y.fl,∀v,v∈(x.2.map fun j=>(j,(.inr none:Kd)))∨v∈E1.flatMap (nK b)++E2.flatMap (nK b)→dH ops (Region.before ops) u v=true:=fun y hy u hu v hv=>by
       refine hpw.2.2 y hy (.grp b E) (by simp) u hu v ?_
       show v∈E.flatMap (nK b)
       rw[hEe,List.flatMap_append,List.flatMap_cons]
       rcases hv with hv|hv
       ·exact List.mem_append_right _ (List.mem_append_left _ (List.mem_cons_of_mem _ hv))
       ·rcases List.mem_append.1 hv with hv|hv
        ·exact List.mem_append_left _ hv
        ·exact List.mem_append_right _ (List.mem_append_right _ hv)
      have hl2:∀y∈l2,∀v∈y.fl,∀u,u∈(x.2.map fun j=>(j,(.inr none:Kd)))∨u∈E1.flatMap (nK b)++E2.flatMap (nK b)→dH ops (Region.before ops) u v=true:=fun y hy v hv u hu=>by
       refine hc.1 y hy u ?_ v hv
       show u∈E.flatMap (nK b)
       rw[hEe,List.flatMap_append,List.flatMap_cons]
       rcases hu with hu|hu
       ·exact List.mem_append_right _ (List.mem_append_left _ (List.mem_cons_of_mem _ hu))
       ·rcases List.mem_append.1 hu with hu|hu
        ·exact List.mem_append_left _ hu
        ·exact List.mem_append_right _ (List.mem_append_right _ hu)
      have hgf:iC.fl (.grp b (E.erase x))=E1.flatMap (nK b)++E2.flatMap (nK b):=by
       show (E.erase x).flatMap (nK b)=_
       rw[hEr,List.flatMap_append]
      have hone:∀y∈x.2.map (fun j=>iC.one j (.inr none)),∀u∈y.fl,u∈(x.2.map fun j=>(j,(.inr none:Kd))):=fun y hy u hu=>by
       obtain⟨j,hj,rfl⟩:=List.mem_map.1 hy
       rw[List.mem_singleton.1 hu]
       exact List.mem_map.2 ⟨j,hj,rfl⟩
      refine⟨by simp[hI.size],Jt _ fun k=>?_,aaw,?_,?_,fun y hy=>hI.self y (hperm.symm.subset (List.mem_cons_of_mem _ hy)),?_,hclosed⟩
      ·have hmm:=(hperm.map (fun y:Nat×Kd=>y.1)).mem_iff (a:=k)
       rw[List.map_cons,List.mem_cons] at hmm
       rw[hmm]
       constructor
       ·intro hk
        exact⟨.inr hk,fun e=>hxn (by rw[←e];exact hk)⟩
       ·rintro⟨rfl|hk,hne⟩
        ·exact absurd rfl hne
        ·exact hk
      ·refine List.pairwise_append.2 ⟨hpw.1,List.pairwise_append.2 ⟨?_,List.pairwise_cons.2 ⟨fun y hy u hu v hv=>hl2 y hy v hv u (.inr (by rw[←hgf];exact hu)),hc.2⟩,fun y hy z hz u hu v hv=>?_⟩,fun y hy z hz u hu v hv=>?_⟩
       ·rw[List.pairwise_map]
        refine (hG.seq x Gy).imp fun h u hu v hv=>?_
        rw[List.mem_singleton.1 hu,List.mem_singleton.1 hv]
        exact h
       ·have h1:=hone y hy u hu
        rcases List.mem_cons.1 hz with rfl|hz
        ·obtain⟨j,hj,rfl⟩:=List.mem_map.1 h1
         exact wu j hj v (by rw[←hgf];exact hv)
        ·exact hl2 z hz v hv u (.inl h1)
       ·rcases List.mem_append.1 hz with hz|hz
        ·exact hl1 y hy u hu v (.inl (hone z hz v hv))
        ·rcases List.mem_cons.1 hz with rfl|hz
         ·exact hl1 y hy u hu v (.inr (by rw[←hgf];exact hv))
         ·exact hpw.2.2 y hy z (by simp[hz]) u hu v hv
      ·have hd:=hI.dep
       rw[hfl] at hd
       rw[hfn]
       obtain⟨a1,a2,a3⟩:=List.pairwise_append.1 hd
       obtain⟨b1,b2,b3⟩:=List.pairwise_append.1 a2
       obtain⟨c1,c2,c3⟩:=List.pairwise_append.1 b1
       obtain⟨d1,d2⟩:=List.pairwise_cons.1 c2
       obtain⟨e1,e2,e3⟩:=List.pairwise_append.1 d2
       refine List.pairwise_append.2 ⟨a1,List.pairwise_append.2 ⟨List.pairwise_append.2 ⟨e1,List.pairwise_append.2 ⟨c1,e2,fun y hy z hz=>c3 y hy z (List.mem_cons_of_mem _ (List.mem_append_right _ hz))⟩,fun y hy z hz=>?_⟩,b2,fun y hy z hz=>b3 y ?_ z hz⟩,fun y hy z hz=>a3 y hy z ?_⟩
       ·obtain⟨j,hj,rfl⟩:=List.mem_map.1 hy
        exact TR (wu j hj z hz)
       ·rcases List.mem_append.1 hy with hy|hy
        ·exact List.mem_append_right _ (List.mem_cons_of_mem _ (List.mem_append_left _ hy))
        ·rcases List.mem_append.1 hy with hy|hy
         ·exact List.mem_append_left _ hy
         ·exact List.mem_append_right _ (List.mem_cons_of_mem _ (List.mem_append_right _ hy))
       ·rcases List.mem_append.1 hz with hz|hz
        ·rcases List.mem_append.1 hz with hz|hz
         ·exact List.mem_append_left _ (List.mem_append_right _ (List.mem_cons_of_mem _ (List.mem_append_left _ hz)))
         ·rcases List.mem_append.1 hz with hz|hz
          ·exact List.mem_append_left _ (List.mem_append_left _ hz)
          ·exact List.mem_append_left _ (List.mem_append_right _ (List.mem_cons_of_mem _ (List.mem_append_right _ hz)))
        ·exact List.mem_append_right _ hz
      ·intro b' E' hm
       rcases List.mem_append.1 hm with hm|hm
       ·exact hI.grp b' E' (List.mem_append_left _ hm)
       ·rcases List.mem_append.1 hm with hm|hm
        ·obtain⟨j,_,e⟩:=List.mem_map.1 hm
         cases e
        ·rcases List.mem_cons.1 hm with e|hm
         ·cases e
          exact hG.erase x
         ·exact hI.grp b' E' (by simp[hm])
def Ju (ops:Array Oper) (bf:Array Nat):List iC→Bool
 | []=>true
 | x::l=>l.all (fun y=>x.fl.all fun u=>y.fl.all fun v=>dH ops bf u v)&&Ju ops bf l
theorem Bd {bf:Array Nat}:∀(l:List iC),Ju ops bf l=true→l.Pairwise fun x y=>∀u∈x.fl,∀v∈y.fl,dH ops bf u v=true
 | [],_=>.nil
 | x::l,h=>by
  simp only[Ju,Bool.and_eq_true,List.all_eq_true] at h
  exact List.pairwise_cons.2 ⟨fun y hy u hu v hv=>h.1 y hy u hu v hv,Bd l h.2⟩
def Jz (ops:Array Oper) (bf:Array Nat):List iC→Bool
 | []=>true
 | .one _ _::l=>Jz ops bf l
 | .grp b E::l=>okGB ops bf b E&&Jz ops bf l
theorem Bo {bf:Array Nat}:∀(l:List iC),Jz ops bf l=true→∀b E,iC.grp b E∈l→okG ops bf b E
 | [],_,_,_,h=>by cases h
 | .one _ _::l,h,b,E,hm=>by
  rcases List.mem_cons.1 hm with e|hm
  ·cases e
  ·exact Bo l h b E hm
 | .grp b' E'::l,h,b,E,hm=>by
  simp only[Jz,Bool.and_eq_true] at h
  rcases List.mem_cons.1 hm with e|hm
  ·cases e
   exact Xu h.1
  ·exact Bo l h.2 b E hm
def TW (ops:Array Oper) (l:List iC):Bool:=
 Ju ops (Region.before ops) l&&TT ops (bV l)&&ES ops&&jU ops (Region.before ops)&&(bV l).length==ops.size&&nodupB ((bV l).map (·.1))&&((bV l).map (·.1)).all (fun i=>decide (i<ops.size))&&(List.range ops.size).all (fun i=>((bV l).map (·.1)).contains i) &&
 ops.all (fun o=>o.after.all fun e=>!Region.binds .any e||decide (e.on<ops.size))&&Jz ops (Region.before ops) l
theorem ji {id:Nat} {a:Act} {w:World} (hm:P.follows .mixedOrders=true) (S:World→Prop) (l:List iC) (hok:TW ops l=true)
 (h:jT P ops (NoPanic Q) S l (Q .normal) a w.drew):(Code.region id ops true).wp P Q a w:=by
 simp only[TW,Bool.and_eq_true] at hok
 obtain⟨⟨⟨⟨⟨⟨⟨⟨⟨h1,h0⟩,h2⟩,h3⟩,h4⟩,h7⟩,h8⟩,h5⟩,h6⟩,h9⟩:=hok
 have hlen:(bV l).length=ops.size:=by simpa using h4
 have hall:∀i,i<ops.size→i∈(bV l).map (·.1):=fun i hi=>by
  simp only[List.all_eq_true,List.mem_range] at h5
  simpa using h5 i hi
 have hback:∀i,i∈(bV l).map (·.1)→i<ops.size:=fun i hi=>by
  rw[List.all_eq_true] at h8
  simpa using h8 i hi
 have hd:=Gz _ h0
 refine wp_region_noPanic (wp_region_any hm ?_)
 refine TV (S:=S) ?_ ?_ h3 ?_ ops.size l _ hlen ?_ a w.drew h
 ·intro j o cs b ho hsel
  simp only[ES,Array.all_eq_true] at h2
  obtain⟨hj,rfl⟩:=Array.getElem?_eq_some_iff.1 ho
  have:=h2 j hj
  rw[hsel] at this
  cases this
 ·intro c a d v w hh;exact hh
 ·intro j o ho e he hb
  obtain⟨hj,rfl⟩:=Array.getElem?_eq_some_iff.1 ho
  rw[Array.all_eq_true] at h6
  have:=h6 j hj
  rw[Array.all_eq_true] at this
  obtain⟨k,hk,rfl⟩:=Array.mem_iff_getElem.1 he
  have:=this k hk
  simpa[hb] using this
 ·refine⟨by simp,fun i=>⟨fun hi=>?_,fun hi=>hall i hi.1⟩,pO _ h7,Bd l h1,hd.1,hd.2,Bo l h9,fun d r _ hd=>?_⟩
  ·have:=hback i hi
   exact⟨this,by simp[Array.getD,this]⟩
  ·exfalso
   simp only[Array.getD,Array.size_replicate] at hd
   split at hd<;>simp at hd
variable {i:Nat} {l:List iC} {a:Act} {w:World} {o:Oper} {v:Value} {K:Act→World→Prop}
theorem Gq (ho:ops.toList[i]?=some o) (hg:Region.wanted o (yielded ops a.tmps)=true) (hv:∀w',(execOp a.eval o).run P w'=.ok (.value v) w') (h:jT P ops Q S l K (a.put o.dst v) w):jT P ops Q S (.one i .p::l) K a w:=
 have ho':=(Array.getElem?_toList (xs:=ops) (i:=i)).symm.trans ho
 ⟨o,ho',v,fun w'=>.inl ⟨hg,hv w'⟩,h⟩
theorem Gs (ho:ops.toList[i]?=some o) (hg:Region.wanted o (yielded ops a.tmps)=true) (hS:S w) (hv:∀w',S w'→(execOp a.eval o).run P w'=.ok (.value v) w') (h:jT P ops Q S l K (a.put o.dst v) w):jT P ops Q S (.one i .s::l) K a w:=
 have ho':=(Array.getElem?_toList (xs:=ops) (i:=i)).symm.trans ho
 ⟨o,ho',hS,v,fun w' hw=>.inl ⟨hg,hv w' hw⟩,h⟩
theorem Gt (ho:ops.toList[i]?=some o) (hg:Region.wanted o (yielded ops a.tmps)=true) (hv:(execOp a.eval o).run P w=.ok (.value v) w) (h:jT P ops Q S l K (a.put o.dst v) w):jT P ops Q S (.one i .t::l) K a w:=
 have ho':=(Array.getElem?_toList (xs:=ops) (i:=i)).symm.trans ho
 ⟨o,ho',v,.inl ⟨hg,hv⟩,h⟩
theorem pG (ho:ops.toList[i]?=some o) (hg:Region.wanted o (yielded ops a.tmps)=false) (h:jT P ops Q S l K (a.put o.dst undef) w):jT P ops Q S (.one i .p::l) K a w:=
 have ho':=(Array.getElem?_toList (xs:=ops) (i:=i)).symm.trans ho
 ⟨o,ho',undef,fun _=>.inr ⟨hg,rfl⟩,h⟩
theorem pI (ho:ops.toList[i]?=some o) (hg:Region.wanted o (yielded ops a.tmps)=false) (hS:S w) (h:jT P ops Q S l K (a.put o.dst undef) w):jT P ops Q S (.one i .s::l) K a w:=
 have ho':=(Array.getElem?_toList (xs:=ops) (i:=i)).symm.trans ho
 ⟨o,ho',hS,undef,fun _ _=>.inr ⟨hg,rfl⟩,h⟩
theorem pJ (ho:ops.toList[i]?=some o) (hg:Region.wanted o (yielded ops a.tmps)=false) (h:jT P ops Q S l K (a.put o.dst undef) w):jT P ops Q S (.one i .t::l) K a w:=
 have ho':=(Array.getElem?_toList (xs:=ops) (i:=i)).symm.trans ho
 ⟨o,ho',undef,.inr ⟨hg,rfl⟩,h⟩
theorem Y5 {b:Bool} (ho:ops.toList[i]?=some o) (hg:Region.wanted o (yielded ops a.tmps)=true)
 (h:∀K':Act→World→Prop,(∀a w,(b=true→S w)→jT P ops Q S l K a w→K' a w)→o.wp P a w K' Q):jT P ops Q S (.one i (.e b)::l) K a w:=
 have ho':=(Array.getElem?_toList (xs:=ops) (i:=i)).symm.trans ho
 ⟨o,ho',by unfold wpOp;simp only[ho',hg,if_true];exact .inl (h _ fun _ _ h1 h2=>⟨h1,h2⟩)⟩
theorem vY (h:K a w):jT P ops Q S [] K a w:=h
end
end PA
namespace PA
open Go Go.RowKit
section
variable {P:Program} {ops:Array Oper} {Q:Exit→Act→World→Prop} {S:World→Prop} {W:World}
def tailA {Y:Type} (Pre:aG) (ok:Y→Value→Prop) (Post:Y→aG) (F:Value→List Value):List Value→aG
 | []=>Pre
 | v::us=>ex fun y:Y=>sep (fact (ok y v∧us=(F v).take us.length)) (Post y)
def vW (P:Program) (ops:Array Oper):Act→List Nat→List Value→Prop
 | _,[],[]=>True
 | a,j::js,u::us=>(∃o,ops[j]?=some o∧(∀w,(execOp a.eval o).run P w=.ok (.value u) w))∧vW P ops (a.put (aZ ops j) u) js us
 | _,_,_=>False
def mO (ops:Array Oper) (j:Nat):Bool:=match ops[j]? with|some o=>o.guard.isNone&&(match o.op with|.select ..=>false|_=>true)|none=>false
theorem A8:∀{js:List Nat} {us:List Value} {a:Act},vW P ops a js us→us.length=js.length
 | [],[],_,_=>rfl
 | [],_::_,_,h=>h.elim
 | _::_,[],_,h=>h.elim
 | j::js,u::us,a,h=>by rw[List.length_cons,List.length_cons,A8 h.2]
theorem rG {K:Act→World→Prop}:∀(js:List Nat) (us:List Value) (a:Act) (w:World),(∀j∈js,mO ops j=true)→vW P ops a js us→K (puts ops (js.zip us) a) w→wpT P ops K js a w
 | [],us,a,w,_,h,hk=>by
  cases us with
  | nil=>exact hk
  | cons=>exact h.elim
 | j::js,[],_,_,_,h,_=>h.elim
 | j::js,u::us,a,w,hp,h,hk=>by
  obtain⟨⟨o,ho,hr⟩,h2⟩:=h
  have TY:=hp j (by simp)
  unfold mO at TY
  rw[ho] at TY
  simp only[Bool.and_eq_true] at TY
  refine⟨o,ho,u,fun w'=>.inl ⟨?_,hr w'⟩,?_⟩
  ·unfold Region.wanted
   cases hg:o.guard with
   | none=>rfl
   | some x=>rw[hg] at TY;exact absurd TY.1 (by simp)
  ·have hd:aZ ops j=o.dst:=by unfold aZ;rw[ho];rfl
   rw[←hd]
   exact rG js us _ w (fun k hk=>hp k (by simp[hk])) h2 hk
theorem mM {i:Nat} (v:Value):∀(l:List (Nat×Value)),(∀x∈l,apartB ops x.1 i=true∨apartB ops i x.1=true)→∀a:Act,puts ops l (a.put (aZ ops i) v)=(puts ops l a).put (aZ ops i) v
 | [],_,_=>rfl
 | x::l,h,a=>by
  show puts ops l ((a.put (aZ ops i) v).put (aZ ops x.1) x.2)=(puts ops l (a.put (aZ ops x.1) x.2)).put (aZ ops i) v
  have hd:∀d,aZ ops i=some d→aZ ops x.1≠some d:=by
   rcases h x (by simp) with h1|h1
   ·exact (mQ h1).2
   ·exact (mQ h1).1
  rw[Act.put_comm a v x.2 hd,mM v l (fun y hy=>h y (by simp[hy]))]
theorem Ua {js:List Nat} {k:Nat} {v:Value}:∀{us:List Value} {a:Act},(∀j∈js,mO ops j=true)→(∀j∈js,apartB ops k j=true∨apartB ops j k=true)→vW P ops a js us→vW P ops (a.put (aZ ops k) v) js us:=by
 induction js with
 | nil=>intro us a _ _ h;cases us with
  | nil=>trivial
  | cons=>exact h.elim
 | cons j js ih=>
  intro us a hp hap h
  cases us with
  | nil=>exact h.elim
  | cons u us=>
   obtain⟨⟨o,ho,hr⟩,h2⟩:=h
   have TY:=hp j (by simp)
   unfold mO at TY
   rw[ho] at TY
   simp only[Bool.and_eq_true] at TY
   have hsel:∀cs b,o.op≠.select cs b:=fun cs b hs=>by rw[hs] at TY;exact absurd TY.2 (by simp)
   have hlook:∀d,aZ ops k=some d→d∉o.looksAt ops:=fun d hd=>by
    unfold aZ at hd
    cases hk:ops[k]? with
    | none=>rw[hk] at hd;cases hd
    | some z=>
     rw[hk] at hd
     rcases hap j (by simp) with h1|h1
     ·unfold apartB at h1
      rw[hk,ho] at h1
      exact (Oper.apart_spec h1).1 d hd
     ·unfold apartB at h1
      rw[hk,ho] at h1
      exact (Oper.apart_spec h1).2.2 d hd
   refine⟨⟨o,ho,fun w=>?_⟩,?_⟩
   ·rw[execOp_put o hsel a _ v hlook];exact hr w
   ·have:=ih (fun i hi=>hp i (by simp[hi])) (fun i hi=>hap i (by simp[hi])) h2
    have hd:∀d,aZ ops k=some d→aZ ops j≠some d:=by
     rcases hap j (by simp) with h1|h1
     ·exact (mQ h1).1
     ·exact (mQ h1).2
    rw[Act.put_comm a v u hd]
    exact this
theorem xO {js:List Nat} {us:List Value}:∀(l:List (Nat×Value)),(∀j∈js,mO ops j=true)→(∀x∈l,∀j∈js,apartB ops x.1 j=true∨apartB ops j x.1=true)→∀{a:Act},vW P ops a js us→vW P ops (puts ops l a) js us
 | [],_,_,_,h=>h
 | x::l,hp,hap,a,h=>xO l hp (fun y hy=>hap y (by simp[hy])) (Ua hp (hap x (by simp)) h)
def nums (ids:List (Nat×List Nat)):List Nat:=ids.flatMap fun x=>x.1::x.2
structure WE where
 ids:List (Nat×List Nat)
 A:List Value→aG
structure qN where
 dn:List (Nat×Value)
 td:List (Nat×List Nat)
 A:List Value→aG
def qN.now (s:qN):aG:=s.A (s.dn.map (·.2))
def xM (oK:List qN) (B:aG):aG:=oK.foldl (fun B s=>sep s.now B) B
theorem jV (s:qN) (oK:List qN) (B:aG):xM (s::oK) B=xM oK (sep s.now B):=rfl
theorem mJ (s t:List qN) (B:aG):xM (s++t) B=xM t (xM s B):=by simp[xM]
theorem nP (X:aG):∀(oK:List qN) (B:aG),xM oK (sep X B)=sep X (xM oK B)
 | [],_=>rfl
 | s::oK,B=>by rw[jV,jV,au,nP X oK]
theorem EW:∀(l:List qN) (A:aG),∃X,xM l A=sep X A
 | [],A=>⟨emp,(bU A).symm⟩
 | s::l,A=>by
  obtain⟨X,hX⟩:=EW l A
  exact⟨sep s.now X,by rw[jV,nP,hX,aj]⟩
def uj (P:Program) (ops:Array Oper) (W:World) (a0:Act) (A:List Value→aG):List (Nat×Value)→List (Nat×List Nat)→Prop
 | _,[]=>True
 | dn,x::td=>(∃o,ops[x.1]?=some o∧(∀cs b,o.op≠.select cs b)∧iq P ops W o (puts ops dn a0) (A (dn.map (·.2))) (fun v=>A (dn.map (·.2)++[v])))∧(∀y∈td,((Region.before ops).getD y.1 0).testBit x.1=true)∧(∀j∈x.2,mO ops j=true) ∧
  (∀v w B,Sat W w (sep (A (dn.map (·.2)++[v])) B)→∃us,vW P ops (puts ops (dn++[(x.1,v)]) a0) x.2 us∧Sat W w (sep (A (dn.map (·.2)++v::us)) B)) ∧
  ∀v us,us.length=x.2.length→uj P ops W a0 A (dn++(x.1,v)::x.2.zip us) td
def Qi (ops:Array Oper) (W:World) (a0:Act) (K:Act→World→Prop):List WE→List (Nat×Value)→aG→Prop
 | [],D,B=>∀w,Sat W w B→K (puts ops D a0) w
 | t::ts,D,B=>∀dn:List (Nat×Value),dn.map (·.1)=nums t.ids→Qi ops W a0 K ts (D++dn) (sep (t.A (dn.map (·.2))) B)
def qo (ts:List WE) (oK:List qN):Prop:=oK.map (fun s=>(s.dn.map (·.1)++nums s.td,s.A))=ts.map fun t=>(nums t.ids,t.A)
theorem Ub {l:List (Nat×List Nat)} (h:l=[]):nums l=[]:=by rw[h];rfl
theorem AZ {a0:Act} {K:Act→World→Prop}:∀(oK:List qN) (ts:List WE) (D:List (Nat×Value)) (B:aG),qo ts oK→oK.flatMap (·.td)=[]→Qi ops W a0 K ts D B→∀w,Sat W w (xM oK B)→K (puts ops (D++oK.flatMap (·.dn)) a0) w
 | [],ts,D,B,hL,_,hf,w,hS=>by
  have:ts=[]:=by unfold qo at hL;simp at hL;exact hL
  subst this
  simpa using hf w hS
 | s::oK,ts,D,B,hL,ht,hf,w,hS=>by
  cases ts with
  | nil=>unfold qo at hL;simp at hL
  | cons t ts=>
   unfold qo at hL
   simp only[List.map_cons,List.cons.injEq,Prod.mk.injEq] at hL
   obtain⟨⟨h1,h2⟩,h3⟩:=hL
   simp only[List.flatMap_cons,List.append_eq_nil_iff] at ht
   rw[Ub ht.1,List.append_nil] at h1
   have:=hf s.dn h1
   rw[←h2] at this
   have h4:=AZ oK ts (D++s.dn) _ h3 ht.2 this w (by rw[jV] at hS;exact hS)
   rw[List.flatMap_cons,←List.append_assoc]
   exact h4
def qN.all (s:qN):List Nat:=s.dn.map (·.1)++nums s.td
theorem Qn {a0:Act} {A:aG} {b:Bool} {K:Act→World→Prop} (ts:List WE) (hS:b=true→∀w X,Sat W w (sep X A)→S w) (hfin:Qi ops W a0 K ts [] A):
 ∀(n:Nat) (oK:List qN) (E:List (Nat×List Nat)) (w:World),E.length=n→E.Perm (oK.flatMap (·.td))→qo ts oK→(∀s∈oK,uj P ops W a0 s.A s.dn s.td)→(oK.Pairwise fun s t=>MW ops s.all t.all)→Sat W w (xM oK A) →
  uT P ops Q S b n E K (puts ops (oK.flatMap (·.dn)) a0) w:=by
 intro n
 induction n with
 | zero=>
  intro oK E w hn hp hL _ _ hw
  have hE:=List.eq_nil_of_length_eq_zero hn
  subst hE
  have:=AZ oK ts [] A hL (List.nil_perm.1 hp) hfin w hw
  rw[List.nil_append] at this
  exact this
 | succ n ih=>
  intro oK E w hn hp hL hg hap hw i hi hr
  obtain⟨s,hs,his⟩:=List.mem_flatMap.1 (hp.mem_iff.1 hi)
  obtain⟨S1,S2,rfl⟩:=List.append_of_mem hs
  obtain⟨dn,td,AT⟩:=s
  cases td with
  | nil=>simp at his
  | cons k td=>
   have hgs:=hg _ hs
   obtain⟨⟨o,ho,hsel,hd⟩,hch,hplain,htl,hnext⟩:=hgs
   have hik:i=k:=by
    rcases List.mem_cons.1 his with e|hm
    ·exact e
    ·exfalso
     have h1:=hch i hm
     have h2:k∈E:=hp.mem_iff.2 (List.mem_flatMap.2 ⟨_,hs,by simp⟩)
     have h3:=List.all_eq_true.1 hr k h2
     rw[h1] at h3
     cases h3
   subst hik
   have hall:∀j∈dn.map (·.1)++i.1::i.2,j∈qN.all ⟨dn,i::td,AT⟩:=fun j hj=>by
    unfold qN.all nums
    rw[List.flatMap_cons]
    rcases List.mem_append.1 hj with hj|hj
    ·exact List.mem_append_left _ hj
    ·exact List.mem_append_right _ (List.mem_append_left _ hj)
   have hpw:=List.pairwise_append.1 hap
   have hpc:=List.pairwise_cons.1 hpw.2.1
   have hl1:∀x∈S1.flatMap (·.dn),∀j∈dn.map (·.1)++i.1::i.2,apartB ops x.1 j=true:=fun x hx j hj=>by
    obtain⟨s1,hs1,hx1⟩:=List.mem_flatMap.1 hx
    exact hpw.2.2 s1 hs1 ⟨dn,i::td,AT⟩ (by simp) x.1 (List.mem_append_left _ (List.mem_map.2 ⟨x,hx1,rfl⟩)) j (hall j hj)
   have hl2:∀x∈S2.flatMap (·.dn),∀j∈dn.map (·.1)++i.1::i.2,apartB ops j x.1=true:=fun x hx j hj=>by
    obtain⟨s1,hs1,hx1⟩:=List.mem_flatMap.1 hx
    exact hpc.1 s1 hs1 j (hall j hj) x.1 (List.mem_append_left _ (List.mem_map.2 ⟨x,hx1,rfl⟩))
   have Jr:∀TM:List (Nat×Value),(∀y∈TM,y.1∈dn.map (·.1)++i.1::i.2)→puts ops ((S1++⟨TM,td,AT⟩::S2).flatMap (·.dn)) a0=puts ops (S2.flatMap (·.dn)) (puts ops (S1.flatMap (·.dn)) (puts ops TM a0)):=fun TM aas=>by
    rw[List.flatMap_append,List.flatMap_cons,dK,dK]
    congr 1
    exact uU TM _ (fun x hx y hy=>hl1 x hx y.1 (aas y hy)) a0
   have Js:puts ops ((S1++⟨dn,i::td,AT⟩::S2).flatMap (·.dn)) a0=puts ops (S2.flatMap (·.dn)) (puts ops (S1.flatMap (·.dn)) (puts ops dn a0)):=by
    rw[←Jr dn (fun y hy=>List.mem_append_left _ (List.mem_map.2 ⟨y,hy,rfl⟩)),List.flatMap_append,List.flatMap_append,List.flatMap_cons,List.flatMap_cons]
   have hboth:∀x∈S1.flatMap (·.dn)++S2.flatMap (·.dn),∀j∈dn.map (·.1)++i.1::i.2,apartB ops x.1 j=true∨apartB ops j x.1=true:=fun x hx j hj=>by
    rcases List.mem_append.1 hx with hx|hx
    ·exact .inl (hl1 x hx j hj)
    ·exact .inr (hl2 x hx j hj)
   have hd':iq P ops W o (puts ops ((S1++⟨dn,i::td,AT⟩::S2).flatMap (·.dn)) a0) (AT (dn.map (·.2))) (fun v=>AT (dn.map (·.2)++[v])):=by
    rw[Js,←dK]
    exact iq.puts ho hsel _ (fun x hx=>hboth x hx i.1 (by simp)) hd
   have hw2:Sat W w (sep (AT (dn.map (·.2))) (xM S2 (xM S1 A))):=by
    rw[mJ,jV,nP] at hw
    exact hw
   refine hd'.wpOp ho hw2 (fun v w' hv=>?_)
   refine⟨fun hb=>?_,?_⟩
   ·obtain⟨X,hX⟩:=EW (S1++S2) A
    rw[←mJ,hX,←aj] at hv
    exact hS hb w' _ hv
   ·obtain⟨us,hpu,hv2⟩:=htl v w' _ hv
    have Gx:=A8 hpu
    have hdo:aZ ops i.1=o.dst:=by unfold aZ;rw[ho];rfl
    have e1:(puts ops ((S1++⟨dn,i::td,AT⟩::S2).flatMap (·.dn)) a0).put o.dst v=puts ops (S1.flatMap (·.dn)++S2.flatMap (·.dn)) (puts ops (dn++[(i.1,v)]) a0):=by
     rw[Js,←hdo,←dK,dK dn]
     show _=puts ops _ ((puts ops dn a0).put (aZ ops i.1) v)
     exact (mM v _ (fun x hx=>hboth x hx i.1 (by simp)) _).symm
    rw[e1]
    refine rG i.2 us _ w' hplain (xO _ hplain (fun x hx j hj=>hboth x hx j (by simp[hj])) hpu) ?_
    have e2:puts ops (i.2.zip us) (puts ops (S1.flatMap (·.dn)++S2.flatMap (·.dn)) (puts ops (dn++[(i.1,v)]) a0))=puts ops ((S1++⟨dn++(i.1,v)::i.2.zip us,td,AT⟩::S2).flatMap (·.dn)) a0:=by
     rw[Jr (dn++(i.1,v)::i.2.zip us) (fun y hy=>?_)]
     ·rw[←dK (S1.flatMap (·.dn))]
      have e3:dn++(i.1,v)::i.2.zip us=(dn++[(i.1,v)])++i.2.zip us:=by simp
      rw[e3,dK (dn++[(i.1,v)])]
      have key:∀(z:List (Nat×Value)),(∀y∈z,y.1∈i.2)→∀(L:List (Nat×Value)),(∀x∈L,∀j∈dn.map (·.1)++i.1::i.2,apartB ops x.1 j=true∨apartB ops j x.1=true)→∀a:Act,puts ops z (puts ops L a)=puts ops L (puts ops z a):=by
       intro z
       induction z with
       | nil=>intro _ L _ a;rfl
       | cons y z ihz=>
        intro hz L hL a
        show puts ops z ((puts ops L a).put (aZ ops y.1) y.2)=puts ops L (puts ops z (a.put (aZ ops y.1) y.2))
        rw[←mM y.2 L (fun x hx=>hL x hx y.1 (List.mem_append_right _ (List.mem_cons_of_mem _ (hz y (by simp))))),ihz (fun u hu=>hz u (by simp[hu])) L hL]
      exact key _ (fun y hy=>by obtain⟨y1,y2⟩:=y;exact (List.of_mem_zip hy).1) _ hboth _
     ·rcases List.mem_append.1 hy with hy|hy
      ·exact List.mem_append_left _ (List.mem_map.2 ⟨y,hy,rfl⟩)
      ·rcases List.mem_cons.1 hy with rfl|hy
       ·simp
       ·obtain⟨y1,y2⟩:=y
        exact List.mem_append_right _ (List.mem_cons_of_mem _ (List.of_mem_zip hy).1)
    rw[e2]
    have hzm:((i.1,v)::i.2.zip us).map (·.1)=i.1::i.2:=by rw[List.map_cons,List.map_fst_zip (by omega)]
    have hzs:((i.1,v)::i.2.zip us).map (·.2)=v::us:=by rw[List.map_cons,List.map_snd_zip (by omega)]
    refine ih _ (E.erase i) w' ?_ ?_ ?_ ?_ ?_ ?_
    ·rw[List.length_erase_of_mem hi,hn];rfl
    ·have h1:((S1++⟨dn,i::td,AT⟩::S2).flatMap (·.td)).Perm (i::(S1++⟨dn++(i.1,v)::i.2.zip us,td,AT⟩::S2).flatMap (·.td)):=by
      simp only[List.flatMap_append,List.flatMap_cons]
      exact List.perm_middle
     have h2:=(hp.trans h1).erase i
     rw[List.erase_cons_head] at h2
     exact h2
    ·unfold qo at *
     rw[←hL]
     simp only[lS,List.map_cons]
     rw[show i.1::(i.2.zip us).map (·.1)=i.1::i.2 by rw[←hzm];rfl]
     congr 2
     simp[nums]
    ·intro s hs'
     rcases List.mem_append.1 hs' with h|h
     ·exact hg s (List.mem_append_left _ h)
     ·rcases List.mem_cons.1 h with rfl|h
      ·exact hnext v us Gx
      ·exact hg s (by simp[h])
    ·have hsame:qN.all ⟨dn++(i.1,v)::i.2.zip us,td,AT⟩=qN.all ⟨dn,i::td,AT⟩:=by
      unfold qN.all nums
      rw[lS,hzm,List.flatMap_cons,List.append_assoc]
     refine List.pairwise_append.2 ⟨hpw.1,List.pairwise_cons.2 ⟨fun y hy=>?_,hpc.2⟩,fun x hx y hy=>?_⟩
     ·rw[hsame];exact hpc.1 y hy
     ·rcases List.mem_cons.1 hy with rfl|hy
      ·rw[hsame];exact hpw.2.2 x hx _ (List.mem_cons_self)
      ·exact hpw.2.2 x hx y (by simp[hy])
    ·rw[mJ,jV,nP]
     show Sat W w' (sep (AT ((dn++(i.1,v)::i.2.zip us).map (·.2))) (xM S2 (xM S1 A)))
     rw[lS,hzs]
     exact hv2
theorem uV:∀(ts:List WE),wo ops (ts.map (fun t=>nums t.ids))=true→(ts.map fun t=>(⟨[],t.ids,t.A⟩:qN)).Pairwise fun s t=>MW ops s.all t.all
 | [],_=>.nil
 | t::ts,h=>by
  simp only[List.map_cons,wo,Bool.and_eq_true,List.all_eq_true] at h
  refine List.pairwise_cons.2 ⟨fun s hs=>?_,uV ts h.2⟩
  obtain⟨u,hu,rfl⟩:=List.mem_map.1 hs
  have:=h.1 (nums u.ids) (List.mem_map.2 ⟨u,hu,rfl⟩)
  simp only[O1,List.all_eq_true] at this
  intro i hi j hj
  exact this i (by simpa[qN.all] using hi) j (by simpa[qN.all] using hj)
theorem nS {a:Act} {w:World} {A:aG} {b:Bool} {l:List iC} {K:Act→World→Prop} (ts:List WE) (hS:b=true→∀w X,Sat W w (sep X A)→S w)
 (hap:wo ops (ts.map (fun t=>nums t.ids))=true) (hg:∀t∈ts,uj P ops W a t.A [] t.ids) (hw:Sat W w (ts.foldl (fun B t=>sep (t.A []) B) A)) (hfin:Qi ops W a (jT P ops Q S l K) ts [] A):
 jT P ops Q S (.grp b (ts.flatMap (·.ids))::l) K a w:=by
 have aat:xM (ts.map fun t=>(⟨[],t.ids,t.A⟩:qN)) A=ts.foldl (fun B t=>sep (t.A []) B) A:=by
  rw[xM,List.foldl_map];rfl
 have h:=Qn (P:=P) (Q:=Q) (S:=S) (b:=b) ts hS hfin _ (ts.map fun t=>(⟨[],t.ids,t.A⟩:qN)) (ts.flatMap (·.ids)) w rfl ?_ ?_ ?_ (uV ts hap) (by rw[aat];exact hw)
 ·have e:(ts.map fun t=>(⟨[],t.ids,t.A⟩:qN)).flatMap (·.dn)=[]:=by
   induction ts with
   | nil=>rfl
   | cons t ts ih=>simp
  rw[e] at h
  exact h
 ·rw[List.flatMap_map]
 ·unfold qo;simp
 ·intro s hs
  obtain⟨t,ht,rfl⟩:=List.mem_map.1 hs
  exact hg t ht
theorem iZ {Y:Type} {Pre:aG} {ok:Y→Value→Prop} {Post:Y→aG} {F:Value→List Value} {a0:Act} {i:Nat} {js:List Nat} {o:Oper} (ho:ops[i]?=some o) (hs:∀cs b,o.op≠.select cs b)
 (hd:iq P ops W o a0 Pre (fun v=>ex fun y:Y=>sep (fact (ok y v)) (Post y))) (hpl:js.all (mO ops)=true) (hF:∀y v,ok y v→vW P ops (a0.put (aZ ops i) v) js (F v)):
 uj P ops W a0 (tailA Pre ok Post F) [] [(i,js)]:=by
 refine⟨⟨o,ho,hs,?_⟩,fun y hy=>(by cases hy),fun j hj=>List.all_eq_true.1 hpl j hj,fun v w B h=>?_,fun _ _ _=>trivial⟩
 ·refine⟨hd.1,fun w A hS=>?_⟩
  have conv:∀(v:Value) (w':World),Sat W w' (sep (ex fun y:Y=>sep (fact (ok y v)) (Post y)) A)→Sat W w' (sep (tailA Pre ok Post F ([]++[v])) A):=fun v w' h=>by
   rw[List.nil_append,tailA,dA,Sat.ex]
   rw[dA,Sat.ex] at h
   obtain⟨y,h⟩:=h
   refine⟨y,?_⟩
   rw[aj] at h ⊢
   obtain⟨h1,h2⟩:=Sat.fact.1 h
   exact Sat.fact.2 ⟨⟨h1,rfl⟩,h2⟩
  rcases hd.2 w A hS with ⟨v,w',h1,h2⟩|⟨f,args,w1,h1,h2⟩
  ·exact .inl ⟨v,w',h1,conv v w' h2⟩
  ·refine .inr ⟨f,args,w1,h1,h2.mono ?_⟩
   rintro e w' ⟨v,rfl,h3⟩
   exact⟨v,rfl,conv v w' h3⟩
 ·have h':Sat W w (sep (tailA Pre ok Post F [v]) B):=h
  rw[tailA,dA,Sat.ex] at h'
  obtain⟨y,h'⟩:=h'
  rw[aj] at h'
  obtain⟨⟨hok,-⟩,h2⟩:=Sat.fact.1 h'
  have hp:=hF y v hok
  refine⟨F v,hp,?_⟩
  show Sat W w (sep (tailA Pre ok Post F (v::F v)) B)
  rw[tailA,dA,Sat.ex]
  refine⟨y,?_⟩
  rw[aj]
  exact Sat.fact.2 ⟨⟨hok,by rw[List.take_length]⟩,h2⟩
theorem jc {Y:Type} {Pre:aG} {ok:Y→Value→Prop} {Post:Y→aG} {F:Value→List Value} {A:aG} {w:World} {i:Nat} {js:List Nat} {dn:List (Nat×Value)} (hdn:dn.map (·.1)=i::js) (hl:∀v,(F v).length=js.length)
 (h:Sat W w (sep (tailA Pre ok Post F (dn.map (·.2))) A)):∃(v:Value) (y:Y),dn=(i,v)::js.zip (F v)∧ok y v∧Sat W w (sep (Post y) A):=by
 cases dn with
 | nil=>simp at hdn
 | cons x dn=>
  obtain⟨k,v⟩:=x
  simp only[List.map_cons,List.cons.injEq] at hdn h
  obtain⟨rfl,hj⟩:=hdn
  rw[tailA,dA,Sat.ex] at h
  obtain⟨y,h⟩:=h
  rw[aj] at h
  obtain⟨⟨h1,h2⟩,h3⟩:=Sat.fact.1 h
  refine⟨v,y,?_,h1,h3⟩
  have hlen:(dn.map (·.2)).length=(F v).length:=by rw[hl,←hj];simp
  rw[hlen,List.take_length] at h2
  rw[←h2,←hj]
  congr 1
  clear h2 hlen h h3 hj
  induction dn with
  | nil=>rfl
  | cons z dn ih=>simp[←ih]
end
end PA
