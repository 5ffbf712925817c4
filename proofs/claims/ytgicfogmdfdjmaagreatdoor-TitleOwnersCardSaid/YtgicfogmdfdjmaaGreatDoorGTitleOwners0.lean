/- Part of a proof. -/
import Derived.WalkKit
import Derived.WalkSpells
import Derived.WalkLawsBesides
import Derived.ProofKit
import Derived.Lib.Hide
import Derived.Deep.RegionHeld3
namespace PA
open Go Go.RowKit
theorem ah {p:Prop} (h:p):Hid p:=Lib.hid h
theorem aG {α:Type} (a:α):∃z,z=a:=⟨a,rfl⟩
theorem lsA {α:Type} (l:List α) (i:Nat) (a:α):l.toArray.setIfInBounds i a=(l.set i a).toArray:=List.setIfInBounds_toArray ..
theorem lsB {α:Type} {a b:α} {l:List α}:(a::l).set 0 b=b::l:=rfl
theorem bK {α:Type} {a b:α} {n:Nat} {l:List α}:(a::l).set (n+1) b=a::l.set n b:=rfl
abbrev Mem:=Nat→Option Obj
def Mem.le (I J:Mem):Prop:=∀b o,I b=some o→J b=some o
def Mem.dj (x y:Mem):Prop:=∀b,x b=none∨y b=none
def Mem.un (x y:Mem):Mem:=fun b=>match x b with|some o=>some o|none=>y b
def Mem.no:Mem:=fun _=>none
theorem Mem.le_refl (I:Mem):Mem.le I I:=fun _ _ h=>h
theorem Mem.Iu (x y z:Mem):Mem.un (Mem.un x y) z=Mem.un x (Mem.un y z):=by
 funext b;simp only[Mem.un];cases x b<;>rfl
theorem Mem.UR (x y:Mem) (h:Mem.dj x y):Mem.un x y=Mem.un y x:=by
 funext b;simp only[Mem.un];rcases h b with h|h<;>rw[h]
 ·cases y b<;>rfl
 ·cases x b<;>rfl
theorem Mem.pW (x:Mem):Mem.un Mem.no x=x:=by funext b;simp[Mem.un,Mem.no]
theorem Mem.Na {x y:Mem} {b:Nat} {o:Obj} (h:Mem.un x y b=some o):x b=some o∨y b=some o:=by
 simp only[Mem.un] at h;cases hx:x b with
 | some u=>rw[hx] at h;exact .inl h
 | none=>rw[hx] at h;exact .inr h
theorem Mem.un_l {x y:Mem} {b:Nat} {o:Obj} (h:x b=some o):Mem.un x y b=some o:=by simp[Mem.un,h]
theorem Mem.un_r {x y:Mem} {b:Nat} {o:Obj} (hd:Mem.dj x y) (h:y b=some o):Mem.un x y b=some o:=by
 rcases hd b with h'|h'
 ·simp[Mem.un,h',h]
 ·rw[h'] at h;cases h
structure aH where
 sat:Mem→Mem→Prop
 mono:∀{I J m:Mem},Mem.le I J→sat I m→sat J m
theorem aH.ext' {A B:aH} (h:∀I m,A.sat I m↔B.sat I m):A=B:=by
 cases A;cases B;congr;funext I m;exact propext (h I m)
def emp:aH:=⟨fun _ m=>m=Mem.no,fun _ h=>h⟩
def sep (A B:aH):aH:=⟨fun I m=>∃x y,Mem.dj x y∧m=Mem.un x y∧A.sat I x∧B.sat I y,
 fun hl ⟨x,y,h1,h2,h3,h4⟩=>⟨x,y,h1,h2,A.mono hl h3,B.mono hl h4⟩⟩
def fact (p:Prop):aH:=⟨fun _ m=>m=Mem.no∧p,fun _ h=>h⟩
def ex {α:Sort _} (A:α→aH):aH:=⟨fun I m=>∃x,(A x).sat I m,fun hl ⟨x,h⟩=>⟨x,(A x).mono hl h⟩⟩
def JZ (p:Mem→Prop) (hp:∀I J,Mem.le I J→p I→p J):aH:=⟨fun I m=>m=Mem.no∧p I,fun hl ⟨h1,h2⟩=>⟨h1,hp _ _ hl h2⟩⟩
def blk (b:Nat) (o:Obj):aH:=⟨fun _ m=>m=fun x=>if x=b then some o else none,fun _ h=>h⟩
def V6 (b:Nat) (o:Obj):aH:=JZ (fun I=>I b=some o) fun _ _ hl h=>hl _ _ h
theorem ay (A B:aH):sep A B=sep B A:=aH.ext' fun I m=>by
 constructor<;>rintro⟨x,y,h1,h2,h3,h4⟩<;>exact⟨y,x,fun b=>(h1 b).symm,by rw[h2,Mem.UR _ _ h1],h4,h3⟩
theorem aj (A B C:aH):sep (sep A B) C=sep A (sep B C):=aH.ext' fun I m=>by
 constructor
 ·rintro⟨x,z,h1,rfl,⟨x,y,h3,rfl,h4,h5⟩,h6⟩
  refine⟨x,Mem.un y z,fun b=>?_,Mem.Iu _ _ _,h4,y,z,fun b=>?_,rfl,h5,h6⟩
  ·rcases h1 b with h|h
   ·simp only[Mem.un] at h;cases hx:x b with
    | some u=>rw[hx] at h;cases h
    | none=>exact .inl rfl
   ·rcases h3 b with h'|h'
    ·exact .inl h'
    ·exact .inr (by simp[Mem.un,h',h])
  ·rcases h1 b with h|h
   ·simp only[Mem.un] at h;cases hx:x b with
    | some u=>rw[hx] at h;cases h
    | none=>rw[hx] at h;exact .inl h
   ·exact .inr h
 ·rintro⟨x,m,h1,rfl,h4,y,z,h3,rfl,h5,h6⟩
  refine⟨Mem.un x y,z,fun b=>?_,(Mem.Iu _ _ _).symm,⟨x,y,fun b=>?_,rfl,h4,h5⟩,h6⟩
  ·rcases h1 b with h|h
   ·rcases h3 b with h'|h'
    ·exact .inl (by simp[Mem.un,h,h'])
    ·exact .inr h'
   ·simp only[Mem.un] at h;cases hy:y b with
    | some u=>rw[hy] at h;cases h
    | none=>rw[hy] at h;exact .inr h
  ·rcases h1 b with h|h
   ·exact .inl h
   ·simp only[Mem.un] at h;cases hy:y b with
    | some u=>rw[hy] at h;cases h
    | none=>exact .inr rfl
theorem au (A B C:aH):sep A (sep B C)=sep B (sep A C):=by rw[←aj,ay A B,aj]
theorem bW (A:aH):sep emp A=A:=aH.ext' fun I m=>by
 constructor
 ·rintro⟨x,y,h1,rfl,rfl,h4⟩;rw[Mem.pW];exact h4
 ·intro h;exact⟨Mem.no,m,fun _=>.inl rfl,(Mem.pW _).symm,rfl,h⟩
theorem dG {α:Sort _} (A:α→aH) (B:aH):sep (ex A) B=ex fun x=>sep (A x) B:=aH.ext' fun I m=>by
 constructor
 ·rintro⟨x,y,h1,h2,⟨u,h3⟩,h4⟩;exact⟨u,x,y,h1,h2,h3,h4⟩
 ·rintro⟨u,x,y,h1,h2,h3,h4⟩;exact⟨x,y,h1,h2,⟨u,h3⟩,h4⟩
structure Sat (W w:World) (A:aH):Prop where
 os:w.os=W.os
 tape:w.tape=W.tape
 output:w.output=W.output
 has:∃I m:Mem,(∀b o,W.heap[b]?=some o→I b=some o)∧(∀b o,I b=some o→w.heap[b]?=some o)∧(∀b o,m b=some o→w.heap[b]?=some o∧I b=none)∧A.sat I m
theorem Sat.wk {W w:World} {A B:aH} (h:Sat W w A) (hi:∀I m,A.sat I m→B.sat I m):Sat W w B:=
 let ⟨h1,h2,h3,I,m,h4,h5,h6,h7⟩:=h
 ⟨h1,h2,h3,I,m,h4,h5,h6,hi _ _ h7⟩
theorem Sat.start (W:World):Sat W W emp:=
 ⟨rfl,rfl,rfl,fun b=>W.heap[b]?,Mem.no,fun _ _ h=>h,fun _ _ h=>h,fun _ _ h=>(by simp[Mem.no] at h),rfl⟩
theorem Sat.drew {W w:World} {A:aH} (h:Sat W w A):Sat W w.drew A:=let ⟨h1,h2,h3,h4⟩:=h;⟨h1,h2,h3,h4⟩
theorem Sat.alike {W w w':World} {A:aH} (h:Sat W w A) (h1:w'.heap=w.heap) (h2:w'.os=w.os) (h3:w'.tape=w.tape) (h4:w'.output=w.output):Sat W w' A:=
 ⟨h2.trans h.os,h3.trans h.tape,h4.trans h.output,by rw[h1];exact h.has⟩
theorem Sat.fact {W w:World} {p:Prop} {A:aH}:Sat W w (sep (fact p) A)↔p∧Sat W w A:=by
 constructor
 ·rintro⟨h1,h2,h3,I,m,h4,h5,h6,x,y,h7,rfl,⟨rfl,hp⟩,h9⟩
  exact⟨hp,h1,h2,h3,I,y,h4,h5,by simpa only[Mem.pW] using h6,h9⟩
 ·rintro⟨hp,h1,h2,h3,I,m,h4,h5,h6,h7⟩
  exact⟨h1,h2,h3,I,m,h4,h5,h6,Mem.no,m,fun _=>.inl rfl,(Mem.pW _).symm,⟨rfl,hp⟩,h7⟩
theorem Sat.ex {W w:World} {α:Sort _} {A:α→aH}:Sat W w (ex A)↔∃x,Sat W w (A x):=by
 constructor
 ·rintro⟨h1,h2,h3,I,m,h4,h5,h6,x,h7⟩;exact⟨x,h1,h2,h3,I,m,h4,h5,h6,h7⟩
 ·rintro⟨x,h1,h2,h3,I,m,h4,h5,h6,h7⟩;exact⟨h1,h2,h3,I,m,h4,h5,h6,x,h7⟩
theorem Sat.tail {W w:World} {p:Mem→Prop} {hp:∀I J,Mem.le I J→p I→p J} {A:aH} (h:Sat W w (sep (JZ p hp) A)):Sat W w A:=
 h.wk fun I m ⟨x,y,_,e,⟨e1,_⟩,h4⟩=>by rw[e,e1,Mem.pW];exact h4
theorem Sat.DT {W w:World} {p:Mem→Prop} {hp:∀I J,Mem.le I J→p I→p J} {A:aH} (h:Sat W w (sep (JZ p hp) A)):p fun b=>w.heap[b]?:=by
 obtain⟨_,_,_,I,m,h4,h5,h6,x,y,h7,rfl,⟨rfl,hq⟩,h9⟩:=h
 exact hp _ _ h5 hq
theorem Sat.below {W w:World} {A:aH} (h:Sat W w A):Below W.heap.size W w:=by
 obtain⟨h1,h2,h3,I,m,h4,h5,_,_⟩:=h
 have hb:∀b,b<W.heap.size→w.heap[b]?=W.heap[b]?:=fun b hb=>by
  rw[Array.getElem?_eq_getElem hb];exact h5 _ _ (h4 _ _ (Array.getElem?_eq_getElem hb))
 refine⟨h1,h2,h3,?_,hb⟩
 rcases Nat.eq_zero_or_pos W.heap.size with h0|h0
 ·omega
 ·have:=hb (W.heap.size-1) (by omega)
  rw[Array.getElem?_eq_getElem (show W.heap.size-1<W.heap.size by omega)] at this
  have:=(Array.getElem?_eq_some_iff.1 this).1
  omega
theorem Sat.aK {W w:World} {b:Nat} {o:Obj} {A:aH} (h:Sat W w (sep (blk b o) A)):w.heap[b]?=some o:=by
 obtain⟨_,_,_,I,m,h4,h5,h6,x,y,h7,rfl,rfl,h9⟩:=h
 exact (h6 b o (Mem.un_l (by simp))).1
theorem Sat.lt {W w:World} {b:Nat} {o:Obj} {A:aH} (h:Sat W w (sep (blk b o) A)):b<w.heap.size:=(Array.getElem?_eq_some_iff.1 h.aK).1
theorem Sat.settle {W w:World} {b:Nat} {o:Obj} {A:aH} (h:Sat W w (sep (blk b o) A)):Sat W w (sep (V6 b o) A):=by
 obtain⟨h1,h2,h3,I,m,h4,h5,h6,x,y,h7,rfl,rfl,h9⟩:=h
 have hb:=h6 b o (Mem.un_l (by simp))
 have hle:Mem.le I (fun x=>if x=b then some o else I x):=fun c u hc=>by
  by_cases e:c=b
  ·subst e;rw[hb.2] at hc;cases hc
  ·simpa[e] using hc
 refine⟨h1,h2,h3,_,y,fun c u hc=>hle _ _ (h4 _ _ hc),?_,?_,Mem.no,y,fun _=>.inl rfl,(Mem.pW _).symm,⟨rfl,?_⟩,A.mono hle h9⟩
 ·intro c u hc
  by_cases e:c=b
  ·subst e;simp at hc;subst hc;exact hb.1
  ·simp[e] at hc;exact h5 _ _ hc
 ·intro c u hc
  have ZU:=h6 c u (Mem.un_r h7 hc)
  refine⟨ZU.1,?_⟩
  by_cases e:c=b
  ·subst e;rcases h7 c with h|h
   ·simp at h
   ·rw[h] at hc;cases hc
  ·simp[e,ZU.2]
 ·simp
theorem Sat.change {W w w':World} {g:Nat} {o o':Obj} {A:aH} (h:Sat W w (sep (blk g o) A)) (e1:w'.os=w.os) (e2:w'.tape=w.tape) (e3:w'.output=w.output)
 (hg:w'.heap[g]?=some o') (hk:∀k,k≠g→k<w.heap.size→w'.heap[k]?=w.heap[k]?):Sat W w' (sep (blk g o') A):=by
 obtain⟨h1,h2,h3,I,m,h4,h5,h6,x,y,h7,rfl,rfl,h9⟩:=h
 have hb:=h6 g o (Mem.un_l (by simp))
 have kept:∀k u,k≠g→w.heap[k]?=some u→w'.heap[k]?=some u:=fun k u hne hu=>(hk k hne (Array.getElem?_eq_some_iff.1 hu).1).trans hu
 refine⟨e1.trans h1,e2.trans h2,e3.trans h3,I,_,h4,?_,?_,fun x=>if x=g then some o' else none,y,?_,rfl,rfl,h9⟩
 ·intro c u hc
  refine kept c u (fun e=>?_) (h5 _ _ hc)
  subst e;rw[hb.2] at hc;cases hc
 ·intro c u hc
  rcases Mem.Na hc with hc'|hc'
  ·by_cases e:c=g
   ·subst e;simp at hc';subst hc';exact⟨hg,hb.2⟩
   ·simp[e] at hc'
  ·have ZU:=h6 c u (Mem.un_r h7 hc')
   refine⟨kept c u (fun e=>?_) ZU.1,ZU.2⟩
   subst e;rcases h7 c with h|h
   ·simp at h
   ·rw[h] at hc';cases hc'
 ·intro c
  rcases h7 c with h|h
  ·by_cases e:c=g
   ·simp[e] at h
   ·exact .inl (by simp[e])
  ·exact .inr h
theorem Sat.grow {W w w':World} {g:Nat} {o:Obj} {A:aH} (h:Sat W w A) (e1:w'.os=w.os) (e2:w'.tape=w.tape) (e3:w'.output=w.output)
 (hg:w'.heap[g]?=some o) (hnew:w.heap.size≤g) (hk:∀k,k<w.heap.size→w'.heap[k]?=w.heap[k]?):Sat W w' (sep (blk g o) A):=by
 obtain⟨h1,h2,h3,I,m,h4,h5,h6,h9⟩:=h
 have kept:∀k u,w.heap[k]?=some u→w'.heap[k]?=some u:=fun k u hu=>(hk k (Array.getElem?_eq_some_iff.1 hu).1).trans hu
 have old:∀k u,w.heap[k]?=some u→k≠g:=fun k u hu e=>by have:=(Array.getElem?_eq_some_iff.1 hu).1;omega
 refine⟨e1.trans h1,e2.trans h2,e3.trans h3,I,_,h4,fun c u hc=>kept _ _ (h5 _ _ hc),?_,fun x=>if x=g then some o else none,m,?_,rfl,rfl,h9⟩
 ·intro c u hc
  rcases Mem.Na hc with hc|hc
  ·by_cases e:c=g
   ·subst e;simp at hc;subst hc
    refine⟨hg,?_⟩
    cases hI:I c with
    | none=>rfl
    | some v=>exact absurd rfl (old _ _ (h5 _ _ hI))
   ·simp[e] at hc
  ·exact⟨kept _ _ (h6 _ _ hc).1,(h6 _ _ hc).2⟩
 ·intro c
  by_cases e:c=g
  ·subst e
   cases hm:m c with
   | none=>exact .inr rfl
   | some v=>exact absurd rfl (old _ _ (h6 _ _ hm).1)
  ·exact .inl (by simp[e])
theorem Sat.alloc {W w:World} {A:aH} (h:Sat W w A) (o:Obj):Sat W (w.alloc o) (sep (blk w.heap.size o) A):=
 h.grow rfl rfl rfl (heap_alloc_new w o) (Nat.le_refl _) (fun k hk=>by show (w.heap.push o)[k]?=w.heap[k]?;rw[Array.getElem?_push,if_neg (Nat.ne_of_lt hk)])
theorem Sat.forget {W w:World} {b:Nat} {o:Obj} {A:aH} (h:Sat W w (sep (blk b o) A)):Sat W w A:=h.settle.tail
theorem Sat.dM {W w:World} {A:aH} (h:Sat W w A) (o:Obj):Sat W (w.alloc o) A:=(h.alloc o).forget
theorem Sat.setCell {W w:World} {g:Nat} {cs:Array Value} {t:TypeId} {A:aH} (h:Sat W w (sep (blk g (.cells cs t (0,0))) A)) (i:Nat) (v:Value):
 Sat W (w.setCell ⟨g,i,none⟩ v) (sep (blk g (.cells (cs.setIfInBounds i v) t (0,0))) A):=
 h.change rfl rfl rfl (heap_setCell_same w g i cs t v h.aK) fun k hk _=>heap_setCell_other w _ k v hk
theorem Sat.cell {W w:World} {g:Nat} {cs:Array Value} {t:TypeId} {f:Nat×Nat} {A:aH} (h:Sat W w (sep (blk g (.cells cs t f)) A)) (i:Nat):w.cell? ⟨g,i,none⟩=cs[i]?:=
 cell_of_row w g i cs t f h.aK
theorem Sat.aI {W w:World} {g:Nat} {cs:Array Value} {t:TypeId} {A:aH} (h:Sat W w (sep (blk g (.cells cs t (0,0))) A)) (i:Nat):w.frozen? ⟨g,i,none⟩=false:=
 frozen_of_row w g i cs t h.aK
theorem Sat.drop {W w:World} {X A:aH} (h:Sat W w (sep X A)):Sat W w A:=by
 obtain⟨h1,h2,h3,I,m,h4,h5,h6,x,y,h7,rfl,_,h9⟩:=h
 exact⟨h1,h2,h3,I,y,h4,h5,fun b o hb=>h6 b o (Mem.un_r h7 hb),h9⟩
theorem Sat.Qj {W w:World} {b c:Nat} {o u:Obj} {A:aH} (h:Sat W w (sep (blk b o) (sep (blk c u) A))):b≠c:=by
 obtain⟨_,_,_,I,m,h4,h5,h6,x,y,h7,rfl,rfl,x',y',h8,rfl,rfl,_⟩:=h
 intro e
 subst e
 rcases h7 b with h|h
 ·simp at h
 ·simp[Mem.un] at h
section
variable {W w:World} {A B C D E F G H J K L M N O:aH}
theorem Sat.p1 (h:Sat W w (sep A (sep B C))):Sat W w (sep B (sep A C)):=by rw[au];exact h
theorem Sat.q1 (h:Sat W w (sep B (sep A C))):Sat W w (sep A (sep B C)):=by rw[au];exact h
theorem Sat.p2 (h:Sat W w (sep A (sep B (sep C D)))):Sat W w (sep C (sep A (sep B D))):=by simpa only[ay,au,aj] using h
theorem Sat.q2 (h:Sat W w (sep C (sep A (sep B D)))):Sat W w (sep A (sep B (sep C D))):=by simpa only[ay,au,aj] using h
theorem Sat.p3 (h:Sat W w (sep A (sep B (sep C (sep D E))))):Sat W w (sep D (sep A (sep B (sep C E)))):=by simpa only[ay,au,aj] using h
theorem Sat.q3 (h:Sat W w (sep D (sep A (sep B (sep C E))))):Sat W w (sep A (sep B (sep C (sep D E)))):=by simpa only[ay,au,aj] using h
theorem Sat.p4 (h:Sat W w (sep A (sep B (sep C (sep D (sep E F)))))):Sat W w (sep E (sep A (sep B (sep C (sep D F))))):=by simpa only[ay,au,aj] using h
theorem Sat.q4 (h:Sat W w (sep E (sep A (sep B (sep C (sep D F)))))):Sat W w (sep A (sep B (sep C (sep D (sep E F))))):=by simpa only[ay,au,aj] using h
theorem Sat.p5 (h:Sat W w (sep A (sep B (sep C (sep D (sep E (sep F G))))))):Sat W w (sep F (sep A (sep B (sep C (sep D (sep E G)))))):=by simpa only[ay,au,aj] using h
theorem Sat.q5 (h:Sat W w (sep F (sep A (sep B (sep C (sep D (sep E G))))))):Sat W w (sep A (sep B (sep C (sep D (sep E (sep F G)))))):=by simpa only[ay,au,aj] using h
theorem Sat.p6 (h:Sat W w (sep A (sep B (sep C (sep D (sep E (sep F (sep G H)))))))):Sat W w (sep G (sep A (sep B (sep C (sep D (sep E (sep F H))))))):=by simpa only[ay,au,aj] using h
theorem Sat.q6 (h:Sat W w (sep G (sep A (sep B (sep C (sep D (sep E (sep F H)))))))):Sat W w (sep A (sep B (sep C (sep D (sep E (sep F (sep G H))))))):=by simpa only[ay,au,aj] using h
theorem Sat.q7 (h:Sat W w (sep H (sep A (sep B (sep C (sep D (sep E (sep F (sep G J))))))))):Sat W w (sep A (sep B (sep C (sep D (sep E (sep F (sep G (sep H J)))))))):=by simpa only[ay,au,aj] using h
theorem Sat.q8 (h:Sat W w (sep J (sep A (sep B (sep C (sep D (sep E (sep F (sep G (sep H K)))))))))):Sat W w (sep A (sep B (sep C (sep D (sep E (sep F (sep G (sep H (sep J K))))))))):=by simpa only[ay,au,aj] using h
end
end PA
namespace PA
open Go Go.RowKit
def bT (a:Option Addr) (xs:List Value) (I:Mem):Prop:=
 xs=[]∨∃b o cs t f,a=some ⟨b,o,none⟩∧I b=some (.cells cs t f)∧∀i u,xs[i]?=some u→cs[o+i]?=some u
def P8 (a:Option Addr) (xs:List Value):aH:=JZ (bT a xs) fun I J hl h=>by
 rcases h with h|⟨b,o,cs,t,f,h1,h2,h3⟩
 ·exact .inl h
 ·exact .inr ⟨b,o,cs,t,f,h1,hl _ _ h2,h3⟩
theorem Sat.UU {W w:World} {A:aH} (h:Sat W w A) (a:Option Addr):Sat W w (sep (P8 a []) A):=by
 obtain⟨h1,h2,h3,I,m,h4,h5,h6,h7⟩:=h
 exact⟨h1,h2,h3,I,m,h4,h5,h6,Mem.no,m,fun _=>.inl rfl,(Mem.pW _).symm,⟨rfl,.inl rfl⟩,h7⟩
theorem Sat.rsl_at {W w:World} {A:aH} {a:Option Addr} {xs:List Value} (h:Sat W w (sep (P8 a xs) A)) (hne:xs≠[]):
 ∃b o,a=some ⟨b,o,none⟩∧∀i u,xs[i]?=some u→w.cell? ⟨b,o+i,none⟩=some u:=by
 rcases h.DT with h|⟨b,o,cs,t,f,h1,h2,h3⟩
 ·exact absurd h hne
 ·exact⟨b,o,h1,fun i u hu=>by rw[cell_of_row w b (o+i) cs t f h2];exact h3 i u hu⟩
theorem Sat.EO {W w:World} {A:aH} {b:Addr} {xs:List Value} (h:Sat W w (sep (P8 (some b) xs) A)):∀i u,xs[i]?=some u→w.cell? (b.add i)=some u:=by
 intro i u hu
 obtain⟨c,o,e,hc⟩:=h.rsl_at (fun e=>by rw[e] at hu;simp at hu)
 cases e
 have:=hc i u hu
 unfold Addr.add
 split
 ·rename_i e;subst e;simpa using this
 ·exact this
def aN (E k:Nat) (a:Option Addr) (n c:Nat) (xs:List Value):aH:=
 ex fun s:Option (Nat×Array Value)=>match s with
  | none=>fact (a=none∧n=0∧c=0∧xs=[])
  | some (g,cur)=>sep (fact (a=some ⟨g,0,none⟩∧xs.length=n*k∧n≤c∧c≤maxLen∧cur.size=c*k∧cur.toList.take (n*k)=xs)) (blk g (.cells cur E (0,0)))
section
variable {W w:World} {A:aH} {E k:Nat} {a:Option Addr} {n c:Nat} {xs:List Value}
theorem Sat.dV (h:Sat W w (sep (aN E k a n c xs) A)):
 (a=none∧n=0∧c=0∧xs=[]∧Sat W w A) ∨
 ∃g cur,a=some ⟨g,0,none⟩∧xs.length=n*k∧n≤c∧c≤maxLen∧cur.size=c*k∧cur.toList.take (n*k)=xs∧Sat W w (sep (blk g (.cells cur E (0,0))) A):=by
 rw[aN,dG,Sat.ex] at h
 obtain⟨s,h⟩:=h
 cases s with
 | none=>
  have h':=Sat.fact.1 h
  exact .inl ⟨h'.1.1,h'.1.2.1,h'.1.2.2.1,h'.1.2.2.2,h'.2⟩
 | some s=>
  obtain⟨g,cur⟩:=s
  simp only[aj] at h
  obtain⟨⟨h1,h2,h3,h4,h5,h6⟩,h7⟩:=Sat.fact.1 h
  exact .inr ⟨g,cur,h1,h2,h3,h4,h5,h6,h7⟩
theorem Sat.dD (h:Sat W w A) (E k:Nat):Sat W w (sep (aN E k none 0 0 []) A):=by
 rw[aN,dG,Sat.ex]
 exact⟨none,Sat.fact.2 ⟨⟨rfl,rfl,rfl,rfl⟩,h⟩⟩
theorem Sat.nH {g:Nat} {cur:Array Value} (h:Sat W w (sep (blk g (.cells cur E (0,0))) A)) (n c k:Nat) (xs:List Value) (h2:xs.length=n*k) (h3:n≤c) (h4:c≤maxLen) (h5:cur.size=c*k) (h6:cur.toList.take (n*k)=xs):
 Sat W w (sep (aN E k (some ⟨g,0,none⟩) n c xs) A):=by
 rw[aN,dG,Sat.ex]
 refine⟨some (g,cur),?_⟩
 rw[aj]
 exact Sat.fact.2 ⟨⟨rfl,h2,h3,h4,h5,h6⟩,h⟩
theorem Sat.zh (h:Sat W w (sep (aN E k a n c xs) A)):xs.length=n*k∧n≤c∧c≤maxLen:=by
 rcases h.dV with ⟨_,rfl,rfl,rfl,_⟩|⟨g,cur,_,h1,h2,h3,_⟩
 ·simp
 ·exact⟨h1,h2,h3⟩
theorem Sat.tJ (h:Sat W w (sep (aN E k a n c xs) A)) (hne:xs≠[]):
 ∃g,a=some ⟨g,0,none⟩∧∀i u,xs[i]?=some u→w.cell? ⟨g,i,none⟩=some u:=by
 rcases h.dV with ⟨_,rfl,rfl,rfl,_⟩|⟨g,cur,rfl,h1,h2,h3,h4,h5,h6⟩
 ·exact absurd rfl hne
 ·refine⟨g,rfl,fun i u hu=>?_⟩
  rw[h6.cell i]
  rw[←h5,List.getElem?_take] at hu
  split at hu
  ·simpa using hu
  ·cases hu
theorem Sat.dR (h:Sat W w (sep (aN E k a n c xs) A)):Sat W w (sep (P8 a xs) A):=by
 rcases h.dV with ⟨rfl,rfl,rfl,rfl,h'⟩|⟨g,cur,rfl,h1,h2,h3,h4,h5,h6⟩
 ·exact h'.UU _
 ·refine h6.settle.wk ?_
  rintro I m ⟨x,y,h7,h8,⟨h9,h10⟩,h11⟩
  refine⟨x,y,h7,h8,⟨h9,.inr ⟨g,0,cur,E,(0,0),rfl,h10,fun i u hu=>?_⟩⟩,h11⟩
  rw[←h5,List.getElem?_take] at hu
  split at hu
  ·simpa using hu
  ·cases hu
theorem Sat.dh (h:Sat W w (sep (aN E k a n c xs) A)):Sat W w A:=h.dR.tail
end
section
variable {P:Program} {W w:World} {A:aH}
theorem vC (w:World) (g j:Nat) (cs:Array Value) (h:j≠g):(w.setRow g cs).heap[j]?=w.heap[j]?:=by
 simp only[World.setRow,Array.getElem?_modify]
 rw[if_neg (fun e=>h e.symm)]
theorem Sat.setRow {g:Nat} {cur:Array Value} {t:TypeId} (h:Sat W w (sep (blk g (.cells cur t (0,0))) A)) (cs:Array Value):Sat W (w.setRow g cs) (sep (blk g (.cells cs t (0,0))) A):=
 h.change rfl rfl rfl (setRow_heap w g cur cs t (0,0) h.aK) fun k hk _=>vC w g k cs hk
theorem oW (z:Array Value) (n:Nat):(Builtin.zeroCells z n).size=n*z.size:=by simp[Builtin.zeroCells]
theorem yA (w:World) (need old:Nat) (e:TypeId) (h:need≤maxLen):need≤grownCap w need old e∧grownCap w need old e≤maxLen:=
 ⟨grownCap_ge w need old e,grownCap_le_maxLen w need old e h⟩
theorem lW (t ty E k GI:Nat) (i:TypeInfo) (z:Value) (ht:P.underlying t=some (.slice E)) (hi:P.info? E=some i) (hz:i.zero=some z)
 (hk:i.size=k) (hb:i.bytes=GI) (hzs:z.cells.size=k) {a:Option Addr} {n c:Nat} {xs:List Value} (h:Sat W w (sep (aN E k a n c xs) A))
 (x:Option Addr) (m cc:Nat) (news:List Value) (hl:news.length=m*k) (hx0:x=none→m=0) (hx:∀b,x=some b→∀j u,news[j]?=some u→w.cell? (b.add j)=some u)
 (h1:∀u∈news,u.oneCell'=true) (h63:n+m≤maxLen) (hby:(n+m)*GI≤140737488355328):
 ∃a' c' w',(Builtin.append_ #[t,t] ty #[.slice a n c,.slice x m cc]).run P w=.ok (.slice a' (n+m) c') w'∧Sat W w' (sep (aN E k a' (n+m) c' (xs++news)) A):=by
 subst hk
 subst hb
 have hsmall:n+m≤9223372036854775807:=by simp only[maxLen] at h63;omega
 by_cases hm:m=0
 ·subst hm
  have hnews:news=[]:=List.eq_nil_of_length_eq_zero (by simpa using hl)
  subst hnews
  have hnc:=h.zh.2.1
  refine⟨a,c,w,?_,by simpa using h⟩
  cases x<;>cases a<;>simp[Builtin.append_,run_underlying ht,Go.sizeOf,typeInfo,hi,Builtin.lenOf,hnc,Builtin.firstCells,loadCells,loadCellsFrom,storeCells]
 ·obtain⟨b,rfl⟩:∃b,x=some b:=by
   cases x with
   | none=>exact absurd (hx0 rfl) hm
   | some b=>exact⟨b,rfl⟩
  have hsrc:=hx b rfl
  have fits:∀old,old<n+m→Builtin.nextslicecap (n+m) old*i.bytes≤281474976710656:=fun old ho=>growslice_fits ho hby
  rcases h.dV with ⟨rfl,rfl,rfl,rfl,h0⟩|⟨g,cur,rfl,hlen,hnc,hcm,hcs,htake,hS⟩
  ·have hrun:=run_append_nil (P:=P) w t ty E i z ht hi hz b m cc news hl hsrc (by omega) (by omega) (by have:=fits 0 (by omega);rw[Nat.zero_add,nextslicecap_zero (by omega)] at this;exact this)
   have hcap:=yA w m 0 E (by omega)
   refine⟨_,_,_,by rw[Nat.zero_add];exact hrun,?_⟩
   refine ((h0.drew.alloc _).nH (0+m) _ i.size ([]++news) (by simpa using hl) (by omega) hcap.2 ?_ ?_)
   ·simp only[Array.size_append,List.size_toArray,oW,hzs,hl]
    rw[←Nat.add_mul];congr 1;omega
   ·simp[←hl]
  ·by_cases hroom:n+m≤c
   ·have hfit:n*i.size+news.length≤cur.size:=by rw[hl,hcs,←Nat.add_mul];exact Nat.mul_le_mul_right _ hroom
    have hrun:=run_append_room (P:=P) w t ty E i ht hi g n c cur hS.aK b m cc news hl hsrc h1 hroom hfit
    refine⟨_,_,_,hrun,(hS.setRow _).nH (n+m) c i.size (xs++news) (by rw[List.length_append,hlen,hl,Nat.add_mul]) hroom hcm ?_ ?_⟩
    ·have:n*i.size≤cur.size:=by omega
     simp only[List.size_toArray,List.length_append,List.length_take,List.length_drop,Array.length_toList]
     rw[←hcs];omega
    ·rw[htake,List.take_append_of_le_length (by rw[List.length_append,hlen,hl,Nat.add_mul];omega),List.take_of_length_le (by rw[List.length_append,hlen,hl,Nat.add_mul];omega)]
   ·have hrun:=run_append_grow (P:=P) w t ty E i z ht hi hz ⟨g,0,none⟩ n c xs hlen (fun j u hu=>by
     obtain⟨g',e,hc⟩:=h.tJ (fun e=>by rw[e] at hu;simp at hu)
     cases e
     have:=hc j u hu
     unfold Addr.add
     split
     ·rename_i e;subst e;exact this
     ·simpa using this) b m cc news hl hsrc (by omega) (by omega) (fits c (by omega))
    have hcap:=yA w (n+m) c E h63
    refine⟨_,_,_,hrun,((hS.forget.drew).alloc _).nH (n+m) _ i.size (xs++news) (by rw[List.length_append,hlen,hl,Nat.add_mul]) hcap.1 hcap.2 ?_ ?_⟩
    ·simp only[Array.size_append,List.size_toArray,oW,hzs,hl,hlen]
     rw[←Nat.add_mul,←Nat.add_mul];congr 1;omega
    ·have:xs.length+news.length=(n+m)*i.size:=by rw[hlen,hl,Nat.add_mul]
     rw[←this,←List.length_append];simp only[Array.toList_append,List.append_toArray,List.take_left]
theorem Oq {o:Oper} {a:Act} {w w':World} {K:Act→World→Prop} {Q:Exit→Act→World→Prop} {v:Value} (h:(execOp a.eval o).run P w=.ok (.value v) w') (hK:K (a.put o.dst v) w'):o.wp P a w K Q:=by
 simp only[Oper.wp,h,Oper.upon];exact hK
theorem qF {a:Act} {o:Oper} (s x:Operand) (t t2:TypeId) (ho:o.op=.call { callee:=.builtin .append,args:=#[s,x],argTypes:=#[t,t2] }) {v:Value} {w':World}
 (hr:(Builtin.append_ #[t,t2] o.type #[a.eval s,a.eval x]).run P w=.ok v w'):(execOp a.eval o).run P w=.ok (.value v) w':=by
 simp[execOp,ho,resolve,invoke,builtin,hr]
theorem gq {o:Oper} {ac:Act} {K:Act→World→Prop} {Q:Exit→Act→World→Prop} (s y:Operand) (t:TypeId)
 (ho:o.op=.call { callee:=.builtin .append,args:=#[s,y],argTypes:=#[t,t] })
 (E k GI:Nat) (z:Value) (ht:P.underlying t=some (.slice E)) (hi:(P.info? E).map (fun i=>(i.zero,i.size,i.bytes))=some (some z,k,GI)) (hzs:z.cells.size=k)
 {a:Option Addr} {n c:Nat} {xs:List Value} (hs:ac.eval s=.slice a n c) (h:Sat W w (sep (aN E k a n c xs) A))
 {x:Option Addr} {m cc:Nat} (hy:ac.eval y=.slice x m cc) (news:List Value) (hl:news.length=m*k) (hx0:x=none→m=0) (hx:∀b,x=some b→∀j u,news[j]?=some u→w.cell? (b.add j)=some u)
 (h1:∀u∈news,u.oneCell'=true) (hby:(n+m)*GI≤140737488355328) (h63:n+m≤maxLen)
 (hK:∀a' c' w',Sat W w' (sep (aN E k a' (n+m) c' (xs++news)) A)→K (ac.put o.dst (.slice a' (n+m) c')) w'):o.wp P ac w K Q:=by
 obtain⟨i,hi1,hi2,hi3,hi4⟩:=info_parts hi
 obtain⟨a',c',w',hr,hS⟩:=lW t o.type E k GI i z ht hi1 hi2 hi3 hi4 hzs h x m cc news hl hx0 hx h1 h63 hby
 exact Oq (qF s y t t ho (by rw[hs,hy];exact hr)) (hK _ _ _ hS)
theorem aJ {ops:Array Oper} {rest:List Oper} {o:Oper} {ac:Act} {Q:Exit→Act→World→Prop} (hgd:o.guard=none) (s y:Operand) (t:TypeId)
 (ho:o.op=.call { callee:=.builtin .append,args:=#[s,y],argTypes:=#[t,t] })
 (E k GI:Nat) (z:Value) (ht:P.underlying t=some (.slice E)) (hi:(P.info? E).map (fun i=>(i.zero,i.size,i.bytes))=some (some z,k,GI)) (hzs:z.cells.size=k)
 {a:Option Addr} {n c:Nat} {xs:List Value} (hs:ac.eval s=.slice a n c) (h:Sat W w (sep (aN E k a n c xs) A))
 {x:Option Addr} {m cc:Nat} (hy:ac.eval y=.slice x m cc) (news:List Value) (hl:news.length=m*k) (hx0:x=none→m=0) (hx:∀b,x=some b→∀j u,news[j]?=some u→w.cell? (b.add j)=some u)
 (h1:∀u∈news,u.oneCell'=true) (hby:(n+m)*GI≤140737488355328) (h63:n+m≤maxLen)
 (hK:∀a' c' w',Sat W w' (sep (aN E k a' (n+m) c' (xs++news)) A)→wpList P ops Q rest (ac.put o.dst (.slice a' (n+m) c')) w'):wpList P ops Q (o::rest) ac w:=
 wpList_plain hgd fun _ hk=>gq s y t ho E k GI z ht hi hzs hs h hy news hl hx0 hx h1 hby h63 fun a' c' w' h'=>hk _ _ (hK a' c' w' h')
end
end PA
namespace PA
open Go Go.RowKit
abbrev Kd:=Sum Bool (Option Bool)
abbrev Kd.e (b:Bool):Kd:=Sum.inl b
abbrev Kd.p:Kd:=Sum.inr none
abbrev Kd.s:Kd:=Sum.inr (some true)
abbrev Kd.t:Kd:=Sum.inr (some false)
def Kd.eff:Kd→Bool|.inl _=>true|.inr _=>false
def Oc (P:Program) (ops:Array Oper) (o:Oper) (v:Value) (a:Act) (w:World):Prop:=
 (Region.wanted o (yielded ops a.tmps)=true∧(execOp a.eval o).run P w=.ok (.value v) w) ∨
 (Region.wanted o (yielded ops a.tmps)=false∧v=undef)
def Alk (ops:Array Oper) (o:Oper) (a b:Act):Prop:=execOp b.eval o=execOp a.eval o∧Region.wanted o (yielded ops b.tmps)=Region.wanted o (yielded ops a.tmps)
section
variable {P:Program} {ops:Array Oper} {Q:Exit→Act→World→Prop} {S:World→Prop}
theorem Oc.alk {o:Oper} {v:Value} {a b:Act} {w:World} (h:Oc P ops o v a w) (hk:Alk ops o a b):Oc P ops o v b w:=by
 unfold Oc at *;rw[hk.1,hk.2];exact h
theorem Oc.wpOp {i:Nat} {o:Oper} {v:Value} {a:Act} {w:World} (hi:ops[i]?=some o) (hy:Oc P ops o v a w) {K:Act→World→Prop} (h:K (a.put o.dst v) w):wpOp P ops Q i K a w:=by
 unfold Go.wpOp
 simp only[hi]
 rcases hy with ⟨hw,hv⟩|⟨hw,rfl⟩
 ·simp only[hw,if_true,Oper.wp,hv,Oper.upon];exact .inl h
 ·simp only[hw,Bool.false_eq_true,if_false];exact h
theorem DU {j:Nat} {oi oj:Oper} {v:Value} (hj:ops[j]?=some oj) (hap:oi.apart ops oj=true)
 (hsi:∀cs b,oi.op≠.select cs b) (hsj:∀cs b,oj.op≠.select cs b)
 (hQ:∀c a d v w,Q (.panic c) (a.put d v) w→Q (.panic c) a w) {K:Act→World→Prop} {a:Act} {w:World}
 (h:wpOp P ops Q j K (a.put oi.dst v) w):
 wpOp P ops Q j (fun a' w'=>Alk ops oi a a'∧K (a'.put oi.dst v) w') a w:=by
 obtain⟨h1,h2,h3⟩:=Oper.apart_spec hap
 have keep:∀u,Alk ops oi a (a.put oj.dst u):=fun u=>⟨execOp_put oi hsi a oj.dst u h3,wanted_put oi a oj.dst u h3⟩
 unfold wpOp at *
 simp only[hj] at *
 rw[wanted_put oj a oi.dst v h1] at h
 split
 ·rename_i hw
  simp only[hw,if_true] at h
  rcases h with h|⟨hasks,hlets⟩
  case inr=>exact .inr ⟨by unfold Oper.asks at *;rw[execOp_put oj hsj a oi.dst v h1] at hasks;exact hasks,hlets⟩
  refine .inl ?_
  unfold Oper.wp at *
  rw[execOp_put oj hsj a oi.dst v h1] at h
  generalize (execOp a.eval oj).run P w=r at *
  cases r with
  | ok n w'=>
   cases n<;>simp only[Oper.upon] at h ⊢
   case value u=>exact⟨keep u,by rw[←Act.put_comm a v u h2];exact h⟩
   case skip=>exact⟨keep _,by rw[←Act.put_comm a v undef h2];exact h⟩
   case defer d=>
    refine⟨⟨execOp_put oi hsi { a with defers:=d::a.defers } oj.dst undef h3,wanted_put oi { a with defers:=d::a.defers } oj.dst undef h3⟩,?_⟩
    rw[←Act.put_comm _ v undef h2,←Act.put_defers]
    exact h
   case enter f args=>
    refine Calls.mono h fun e w'' he=>?_
    cases e with
    | returned u=>exact⟨keep u,by rw[←Act.put_comm a v u h2];exact he⟩
    | panicked c=>exact hQ _ _ _ _ _ he
    | outgrown=>exact he
   case row row args=>exact Rows.mono h fun u w'' he=>⟨keep u,by rw[←Act.put_comm a v u h2];exact he⟩
  | halt x w'=>
   cases x<;>simp only[Oper.upon] at h ⊢
   case panic u=>exact hQ _ _ _ _ _ h
 ·rename_i hw
  simp only[hw] at h
  exact⟨keep _,by rw[←Act.put_comm a v undef h2];exact h⟩
def wpC (P:Program) (ops:Array Oper) (Q:Exit→Act→World→Prop) (S:World→Prop):List (Nat×Kd)→Act→World→Prop
 | [],a,w=>Q .normal a w
 | (i,k)::l,a,w=>∃o,ops[i]?=some o∧match k with
  | .inr none=>∃v,(∀w',Oc P ops o v a w')∧wpC P ops Q S l (a.put o.dst v) w
  | .inr (some true)=>S w∧∃v,(∀w',S w'→Oc P ops o v a w')∧wpC P ops Q S l (a.put o.dst v) w
  | .inr (some false)=>∃v,Oc P ops o v a w∧wpC P ops Q S l (a.put o.dst v) w
  | .inl b=>wpOp P ops Q i (fun a' w'=>(b=true→S w')∧wpC P ops Q S l a' w') a w
def jD (ops:Array Oper) (j r:Nat):Bool:=match ops[j]? with|some o=>o.after.any fun e=>Region.binds .any e&&e.on==r|none=>false
def dA (ops:Array Oper) (bf:Array Nat) (x y:Nat×Kd):Bool:=
 !jD ops x.1 y.1&&((bf.getD y.1 0).testBit x.1 ||
  (!x.2.eff&&(match ops[x.1]?,ops[y.1]? with|some o,some u=>o.apart ops u|_,_=>false) &&
   (match x.2,y.2 with|.inr (some false),.inl _=>false|.inr (some true),.inl b=>b|_,_=>true)))
def yu (ops:Array Oper) (bf:Array Nat):List (Nat×Kd)→Bool
 | []=>true
 | x::l=>l.all (dA ops bf x)&&!jD ops x.1 x.1&&yu ops bf l
def DV (ops:Array Oper):Bool:=ops.all fun o=>match o.op with|.select ..=>false|_=>true
def jH (ops:Array Oper) (bf:Array Nat):Bool:=
 (List.range ops.size).all fun j=>(List.range ops.size).all fun r=>!(bf.getD j 0).testBit r||jD ops j r||(List.range ops.size).any fun d=>jD ops j d&&(bf.getD d 0).testBit r
def nodupB:List Nat→Bool
 | []=>true
 | x::l=>!l.contains x&&nodupB l
theorem oI:∀(l:List Nat),nodupB l=true→l.Nodup
 | [],_=>List.nodup_nil
 | x::l,h=>by
  simp only[nodupB,Bool.and_eq_true,Bool.not_eq_true'] at h
  exact List.nodup_cons.2 ⟨by simpa using h.1,oI l h.2⟩
def MS (ops:Array Oper) (bf:Array Nat) (l:List (Nat×Kd)):Bool:=
 yu ops bf l&&DV ops&&jH ops bf&&(l.map (·.1)).length==ops.size&&nodupB (l.map (·.1))&&(l.map (·.1)).all (fun i=>decide (i<ops.size))&&(List.range ops.size).all (fun i=>(l.map (·.1)).contains i) &&
 ops.all (fun o=>o.after.all fun e=>!Region.binds .any e||decide (e.on<ops.size))
theorem pull {j:Nat} {kj:Kd} {bf:Array Nat} (hsel:∀(j:Nat) (o:Oper) cs b,ops[j]?=some o→o.op≠.select cs b) (hQ:∀c a d v w,Q (.panic c) (a.put d v) w→Q (.panic c) a w) (l2:List (Nat×Kd)):
 ∀(l1:List (Nat×Kd)),(∀x∈l1,dA ops bf x (j,kj)=true∧(bf.getD j 0).testBit x.1=false)→∀(a:Act) (w:World),wpC P ops Q S (l1++(j,kj)::l2) a w →
  wpOp P ops Q j (fun a' w'=>wpC P ops Q S (l1++l2) a' w'∧(kj=.e true→S w')∧(kj.eff=false→w'=w)) a w
 | [],_,a,w,h=>by
  obtain⟨o,ho,h⟩:=h
  rcases kj with b|_|_|_
  case inr.none=>obtain⟨v,hy,h⟩:=h;exact (hy w).wpOp ho ⟨h,fun h=>(by cases h),fun _=>rfl⟩
  case inr.some.true=>obtain⟨hS,v,hy,h⟩:=h;exact (hy w hS).wpOp ho ⟨h,fun h=>(by cases h),fun _=>rfl⟩
  case inr.some.false=>obtain⟨v,hy,h⟩:=h;exact hy.wpOp ho ⟨h,fun h=>(by cases h),fun _=>rfl⟩
  case inl=>exact wpOp_mono (fun a' w' ⟨h1,h2⟩=>⟨h2,fun hb=>h1 (by cases hb;rfl),fun hb=>(by simp[Kd.eff] at hb)⟩) h
 | (r,kr)::l1,hl,a,w,h=>by
  obtain⟨o,ho,h⟩:=h
  obtain⟨hp,hnd⟩:=hl (r,kr) (by simp)
  simp only[dA,hnd,Bool.false_or,Bool.and_eq_true,ho] at hp
  obtain⟨_,⟨hne,hap⟩,hk⟩:=hp
  cases hj:ops[j]? with
  | none=>simp[hj] at hap
  | some oj=>
   simp only[hj] at hap
   have ih:=pull hsel hQ l2 l1 (fun x hx=>hl x (by simp[hx]))
   have go:∀(v:Value),wpC P ops Q S (l1++(j,kj)::l2) (a.put o.dst v) w →
    wpOp P ops Q j (fun a' w'=>Alk ops o a a'∧wpC P ops Q S (l1++l2) (a'.put o.dst v) w'∧(kj=.e true→S w')∧(kj.eff=false→w'=w)) a w:=fun v hv=>
    DU hj hap (fun cs b=>hsel r o cs b ho) (fun cs b=>hsel j oj cs b hj) hQ (ih _ _ hv)
   rcases kr with b|_|_|_
   case inr.none=>
    obtain⟨v,hy,h⟩:=h
    exact wpOp_mono (fun a' w' ⟨h1,h2,h3,h4⟩=>⟨⟨o,ho,v,fun w'=>(hy w').alk h1,h2⟩,h3,h4⟩) (go v h)
   case inr.some.true=>
    obtain⟨hS,v,hy,h⟩:=h
    refine wpOp_mono (fun a' w' ⟨h1,h2,h3,h4⟩=>⟨⟨o,ho,?_,v,fun w' hw'=>(hy w' hw').alk h1,h2⟩,h3,h4⟩) (go v h)
    rcases kj with b|_
    ·exact h3 (by simp at hk;rw[hk])
    ·rw[h4 rfl];exact hS
   case inr.some.false=>
    obtain⟨v,hy,h⟩:=h
    refine wpOp_mono (fun a' w' ⟨h1,h2,h3,h4⟩=>⟨⟨o,ho,v,?_,h2⟩,h3,h4⟩) (go v h)
    rcases kj with b|_
    ·simp at hk
    ·rw[h4 rfl];exact hy.alk h1
   case inl=>simp[Kd.eff] at hne
theorem getD_set_ne (l:Array Bool) (i j:Nat) (x y:Bool) (h:i≠j):(l.setIfInBounds j x).getD i y=l.getD i y:=by
 rw[Array.getD_eq_getD_getElem?,Array.getD_eq_getD_getElem?,Array.getElem?_setIfInBounds_ne (Ne.symm h)]
structure InvC (ops:Array Oper) (bf:Array Nat) (listed:Array Bool) (l:List (Nat×Kd)):Prop where
 size:listed.size=ops.size
 mem:∀i,i∈l.map (·.1)↔i<ops.size∧listed.getD i true=false
 nodup:(l.map (·.1)).Nodup
 pair:l.Pairwise fun x y=>dA ops bf x y=true
 self:∀x∈l,jD ops x.1 x.1=false
 closed:∀d r,r<ops.size→listed.getD d false=true→(bf.getD d 0).testBit r=true→listed.getD r false=true
theorem Qy {bf:Array Nat} (hsel:∀(j:Nat) (o:Oper) cs b,ops[j]?=some o→o.op≠.select cs b) (hQ:∀c a d v w,Q (.panic c) (a.put d v) w→Q (.panic c) a w)
 (hbf:jH ops bf=true) (hon:∀(j:Nat) (o:Oper),ops[j]?=some o→∀e∈o.after,Region.binds .any e=true→e.on<ops.size):
 ∀(n:Nat) (l:List (Nat×Kd)) (listed:Array Bool),l.length=n→InvC ops bf listed l→∀(a:Act) (w:World),wpC P ops Q S l a w→wpAny P .any ops Q n listed a w:=by
 have Ia:∀(listed:Array Bool) (i:Nat),listed.size=ops.size→i<ops.size→(listed.getD i false=true↔¬listed.getD i true=false):=fun listed i hs hi=>by
  simp[Array.getD,hs,hi]
 have nil:∀(listed:Array Bool),InvC ops bf listed []→Region.ready .any ops listed=[]:=fun listed hI=>by
  simp only[Region.ready,List.filter_eq_nil_iff,List.mem_range]
  intro i hi
  have h':¬listed.getD i true=false:=fun hh=>by have:=(hI.mem i).2 ⟨hi,hh⟩;simp at this
  have h'':listed.getD i true=true:=by simpa using h'
  simp[h'']
 intro n
 induction n with
 | zero=>
  intro l listed hn hI a w h
  obtain rfl:=List.eq_nil_of_length_eq_zero hn
  exact⟨nil _ hI,h⟩
 | succ n ih=>
  intro l listed hn hI a w h
  refine⟨fun hr=>?_,fun j hj=>?_⟩
  ·match l,hn with
   | x::l,_=>
    exfalso
    have hx:=(hI.mem x.1).1 (by simp)
    obtain⟨o,ho,_⟩:=h
    have hmem:x.1∈Region.ready .any ops listed:=by
     simp only[Region.ready,List.mem_filter,List.mem_range]
     refine⟨hx.1,?_⟩
     have:listed.getD x.1 true=false:=hx.2
     simp only[this,Bool.not_false,Bool.true_and,ho,Option.map_some,Option.getD_some]
     rw[Array.all_eq_true]
     intro k hk
     have hmem:=Array.getElem_mem hk
     by_cases hb:Region.binds .any o.after[k]=true
     ·have hlt:=hon x.1 o ho _ hmem hb
      have zO:jD ops x.1 o.after[k].on=true:=by
       simp only[jD,ho,Array.any_eq_true]
       exact⟨k,hk,by simp[hb]⟩
      have hnot:o.after[k].on∉(x::l).map (·.1):=by
       intro hm
       simp only[List.map_cons,List.mem_cons,List.mem_map] at hm
       rcases hm with hm|⟨y,hy,hm⟩
       ·have:=hI.self x (by simp)
        rw[←hm] at this
        rw[←hm] at zO
        rw[zO] at this;cases this
       ·have:=(List.pairwise_cons.1 hI.pair).1 y hy
        simp only[dA,Bool.and_eq_true,Bool.not_eq_true',hm,zO] at this
        exact absurd this.1 (by simp)
      have h2:¬listed.getD o.after[k].on true=false:=fun e=>hnot ((hI.mem _).2 ⟨hlt,e⟩)
      have:=(Ia listed _ hI.size hlt).2 h2
      simp[this]
     ·simp[hb]
    rw[hr] at hmem;cases hmem
  ·simp only[Region.ready,List.mem_filter,List.mem_range,Bool.and_eq_true,Bool.not_eq_true'] at hj
   obtain⟨hjs,hjl,hja⟩:=hj
   have hjm:=(hI.mem j).2 ⟨hjs,hjl⟩
   obtain⟨y,hy,rfl⟩:=List.mem_map.1 hjm
   obtain⟨l1,l2,rfl⟩:=List.append_of_mem hy
   obtain⟨j,kj⟩:=y
   cases hoj:ops[j]? with
   | none=>simp[hoj] at hja
   | some oj=>
    simp only[hoj,Option.map_some,Option.getD_some] at hja
    have yw:∀d,jD ops j d=true→listed.getD d false=true:=fun d hd=>by
     simp only[jD,hoj,Array.any_eq_true] at hd
     obtain⟨k,hk,hd⟩:=hd
     simp only[Bool.and_eq_true,beq_iff_eq] at hd
     rw[Array.all_eq_true] at hja
     have:=hja k hk
     rw[hd.1] at this
     simpa[hd.2] using this
    have hbl:∀r,r<ops.size→(bf.getD j 0).testBit r=true→listed.getD r false=true:=fun r hr hb=>by
     simp only[jH,List.all_eq_true,List.mem_range] at hbf
     have:=hbf j hjs r hr
     simp only[hb,Bool.not_true,Bool.false_or,Bool.or_eq_true,List.any_eq_true,List.mem_range,Bool.and_eq_true] at this
     rcases this with h|⟨d,_,h1,h2⟩
     ·exact yw r h
     ·exact hI.closed d r hr (yw d h1) h2
    have hnotin:∀x∈l1,(bf.getD j 0).testBit x.1=false:=fun x hx=>by
     have hxm:=(hI.mem x.1).1 (by simp;exact .inl ⟨x.2,hx⟩)
     cases hb:(bf.getD j 0).testBit x.1 with
     | false=>rfl
     | true=>exact absurd hxm.2 ((Ia listed x.1 hI.size hxm.1).1 (hbl x.1 hxm.1 hb))
    have hpw:=List.pairwise_append.1 hI.pair
    refine wpOp_mono (fun a' w' ⟨h1,_,_⟩=>ih (l1++l2) (listed.setIfInBounds j true) ?_ ?_ a' w' h1) (pull hsel hQ l2 l1 (fun x hx=>⟨hpw.2.2 x hx (j,kj) (by simp),hnotin x hx⟩) a w h)
    ·simp at hn ⊢;omega
    ·have hnd:=hI.nodup
     simp only[List.map_append,List.map_cons,List.nodup_append,List.nodup_cons,List.mem_cons] at hnd
     refine⟨by simp[hI.size],fun i=>?_,?_,?_,fun x hx=>hI.self x (by simp at hx ⊢;rcases hx with h|h<;>simp[h]),?_⟩
     ·have:=hI.mem i
      simp only[List.map_append,List.map_cons,List.mem_append,List.mem_cons] at this ⊢
      by_cases e:i=j
      ·subst e
       constructor
       ·rintro (hi|hi)
        ·exact absurd rfl (hnd.2.2 i hi i (.inl rfl))
        ·exact absurd hi hnd.2.1.1
       ·rintro⟨h1,h2⟩
        simp[Array.getD,hI.size,h1] at h2
      ·have hg:(listed.setIfInBounds j true).getD i true=listed.getD i true:=getD_set_ne _ _ _ _ _ e
       rw[hg,←this]
       simp[e]
     ·simp only[List.map_append,List.nodup_append]
      exact⟨hnd.1,hnd.2.1.2,fun x hx y hy=>hnd.2.2 x hx y (.inr hy)⟩
     ·refine List.pairwise_append.2 ⟨hpw.1,(List.pairwise_cons.1 hpw.2.1).2,fun x hx y hy=>hpw.2.2 x hx y (by simp[hy])⟩
     ·intro d r hr hd hb
      by_cases e:r=j
      ·subst e;simp[Array.getD,hI.size,hr]
      ·have hg:(listed.setIfInBounds j true).getD r false=listed.getD r false:=getD_set_ne _ _ _ _ _ e
       rw[hg]
       by_cases e2:d=j
       ·subst e2;exact hbl r hr hb
       ·have hg2:(listed.setIfInBounds j true).getD d false=listed.getD d false:=getD_set_ne _ _ _ _ _ e2
        rw[hg2] at hd
        exact hI.closed d r hr hd hb
theorem zQ {bf:Array Nat}:∀(l:List (Nat×Kd)),yu ops bf l=true→(l.Pairwise fun x y=>dA ops bf x y=true)∧∀x∈l,jD ops x.1 x.1=false
 | [],_=>⟨.nil,fun _ h=>(by cases h)⟩
 | x::l,h=>by
  simp only[yu,Bool.and_eq_true,List.all_eq_true,Bool.not_eq_true'] at h
  have ih:=zQ l h.2
  refine⟨List.pairwise_cons.2 ⟨h.1.1,ih.1⟩,fun y hy=>?_⟩
  rcases List.mem_cons.1 hy with rfl|hy
  ·exact h.1.2
  ·exact ih.2 y hy
theorem aB {id:Nat} {a:Act} {w:World} (hm:P.follows .mixedOrders=true) (S:World→Prop) (l:List (Nat×Kd)) (hok:MS ops (Region.before ops) l=true)
 (h:wpC P ops (NoPanic Q) S l a w.drew):(Code.region id ops true).wp P Q a w:=by
 simp only[MS,Bool.and_eq_true] at hok
 obtain⟨⟨⟨⟨⟨⟨⟨h1,h2⟩,h3⟩,h4⟩,h7⟩,h8⟩,h5⟩,h6⟩:=hok
 have hlen:l.length=ops.size:=by simpa using h4
 have hall:∀i,i<ops.size→i∈l.map (·.1):=fun i hi=>by
  simp only[List.all_eq_true,List.mem_range] at h5
  simpa using h5 i hi
 have hback:∀i,i∈l.map (·.1)→i<ops.size:=fun i hi=>by
  rw[List.all_eq_true] at h8
  simpa using h8 i hi
 have hp:=zQ l h1
 refine wp_region_noPanic (wp_region_any hm ?_)
 refine Qy (bf:=Region.before ops) (S:=S) ?_ ?_ h3 ?_ ops.size l _ hlen ?_ a w.drew h
 ·intro j o cs b ho hsel
  simp only[DV,Array.all_eq_true] at h2
  obtain⟨hj,rfl⟩:=Array.getElem?_eq_some_iff.1 ho
  have:=h2 j hj
  rw[hsel] at this
  cases this
 ·intro c a d v w hh;exact hh
 ·intro j o ho e he hb
  obtain⟨hj,rfl⟩:=Array.getElem?_eq_some_iff.1 ho
  rw[Array.all_eq_true] at h6
  have:=h6 j hj
  rw[Array.all_eq_true] at this
  obtain⟨k,hk,rfl⟩:=Array.mem_iff_getElem.1 he
  have:=this k hk
  simpa[hb] using this
 ·refine⟨by simp,fun i=>⟨fun hi=>?_,fun hi=>hall i hi.1⟩,oI _ h7,hp.1,hp.2,fun d r _ hd=>?_⟩
  ·have:=hback i hi
   exact⟨this,by simp[Array.getD,this]⟩
  ·exfalso
   simp only[Array.getD,Array.size_replicate] at hd
   split at hd<;>simp at hd
end
end PA
namespace PA
open Go Go.RowKit
section
variable {P:Program} {ops:Array Oper} {Q:Exit→Act→World→Prop} {S:World→Prop} {i:Nat} {l:List (Nat×Kd)} {a:Act} {w:World} {o:Oper} {v:Value}
theorem eX (ho:ops.toList[i]?=some o) (hg:Region.wanted o (yielded ops a.tmps)=true) (hv:∀w',(execOp a.eval o).run P w'=.ok (.value v) w') (h:wpC P ops Q S l (a.put o.dst v) w):wpC P ops Q S ((i,.p)::l) a w:=
 have ho':=(Array.getElem?_toList (xs:=ops) (i:=i)).symm.trans ho
 ⟨o,ho',v,fun w'=>.inl ⟨hg,hv w'⟩,h⟩
theorem eY (ho:ops.toList[i]?=some o) (hg:Region.wanted o (yielded ops a.tmps)=true) (hS:S w) (hv:∀w',S w'→(execOp a.eval o).run P w'=.ok (.value v) w') (h:wpC P ops Q S l (a.put o.dst v) w):wpC P ops Q S ((i,.s)::l) a w:=
 have ho':=(Array.getElem?_toList (xs:=ops) (i:=i)).symm.trans ho
 ⟨o,ho',hS,v,fun w' hw=>.inl ⟨hg,hv w' hw⟩,h⟩
theorem fA (ho:ops.toList[i]?=some o) (hg:Region.wanted o (yielded ops a.tmps)=true) (hv:(execOp a.eval o).run P w=.ok (.value v) w) (h:wpC P ops Q S l (a.put o.dst v) w):wpC P ops Q S ((i,.t)::l) a w:=
 have ho':=(Array.getElem?_toList (xs:=ops) (i:=i)).symm.trans ho
 ⟨o,ho',v,.inl ⟨hg,hv⟩,h⟩
theorem bH (ho:ops.toList[i]?=some o) (hg:Region.wanted o (yielded ops a.tmps)=false) (h:wpC P ops Q S l (a.put o.dst undef) w):wpC P ops Q S ((i,.p)::l) a w:=
 have ho':=(Array.getElem?_toList (xs:=ops) (i:=i)).symm.trans ho
 ⟨o,ho',undef,fun _=>.inr ⟨hg,rfl⟩,h⟩
theorem bI (ho:ops.toList[i]?=some o) (hg:Region.wanted o (yielded ops a.tmps)=false) (hS:S w) (h:wpC P ops Q S l (a.put o.dst undef) w):wpC P ops Q S ((i,.s)::l) a w:=
 have ho':=(Array.getElem?_toList (xs:=ops) (i:=i)).symm.trans ho
 ⟨o,ho',hS,undef,fun _ _=>.inr ⟨hg,rfl⟩,h⟩
theorem bJ (ho:ops.toList[i]?=some o) (hg:Region.wanted o (yielded ops a.tmps)=false) (h:wpC P ops Q S l (a.put o.dst undef) w):wpC P ops Q S ((i,.t)::l) a w:=
 have ho':=(Array.getElem?_toList (xs:=ops) (i:=i)).symm.trans ho
 ⟨o,ho',undef,.inr ⟨hg,rfl⟩,h⟩
theorem UN {b:Bool} (ho:ops.toList[i]?=some o) (hg:Region.wanted o (yielded ops a.tmps)=false) (hS:b=true→S w) (h:wpC P ops Q S l (a.put o.dst undef) w):wpC P ops Q S ((i,.e b)::l) a w:=
 have ho':=(Array.getElem?_toList (xs:=ops) (i:=i)).symm.trans ho
 ⟨o,ho',by unfold wpOp;simp only[ho',hg,Bool.false_eq_true,if_false];exact⟨hS,h⟩⟩
theorem jc {b:Bool} (ho:ops.toList[i]?=some o) (hg:Region.wanted o (yielded ops a.tmps)=true)
 (h:∀K:Act→World→Prop,(∀a w,(b=true→S w)→wpC P ops Q S l a w→K a w)→o.wp P a w K Q):wpC P ops Q S ((i,.e b)::l) a w:=
 have ho':=(Array.getElem?_toList (xs:=ops) (i:=i)).symm.trans ho
 ⟨o,ho',by unfold wpOp;simp only[ho',hg,if_true];exact .inl (h _ fun _ _ h1 h2=>⟨h1,h2⟩)⟩
theorem bM (h:Q .normal a w):wpC P ops (NoPanic Q) S [] a w:=h
end
end PA
namespace PA
open Go Go.RowKit
def Cb (a:Option Addr) (n c:Nat):Prop:=n≤c∧c≤maxLen∧(a=none→c=0)
structure Rep (α:Type) where
 rel:Mem→List Value→α→Prop
 mono:∀{I J cs x},Mem.le I J→rel I cs x→rel J cs x
def dU {α β:Type} (p:α→β→Prop):List α→List β→Prop
 | [],[]=>True
 | a::l,b::m=>p a b∧dU p l m
 | _,_=>False
theorem dU.wk {α β:Type} {p q:α→β→Prop} (h:∀a b,p a b→q a b):∀{l:List α} {m:List β},dU p l m→dU q l m
 | [],[],_=>trivial
 | _::_,_::_,hh=>⟨h _ _ hh.1,dU.wk h hh.2⟩
 | [],_::_,hh=>hh.elim
 | _::_,[],hh=>hh.elim
theorem dU.length {α β:Type} {p:α→β→Prop}:∀{l:List α} {m:List β},dU p l m→l.length=m.length
 | [],[],_=>rfl
 | _::l,_::m,hh=>by simp[dU.length hh.2]
 | [],_::_,hh=>hh.elim
 | _::_,[],hh=>hh.elim
theorem dU.append {α β:Type} {p:α→β→Prop}:∀{l l':List α} {m m':List β},dU p l m→dU p l' m'→dU p (l++l') (m++m')
 | [],_,[],_,_,h=>h
 | _::_,_,_::_,_,hh,h=>⟨hh.1,dU.append hh.2 h⟩
 | [],_,_::_,_,hh,_=>hh.elim
 | _::_,_,[],_,hh,_=>hh.elim
theorem dU.drop {α β:Type} {p:α→β→Prop}:∀{l:List α} {m:List β} (k:Nat),dU p l m→dU p (l.drop k) (m.drop k)
 | l,m,0,h=>by simpa using h
 | [],[],_+1,h=>h
 | _::_,_::_,k+1,h=>by simpa using dU.drop k h.2
 | [],_::_,_+1,hh=>hh.elim
 | _::_,[],_+1,hh=>hh.elim
theorem dU.take {α β:Type} {p:α→β→Prop}:∀{l:List α} {m:List β} (k:Nat),dU p l m→dU p (l.take k) (m.take k)
 | l,m,0,h=>by simp[dU]
 | [],[],_+1,h=>by simp[dU]
 | _::_,_::_,k+1,h=>by simp only[List.take_succ_cons];exact⟨h.1,dU.take k h.2⟩
 | [],_::_,_+1,hh=>hh.elim
 | _::_,[],_+1,hh=>hh.elim
theorem dU.get {α β:Type} {p:α→β→Prop}:∀{l:List α} {m:List β},dU p l m→∀(i:Nat) (hl:i<l.length) (hm:i<m.length),p l[i] m[i]
 | _::_,_::_,h,0,_,_=>h.1
 | _::_,_::_,h,i+1,hl,hm=>dU.get h.2 i (by simpa using hl) (by simpa using hm)
section
variable {α:Type}
def Rep.is (R:Rep α) (cs:List Value) (x:α):aH:=JZ (fun I=>R.rel I cs x) fun _ _ hl h=>R.mono hl h
def Rep.rows (R:Rep α) (k:Nat):Rep (List α) where
 rel I cs xs:=∃css:List (List Value),cs=css.flatten∧dU (fun c x=>R.rel I c x∧c.length=k) css xs
 mono hl:=fun ⟨css,h1,h2⟩=>⟨css,h1,h2.wk fun _ _ h=>⟨R.mono hl h.1,h.2⟩⟩
def Rep.slice (R:Rep α) (k:Nat):Rep (List α) where
 rel I cs xs:=∃a c cells,cs=[.slice a xs.length c]∧Cb a xs.length c∧bT a cells I∧(R.rows k).rel I cells xs
 mono hl:=fun ⟨a,c,cells,h1,h2,h3,h4⟩=>⟨a,c,cells,h1,h2,(by
  rcases h3 with h|⟨b,o,cs,t,f,e1,e2,e3⟩
  ·exact .inl h
  ·exact .inr ⟨b,o,cs,t,f,e1,hl _ _ e2,e3⟩),(R.rows k).mono hl h4⟩
end
def WQ:Rep UInt8:=⟨fun _ cs b=>cs=[.int .u8 b.toNat],fun _ h=>h⟩
def pF:Rep Int:=⟨fun _ cs n=>cs=[.int .i64 n],fun _ h=>h⟩
def eP:Rep (List UInt8):=WQ.slice 1
def bv (b:UInt8):Value:=.int .u8 b.toNat
def iv (n:Int):Value:=.int .i64 n
theorem A8:∀(l:List Value),(l.map fun v=>[v]).flatten=l
 | []=>rfl
 | v::l=>by simp[A8 l]
theorem tY (I:Mem):∀(cs:List Value) (bs:List UInt8),(WQ.rows 1).rel I cs bs↔cs=bs.map bv:=by
 intro cs bs
 constructor
 ·rintro⟨css,rfl,h⟩
  induction bs generalizing css with
  | nil=>cases css with
   | nil=>rfl
   | cons _ _=>exact h.elim
  | cons b bs ih=>cases css with
   | nil=>exact h.elim
   | cons c css=>
    have h1:c=[.int .u8 b.toNat]:=h.1.1
    simp only[List.flatten_cons,ih css h.2,h1,List.map_cons,bv];rfl
 ·rintro rfl
  refine⟨bs.map fun b=>[bv b],?_,?_⟩
  ·rw[←A8 (bs.map bv)];simp[Function.comp_def]
  ·induction bs with
   | nil=>trivial
   | cons b bs ih=>exact⟨⟨rfl,rfl⟩,ih⟩
theorem DC (I:Mem):∀(cs:List Value) (bs:List Int),(pF.rows 1).rel I cs bs↔cs=bs.map iv:=by
 intro cs bs
 constructor
 ·rintro⟨css,rfl,h⟩
  induction bs generalizing css with
  | nil=>cases css with
   | nil=>rfl
   | cons _ _=>exact h.elim
  | cons b bs ih=>cases css with
   | nil=>exact h.elim
   | cons c css=>
    have h1:c=[.int .i64 b]:=h.1.1
    simp only[List.flatten_cons,ih css h.2,h1,List.map_cons,iv];rfl
 ·rintro rfl
  refine⟨bs.map fun b=>[iv b],?_,?_⟩
  ·rw[←A8 (bs.map iv)];simp[Function.comp_def]
  ·induction bs with
   | nil=>trivial
   | cons b bs ih=>exact⟨⟨rfl,rfl⟩,ih⟩
section
variable {W w:World} {A:aH}
theorem Sat.RP {a:Option Addr} {c:Nat} {bs:List UInt8} (h:Sat W w (sep (P8 a (bs.map bv)) A)) (hw:Cb a bs.length c):Sat W w (sep (eP.is [.slice a bs.length c] bs) A):=by
 refine h.wk ?_
 rintro I m ⟨x,y,h5,h6,⟨h7,h8⟩,h9⟩
 exact⟨x,y,h5,h6,⟨h7,a,c,_,rfl,hw,h8,(tY _ _ _).2 rfl⟩,h9⟩
theorem Sat.eH {E k:Nat} {a:Option Addr} {n c:Nat} {xs:List Value} (h:Sat W w (sep (aN E k a n c xs) A)):Cb a n c:=by
 rcases h.dV with ⟨rfl,rfl,rfl,rfl,_⟩|⟨g,cur,rfl,h1,h2,h3,_⟩
 ·exact⟨Nat.le_refl _,Nat.zero_le _,fun _=>rfl⟩
 ·exact⟨h2,h3,fun h=>(by cases h)⟩
theorem Sat.FN {E:Nat} {a:Option Addr} {n c:Nat} {bs:List UInt8} (h:Sat W w (sep (aN E 1 a n c (bs.map bv)) A)):n=bs.length∧Sat W w (sep (eP.is [.slice a n c] bs) A):=by
 have hn:n=bs.length:=by have:=h.zh.1;simp at this;exact this.symm
 subst hn
 exact⟨rfl,h.dR.RP h.eH⟩
end
theorem lI {α:Type} {R:Rep α} {k:Nat} {I:Mem} {cs c:List Value} {xs:List α} {x:α} (h:(R.rows k).rel I cs xs) (hx:R.rel I c x) (hk:c.length=k):(R.rows k).rel I (cs++c) (xs++[x]):=by
 obtain⟨css,rfl,h2⟩:=h
 exact⟨css++[c],by simp,h2.append ⟨⟨hx,hk⟩,trivial⟩⟩
theorem Sat.snoc {W w:World} {A:aH} {α:Type} {R:Rep α} {k:Nat} {cs c:List Value} {xs:List α} {x:α} (h:Sat W w (sep ((R.rows k).is cs xs) (sep (R.is c x) A))) (hk:c.length=k):Sat W w (sep ((R.rows k).is (cs++c) (xs++[x])) A):=by
 refine h.wk ?_
 rintro I m ⟨x1,y1,d1,e1,⟨rfl,h1⟩,x2,y2,d2,rfl,⟨rfl,h2⟩,h3⟩
 refine⟨Mem.no,y2,fun _=>.inl rfl,by rw[e1,Mem.pW],⟨rfl,lI h1 h2 hk⟩,h3⟩
theorem dU.mem {α β:Type} {p:α→β→Prop}:∀{l:List α} {m:List β},dU p l m→∀a∈l,∃b,p a b
 | a::l,b::m,h,x,hx=>by
  rcases List.mem_cons.1 hx with rfl|hx
  ·exact⟨b,h.1⟩
  ·exact dU.mem h.2 x hx
 | [],_,_,_,hx=>by cases hx
def gU (k:Int) (e:MapEntry):Bool:=match e.key with|.int _ n=>n==k|_=>false
structure fJ (es:List MapEntry) (f:Int→Option Value):Prop where
 keys:∀e∈es,∃k,e.key=.int .i64 k
 nodup:es.Pairwise fun x y=>x.key≠y.key
 get:∀k,(es.find? (gU k)).map (·.val)=f k
def NV (b:Nat) (f:Int→Option Value) (n:Nat):aH:=ex fun s:Array MapEntry×Nat=>sep (fact (fJ s.1.toList f∧s.1.size=n)) (blk b (.map s.1 s.2))
def qj {α:Type} (f:Int→Option α) (k:Int) (v:Option α):Int→Option α:=fun x=>if x=k then v else f x
theorem Ba (k:Int):∀(es:List MapEntry),(∀e∈es,∃n,e.key=.int .i64 n)→∀i,∃r,Instr.findNow (.int .i64) (.int .i64 k) es i=some r ∧
 r.map (·.2)=(es.find? (gU k)).map (·.val)∧∀j v,r=some (j,v)→i≤j∧∃e,es[j-i]?=some e∧e.key=.int .i64 k∧e.val=v
 | [],_,i=>⟨none,rfl,rfl,fun _ _ h=>(by cases h)⟩
 | e::es,h,i=>by
  obtain⟨n,hn⟩:=h e (by simp)
  simp only[Instr.findNow,hn,Instr.sameNow,if_true]
  by_cases hk:k=n
  ·subst hk
   refine⟨some (i,e.val),by simp,by simp[gU,hn],?_⟩
   rintro j v h
   cases h
   exact⟨Nat.le_refl _,e,by simp,hn,rfl⟩
  ·obtain⟨r,h1,h2,h3⟩:=Ba k es (fun x hx=>h x (by simp[hx])) (i+1)
   have:(k==n)=false:=by simp[hk]
   refine⟨r,by simp[this,h1],?_,?_⟩
   ·rw[h2]
    have:gU k e=false:=by simp[gU,hn];omega
    simp[this]
   ·intro j v hr
    obtain⟨h4,e',h5,h6⟩:=h3 j v hr
    refine⟨by omega,e',?_,h6⟩
    rw[show j-i=(j-(i+1))+1 by omega]
    simpa using h5
section
variable {P:Program} {W w:World} {A:aH}
theorem Sat.OT {b:Nat} {f:Int→Option Value} {n:Nat} (h:Sat W w (sep (NV b f n) A)):∃es clock,fJ es.toList f∧es.size=n∧Sat W w (sep (blk b (.map es clock)) A):=by
 rw[NV,dG,Sat.ex] at h
 obtain⟨⟨es,clock⟩,h⟩:=h
 rw[aj] at h
 have h':=Sat.fact.1 h
 exact⟨es,clock,h'.1.1,h'.1.2,h'.2⟩
theorem Sat.Ut {b:Nat} {f:Int→Option Value} {n:Nat} {es:Array MapEntry} {clock:Nat} (h:Sat W w (sep (blk b (.map es clock)) A)) (h1:fJ es.toList f) (h2:es.size=n):Sat W w (sep (NV b f n) A):=by
 rw[NV,dG,Sat.ex]
 refine⟨(es,clock),?_⟩
 rw[aj]
 exact Sat.fact.2 ⟨⟨h1,h2⟩,h⟩
theorem fJ.nil:fJ [] (fun _=>none):=⟨fun _ h=>(by cases h),.nil,fun _=>rfl⟩
theorem fJ.push {es:List MapEntry} {f:Int→Option Value} (h:fJ es f) (k:Int) (v:Value) (c:Nat) (hk:f k=none):fJ (es++[{ key:=.int .i64 k,val:=v,born:=c }]) (qj f k (some v)):=by
 have hno:∀e∈es,e.key≠.int .i64 k:=fun e he hke=>by
  have h1:=h.get k
  rw[hk] at h1
  cases hf:es.find? (gU k) with
  | some x=>rw[hf] at h1;cases h1
  | none=>rw[List.find?_eq_none] at hf;exact hf e he (by simp[gU,hke])
 refine⟨fun e he=>?_,List.pairwise_append.2 ⟨h.nodup,by simp,fun x hx y hy=>?_⟩,fun x=>?_⟩
 ·rcases List.mem_append.1 he with he|he
  ·exact h.keys e he
  ·simp at he;subst he;exact⟨k,rfl⟩
 ·simp at hy;subst hy;exact hno x hx
 ·rw[List.find?_append]
  have h1:=h.get x
  by_cases e:x=k
  ·subst e
   rw[hk] at h1
   have hf:es.find? (gU x)=none:=by
    cases hf:es.find? (gU x) with
    | none=>rfl
    | some _=>rw[hf] at h1;cases h1
   simp[hf,gU,qj]
  ·have:(if k=x then some ({ key:=.int .i64 k,val:=v,born:=c }:MapEntry) else none)=none:=if_neg (fun h=>e h.symm)
   simp[gU,qj,e,←h1,beq_false_of_ne (fun h=>e h.symm:k≠x)]
theorem RQ {es:List MapEntry} (hnd:es.Pairwise fun x y=>x.key≠y.key) {j:Nat} {e:MapEntry} {k:Int} (hj:es[j]?=some e) (hek:e.key=.int .i64 k):
 ∀x∈es,x.key=.int .i64 k→∃j',es[j']?=some x∧j'=j:=by
 intro x hx hxk
 obtain⟨i,hi,rfl⟩:=List.mem_iff_getElem.1 hx
 refine⟨i,List.getElem?_eq_getElem hi,?_⟩
 obtain⟨hj1,rfl⟩:=List.getElem?_eq_some_iff.1 hj
 rcases Nat.lt_trichotomy i j with h|h|h
 ·exact absurd (hxk.trans hek.symm) (List.pairwise_iff_getElem.1 hnd i j hi hj1 h)
 ·exact h
 ·exact absurd (hek.trans hxk.symm) (List.pairwise_iff_getElem.1 hnd j i hj1 hi h)
theorem fJ.erase {es:List MapEntry} {f:Int→Option Value} (h:fJ es f) (k:Int) {j:Nat} {e:MapEntry} (hj:es[j]?=some e) (he:e.key=.int .i64 k):fJ (es.eraseIdx j) (qj f k none):=by
 have hsub:=List.eraseIdx_sublist es j
 obtain⟨hj1,hj2⟩:=List.getElem?_eq_some_iff.1 hj
 have hno:∀x∈es.eraseIdx j,x.key≠.int .i64 k:=fun x hx hxk=>by
  obtain⟨i,hne,hi⟩:=List.mem_eraseIdx_iff_getElem?.1 hx
  obtain⟨j',h1,h2⟩:=RQ h.nodup hj he x (hsub.mem hx) hxk
  obtain⟨hi1,hi2⟩:=List.getElem?_eq_some_iff.1 hi
  rcases Nat.lt_trichotomy i j with h3|h3|h3
  ·exact List.pairwise_iff_getElem.1 h.nodup i j hi1 hj1 h3 (by rw[hi2,hj2,hxk,he])
  ·exact hne h3
  ·exact List.pairwise_iff_getElem.1 h.nodup j i hj1 hi1 h3 (by rw[hi2,hj2,hxk,he])
 refine⟨fun x hx=>h.keys x (hsub.mem hx),h.nodup.sublist hsub,fun x=>?_⟩
 by_cases e':x=k
 ·subst e'
  have:(es.eraseIdx j).find? (gU x)=none:=by
   rw[List.find?_eq_none]
   intro y hy hky
   obtain⟨n,hn⟩:=h.keys y (hsub.mem hy)
   simp[gU,hn] at hky
   subst hky
   exact hno y hy hn
  simp[this,qj]
 ·rw[show qj f k none x=f x by simp[qj,e'],←h.get x]
  have hsplit:es=es.take j++e::es.drop (j+1):=by
   rw[←hj2,←List.drop_eq_getElem_cons hj1,List.take_append_drop]
  have hke:gU x e=false:=by simp[gU,he];exact fun h=>e' h.symm
  rw[List.eraseIdx_eq_take_drop_succ]
  conv=>rhs;rw[hsplit]
  simp[List.find?_append,hke]
theorem fK {K:TypeId} {k:Int} (hK:P.underlying K=some (.int .i64)) (b:Bool) (w:World):(Instr.checkKey b 10000 K (.int .i64 k)).run P w=.ok () w:=by
 have:∀n,(Instr.checkKey b (n+1) K (.int .i64 k)).run P w=.ok () w:=fun n=>by simp[Instr.checkKey,run_underlying hK]
 exact this 9999
theorem run_getObj_map {b:Nat} {es:Array MapEntry} {clock:Nat} (h:w.heap[b]?=some (.map es clock)):(getObj b).run P w=.ok (.map es clock) w:=by
 simp[getObj,Sem.run,h]
theorem kW {K:TypeId} {k:Int} {es:List MapEntry} {f:Int→Option Value} (hK:P.underlying K=some (.int .i64)) (hr:fJ es f) (w:World):
 ∃r,(Instr.findKey K (.int .i64 k) es).run P w=.ok r w∧r.map (·.2)=f k∧∀j v,r=some (j,v)→∃e,es[j]?=some e∧e.key=.int .i64 k∧e.val=v:=by
 obtain⟨r,h1,h2,h3⟩:=Ba k es hr.keys 0
 refine⟨r,?_,by rw[h2,hr.get],fun j v h=>by simpa using (h3 j v h).2⟩
 simp[Instr.findKey,run_underlying hK,h1]
theorem yN {T K E:TypeId} {z:Value} (hT:P.underlying T=some (.map K E)) (hK:P.underlying K=some (.int .i64)) (hz:∀w,(zeroValue E).run P w=.ok z w)
 {b:Nat} {f:Int→Option Value} {n:Nat} (h:Sat W w (sep (NV b f n) A)) (k:Int) (ok:Bool):
 (Instr.lookup T (.map (some b)) (.int .i64 k) ok).run P w=.ok (if ok then .tuple #[(f k).getD z,.bool (f k).isSome] else (f k).getD z) w:=by
 obtain⟨es,clock,h1,h2,h3⟩:=h.OT
 obtain⟨r,e1,e2,e3⟩:=kW (P:=P) (k:=k) hK h1 w
 have hg:=run_getObj_map (P:=P) h3.aK
 rw[←e2]
 cases r with
 | none=>cases ok<;>simp[Instr.lookup,run_underlying hT,hg,fK hK,e1,hz]
 | some r=>obtain⟨i,v⟩:=r;cases ok<;>simp[Instr.lookup,run_underlying hT,hg,fK hK,e1]
theorem run_setObj_map {b:Nat} {es:Array MapEntry} {clock:Nat} (h:w.heap[b]?=some (.map es clock)) (o:Obj):(setObj b o).run P w=.ok () { w with heap:=w.heap.setIfInBounds b o }:=by
 simp[setObj,Sem.run,h]
theorem Sat.setObj {b:Nat} {o:Obj} (h:Sat W w (sep (blk b o) A)) (o':Obj):Sat W { w with heap:=w.heap.setIfInBounds b o' } (sep (blk b o') A):=
 h.change rfl rfl rfl (by simp[h.lt]) fun k hk _=>by simp[Ne.symm hk]
theorem fJ.modify {es:List MapEntry} {f:Int→Option Value} (h:fJ es f) (k:Int) (v:Value) {j:Nat} {e:MapEntry} (hj:es[j]?=some e) (he:e.key=.int .i64 k):
 fJ (es.modify j fun x=>{ x with key:=.int .i64 k,val:=v }) (qj f k (some v)):=by
 obtain⟨hj1,hj2⟩:=List.getElem?_eq_some_iff.1 hj
 have hsplit:es=es.take j++e::es.drop (j+1):=by
  rw[←hj2,←List.drop_eq_getElem_cons hj1,List.take_append_drop]
 have hmod:(es.modify j fun x=>{ x with key:=.int .i64 k,val:=v })=es.take j++{ e with key:=.int .i64 k,val:=v }::es.drop (j+1):=by
  rw[List.modify_eq_take_cons_drop hj1,hj2]
 have hnd:=h.nodup
 rw[hsplit] at hnd
 rw[hmod]
 have hp:=List.pairwise_append.1 hnd
 have hc:=List.pairwise_cons.1 hp.2.1
 refine⟨fun x hx=>?_,List.pairwise_append.2 ⟨hp.1,List.pairwise_cons.2 ⟨fun y hy=>?_,hc.2⟩,fun x hx y hy=>?_⟩,fun x=>?_⟩
 ·simp only[List.mem_append,List.mem_cons] at hx
  rcases hx with hx|rfl|hx
  ·exact h.keys x (List.mem_of_mem_take hx)
  ·exact⟨k,rfl⟩
  ·exact h.keys x (List.mem_of_mem_drop hx)
 ·have:=hc.1 y hy;rw[he] at this;exact this
 ·rcases List.mem_cons.1 hy with rfl|hy
  ·have:=hp.2.2 x hx e (by simp);rw[he] at this;exact this
  ·exact hp.2.2 x hx y (by simp[hy])
 ·by_cases e':x=k
  ·subst e'
   have hno:(es.take j).find? (gU x)=none:=by
    rw[List.find?_eq_none]
    intro y hy hky
    obtain⟨n,hn⟩:=h.keys y (List.mem_of_mem_take hy)
    simp[gU,hn] at hky
    subst hky
    exact hp.2.2 y hy e (by simp) (hn.trans he.symm)
   simp[List.find?_append,hno,gU,qj]
  ·rw[show qj f k (some v) x=f x by simp[qj,e'],←h.get x]
   have h1:gU x e=false:=by simp[gU,he];exact fun h=>e' h.symm
   have h2:gU x { e with key:=.int .i64 k,val:=v }=false:=by simp[gU];exact fun h=>e' h.symm
   conv=>rhs;rw[hsplit]
   simp[List.find?_append,h1,h2]
theorem uT (n:Nat) (k:Int):Instr.sameBits n (.int .i64 k) (.int .i64 k)=true:=by cases n<;>simp[Instr.sameBits]
end
end PA
