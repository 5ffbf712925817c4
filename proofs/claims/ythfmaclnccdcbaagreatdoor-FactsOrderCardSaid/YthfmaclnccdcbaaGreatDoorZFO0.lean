/- Part of a proof. -/
import Derived.WalkKit
import Derived.WalkSpells
import Derived.WalkLawsBesides
import Derived.ProofKit
import Derived.Lib.Hide
import Derived.Deep.RegionHeld3
import Derived.Tactics
namespace PA
open Go Go.RowKit
section
theorem ah {p:Prop} (h:p):Hid p:=Lib.hid h
theorem aC {α:Type} (a:α):∃z,z=a:=⟨a,rfl⟩
theorem lsA {α:Type} (l:List α) (i:Nat) (a:α):l.toArray.setIfInBounds i a=(l.set i a).toArray:=List.setIfInBounds_toArray ..
theorem lsB {α:Type} {a b:α} {l:List α}:(a::l).set 0 b=b::l:=rfl
theorem lq {α:Type} {a b:α} {n:Nat} {l:List α}:(a::l).set (n+1) b=a::l.set n b:=rfl
theorem dM {α:Type} {l m:List α}:(l++m).length=l.length+m.length:=List.length_append
theorem qy {α β:Type} {f:α → β} {l m:List α}:(l++m).map f=l.map f++m.map f:=List.map_append
theorem Ec {α:Type} {l:List α} {i:Nat}:l.toArray[i]?=l[i]?:=List.getElem?_toArray ..
theorem Ed {α:Type} {a:α} {l:List α}:(a::l)[0]?=some a:=rfl
theorem Ee {α:Type} {a:α} {l:List α} {n:Nat}:(a::l)[n+1]?=l[n]?:=rfl
theorem pV {α:Type} {a:α} {l m:List α}:a::l++m=a::(l++m):=rfl
theorem tK {α:Type} (l:List α):[]++l=l:=rfl
theorem mM {α β:Type} {f:α → β} {a:α} {l:List α}:(a::l).map f=f a::l.map f:=rfl
theorem zC {α:Type} {a:α} {l:List α} (m:List α) (h:a∈l):a∈l++m:=List.mem_append_left m h
theorem Bl {α:Type} {a:α} {l:List α} (m:List α) (h:a∈l):a∈m++l:=List.mem_append_right m h
theorem aH {a b:Prop} (h:a) (k:b):a∧b:=⟨h,k⟩
theorem iM {α:Type} {l:List α} {i:Nat} (h:i<l.length):l[i]?=some l[i]:=List.getElem?_eq_getElem h
theorem qM {α:Type} {l:List α} {i:Nat} {a:α} (h:l[i]?=some a):∃h:i<l.length,l[i]=a:=List.getElem?_eq_some_iff.1 h
theorem mZ {α:Type} {l:List α} {i:Nat} {a:α} (h:l[i]?=some a):a∈l:=List.mem_of_getElem? h
theorem kZ {α:Type} (a b c:List α):a++b++c=a++(b++c):=List.append_assoc a b c
theorem oP {α:Type} {a:α} {l:List α}:(a::l).length=l.length+1:=rfl
theorem tY {α:Type} (y:α) {a:α} {l:List α} (h:a∈l):a∈y::l:=List.mem_cons_of_mem y h
theorem vW {α:Type} {a b:α} (h:a∈[b]):a=b:=List.mem_singleton.1 h
theorem Ju {α:Type} {l:List α} (h:l.length=0):l=[]:=List.eq_nil_of_length_eq_zero h
theorem cO {α:Type} {x:Option α} (h:x.isSome=true):∃a,x=some a:=Option.isSome_iff_exists.1 h
abbrev iW:Array Go.Value:=#[.int .i64 0,.int .i64 0,.int .i64 0,.int .i64 0,.int .i64 0,.int .i64 0,.int .i64 0,.int .i64 0,.int .i64 0,.int .i64 0,.int .i64 0,.slice none 0 0,.slice none 0 0,.slice none 0 0,.slice none 0 0,.int .i64 0,.int .i64 0,.slice none 0 0,.slice none 0 0]
abbrev UG:Array Go.Value:=#[.int .i64 0,.int .i64 1,.int .i64 2,.int .i64 3,.int .i64 4,.int .i64 5,.int .i64 9,.int .i64 10,.int .i64 11]
abbrev UH:Array Go.Value:=#[.int .i64 100,.int .i64 50,.int .i64 200,.int .i64 150,.int .i64 30,.int .i64 1000]
abbrev UJ:Array Go.Value:=#[.int .i64 1,.int .i64 2,.int .i64 3,.int .i64 6,.int .i64 12,.int .i64 18,.int .i64 20,.int .i64 50]
abbrev UK:Array Go.Value:=#[.int .i64 0,.int .i64 0,.int .i64 0,.int .i64 0,.int .i64 0,.int .i64 0,.int .i64 1,.int .i64 1,.int .i64 1,.int .i64 2,.int .i64 3,.int .i64 3,.int .i64 4,.int .i64 4,.int .i64 4,.int .i64 5,.int .i64 6,.int .i64 6,.int .i64 7,.int .i64 8,.int .i64 9,.int .i64 10,.int .i64 10,.int .i64 10,.int .i64 10,.int .i64 11,.int .i64 12,.int .i64 12,.int .i64 13,.int .i64 13,.int .i64 14,.int .i64 15,.int .i64 16,.int .i64 16,.int .i64 17,.int .i64 18,.int .i64 19,.int .i64 19,.int .i64 20,.int .i64 21]
abbrev XM:Array Go.Value:=#[.int .i64 1,.int .i64 1,.int .i64 1,.int .i64 2,.int .i64 1,.int .i64 3,.int .i64 2,.int .i64 3]
abbrev ab1:Array Go.Value:=#[.int .i64 0,.int .i64 7,.int .i64 9,.int .i64 20,.int .i64 36,.int .i64 52,.int .i64 23,.int .i64 100,.int .i64 215,.int .i64 13,.int .i64 47,.int .i64 12,.int .i64 123456,.int .i64 5000]
abbrev Mem:=Nat→Option Obj
def Mem.le (I J:Mem):Prop:=∀b o,I b=some o→J b=some o
def Mem.dj (x y:Mem):Prop:=∀b,x b=none∨y b=none
def Mem.un (x y:Mem):Mem:=fun b=>match x b with|some o=>some o|none=>y b
def Mem.no:Mem:=fun _=>none
theorem bW (I:Mem):Mem.le I I:=fun _ _ h=>h
theorem Mem.Oz (x y z:Mem):Mem.un (Mem.un x y) z=Mem.un x (Mem.un y z):=by
 funext b;simp only[Mem.un];cases x b<;>rfl
theorem Mem.ZT (x y:Mem) (h:Mem.dj x y):Mem.un x y=Mem.un y x:=by
 funext b;simp only[Mem.un];rcases h b with h|h<;>rw[h]
 ·cases y b<;>rfl
 ·cases x b<;>rfl
theorem Mem.qH (x:Mem):Mem.un Mem.no x=x:=by funext b;simp[Mem.un,Mem.no]
theorem Mem.SH {x y:Mem} {b:Nat} {o:Obj} (h:Mem.un x y b=some o):x b=some o∨y b=some o:=by
 simp only[Mem.un] at h;cases hx:x b with
 | some u=>rw[hx] at h;exact .inl h
 | none=>rw[hx] at h;exact .inr h
theorem Mem.un_l {x y:Mem} {b:Nat} {o:Obj} (h:x b=some o):Mem.un x y b=some o:=by simp[Mem.un,h]
theorem Mem.un_r {x y:Mem} {b:Nat} {o:Obj} (hd:Mem.dj x y) (h:y b=some o):Mem.un x y b=some o:=by
 rcases hd b with h'|h'
 ·simp[Mem.un,h',h]
 ·rw[h'] at h;cases h
structure aB where
 sat:Mem→Mem→Prop
 mono:∀{I J m:Mem},Mem.le I J→sat I m→sat J m
theorem aB.ext' {A B:aB} (h:∀I m,A.sat I m↔B.sat I m):A=B:=by
 cases A;cases B;congr;funext I m;exact propext (h I m)
def emp:aB:=⟨fun _ m=>m=Mem.no,fun _ h=>h⟩
def sep (A B:aB):aB:=⟨fun I m=>∃x y,Mem.dj x y∧m=Mem.un x y∧A.sat I x∧B.sat I y,
 fun hl ⟨x,y,h1,h2,h3,h4⟩=>⟨x,y,h1,h2,A.mono hl h3,B.mono hl h4⟩⟩
def fact (p:Prop):aB:=⟨fun _ m=>m=Mem.no∧p,fun _ h=>h⟩
def ex {α:Sort _} (A:α→aB):aB:=⟨fun I m=>∃x,(A x).sat I m,fun hl ⟨x,h⟩=>⟨x,(A x).mono hl h⟩⟩
def yY (p:Mem→Prop) (hp:∀I J,Mem.le I J→p I→p J):aB:=⟨fun I m=>m=Mem.no∧p I,fun hl ⟨h1,h2⟩=>⟨h1,hp _ _ hl h2⟩⟩
def blk (b:Nat) (o:Obj):aB:=⟨fun _ m=>m=fun x=>if x=b then some o else none,fun _ h=>h⟩
def imm (b:Nat) (o:Obj):aB:=yY (fun I=>I b=some o) fun _ _ hl h=>hl _ _ h
theorem aA (A B:aB):sep A B=sep B A:=aB.ext' fun I m=>by
 constructor<;>rintro⟨x,y,h1,h2,h3,h4⟩<;>exact⟨y,x,fun b=>(h1 b).symm,by rw[h2,Mem.ZT _ _ h1],h4,h3⟩
theorem aj (A B C:aB):sep (sep A B) C=sep A (sep B C):=aB.ext' fun I m=>by
 constructor
 ·rintro⟨x,z,h1,rfl,⟨x,y,h3,rfl,h4,h5⟩,h6⟩
  refine⟨x,Mem.un y z,fun b=>?_,Mem.Oz _ _ _,h4,y,z,fun b=>?_,rfl,h5,h6⟩
  ·rcases h1 b with h|h
   ·simp only[Mem.un] at h;cases hx:x b with
    | some u=>rw[hx] at h;cases h
    | none=>exact .inl rfl
   ·rcases h3 b with h'|h'
    ·exact .inl h'
    ·exact .inr (by simp[Mem.un,h',h])
  ·rcases h1 b with h|h
   ·simp only[Mem.un] at h;cases hx:x b with
    | some u=>rw[hx] at h;cases h
    | none=>rw[hx] at h;exact .inl h
   ·exact .inr h
 ·rintro⟨x,m,h1,rfl,h4,y,z,h3,rfl,h5,h6⟩
  refine⟨Mem.un x y,z,fun b=>?_,(Mem.Oz _ _ _).symm,⟨x,y,fun b=>?_,rfl,h4,h5⟩,h6⟩
  ·rcases h1 b with h|h
   ·rcases h3 b with h'|h'
    ·exact .inl (by simp[Mem.un,h,h'])
    ·exact .inr h'
   ·simp only[Mem.un] at h;cases hy:y b with
    | some u=>rw[hy] at h;cases h
    | none=>rw[hy] at h;exact .inr h
  ·rcases h1 b with h|h
   ·exact .inl h
   ·simp only[Mem.un] at h;cases hy:y b with
    | some u=>rw[hy] at h;cases h
    | none=>exact .inr rfl
theorem au (A B C:aB):sep A (sep B C)=sep B (sep A C):=by rw[←aj,aA A B,aj]
theorem jc (A:aB):sep emp A=A:=aB.ext' fun I m=>by
 constructor
 ·rintro⟨x,y,h1,rfl,rfl,h4⟩;rw[Mem.qH];exact h4
 ·intro h;exact⟨Mem.no,m,fun _=>.inl rfl,(Mem.qH _).symm,rfl,h⟩
theorem fP {α:Sort _} (A:α→aB) (B:aB):sep (ex A) B=ex fun x=>sep (A x) B:=aB.ext' fun I m=>by
 constructor
 ·rintro⟨x,y,h1,h2,⟨u,h3⟩,h4⟩;exact⟨u,x,y,h1,h2,h3,h4⟩
 ·rintro⟨u,x,y,h1,h2,h3,h4⟩;exact⟨x,y,h1,h2,⟨u,h3⟩,h4⟩
theorem Xp (p:Mem→Prop) (hp:∀I J,Mem.le I J→p I→p J) (A:aB):sep (yY p hp) A=sep (yY p hp) (sep (yY p hp) A):=aB.ext' fun I m=>by
 constructor
 ·rintro⟨x,y,h1,rfl,⟨rfl,h3⟩,h4⟩
  exact⟨Mem.no,y,h1,rfl,⟨rfl,h3⟩,Mem.no,y,h1,(Mem.qH _).symm,⟨rfl,h3⟩,h4⟩
 ·rintro⟨x,m,h1,rfl,⟨rfl,h3⟩,x,y,h5,rfl,⟨rfl,_⟩,h4⟩
  exact⟨Mem.no,y,fun _=>.inl rfl,by rw[Mem.qH],⟨rfl,h3⟩,h4⟩
structure Sat (W w:World) (A:aB):Prop where
 os:w.os=W.os
 tape:w.tape=W.tape
 output:w.output=W.output
 has:∃I m:Mem,(∀b o,W.heap[b]?=some o→I b=some o)∧(∀b o,I b=some o→w.heap[b]?=some o)∧(∀b o,m b=some o→w.heap[b]?=some o∧I b=none)∧A.sat I m
theorem Sat.wk {W w:World} {A B:aB} (h:Sat W w A) (hi:∀I m,A.sat I m→B.sat I m):Sat W w B:=
 let ⟨h1,h2,h3,I,m,h4,h5,h6,h7⟩:=h
 ⟨h1,h2,h3,I,m,h4,h5,h6,hi _ _ h7⟩
theorem Sat.start (W:World):Sat W W emp:=
 ⟨rfl,rfl,rfl,fun b=>W.heap[b]?,Mem.no,fun _ _ h=>h,fun _ _ h=>h,fun _ _ h=>(by simp[Mem.no] at h),rfl⟩
theorem Sat.drew {W w:World} {A:aB} (h:Sat W w A):Sat W w.drew A:=let ⟨h1,h2,h3,h4⟩:=h;⟨h1,h2,h3,h4⟩
theorem Sat.alike {W w w':World} {A:aB} (h:Sat W w A) (h1:w'.heap=w.heap) (h2:w'.os=w.os) (h3:w'.tape=w.tape) (h4:w'.output=w.output):Sat W w' A:=
 ⟨h2.trans h.os,h3.trans h.tape,h4.trans h.output,by rw[h1];exact h.has⟩
theorem Sat.fact {W w:World} {p:Prop} {A:aB}:Sat W w (sep (fact p) A)↔p∧Sat W w A:=by
 constructor
 ·rintro⟨h1,h2,h3,I,m,h4,h5,h6,x,y,h7,rfl,⟨rfl,hp⟩,h9⟩
  exact⟨hp,h1,h2,h3,I,y,h4,h5,by simpa only[Mem.qH] using h6,h9⟩
 ·rintro⟨hp,h1,h2,h3,I,m,h4,h5,h6,h7⟩
  exact⟨h1,h2,h3,I,m,h4,h5,h6,Mem.no,m,fun _=>.inl rfl,(Mem.qH _).symm,⟨rfl,hp⟩,h7⟩
theorem Sat.ex {W w:World} {α:Sort _} {A:α→aB}:Sat W w (ex A)↔∃x,Sat W w (A x):=by
 constructor
 ·rintro⟨h1,h2,h3,I,m,h4,h5,h6,x,h7⟩;exact⟨x,h1,h2,h3,I,m,h4,h5,h6,h7⟩
 ·rintro⟨x,h1,h2,h3,I,m,h4,h5,h6,h7⟩;exact⟨h1,h2,h3,I,m,h4,h5,h6,x,h7⟩
theorem Sat.tail {W w:World} {p:Mem→Prop} {hp:∀I J,Mem.le I J→p I→p J} {A:aB} (h:Sat W w (sep (yY p hp) A)):Sat W w A:=
 h.wk fun I m ⟨x,y,_,e,⟨e1,_⟩,h4⟩=>by rw[e,e1,Mem.qH];exact h4
theorem Sat.dup {W w:World} {p:Mem→Prop} {hp:∀I J,Mem.le I J→p I→p J} {A:aB} (h:Sat W w (sep (yY p hp) A)):Sat W w (sep (yY p hp) (sep (yY p hp) A)):=by
 rw[←Xp];exact h
theorem Sat.Ai {W w:World} {p:Mem→Prop} {hp:∀I J,Mem.le I J→p I→p J} {A:aB} (h:Sat W w (sep (yY p hp) A)):p fun b=>w.heap[b]?:=by
 obtain⟨_,_,_,I,m,h4,h5,h6,x,y,h7,rfl,⟨rfl,hq⟩,h9⟩:=h;exact hp _ _ h5 hq
theorem Sat.below {W w:World} {A:aB} (h:Sat W w A):Below W.heap.size W w:=by
 obtain⟨h1,h2,h3,I,m,h4,h5,_,_⟩:=h;have hb:∀b,b<W.heap.size→w.heap[b]?=W.heap[b]?:=fun b hb=>by
  rw[Array.getElem?_eq_getElem hb];exact h5 _ _ (h4 _ _ (Array.getElem?_eq_getElem hb))
 refine⟨h1,h2,h3,?_,hb⟩;rcases Nat.eq_zero_or_pos W.heap.size with h0|h0
 ·omega
 ·have:=hb (W.heap.size-1) (by omega)
  rw[Array.getElem?_eq_getElem (show W.heap.size-1<W.heap.size by omega)] at this;have:=(Array.getElem?_eq_some_iff.1 this).1;omega
theorem Sat.aO {W w:World} {b:Nat} {o:Obj} {A:aB} (h:Sat W w (sep (blk b o) A)):w.heap[b]?=some o:=by
 obtain⟨_,_,_,I,m,h4,h5,h6,x,y,h7,rfl,rfl,h9⟩:=h;exact (h6 b o (Mem.un_l (by simp))).1
theorem Sat.lt {W w:World} {b:Nat} {o:Obj} {A:aB} (h:Sat W w (sep (blk b o) A)):b<w.heap.size:=(Array.getElem?_eq_some_iff.1 h.aO).1
theorem Sat.settle {W w:World} {b:Nat} {o:Obj} {A:aB} (h:Sat W w (sep (blk b o) A)):Sat W w (sep (imm b o) A):=by
 obtain⟨h1,h2,h3,I,m,h4,h5,h6,x,y,h7,rfl,rfl,h9⟩:=h;have hb:=h6 b o (Mem.un_l (by simp));have hle:Mem.le I (fun x=>if x=b then some o else I x):=fun c u hc=>by
  by_cases e:c=b
  ·subst e;rw[hb.2] at hc;cases hc
  ·simpa[e] using hc
 refine⟨h1,h2,h3,_,y,fun c u hc=>hle _ _ (h4 _ _ hc),?_,?_,Mem.no,y,fun _=>.inl rfl,(Mem.qH _).symm,⟨rfl,?_⟩,A.mono hle h9⟩
 ·intro c u hc
  by_cases e:c=b
  ·subst e;simp at hc;subst hc;exact hb.1
  ·simp[e] at hc;exact h5 _ _ hc
 ·intro c u hc
  have hcu:=h6 c u (Mem.un_r h7 hc);refine⟨hcu.1,?_⟩;by_cases e:c=b
  ·subst e;rcases h7 c with h|h
   ·simp at h
   ·rw[h] at hc;cases hc
  ·simp[e,hcu.2]
 ·simp
theorem Sat.change {W w w':World} {g:Nat} {o o':Obj} {A:aB} (h:Sat W w (sep (blk g o) A)) (e1:w'.os=w.os) (e2:w'.tape=w.tape) (e3:w'.output=w.output)
 (hg:w'.heap[g]?=some o') (hk:∀k,k≠g→k<w.heap.size→w'.heap[k]?=w.heap[k]?):Sat W w' (sep (blk g o') A):=by
 obtain⟨h1,h2,h3,I,m,h4,h5,h6,x,y,h7,rfl,rfl,h9⟩:=h;have hb:=h6 g o (Mem.un_l (by simp));have kept:∀k u,k≠g→w.heap[k]?=some u→w'.heap[k]?=some u:=fun k u hne hu=>(hk k hne (Array.getElem?_eq_some_iff.1 hu).1).trans hu
 refine⟨e1.trans h1,e2.trans h2,e3.trans h3,I,_,h4,?_,?_,fun x=>if x=g then some o' else none,y,?_,rfl,rfl,h9⟩
 ·intro c u hc
  refine kept c u (fun e=>?_) (h5 _ _ hc);subst e;rw[hb.2] at hc;cases hc
 ·intro c u hc
  rcases Mem.SH hc with hc'|hc'
  ·by_cases e:c=g
   ·subst e;simp at hc';subst hc';exact⟨hg,hb.2⟩
   ·simp[e] at hc'
  ·have hcu:=h6 c u (Mem.un_r h7 hc')
   refine⟨kept c u (fun e=>?_) hcu.1,hcu.2⟩;subst e;rcases h7 c with h|h
   ·simp at h
   ·rw[h] at hc';cases hc'
 ·intro c
  rcases h7 c with h|h
  ·by_cases e:c=g
   ·simp[e] at h
   ·exact .inl (by simp[e])
  ·exact .inr h
theorem Sat.grow {W w w':World} {g:Nat} {o:Obj} {A:aB} (h:Sat W w A) (e1:w'.os=w.os) (e2:w'.tape=w.tape) (e3:w'.output=w.output)
 (hg:w'.heap[g]?=some o) (hnew:w.heap.size≤g) (hk:∀k,k<w.heap.size→w'.heap[k]?=w.heap[k]?):Sat W w' (sep (blk g o) A):=by
 obtain⟨h1,h2,h3,I,m,h4,h5,h6,h9⟩:=h;have kept:∀k u,w.heap[k]?=some u→w'.heap[k]?=some u:=fun k u hu=>(hk k (Array.getElem?_eq_some_iff.1 hu).1).trans hu
 have old:∀k u,w.heap[k]?=some u→k≠g:=fun k u hu e=>by have:=(Array.getElem?_eq_some_iff.1 hu).1;omega
 refine⟨e1.trans h1,e2.trans h2,e3.trans h3,I,_,h4,fun c u hc=>kept _ _ (h5 _ _ hc),?_,fun x=>if x=g then some o else none,m,?_,rfl,rfl,h9⟩
 ·intro c u hc
  rcases Mem.SH hc with hc|hc
  ·by_cases e:c=g
   ·subst e;simp at hc;subst hc
    refine⟨hg,?_⟩;cases hI:I c with
    | none=>rfl
    | some v=>exact absurd rfl (old _ _ (h5 _ _ hI))
   ·simp[e] at hc
  ·exact⟨kept _ _ (h6 _ _ hc).1,(h6 _ _ hc).2⟩
 ·intro c
  by_cases e:c=g
  ·subst e
   cases hm:m c with
   | none=>exact .inr rfl
   | some v=>exact absurd rfl (old _ _ (h6 _ _ hm).1)
  ·exact .inl (by simp[e])
theorem Sat.alloc {W w:World} {A:aB} (h:Sat W w A) (o:Obj):Sat W (w.alloc o) (sep (blk w.heap.size o) A):=
 h.grow rfl rfl rfl (heap_alloc_new w o) (Nat.le_refl _) (fun k hk=>by show (w.heap.push o)[k]?=w.heap[k]?;rw[Array.getElem?_push,if_neg (Nat.ne_of_lt hk)])
theorem Sat.forget {W w:World} {b:Nat} {o:Obj} {A:aB} (h:Sat W w (sep (blk b o) A)):Sat W w A:=h.settle.tail
theorem Sat.iy {W w:World} {A:aB} (h:Sat W w A) (o:Obj):Sat W (w.alloc o) A:=(h.alloc o).forget
theorem Sat.setCell {W w:World} {g:Nat} {cs:Array Value} {t:TypeId} {A:aB} (h:Sat W w (sep (blk g (.cells cs t (0,0))) A)) (i:Nat) (v:Value):
 Sat W (w.setCell ⟨g,i,none⟩ v) (sep (blk g (.cells (cs.setIfInBounds i v) t (0,0))) A):=
 h.change rfl rfl rfl (heap_setCell_same w g i cs t v h.aO) fun k hk _=>heap_setCell_other w _ k v hk
theorem Sat.cell {W w:World} {g:Nat} {cs:Array Value} {t:TypeId} {f:Nat×Nat} {A:aB} (h:Sat W w (sep (blk g (.cells cs t f)) A)) (i:Nat):w.cell? ⟨g,i,none⟩=cs[i]?:=
 cell_of_row w g i cs t f h.aO
theorem Sat.aI {W w:World} {g:Nat} {cs:Array Value} {t:TypeId} {A:aB} (h:Sat W w (sep (blk g (.cells cs t (0,0))) A)) (i:Nat):w.frozen? ⟨g,i,none⟩=false:=
 frozen_of_row w g i cs t h.aO
theorem Sat.drop {W w:World} {X A:aB} (h:Sat W w (sep X A)):Sat W w A:=by
 obtain⟨h1,h2,h3,I,m,h4,h5,h6,x,y,h7,rfl,_,h9⟩:=h;exact⟨h1,h2,h3,I,y,h4,h5,fun b o hb=>h6 b o (Mem.un_r h7 hb),h9⟩
theorem Sat.Xa {W w:World} {b c:Nat} {o u:Obj} {A:aB} (h:Sat W w (sep (blk b o) (sep (blk c u) A))):b≠c:=by
 obtain⟨_,_,_,I,m,h4,h5,h6,x,y,h7,rfl,rfl,x',y',h8,rfl,rfl,_⟩:=h;intro e;subst e;rcases h7 b with h|h
 ·simp at h
 ·simp[Mem.un] at h
theorem dI {W w:Go.World} {A B:aB} (h:Sat W w A) (e:A=B:=by simp only[aA,au,aj]):Sat W w B:=e ▸ h
section
variable {W w:World} {A B C D E F G H J K L M N O:aB}
theorem Sat.p1 (h:Sat W w (sep A (sep B C))):Sat W w (sep B (sep A C)):=by rw[au];exact h
theorem Sat.q1 (h:Sat W w (sep B (sep A C))):Sat W w (sep A (sep B C)):=by rw[au];exact h
theorem Sat.p2 (h:Sat W w (sep A (sep B (sep C D)))):Sat W w (sep C (sep A (sep B D))):=dI h
theorem Sat.q2 (h:Sat W w (sep C (sep A (sep B D)))):Sat W w (sep A (sep B (sep C D))):=dI h
theorem Sat.p3 (h:Sat W w (sep A (sep B (sep C (sep D E))))):Sat W w (sep D (sep A (sep B (sep C E)))):=dI h
theorem Sat.q3 (h:Sat W w (sep D (sep A (sep B (sep C E))))):Sat W w (sep A (sep B (sep C (sep D E)))):=dI h
theorem Sat.p4 (h:Sat W w (sep A (sep B (sep C (sep D (sep E F)))))):Sat W w (sep E (sep A (sep B (sep C (sep D F))))):=dI h
theorem Sat.q4 (h:Sat W w (sep E (sep A (sep B (sep C (sep D F)))))):Sat W w (sep A (sep B (sep C (sep D (sep E F))))):=dI h
theorem Sat.p5 (h:Sat W w (sep A (sep B (sep C (sep D (sep E (sep F G))))))):Sat W w (sep F (sep A (sep B (sep C (sep D (sep E G)))))):=dI h
theorem Sat.q5 (h:Sat W w (sep F (sep A (sep B (sep C (sep D (sep E G))))))):Sat W w (sep A (sep B (sep C (sep D (sep E (sep F G)))))):=dI h
theorem Sat.p6 (h:Sat W w (sep A (sep B (sep C (sep D (sep E (sep F (sep G H)))))))):Sat W w (sep G (sep A (sep B (sep C (sep D (sep E (sep F H))))))):=dI h
theorem Sat.q6 (h:Sat W w (sep G (sep A (sep B (sep C (sep D (sep E (sep F H)))))))):Sat W w (sep A (sep B (sep C (sep D (sep E (sep F (sep G H))))))):=dI h
theorem Sat.q7 (h:Sat W w (sep H (sep A (sep B (sep C (sep D (sep E (sep F (sep G J))))))))):Sat W w (sep A (sep B (sep C (sep D (sep E (sep F (sep G (sep H J)))))))):=dI h
theorem Sat.q8 (h:Sat W w (sep J (sep A (sep B (sep C (sep D (sep E (sep F (sep G (sep H K)))))))))):Sat W w (sep A (sep B (sep C (sep D (sep E (sep F (sep G (sep H (sep J K))))))))):=dI h
end
end
section
def dF (a:Option Addr) (xs:List Value) (I:Mem):Prop:=
 xs=[]∨∃b o cs t f,a=some ⟨b,o,none⟩∧I b=some (.cells cs t f)∧∀i u,xs[i]?=some u→cs[o+i]?=some u
def U0 (a:Option Addr) (xs:List Value):aB:=yY (dF a xs) fun I J hl h=>by
 rcases h with h|⟨b,o,cs,t,f,h1,h2,h3⟩
 ·exact .inl h
 ·exact .inr ⟨b,o,cs,t,f,h1,hl _ _ h2,h3⟩
theorem Sat.ZM {W w:World} {A:aB} (h:Sat W w A) (a:Option Addr):Sat W w (sep (U0 a []) A):=by
 obtain⟨h1,h2,h3,I,m,h4,h5,h6,h7⟩:=h;exact⟨h1,h2,h3,I,m,h4,h5,h6,Mem.no,m,fun _=>.inl rfl,(Mem.qH _).symm,⟨rfl,.inl rfl⟩,h7⟩
theorem Sat.Qy {W w:World} {A:aB} {a:Option Addr} {xs:List Value} (h:Sat W w (sep (U0 a xs) A)) (hne:xs≠[]):
 ∃b o,a=some ⟨b,o,none⟩∧∀i u,xs[i]?=some u→w.cell? ⟨b,o+i,none⟩=some u:=by
 rcases h.Ai with h|⟨b,o,cs,t,f,h1,h2,h3⟩
 ·exact absurd h hne
 ·exact⟨b,o,h1,fun i u hu=>by rw[cell_of_row w b (o+i) cs t f h2];exact h3 i u hu⟩
theorem Sat.SE {W w:World} {A:aB} {b:Addr} {xs:List Value} (h:Sat W w (sep (U0 (some b) xs) A)):∀i u,xs[i]?=some u→w.cell? (b.add i)=some u:=by
 intro i u hu;obtain⟨c,o,e,hc⟩:=h.Qy (fun e=>by rw[e] at hu;simp at hu);cases e;have:=hc i u hu;unfold Addr.add;split
 ·rename_i e;subst e;simpa using this
 ·exact this
def aT (E k:Nat) (a:Option Addr) (n c:Nat) (xs:List Value):aB:=
 ex fun s:Option (Nat×Array Value)=>match s with
  | none=>fact (a=none∧n=0∧c=0∧xs=[])
  | some (g,cur)=>sep (fact (a=some ⟨g,0,none⟩∧xs.length=n*k∧n≤c∧c≤maxLen∧cur.size=c*k∧cur.toList.take (n*k)=xs)) (blk g (.cells cur E (0,0)))
section
variable {W w:World} {A:aB} {E k:Nat} {a:Option Addr} {n c:Nat} {xs:List Value}
theorem Sat.iD (h:Sat W w (sep (aT E k a n c xs) A)):
 (a=none∧n=0∧c=0∧xs=[]∧Sat W w A) ∨
 ∃g cur,a=some ⟨g,0,none⟩∧xs.length=n*k∧n≤c∧c≤maxLen∧cur.size=c*k∧cur.toList.take (n*k)=xs∧Sat W w (sep (blk g (.cells cur E (0,0))) A):=by
 rw[aT,fP,Sat.ex] at h;obtain⟨s,h⟩:=h;cases s with
 | none=>
  have h':=Sat.fact.1 h;exact .inl ⟨h'.1.1,h'.1.2.1,h'.1.2.2.1,h'.1.2.2.2,h'.2⟩
 | some s=>
  obtain⟨g,cur⟩:=s;simp only[aj] at h;obtain⟨⟨h1,h2,h3,h4,h5,h6⟩,h7⟩:=Sat.fact.1 h;exact .inr ⟨g,cur,h1,h2,h3,h4,h5,h6,h7⟩
theorem Sat.fV (h:Sat W w A) (E k:Nat):Sat W w (sep (aT E k none 0 0 []) A):=by
 rw[aT,fP,Sat.ex];exact⟨none,Sat.fact.2 ⟨⟨rfl,rfl,rfl,rfl⟩,h⟩⟩
theorem Sat.lJ {g:Nat} {cur:Array Value} (h:Sat W w (sep (blk g (.cells cur E (0,0))) A)) (n c k:Nat) (xs:List Value) (h2:xs.length=n*k) (h3:n≤c) (h4:c≤maxLen) (h5:cur.size=c*k) (h6:cur.toList.take (n*k)=xs):
 Sat W w (sep (aT E k (some ⟨g,0,none⟩) n c xs) A):=by
 rw[aT,fP,Sat.ex];refine⟨some (g,cur),?_⟩;rw[aj];exact Sat.fact.2 ⟨⟨rfl,h2,h3,h4,h5,h6⟩,h⟩
theorem Sat.vY (h:Sat W w (sep (aT E k a n c xs) A)):xs.length=n*k∧n≤c∧c≤maxLen:=by
 rcases h.iD with ⟨_,rfl,rfl,rfl,_⟩|⟨g,cur,_,h1,h2,h3,_⟩
 ·simp
 ·exact⟨h1,h2,h3⟩
theorem Sat.Ah (h:Sat W w (sep (aT E k a n c xs) A)) (hne:xs≠[]):
 ∃g,a=some ⟨g,0,none⟩∧∀i u,xs[i]?=some u→w.cell? ⟨g,i,none⟩=some u:=by
 rcases h.iD with ⟨_,rfl,rfl,rfl,_⟩|⟨g,cur,rfl,h1,h2,h3,h4,h5,h6⟩
 ·exact absurd rfl hne
 ·refine⟨g,rfl,fun i u hu=>?_⟩
  rw[h6.cell i];rw[←h5,List.getElem?_take] at hu;split at hu
  ·simpa using hu
  ·cases hu
theorem Sat.eF (h:Sat W w (sep (aT E k a n c xs) A)):Sat W w (sep (U0 a xs) A):=by
 rcases h.iD with ⟨rfl,rfl,rfl,rfl,h'⟩|⟨g,cur,rfl,h1,h2,h3,h4,h5,h6⟩
 ·exact h'.ZM _
 ·refine h6.settle.wk ?_
  rintro I m ⟨x,y,h7,h8,⟨h9,h10⟩,h11⟩;refine⟨x,y,h7,h8,⟨h9,.inr ⟨g,0,cur,E,(0,0),rfl,h10,fun i u hu=>?_⟩⟩,h11⟩;rw[←h5,List.getElem?_take] at hu;split at hu
  ·simpa using hu
  ·cases hu
theorem Sat.eu (h:Sat W w (sep (aT E k a n c xs) A)):Sat W w A:=h.eF.tail
end
section
variable {P:Program} {W w:World} {A:aB}
theorem yJ (w:World) (g j:Nat) (cs:Array Value) (h:j≠g):(w.setRow g cs).heap[j]?=w.heap[j]?:=by
 simp only[World.setRow,Array.getElem?_modify];rw[if_neg (fun e=>h e.symm)]
theorem Sat.setRow {g:Nat} {cur:Array Value} {t:TypeId} (h:Sat W w (sep (blk g (.cells cur t (0,0))) A)) (cs:Array Value):Sat W (w.setRow g cs) (sep (blk g (.cells cs t (0,0))) A):=
 h.change rfl rfl rfl (setRow_heap w g cur cs t (0,0) h.aO) fun k hk _=>yJ w g k cs hk
theorem jh (z:Array Value) (n:Nat):(Builtin.zeroCells z n).size=n*z.size:=by simp[Builtin.zeroCells]
theorem lZ (w:World) (need old:Nat) (e:TypeId) (h:need≤maxLen):need≤grownCap w need old e∧grownCap w need old e≤maxLen:=
 ⟨grownCap_ge w need old e,grownCap_le_maxLen w need old e h⟩
theorem pq (t ty E k KN:Nat) (i:TypeInfo) (z:Value) (ht:P.underlying t=some (.slice E)) (hi:P.info? E=some i) (hz:i.zero=some z)
 (hk:i.size=k) (hb:i.bytes=KN) (hzs:z.cells.size=k) {a:Option Addr} {n c:Nat} {xs:List Value} (h:Sat W w (sep (aT E k a n c xs) A))
 (x:Option Addr) (m cc:Nat) (news:List Value) (hl:news.length=m*k) (hx0:x=none→m=0) (hx:∀b,x=some b→∀j u,news[j]?=some u→w.cell? (b.add j)=some u)
 (h1:∀u∈news,u.oneCell'=true) (h63:n+m≤maxLen) (hby:(n+m)*KN≤140737488355328):
 ∃a' c' w',(Builtin.append_ #[t,t] ty #[.slice a n c,.slice x m cc]).run P w=.ok (.slice a' (n+m) c') w'∧Sat W w' (sep (aT E k a' (n+m) c' (xs++news)) A):=by
 subst hk;subst hb;have hsmall:n+m≤9223372036854775807:=by simp only[maxLen] at h63;omega
 by_cases hm:m=0
 ·subst hm
  have hnews:news=[]:=Ju (by simpa using hl);subst hnews;have hnc:=h.vY.2.1;refine⟨a,c,w,?_,by simpa using h⟩;cases x<;>cases a<;>simp[Builtin.append_,run_underlying ht,Go.sizeOf,typeInfo,hi,Builtin.lenOf,hnc,Builtin.firstCells,loadCells,loadCellsFrom,storeCells]
 ·obtain⟨b,rfl⟩:∃b,x=some b:=by
   cases x with
   | none=>exact absurd (hx0 rfl) hm
   | some b=>exact⟨b,rfl⟩
  have hsrc:=hx b rfl;have fits:∀old,old<n+m→Builtin.nextslicecap (n+m) old*i.bytes≤281474976710656:=fun old ho=>growslice_fits ho hby
  rcases h.iD with ⟨rfl,rfl,rfl,rfl,h0⟩|⟨g,cur,rfl,hlen,hnc,hcm,hcs,htake,hS⟩
  ·have hrun:=run_append_nil (P:=P) w t ty E i z ht hi hz b m cc news hl hsrc (by omega) (by omega) (by have:=fits 0 (by omega);rw[Nat.zero_add,nextslicecap_zero (by omega)] at this;exact this)
   have hcap:=lZ w m 0 E (by omega);refine⟨_,_,_,by rw[Nat.zero_add];exact hrun,?_⟩;refine ((h0.drew.alloc _).lJ (0+m) _ i.size ([]++news) (by simpa using hl) (by omega) hcap.2 ?_ ?_)
   ·simp only[Array.size_append,List.size_toArray,jh,hzs,hl]
    rw[←Nat.add_mul];congr 1;omega
   ·simp[←hl]
  ·by_cases hroom:n+m≤c
   ·have hfit:n*i.size+news.length≤cur.size:=by rw[hl,hcs,←Nat.add_mul];exact Nat.mul_le_mul_right _ hroom
    have hrun:=run_append_room (P:=P) w t ty E i ht hi g n c cur hS.aO b m cc news hl hsrc h1 hroom hfit;refine⟨_,_,_,hrun,(hS.setRow _).lJ (n+m) c i.size (xs++news) (by rw[dM,hlen,hl,Nat.add_mul]) hroom hcm ?_ ?_⟩
    ·have:n*i.size≤cur.size:=by omega
     simp only[List.size_toArray,dM,List.length_take,List.length_drop,Array.length_toList];rw[←hcs];omega
    ·rw[htake,List.take_append_of_le_length (by rw[dM,hlen,hl,Nat.add_mul];omega),List.take_of_length_le (by rw[dM,hlen,hl,Nat.add_mul];omega)]
   ·have hrun:=run_append_grow (P:=P) w t ty E i z ht hi hz ⟨g,0,none⟩ n c xs hlen (fun j u hu=>by
     obtain⟨g',e,hc⟩:=h.Ah (fun e=>by rw[e] at hu;simp at hu);cases e;have:=hc j u hu;unfold Addr.add;split
     ·rename_i e;subst e;exact this
     ·simpa using this) b m cc news hl hsrc (by omega) (by omega) (fits c (by omega))
    have hcap:=lZ w (n+m) c E h63;refine⟨_,_,_,hrun,((hS.forget.drew).alloc _).lJ (n+m) _ i.size (xs++news) (by rw[dM,hlen,hl,Nat.add_mul]) hcap.1 hcap.2 ?_ ?_⟩
    ·simp only[Array.size_append,List.size_toArray,jh,hzs,hl,hlen]
     rw[←Nat.add_mul,←Nat.add_mul];congr 1;omega
    ·have:xs.length+news.length=(n+m)*i.size:=by rw[hlen,hl,Nat.add_mul]
     rw[←this,←dM];simp only[Array.toList_append,List.append_toArray,List.take_left]
theorem Au {o:Oper} {a:Act} {w w':World} {K:Act→World→Prop} {Q:Exit→Act→World→Prop} {v:Value} (h:(execOp a.eval o).run P w=.ok (.value v) w') (hK:K (a.put o.dst v) w'):o.wp P a w K Q:=by
 simp only[Oper.wp,h,Oper.upon];exact hK
theorem qg {a:Act} {o:Oper} (s x:Operand) (t t2:TypeId) (ho:o.op=.call { callee:=.builtin .append,args:=#[s,x],argTypes:=#[t,t2] }) {v:Value} {w':World}
 (hr:(Builtin.append_ #[t,t2] o.type #[a.eval s,a.eval x]).run P w=.ok v w'):(execOp a.eval o).run P w=.ok (.value v) w':=by
 simp[execOp,ho,resolve,invoke,builtin,hr]
theorem jS {o:Oper} {ac:Act} {K:Act→World→Prop} {Q:Exit→Act→World→Prop} (s y:Operand) (t:TypeId)
 (ho:o.op=.call { callee:=.builtin .append,args:=#[s,y],argTypes:=#[t,t] })
 (E k KN:Nat) (z:Value) (ht:P.underlying t=some (.slice E)) (hi:(P.info? E).map (fun i=>(i.zero,i.size,i.bytes))=some (some z,k,KN)) (hzs:z.cells.size=k)
 {a:Option Addr} {n c:Nat} {xs:List Value} (hs:ac.eval s=.slice a n c) (h:Sat W w (sep (aT E k a n c xs) A))
 {x:Option Addr} {m cc:Nat} (hy:ac.eval y=.slice x m cc) (news:List Value) (hl:news.length=m*k) (hx0:x=none→m=0) (hx:∀b,x=some b→∀j u,news[j]?=some u→w.cell? (b.add j)=some u)
 (h1:∀u∈news,u.oneCell'=true) (hby:(n+m)*KN≤140737488355328) (h63:n+m≤maxLen)
 (hK:∀a' c' w',Sat W w' (sep (aT E k a' (n+m) c' (xs++news)) A)→K (ac.put o.dst (.slice a' (n+m) c')) w'):o.wp P ac w K Q:=by
 obtain⟨i,hi1,hi2,hi3,hi4⟩:=info_parts hi;obtain⟨a',c',w',hr,hS⟩:=pq t o.type E k KN i z ht hi1 hi2 hi3 hi4 hzs h x m cc news hl hx0 hx h1 h63 hby;exact Au (qg s y t t ho (by rw[hs,hy];exact hr)) (hK _ _ _ hS)
theorem aK {ops:Array Oper} {rest:List Oper} {o:Oper} {ac:Act} {Q:Exit→Act→World→Prop} (hgd:o.guard=none) (s y:Operand) (t:TypeId)
 (ho:o.op=.call { callee:=.builtin .append,args:=#[s,y],argTypes:=#[t,t] })
 (E k KN:Nat) (z:Value) (ht:P.underlying t=some (.slice E)) (hi:(P.info? E).map (fun i=>(i.zero,i.size,i.bytes))=some (some z,k,KN)) (hzs:z.cells.size=k)
 {a:Option Addr} {n c:Nat} {xs:List Value} (hs:ac.eval s=.slice a n c) (h:Sat W w (sep (aT E k a n c xs) A))
 {x:Option Addr} {m cc:Nat} (hy:ac.eval y=.slice x m cc) (news:List Value) (hl:news.length=m*k) (hx0:x=none→m=0) (hx:∀b,x=some b→∀j u,news[j]?=some u→w.cell? (b.add j)=some u)
 (h1:∀u∈news,u.oneCell'=true) (hby:(n+m)*KN≤140737488355328) (h63:n+m≤maxLen)
 (hK:∀a' c' w',Sat W w' (sep (aT E k a' (n+m) c' (xs++news)) A)→wpList P ops Q rest (ac.put o.dst (.slice a' (n+m) c')) w'):wpList P ops Q (o::rest) ac w:=
 wpList_plain hgd fun _ hk=>jS s y t ho E k KN z ht hi hzs hs h hy news hl hx0 hx h1 hby h63 fun a' c' w' h'=>hk _ _ (hK a' c' w' h')
end
end
section
abbrev Kd:=Sum Bool (Option Bool)
abbrev Kd.e (b:Bool):Kd:=Sum.inl b
abbrev Kd.p:Kd:=Sum.inr none
abbrev Kd.s:Kd:=Sum.inr (some true)
abbrev Kd.t:Kd:=Sum.inr (some false)
def Kd.eff:Kd→Bool|.inl _=>true|.inr _=>false
def Td (P:Program) (ops:Array Oper) (o:Oper) (v:Value) (a:Act) (w:World):Prop:=
 (Region.wanted o (yielded ops a.tmps)=true∧(execOp a.eval o).run P w=.ok (.value v) w) ∨
 (Region.wanted o (yielded ops a.tmps)=false∧v=undef)
def Alk (ops:Array Oper) (o:Oper) (a b:Act):Prop:=execOp b.eval o=execOp a.eval o∧Region.wanted o (yielded ops b.tmps)=Region.wanted o (yielded ops a.tmps)
section
variable {P:Program} {ops:Array Oper} {Q:Exit→Act→World→Prop} {S:World→Prop}
theorem Td.alk {o:Oper} {v:Value} {a b:Act} {w:World} (h:Td P ops o v a w) (hk:Alk ops o a b):Td P ops o v b w:=by
 unfold Td at *;rw[hk.1,hk.2];exact h
theorem Td.wpOp {i:Nat} {o:Oper} {v:Value} {a:Act} {w:World} (hi:ops[i]?=some o) (hy:Td P ops o v a w) {K:Act→World→Prop} (h:K (a.put o.dst v) w):wpOp P ops Q i K a w:=by
 unfold Go.wpOp;simp only[hi];rcases hy with ⟨hw,hv⟩|⟨hw,rfl⟩
 ·simp only[hw,if_true,Oper.wp,hv,Oper.upon];exact .inl h
 ·simp only[hw,Bool.false_eq_true,if_false];exact h
theorem IG {j:Nat} {oi oj:Oper} {v:Value} (hj:ops[j]?=some oj) (hap:oi.apart ops oj=true)
 (hsi:∀cs b,oi.op≠.select cs b) (hsj:∀cs b,oj.op≠.select cs b)
 (hQ:∀c a d v w,Q (.panic c) (a.put d v) w→Q (.panic c) a w) {K:Act→World→Prop} {a:Act} {w:World}
 (h:wpOp P ops Q j K (a.put oi.dst v) w):
 wpOp P ops Q j (fun a' w'=>Alk ops oi a a'∧K (a'.put oi.dst v) w') a w:=by
 obtain⟨h1,h2,h3⟩:=Oper.apart_spec hap;have keep:∀u,Alk ops oi a (a.put oj.dst u):=fun u=>⟨execOp_put oi hsi a oj.dst u h3,wanted_put oi a oj.dst u h3⟩
 unfold wpOp at *;simp only[hj] at *;rw[wanted_put oj a oi.dst v h1] at h;split
 ·rename_i hw
  simp only[hw,if_true] at h;rcases h with h|⟨hasks,hlets⟩;case inr=>exact .inr ⟨by unfold Oper.asks at *;rw[execOp_put oj hsj a oi.dst v h1] at hasks;exact hasks,hlets⟩
  refine .inl ?_;unfold Oper.wp at *;rw[execOp_put oj hsj a oi.dst v h1] at h;generalize (execOp a.eval oj).run P w=r at *;cases r with
  | ok n w'=>
   cases n<;>simp only[Oper.upon] at h ⊢
   case value u=>exact⟨keep u,by rw[←Act.put_comm a v u h2];exact h⟩
   case skip=>exact⟨keep _,by rw[←Act.put_comm a v undef h2];exact h⟩
   case defer d=>
    refine⟨⟨execOp_put oi hsi { a with defers:=d::a.defers } oj.dst undef h3,wanted_put oi { a with defers:=d::a.defers } oj.dst undef h3⟩,?_⟩;rw[←Act.put_comm _ v undef h2,←Act.put_defers];exact h
   case enter f args=>
    refine Calls.mono h fun e w'' he=>?_
    cases e with
    | returned u=>exact⟨keep u,by rw[←Act.put_comm a v u h2];exact he⟩
    | panicked c=>exact hQ _ _ _ _ _ he
    | outgrown=>exact he
   case row row args=>exact Rows.mono h fun u w'' he=>⟨keep u,by rw[←Act.put_comm a v u h2];exact he⟩
  | halt x w'=>
   cases x<;>simp only[Oper.upon] at h ⊢
   case panic u=>exact hQ _ _ _ _ _ h
 ·rename_i hw
  simp only[hw] at h;exact⟨keep _,by rw[←Act.put_comm a v undef h2];exact h⟩
def wpC (P:Program) (ops:Array Oper) (Q:Exit→Act→World→Prop) (S:World→Prop):List (Nat×Kd)→Act→World→Prop
 | [],a,w=>Q .normal a w
 | (i,k)::l,a,w=>∃o,ops[i]?=some o∧match k with
  | .inr none=>∃v,(∀w',Td P ops o v a w')∧wpC P ops Q S l (a.put o.dst v) w
  | .inr (some true)=>S w∧∃v,(∀w',S w'→Td P ops o v a w')∧wpC P ops Q S l (a.put o.dst v) w
  | .inr (some false)=>∃v,Td P ops o v a w∧wpC P ops Q S l (a.put o.dst v) w
  | .inl b=>wpOp P ops Q i (fun a' w'=>(b=true→S w')∧wpC P ops Q S l a' w') a w
def mW (ops:Array Oper) (j r:Nat):Bool:=match ops[j]? with|some o=>o.after.any fun e=>Region.binds .any e&&e.on==r|none=>false
def gq (ops:Array Oper) (bf:Array Nat) (x y:Nat×Kd):Bool:=
 !mW ops x.1 y.1&&((bf.getD y.1 0).testBit x.1 ||
  (!x.2.eff&&(match ops[x.1]?,ops[y.1]? with|some o,some u=>o.apart ops u|_,_=>false) &&
   (match x.2,y.2 with|.inr (some false),.inl _=>false|.inr (some true),.inl b=>b|_,_=>true)))
def EG (ops:Array Oper) (bf:Array Nat):List (Nat×Kd)→Bool
 | []=>true
 | x::l=>l.all (gq ops bf x)&&!mW ops x.1 x.1&&EG ops bf l
def EF (ops:Array Oper):Bool:=ops.all fun o=>match o.op with|.select ..=>false|_=>true
def oU (ops:Array Oper) (bf:Array Nat):Bool:=
 (List.range ops.size).all fun j=>(List.range ops.size).all fun r=>!(bf.getD j 0).testBit r||mW ops j r||(List.range ops.size).any fun d=>mW ops j d&&(bf.getD d 0).testBit r
def nodupB:List Nat→Bool
 | []=>true
 | x::l=>!l.contains x&&nodupB l
theorem oQ:∀(l:List Nat),nodupB l=true→l.Nodup
 | [],_=>List.nodup_nil
 | x::l,h=>by
  simp only[nodupB,Bool.and_eq_true,Bool.not_eq_true'] at h;exact List.nodup_cons.2 ⟨by simpa using h.1,oQ l h.2⟩
def CO (ops:Array Oper) (bf:Array Nat) (l:List (Nat×Kd)):Bool:=
 EG ops bf l&&EF ops&&oU ops bf&&(l.map (·.1)).length==ops.size&&nodupB (l.map (·.1))&&(l.map (·.1)).all (fun i=>decide (i<ops.size))&&(List.range ops.size).all (fun i=>(l.map (·.1)).contains i) &&
 ops.all (fun o=>o.after.all fun e=>!Region.binds .any e||decide (e.on<ops.size))
theorem pull {j:Nat} {kj:Kd} {bf:Array Nat} (hsel:∀(j:Nat) (o:Oper) cs b,ops[j]?=some o→o.op≠.select cs b) (hQ:∀c a d v w,Q (.panic c) (a.put d v) w→Q (.panic c) a w) (l2:List (Nat×Kd)):
 ∀(l1:List (Nat×Kd)),(∀x∈l1,gq ops bf x (j,kj)=true∧(bf.getD j 0).testBit x.1=false)→∀(a:Act) (w:World),wpC P ops Q S (l1++(j,kj)::l2) a w →
  wpOp P ops Q j (fun a' w'=>wpC P ops Q S (l1++l2) a' w'∧(kj=.e true→S w')∧(kj.eff=false→w'=w)) a w
 | [],_,a,w,h=>by
  obtain⟨o,ho,h⟩:=h;rcases kj with b|_|_|_;case inr.none=>obtain⟨v,hy,h⟩:=h;exact (hy w).wpOp ho ⟨h,fun h=>(by cases h),fun _=>rfl⟩
  case inr.some.true=>obtain⟨hS,v,hy,h⟩:=h;exact (hy w hS).wpOp ho ⟨h,fun h=>(by cases h),fun _=>rfl⟩
  case inr.some.false=>obtain⟨v,hy,h⟩:=h;exact hy.wpOp ho ⟨h,fun h=>(by cases h),fun _=>rfl⟩
  case inl=>exact wpOp_mono (fun a' w' ⟨h1,h2⟩=>⟨h2,fun hb=>h1 (by cases hb;rfl),fun hb=>(by simp[Kd.eff] at hb)⟩) h
 | (r,kr)::l1,hl,a,w,h=>by
  obtain⟨o,ho,h⟩:=h;obtain⟨hp,hnd⟩:=hl (r,kr) (by simp);simp only[gq,hnd,Bool.false_or,Bool.and_eq_true,ho] at hp;obtain⟨_,⟨hne,hap⟩,hk⟩:=hp;cases hj:ops[j]? with
  | none=>simp[hj] at hap
  | some oj=>
   simp only[hj] at hap;have ih:=pull hsel hQ l2 l1 (fun x hx=>hl x (by simp[hx]));have go:∀(v:Value),wpC P ops Q S (l1++(j,kj)::l2) (a.put o.dst v) w →
    wpOp P ops Q j (fun a' w'=>Alk ops o a a'∧wpC P ops Q S (l1++l2) (a'.put o.dst v) w'∧(kj=.e true→S w')∧(kj.eff=false→w'=w)) a w:=fun v hv=>
    IG hj hap (fun cs b=>hsel r o cs b ho) (fun cs b=>hsel j oj cs b hj) hQ (ih _ _ hv)
   rcases kr with b|_|_|_;case inr.none=>
    obtain⟨v,hy,h⟩:=h;exact wpOp_mono (fun a' w' ⟨h1,h2,h3,h4⟩=>⟨⟨o,ho,v,fun w'=>(hy w').alk h1,h2⟩,h3,h4⟩) (go v h)
   case inr.some.true=>
    obtain⟨hS,v,hy,h⟩:=h;refine wpOp_mono (fun a' w' ⟨h1,h2,h3,h4⟩=>⟨⟨o,ho,?_,v,fun w' hw'=>(hy w' hw').alk h1,h2⟩,h3,h4⟩) (go v h);rcases kj with b|_
    ·exact h3 (by simp at hk;rw[hk])
    ·rw[h4 rfl];exact hS
   case inr.some.false=>
    obtain⟨v,hy,h⟩:=h;refine wpOp_mono (fun a' w' ⟨h1,h2,h3,h4⟩=>⟨⟨o,ho,v,?_,h2⟩,h3,h4⟩) (go v h);rcases kj with b|_
    ·simp at hk
    ·rw[h4 rfl];exact hy.alk h1
   case inl=>simp[Kd.eff] at hne
theorem getD_set_ne (l:Array Bool) (i j:Nat) (x y:Bool) (h:i≠j):(l.setIfInBounds j x).getD i y=l.getD i y:=by
 rw[Array.getD_eq_getD_getElem?,Array.getD_eq_getD_getElem?,Array.getElem?_setIfInBounds_ne (Ne.symm h)]
structure InvC (ops:Array Oper) (bf:Array Nat) (listed:Array Bool) (l:List (Nat×Kd)):Prop where
 size:listed.size=ops.size
 mem:∀i,i∈l.map (·.1)↔i<ops.size∧listed.getD i true=false
 nodup:(l.map (·.1)).Nodup
 pair:l.Pairwise fun x y=>gq ops bf x y=true
 self:∀x∈l,mW ops x.1 x.1=false
 closed:∀d r,r<ops.size→listed.getD d false=true→(bf.getD d 0).testBit r=true→listed.getD r false=true
theorem Le {bf:Array Nat} (hsel:∀(j:Nat) (o:Oper) cs b,ops[j]?=some o→o.op≠.select cs b) (hQ:∀c a d v w,Q (.panic c) (a.put d v) w→Q (.panic c) a w)
 (hbf:oU ops bf=true) (hon:∀(j:Nat) (o:Oper),ops[j]?=some o→∀e∈o.after,Region.binds .any e=true→e.on<ops.size):
 ∀(n:Nat) (l:List (Nat×Kd)) (listed:Array Bool),l.length=n→InvC ops bf listed l→∀(a:Act) (w:World),wpC P ops Q S l a w→wpAny P .any ops Q n listed a w:=by
 have Wn:∀(listed:Array Bool) (i:Nat),listed.size=ops.size→i<ops.size→(listed.getD i false=true↔¬listed.getD i true=false):=fun listed i hs hi=>by
  simp[Array.getD,hs,hi]
 have nil:∀(listed:Array Bool),InvC ops bf listed []→Region.ready .any ops listed=[]:=fun listed hI=>by
  simp only[Region.ready,List.filter_eq_nil_iff,List.mem_range];intro i hi;have h':¬listed.getD i true=false:=fun hh=>by have:=(hI.mem i).2 ⟨hi,hh⟩;simp at this
  have h'':listed.getD i true=true:=by simpa using h'
  simp[h'']
 intro n
 induction n with
 | zero=>
  intro l listed hn hI a w h;obtain rfl:=Ju hn;exact⟨nil _ hI,h⟩
 | succ n ih=>
  intro l listed hn hI a w h;refine⟨fun hr=>?_,fun j hj=>?_⟩
  ·match l,hn with
   | x::l,_=>
    exfalso;have hx:=(hI.mem x.1).1 (by simp);obtain⟨o,ho,_⟩:=h;have hmem:x.1∈Region.ready .any ops listed:=by
     simp only[Region.ready,List.mem_filter,List.mem_range];refine⟨hx.1,?_⟩;have:listed.getD x.1 true=false:=hx.2;simp only[this,Bool.not_false,Bool.true_and,ho,Option.map_some,Option.getD_some];rw[Array.all_eq_true];intro k hk;have hmem:=Array.getElem_mem hk;by_cases hb:Region.binds .any o.after[k]=true
     ·have hlt:=hon x.1 o ho _ hmem hb
      have PZ:mW ops x.1 o.after[k].on=true:=by
       simp only[mW,ho,Array.any_eq_true];exact⟨k,hk,by simp[hb]⟩
      have hnot:o.after[k].on∉(x::l).map (·.1):=by
       intro hm;simp only[mM,List.mem_cons,List.mem_map] at hm;rcases hm with hm|⟨y,hy,hm⟩
       ·have:=hI.self x (by simp)
        rw[←hm] at this;rw[←hm] at PZ;rw[PZ] at this;cases this
       ·have:=(List.pairwise_cons.1 hI.pair).1 y hy
        simp only[gq,Bool.and_eq_true,Bool.not_eq_true',hm,PZ] at this;exact absurd this.1 (by simp)
      have h2:¬listed.getD o.after[k].on true=false:=fun e=>hnot ((hI.mem _).2 ⟨hlt,e⟩)
      have:=(Wn listed _ hI.size hlt).2 h2;simp[this]
     ·simp[hb]
    rw[hr] at hmem;cases hmem
  ·simp only[Region.ready,List.mem_filter,List.mem_range,Bool.and_eq_true,Bool.not_eq_true'] at hj
   obtain⟨hjs,hjl,hja⟩:=hj;have hjm:=(hI.mem j).2 ⟨hjs,hjl⟩;obtain⟨y,hy,rfl⟩:=List.mem_map.1 hjm;obtain⟨l1,l2,rfl⟩:=List.append_of_mem hy;obtain⟨j,kj⟩:=y;cases hoj:ops[j]? with
   | none=>simp[hoj] at hja
   | some oj=>
    simp only[hoj,Option.map_some,Option.getD_some] at hja;have MJ:∀d,mW ops j d=true→listed.getD d false=true:=fun d hd=>by
     simp only[mW,hoj,Array.any_eq_true] at hd;obtain⟨k,hk,hd⟩:=hd;simp only[Bool.and_eq_true,beq_iff_eq] at hd;rw[Array.all_eq_true] at hja;have:=hja k hk;rw[hd.1] at this;simpa[hd.2] using this
    have hbl:∀r,r<ops.size→(bf.getD j 0).testBit r=true→listed.getD r false=true:=fun r hr hb=>by
     simp only[oU,List.all_eq_true,List.mem_range] at hbf;have:=hbf j hjs r hr;simp only[hb,Bool.not_true,Bool.false_or,Bool.or_eq_true,List.any_eq_true,List.mem_range,Bool.and_eq_true] at this;rcases this with h|⟨d,_,h1,h2⟩
     ·exact MJ r h
     ·exact hI.closed d r hr (MJ d h1) h2
    have hnotin:∀x∈l1,(bf.getD j 0).testBit x.1=false:=fun x hx=>by
     have hxm:=(hI.mem x.1).1 (by simp;exact .inl ⟨x.2,hx⟩);cases hb:(bf.getD j 0).testBit x.1 with
     | false=>rfl
     | true=>exact absurd hxm.2 ((Wn listed x.1 hI.size hxm.1).1 (hbl x.1 hxm.1 hb))
    have hpw:=List.pairwise_append.1 hI.pair;refine wpOp_mono (fun a' w' ⟨h1,_,_⟩=>ih (l1++l2) (listed.setIfInBounds j true) ?_ ?_ a' w' h1) (pull hsel hQ l2 l1 (fun x hx=>⟨hpw.2.2 x hx (j,kj) (by simp),hnotin x hx⟩) a w h)
    ·simp at hn ⊢;omega
    ·have hnd:=hI.nodup
     simp only[qy,mM,List.nodup_append,List.nodup_cons,List.mem_cons] at hnd;refine⟨by simp[hI.size],fun i=>?_,?_,?_,fun x hx=>hI.self x (by simp at hx ⊢;rcases hx with h|h<;>simp[h]),?_⟩
     ·have:=hI.mem i
      simp only[qy,mM,List.mem_append,List.mem_cons] at this ⊢;by_cases e:i=j
      ·subst e
       constructor
       ·rintro (hi|hi)
        ·exact absurd rfl (hnd.2.2 i hi i (.inl rfl))
        ·exact absurd hi hnd.2.1.1
       ·rintro⟨h1,h2⟩
        simp[Array.getD,hI.size,h1] at h2
      ·have hg:(listed.setIfInBounds j true).getD i true=listed.getD i true:=getD_set_ne _ _ _ _ _ e
       rw[hg,←this];simp[e]
     ·simp only[qy,List.nodup_append]
      exact⟨hnd.1,hnd.2.1.2,fun x hx y hy=>hnd.2.2 x hx y (.inr hy)⟩
     ·refine List.pairwise_append.2 ⟨hpw.1,(List.pairwise_cons.1 hpw.2.1).2,fun x hx y hy=>hpw.2.2 x hx y (by simp[hy])⟩
     ·intro d r hr hd hb
      by_cases e:r=j
      ·subst e;simp[Array.getD,hI.size,hr]
      ·have hg:(listed.setIfInBounds j true).getD r false=listed.getD r false:=getD_set_ne _ _ _ _ _ e
       rw[hg];by_cases e2:d=j
       ·subst e2;exact hbl r hr hb
       ·have hg2:(listed.setIfInBounds j true).getD d false=listed.getD d false:=getD_set_ne _ _ _ _ _ e2
        rw[hg2] at hd;exact hI.closed d r hr hd hb
theorem xY {bf:Array Nat}:∀(l:List (Nat×Kd)),EG ops bf l=true→(l.Pairwise fun x y=>gq ops bf x y=true)∧∀x∈l,mW ops x.1 x.1=false
 | [],_=>⟨.nil,fun _ h=>(by cases h)⟩
 | x::l,h=>by
  simp only[EG,Bool.and_eq_true,List.all_eq_true,Bool.not_eq_true'] at h;have ih:=xY l h.2;refine⟨List.pairwise_cons.2 ⟨h.1.1,ih.1⟩,fun y hy=>?_⟩;rcases List.mem_cons.1 hy with rfl|hy
  ·exact h.1.2
  ·exact ih.2 y hy
theorem aG {id:Nat} {a:Act} {w:World} (hm:P.follows .mixedOrders=true) (S:World→Prop) (l:List (Nat×Kd)) (hok:CO ops (Region.before ops) l=true)
 (h:wpC P ops (NoPanic Q) S l a w.drew):(Code.region id ops true).wp P Q a w:=by
 simp only[CO,Bool.and_eq_true] at hok;obtain⟨⟨⟨⟨⟨⟨⟨h1,h2⟩,h3⟩,h4⟩,h7⟩,h8⟩,h5⟩,h6⟩:=hok;have hlen:l.length=ops.size:=by simpa using h4
 have hall:∀i,i<ops.size→i∈l.map (·.1):=fun i hi=>by
  simp only[List.all_eq_true,List.mem_range] at h5;simpa using h5 i hi
 have hback:∀i,i∈l.map (·.1)→i<ops.size:=fun i hi=>by
  rw[List.all_eq_true] at h8;simpa using h8 i hi
 have hp:=xY l h1;refine wp_region_noPanic (wp_region_any hm ?_);refine Le (bf:=Region.before ops) (S:=S) ?_ ?_ h3 ?_ ops.size l _ hlen ?_ a w.drew h
 ·intro j o cs b ho hsel
  simp only[EF,Array.all_eq_true] at h2;obtain⟨hj,rfl⟩:=Array.getElem?_eq_some_iff.1 ho;have:=h2 j hj;rw[hsel] at this;cases this
 ·intro c a d v w hh;exact hh
 ·intro j o ho e he hb
  obtain⟨hj,rfl⟩:=Array.getElem?_eq_some_iff.1 ho;rw[Array.all_eq_true] at h6;have:=h6 j hj;rw[Array.all_eq_true] at this;obtain⟨k,hk,rfl⟩:=Array.mem_iff_getElem.1 he;have:=this k hk;simpa[hb] using this
 ·refine⟨by simp,fun i=>⟨fun hi=>?_,fun hi=>hall i hi.1⟩,oQ _ h7,hp.1,hp.2,fun d r _ hd=>?_⟩
  ·have:=hback i hi
   exact⟨this,by simp[Array.getD,this]⟩
  ·exfalso
   simp only[Array.getD,Array.size_replicate] at hd;split at hd<;>simp at hd
end
end
section
section
variable {P:Program} {ops:Array Oper} {Q:Exit→Act→World→Prop} {S:World→Prop} {i:Nat} {l:List (Nat×Kd)} {a:Act} {w:World} {o:Oper} {v:Value}
theorem C_p (ho:ops.toList[i]?=some o) (hg:Region.wanted o (yielded ops a.tmps)=true) (hv:∀w',(execOp a.eval o).run P w'=.ok (.value v) w') (h:wpC P ops Q S l (a.put o.dst v) w):wpC P ops Q S ((i,.p)::l) a w:=
 have ho':=(Array.getElem?_toList (xs:=ops) (i:=i)).symm.trans ho
 ⟨o,ho',v,fun w'=>.inl ⟨hg,hv w'⟩,h⟩
theorem C_s (ho:ops.toList[i]?=some o) (hg:Region.wanted o (yielded ops a.tmps)=true) (hS:S w) (hv:∀w',S w'→(execOp a.eval o).run P w'=.ok (.value v) w') (h:wpC P ops Q S l (a.put o.dst v) w):wpC P ops Q S ((i,.s)::l) a w:=
 have ho':=(Array.getElem?_toList (xs:=ops) (i:=i)).symm.trans ho
 ⟨o,ho',hS,v,fun w' hw=>.inl ⟨hg,hv w' hw⟩,h⟩
theorem C_t (ho:ops.toList[i]?=some o) (hg:Region.wanted o (yielded ops a.tmps)=true) (hv:(execOp a.eval o).run P w=.ok (.value v) w) (h:wpC P ops Q S l (a.put o.dst v) w):wpC P ops Q S ((i,.t)::l) a w:=
 have ho':=(Array.getElem?_toList (xs:=ops) (i:=i)).symm.trans ho
 ⟨o,ho',v,.inl ⟨hg,hv⟩,h⟩
theorem C_po (ho:ops.toList[i]?=some o) (hg:Region.wanted o (yielded ops a.tmps)=false) (h:wpC P ops Q S l (a.put o.dst undef) w):wpC P ops Q S ((i,.p)::l) a w:=
 have ho':=(Array.getElem?_toList (xs:=ops) (i:=i)).symm.trans ho
 ⟨o,ho',undef,fun _=>.inr ⟨hg,rfl⟩,h⟩
theorem C_so (ho:ops.toList[i]?=some o) (hg:Region.wanted o (yielded ops a.tmps)=false) (hS:S w) (h:wpC P ops Q S l (a.put o.dst undef) w):wpC P ops Q S ((i,.s)::l) a w:=
 have ho':=(Array.getElem?_toList (xs:=ops) (i:=i)).symm.trans ho
 ⟨o,ho',hS,undef,fun _ _=>.inr ⟨hg,rfl⟩,h⟩
theorem C_to (ho:ops.toList[i]?=some o) (hg:Region.wanted o (yielded ops a.tmps)=false) (h:wpC P ops Q S l (a.put o.dst undef) w):wpC P ops Q S ((i,.t)::l) a w:=
 have ho':=(Array.getElem?_toList (xs:=ops) (i:=i)).symm.trans ho
 ⟨o,ho',undef,.inr ⟨hg,rfl⟩,h⟩
theorem C_eo {b:Bool} (ho:ops.toList[i]?=some o) (hg:Region.wanted o (yielded ops a.tmps)=false) (hS:b=true→S w) (h:wpC P ops Q S l (a.put o.dst undef) w):wpC P ops Q S ((i,.e b)::l) a w:=
 have ho':=(Array.getElem?_toList (xs:=ops) (i:=i)).symm.trans ho
 ⟨o,ho',by unfold wpOp;simp only[ho',hg,Bool.false_eq_true,if_false];exact⟨hS,h⟩⟩
theorem jJ {b:Bool} (ho:ops.toList[i]?=some o) (hg:Region.wanted o (yielded ops a.tmps)=true)
 (h:∀K:Act→World→Prop,(∀a w,(b=true→S w)→wpC P ops Q S l a w→K a w)→o.wp P a w K Q):wpC P ops Q S ((i,.e b)::l) a w:=
 have ho':=(Array.getElem?_toList (xs:=ops) (i:=i)).symm.trans ho
 ⟨o,ho',by unfold wpOp;simp only[ho',hg,if_true];exact .inl (h _ fun _ _ h1 h2=>⟨h1,h2⟩)⟩
theorem dJ (h:Q .normal a w):wpC P ops (NoPanic Q) S [] a w:=h
end
end
theorem bG {G G2:Prop} (h:G2) (f:G2→G:=by intro hZ;(repeat ((first|(refine C_p (v:=?_) rfl rfl (fun w'=>?_) ?_;rotate_left;(go_simp;with_reducible rfl))|(refine C_s (v:=?_) rfl rfl hS0 (fun w' hS=>?_) ?_;rotate_left;((try dsimp only at hS);go_simp;with_reducible rfl))|(refine C_t (v:=?_) rfl rfl ?_ ?_;rotate_left;(go_simp;with_reducible rfl))|(refine C_po rfl rfl ?_)|(refine C_so rfl rfl hS0 ?_)|(refine C_to rfl rfl ?_));simp only[Act.put,lsA,lsB,lq]));exact hZ):G:=f h
theorem dY {G G2:Prop} (h:G2) (f:G2→G:=by intro hZ;(refine hK _ _ (fun h=>by cases h) ?_;(try simp only[Act.put,lsA,lsB,lq]));exact hZ):G:=f h
end PA
