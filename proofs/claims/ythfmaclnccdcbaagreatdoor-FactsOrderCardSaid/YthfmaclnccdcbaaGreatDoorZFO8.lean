/- Part of a proof. -/
import Derived.Test.YthfmaclnccdcbaaGreatDoorZFO7
namespace PA
open Go
section
def Qg (a b:Rt):Bool:=decide (a.n*b.d<b.n*a.d)
def fD (r:Rt):Bool:=okR r&&(decide (r.n≤1073741824)&&(decide (-1073741824≤r.n)&&decide (r.d≤32768)))
def Iv.lw (x:Iv):Rt:=⟨x.ln,x.ld⟩
def Iv.up (x:Iv):Rt:=⟨x.hn,x.hd⟩
def zR (r:Rt):Bool:=r.n==0&&r.d==0
def eqR (a b:Rt):Bool:=a.n==b.n&&a.d==b.d
def ig (x:Iv):Bool:=
 if ((x.li&&(!zR x.lw||x.lo))||(x.hi&&(!zR x.up||x.ho)))=true then false
 else if ((!x.li&&!fD x.lw)||(!x.hi&&!fD x.up))=true then false
 else if (x.li||x.hi)=true then true
 else if eqR x.lw x.up=true then !x.lo&&!x.ho else Qg x.lw x.up
def rX (a b:Iv):Bool:=
 if (a.hi||b.li)=true then false
 else if eqR a.up b.lw=true then a.ho&&b.lo else Qg a.up b.lw
def tZ (l:List Iv) (j:Nat):Bool:=
 match l[j]? with
 | none=>true
 | some x=>ig x&&(match j with|0=>true|j'+1=>match l[j']? with|none=>true|some y=>rX y x)
def BU (l:List Iv) (n:Nat):Bool:=(List.range n).all (tZ l)
theorem Ap (l:List Iv):BU l 0=true:=rfl
theorem rJ (l:List Iv) (n:Nat):BU l (n+1)=(BU l n&&tZ l n):=by
 unfold BU;rw[List.range_succ,List.all_append];simp
theorem uY {l:List Iv} {n i:Nat} (hi:i<n) (h:tZ l i=false):BU l n=false:=by
 unfold BU;rw[List.all_eq_false];exact⟨i,List.mem_range.2 hi,by rw[h];decide⟩
def KO (l:List Iv):Int:=if BU l l.length=false then 1 else if 32<l.length then 4 else 0
def rU (l:List Iv):Bool:=decide (KO l=0)
def qF (l:List Int) (i:Nat) (k:Nat):Bool:=
 match l[k]? with
 | none=>true
 | some r=>decide (0≤r)&&(decide (r<(i:Int))&&(match k with|0=>true|k'+1=>match l[k']? with|none=>true|some q=>decide (q<r)))
def tV (l:List Int) (i n:Nat):Bool:=(List.range n).all (qF l i)
theorem yg (l:List Int) (i:Nat):tV l i 0=true:=rfl
theorem o8 (l:List Int) (i n:Nat):tV l i (n+1)=(tV l i n&&qF l i n):=by
 unfold tV;rw[List.range_succ,List.all_append];simp
theorem Aj {l:List Int} {i n k:Nat} (hk:k<n) (h:qF l i k=false):tV l i n=false:=by
 unfold tV;rw[List.all_eq_false];exact⟨k,List.mem_range.2 hk,by rw[h];decide⟩
def kK (l:List Int) (i:Nat):Bool:=tV l i l.length
theorem Ak {l:List Int} {i:Nat} (h:kK l i=true):∀r∈l,0≤r∧r<(i:Int):=by
 intro r hr;obtain⟨k,hk,rfl⟩:=List.mem_iff_getElem.1 hr;unfold kK tV at h;have:=List.all_eq_true.1 h k (List.mem_range.2 hk);unfold qF at this;rw[iM hk] at this;simp only[Bool.and_eq_true,decide_eq_true_eq] at this;exact⟨this.1,this.2.1⟩
def kQ (f:Fm):Int:=f.valid rU
def rZ:Nat→List Cl→Int
 | _,[]=>0
 | i,c::l=>if 8<c.refs.length then 4 else if kK c.refs i=false then 1 else if kQ c.body≠0 then kQ c.body else rZ (i+1) l
def qQ (l:List Cl):Int:=if 32<l.length then 4 else rZ 0 l
theorem Rq:∀(l:List Cl) (i:Nat),rZ i l=0→∀(k:Nat) (hk:k<l.length),l[k].refs.length≤8∧kK l[k].refs (i+k)=true∧kQ l[k].body=0
 | c::l,i,h,k,hk=>by
  unfold rZ at h;split at h
  ·cases h
  ·rename_i h1
   split at h
   ·cases h
   ·rename_i h2
    split at h
    ·rename_i h3;exact absurd h h3
    ·rename_i h3
     cases k with
     | zero=>exact⟨by simpa using h1,by simpa using h2,by simpa using h3⟩
     | succ k=>
      have:=Rq l (i+1) h k (by simpa using hk);simp only[List.getElem_cons_succ];rw[show i+(k+1)=i+1+k by omega];exact this
theorem uG {l:List Cl} (h:qQ l=0):l.length≤32∧∀(k:Nat) (hk:k<l.length),l[k].refs.length≤8∧kK l[k].refs k=true∧kQ l[k].body=0:=by
 unfold qQ at h;split at h
 ·cases h
 ·rename_i h1
  refine⟨by omega,fun k hk=>?_⟩;have:=Rq l 0 h k hk
  rwa [Nat.zero_add] at this
mutual
def Fm.dO:Fm→List Fm
 | .mk o n i k=>if o=5 then Fm.aZ k else [.mk o n i k]
def Fm.aZ:List Fm→List Fm
 | []=>[]
 | f::l=>Fm.dO f++Fm.aZ l
end
def Fm.parts (f:Fm):List Fm:=if f.op=4 then f.kids else [f]
theorem Fm.FH:∀(l:List Fm) (f:Fm),Fm.aZ (l++[f])=Fm.aZ l++Fm.dO f
 | [],f=>by simp[Fm.aZ]
 | g::l,f=>by rw[pV,Fm.aZ,Fm.aZ,Fm.FH l f,kZ]
theorem Fm.FI (l:List Fm) (i:Nat) (hi:i<l.length):Fm.aZ (l.take (i+1))=Fm.aZ (l.take i)++Fm.dO l[i]:=by
 rw[List.take_succ_eq_append_getElem hi,Fm.FH]
def fC (a b:Fm):Fm:=.mk 4 0 [] (a.parts++b.parts)
def eX:List Fm→List Fm→Option (List Fm)
 | [],_=>some []
 | a::x,t=>if (t.all fun b=>decide (kQ (fC a b)=0))=true then (eX x t).map (t.map (fC a)++·) else none
def eH (of:Nat→Option (List Fm)) (own:List Fm):List Int→List Fm→Option (List Fm)
 | [],out=>some out
 | r::rs,out=>
  match of r.toNat with
  | none=>none
  | some x=>if 64<out.length+x.length*own.length then none else
   match eX x own with
   | none=>none
   | some y=>eH of own rs (out++y)
def tX (of:Nat→Option (List Fm)) (c:Cl):Option (List Fm):=
 if c.refs=[] then (if c.body.dO.length≤64 then some c.body.dO else none) else eH of c.body.dO c.refs []
def fU (l:List Cl) (k:Nat):Option (List Fm):=
 match l[k]? with
 | none=>none
 | some c=>tX (fun r=>if r<k then fU l r else none) c
termination_by k
theorem lF:∀{x t y:List Fm},eX x t=some y→y.length=x.length*t.length
 | [],t,y,h=>by cases h;simp
 | a::x,t,y,h=>by
  unfold eX at h;split at h
  ·cases hc:eX x t with
   | none=>rw[hc] at h;cases h
   | some z=>
    rw[hc] at h;cases h;rw[dM,List.length_map,lF hc,oP,Nat.add_mul];omega
  ·cases h
theorem AQ {of:Nat→Option (List Fm)} {own:List Fm}:∀{rs:List Int} {out y:List Fm},out.length≤64→eH of own rs out=some y→y.length≤64
 | [],out,y,h0,h=>by cases h;exact h0
 | r::rs,out,y,h0,h=>by
  unfold eH at h;split at h
  ·cases h
  ·split at h
   ·cases h
   ·rename_i h1
    split at h
    ·cases h
    ·rename_i z hz
     have hl:=lF hz;exact AQ (by rw[dM,hl];omega) h
theorem yF {l:List Cl} {k:Nat} {y:List Fm} (h:fU l k=some y):y.length≤64:=by
 unfold fU at h;split at h
 ·cases h
 ·unfold tX at h
  split at h
  ·split at h
   ·cases h;assumption
   ·cases h
  ·exact AQ (by simp) h
def lI:List Fm→Int
 | []=>0
 | f::l=>if kQ f≠0 then kQ f else lI l
def jZ (l:List Cl):Nat→Option Nat
 | 0=>some 0
 | n+1=>match jZ l n with
  | none=>none
  | some s=>match fU l n with
   | none=>none
   | some y=>some (s+y.length)
def FT (td:List Fm) (tc:List Cl):Int:=
 if 16<td.length then 4 else if lI td≠0 then lI td else if qQ tc≠0 then qQ tc else
  match jZ tc tc.length with
  | none=>4
  | some s=>if 128<(Fm.aZ td).length+s then 4 else 0
def aP (n lo hi:Int):Bool:=decide (lo≤n)&&decide (n≤hi)
def bT (k:Int):Bool:=decide (k≠5)&&(decide (k≠19)&&(decide (k≠20)&&decide (k≠21)))
def ku (x:Pa):Pa:=
 { x with
  f:=if bT x.k=true then 0 else x.f
  o:=if x.k=0∨x.k=20∨x.k=21 then 0 else x.o
  p:=if x.k=0∨x.k=4∨x.k=5∨x.k=12∨x.k=14∨x.k=16∨x.k=17 then 0 else x.p
  q:=if x.k=0∨x.k=4∨x.k=13∨x.k=16∨x.k=17 then 0 else x.q
  u:=if x.k=4∨x.k=5∨x.k=6∨x.k=7∨x.k=8∨x.k=9∨x.k=13∨x.k=17∨x.k=18∨x.k=20∨x.k=21 then 0 else x.u
  m:=if x.k=4∨x.k=8∨x.k=21 then 0 else x.m
  sn:=if x.k=16 then 0 else x.sn
  sd:=if x.k=16 then 0 else x.sd
  td:=if x.k=0 then [] else x.td
  tc:=if x.k=0 then [] else x.tc
  cl:=if x.k=3∨x.k=15∨(x.k=13∧x.u=2) then [] else x.cl
  ea:=if x.k=0 then [] else x.ea
  fx:=if x.k=19 then Fm.zero else x.fx }
def iH (x:Pa):Bool:=
 decide (x.f=0)&&(decide (x.o=0)&&(decide (x.p=0)&&(decide (x.q=0)&&(decide (x.u=0)&&(decide (x.m=0)&&(decide (x.sn=0)&&(decide (x.sd=0) &&
 (decide (x.fx.op=0)&&(decide (x.fx.num=0)&&(decide (x.fx.ins.length=0)&&(decide (x.fx.kids.length=0) &&
 (decide (x.td.length=0)&&(decide (x.tc.length=0)&&(decide (x.cl.length=0)&&decide (x.ea.length=0)))))))))))))))
def Jf (f:Int) (l:List Ea) (j:Nat):Bool:=
 match l[j]? with
 | none=>true
 | some e=>aP e.file 0 4095&&(decide (e.file≠f)&&(aP e.day 0 131072&&!((l.take j).any fun g=>decide (g.file=e.file))))
def mX (f:Int) (l:List Ea) (n:Nat):Bool:=(List.range n).all (Jf f l)
theorem Hf (f:Int) (l:List Ea) (n:Nat):mX f l (n+1)=(mX f l n&&Jf f l n):=by
 unfold mX;rw[List.range_succ,List.all_append];simp
theorem LW {f:Int} {l:List Ea} {n i:Nat} (hi:i<n) (h:Jf f l i=false):mX f l n=false:=by
 unfold mX;rw[List.all_eq_false];exact⟨i,List.mem_range.2 hi,by rw[h];decide⟩
def qm (x:Pa):Bool:=
 if aP x.o 0 11=false∨aP x.p 1 4095=false∨aP x.q (-1) 4095=false∨x.q=x.f∨8<x.ea.length∨FT x.td x.tc≠0 then false else mX x.f x.ea x.ea.length
def gZ (l:List Cl):Bool:=decide (0<l.length)&&decide (qQ l=0)
def oZ (x:Pa):Bool:=aP x.p 1 4095&&(aP x.q 1 4095&&decide (x.p≠x.q))
def jB (x:Pa):Bool:=aP x.u x.d 131072
def nK (n d:Int):Bool:=okR ⟨n,d⟩&&(decide (0<n)&&decide (n≤d))
def aQ (x:Pa):Bool:=
 if x.k=0 then qm x
 else if x.k=3∨x.k=15 then gZ x.cl
 else if x.k=4 then aP x.p 1 4095&&((aP x.u 0 5||aP x.u 7 66)&&(aP x.q 0 7&&aP x.m 1 1099511627776))
 else if x.k=5 then aP x.p 1 4095&&aP x.u 0 1
 else if x.k=6∨x.k=7 then aP x.u 0 255
 else if x.k=8 then aP x.u 0 255&&aP x.m 1 12
 else if x.k=9 then jB x
 else if x.k=12∨x.k=14 then aP x.p 1 4095
 else if x.k=13 then aP x.u 0 2&&(aP x.q 0 1&&(decide (x.u≠2)||gZ x.cl))
 else if x.k=16 then oZ x&&nK x.sn x.sd
 else if x.k=17 then oZ x&&jB x
 else if x.k=18 then aP x.u 0 7
 else if x.k=19 then decide (kQ x.fx=0)
 else if x.k=20 then aP x.o 0 11&&jB x
 else if x.k=21 then aP x.o 0 11&&(aP x.u 0 18&&aP x.m 0 1099511627776)
 else true
def bC (x:Pa):Bool:=
 aP x.k 0 21&&(aP x.d 0 131072&&(aP x.n 0 1099511627776&&(aP x.f 0 4095&&(iH (ku x)&&aQ x))))
end
theorem JA (n d:Int):okR ⟨n,d⟩=true↔1≤d∧d≤1048576∧n≤1099511627776∧-1099511627776≤n∧Nat.gcd n.natAbs d.natAbs=1:=by
 constructor
 ·intro h
  have hr:=(oV h).1;exact⟨hr.d1,hr.d2,hr.n2,hr.n1,Xb n d (by have:=hr.d1;simp only at this;omega) h⟩
 ·rintro⟨h1,h2,h3,h4,h5⟩
  exact uS n d h1 h2 (by omega) h5
end PA
namespace Go.Proofs.YthfmaclnccdcbaaGreatDoor
open Go.RowKit PA
set_option maxHeartbeats 1000000 in
theorem JK {W w:World} {A:aB} (a b:Int) (ha:a.natAbs≤4611686018427387904) (hb:b.natAbs≤4611686018427387904) (h:Sat W w A):
 Calls Tryz.prog 166 #[.int .i64 a,.int .i64 b] w fun e w'=>e=.returned (.int .i64 (Nat.gcd a.natAbs b.natAbs:Nat))∧Sat W w' A:=by
 obtain⟨g,hg⟩:=aC (Nat.gcd a.natAbs b.natAbs);rw[←hg];have HG:=ah hg;clear hg;go_enter Tryz.func166,Tryz.ntmps166;go_wp2;go_loopw [0,1] (fun av bv wr=>∃x y:Int,av=.int .i64 x∧bv=.int .i64 y∧x.natAbs≤4611686018427387904∧y.natAbs≤4611686018427387904∧Hid (Nat.gcd x.natAbs y.natAbs=g)∧Sat W wr A) (fun _ bv _=>(intOf bv).natAbs)
 case atStart=>exact⟨a,b,rfl,rfl,ha,hb,ah HG.out.symm,h⟩
 case round=>
  obtain⟨x,y,rfl,rfl,hx,hy,UR,hS⟩:=hrel;by_cases h0:y=0
  ·subst h0
   have hxg:x.natAbs=g:=by rw[←UR.out];simp
   have HGG:=ah hxg;by_cases hneg:x<0
   ·have ew:-x=(g:Int):=by omega
    clear hxg HG ha hb h;go_wp2;go_ret;exact⟨by simp,hS⟩
   ·have ew:x=(g:Int):=by omega
    clear hxg HG ha hb h;go_wp2;go_ret;exact⟨rfl,hS⟩
  ·obtain⟨z,hz⟩:∃z,z=Int.tmod x y:=⟨_,rfl⟩
   have hm:Int.tmod x y=z:=hz.symm;have hzn:z.natAbs=x.natAbs % y.natAbs:=by rw[hz,Int.natAbs_tmod]
   have hzl:z.natAbs<y.natAbs:=by rw[hzn];exact Nat.mod_lt _ (by omega)
   have hyx:(y==0)=false:=by simpa using h0
   have HZ:=ah hzn;clear hz hzn ha hb h;go_wp2;refine aG rfl (fun _=>True) [(0,.p),(1,.p),(2,.p),(3,.p),(4,.p),(5,.p)] (by kernel_rfl) ?_;have hS0:True:=trivial;refine bG ?_;refine dJ ?_;go_wp2;go_roundw;case rel=>exact⟨y,z,rfl,rfl,hy,by omega,ah (by rw[HZ.out,←UR.out,Nat.gcd_comm y.natAbs,←Nat.gcd_rec,Nat.gcd_comm]),hS.drew⟩
   case measure=>simp[intOf];omega
theorem JO (w:World) (a b c d:Int):(binOp .eql 26 (.agg #[.int .i64 a,.int .i64 b]) (.agg #[.int .i64 c,.int .i64 d])).run Tryz.prog w=.ok (.bool (a==c&&b==d)) w:=by
 have h1:Tryz.prog.underlying 26=some (.struct (Tryz.prog.fieldsOf 26)):=by kernel_rfl
 have h2:Tryz.prog.stoodInHeld 26=false:=by kernel_rfl
 have e:=run_equalIn_struct (P:=Tryz.prog) w 9999 26 #[.int .i64 a,.int .i64 b] #[.int .i64 c,.int .i64 d] h1 h2;rw[run_eql_struct,e];clear e;have q0:∀a b:Int,(part 3 #[.int .i64 a,.int .i64 b] 0).run Tryz.prog w=.ok (.int .i64 a) w:=fun a b=>by kernel_rfl
 have q1:∀a b:Int,(part 3 #[.int .i64 a,.int .i64 b] 1).run Tryz.prog w=.ok (.int .i64 b) w:=fun a b=>by kernel_rfl
 have r0:∀a b:Int,(Op.equalIn 9999 3 (.int .i64 a) (.int .i64 b)).run Tryz.prog w=.ok (a==b) w:=fun a b=>run_equalIn_int (P:=Tryz.prog) w 9998 3 .i64 .i64 a b Tryz.underlying3
 by_cases e1:a=c
 ·by_cases e2:b=d
  ·simp[Program.fieldsOf,Tryz.underlying26,Op.eqFields,q0,q1,r0,e1,e2]
  ·simp[Program.fieldsOf,Tryz.underlying26,Op.eqFields,q0,q1,r0,e1,e2]
 ·simp[Program.fieldsOf,Tryz.underlying26,Op.eqFields,q0,r0,e1]
def Sr (b:Bool):Int:=if b=true then 0 else 1
set_option maxHeartbeats 1000000 in
theorem nJ {W w:World} {A:aB} (n d:Int) (h:Sat W w A):
 Calls Tryz.prog 122 #[.agg #[.int .i64 n,.int .i64 d]] w fun e w'=>e=.returned (.int .i64 (Sr (okR ⟨n,d⟩)))∧Sat W w' A:=by
 have hiff:=JA n d;have h1:=h.alloc (.cells #[.int .i64 n,.int .i64 d] 26);obtain⟨B,hB⟩:=aC (w.heap.size);obtain⟨w1,hw1⟩:=aC (w.alloc (.cells #[.int .i64 n,.int .i64 d] 26));rw[←hB,←hw1] at h1;obtain⟨k0,k1,-,-⟩:=kX h1;have HB:=ah (aH hB hw1);have H1:=ah h1;clear h h1 hB hw1;by_cases c1:d<1
 ·have hr:okR ⟨n,d⟩=false:=by rw[Bool.eq_false_iff];intro e;have:=hiff.1 e;omega
  rw[hr];clear hiff hr;go_enter Tryz.func122,Tryz.ntmps122;go_upto_region 1 with fail;rw[←HB.out.1,←HB.out.2];go_wp2;go_ret;exact⟨rfl,H1.out.drop⟩
 by_cases c2:1048576<d
 ·have hr:okR ⟨n,d⟩=false:=by rw[Bool.eq_false_iff];intro e;have:=hiff.1 e;omega
  rw[hr];clear hiff hr;go_enter Tryz.func122,Tryz.ntmps122;go_upto_region 1 with fail;rw[←HB.out.1,←HB.out.2];go_wp2;go_ret;exact⟨rfl,H1.out.drop⟩
 by_cases c3:1099511627776<n
 ·have hr:okR ⟨n,d⟩=false:=by rw[Bool.eq_false_iff];intro e;have:=hiff.1 e;omega
  rw[hr];clear hiff hr;go_enter Tryz.func122,Tryz.ntmps122;go_upto_region 1 with fail;rw[←HB.out.1,←HB.out.2];go_wp2;go_ret;exact⟨rfl,H1.out.drop⟩
 by_cases c4:n < -1099511627776
 ·have hr:okR ⟨n,d⟩=false:=by rw[Bool.eq_false_iff];intro e;have:=hiff.1 e;omega
  rw[hr];clear hiff hr;go_enter Tryz.func122,Tryz.ntmps122;go_upto_region 1 with fail;rw[←HB.out.1,←HB.out.2];go_wp2;go_ret;exact⟨rfl,H1.out.drop⟩
 ·obtain⟨g,hg⟩:∃g:Nat,g=Nat.gcd n.natAbs d.natAbs:=⟨_,rfl⟩
  have HC:=ah (JK n d (by omega) (by omega) H1.out);rw[←hg] at HC;have hr:okR ⟨n,d⟩=decide (g=1):=by
   rw[Bool.eq_iff_iff,hiff,←hg,decide_eq_true_eq];constructor
   ·exact fun e=>e.2.2.2.2
   ·exact fun e=>⟨by omega,by omega,by omega,by omega,e⟩
  rw[hr];clear hiff hr hg;by_cases hg1:g=1
  ·subst hg1
   go_enter Tryz.func122,Tryz.ntmps122;go_upto_region 1 with fail;rw[←HB.out.1,←HB.out.2];go_wp2_with fail;refine HC.out.mono ?_;rintro e w2 ⟨rfl,h2⟩;have H2:=ah h2;clear h2 HC k0 k1;go_wp2;go_ret;exact⟨rfl,H2.out.drop⟩
  ·have hgz:((g:Int)==1)=false:=by simp;omega
   have hd:decide (g=1)=false:=decide_eq_false hg1;rw[hd];clear hg1 hd;go_enter Tryz.func122,Tryz.ntmps122;go_upto_region 1 with fail;rw[←HB.out.1,←HB.out.2];go_wp2_with fail;refine HC.out.mono ?_;rintro e w2 ⟨rfl,h2⟩;have H2:=ah h2;clear h2 HC k0 k1;go_wp2;go_ret;exact⟨rfl,H2.out.drop⟩
end Go.Proofs.YthfmaclnccdcbaaGreatDoor
namespace PA
open Go Go.RowKit
section
section
variable {P:Program} {ops:Array Oper} {Q:Exit→Act→World→Prop} {S:World→Prop} {W:World}
theorem Ry {o:Oper} {a:Act} {Pre:aB} {v1:Value} {Post:aB} (hg:Region.wanted o (yielded ops a.tmps)=true)
 (hr:∀(w:World) (A:aB),Sat W w (sep Pre A)→∃w',(execOp a.eval o).run P w=.ok (.value v1) w'∧Sat W w' (sep Post A)):jf P ops W o a Pre (fun v=>sep (fact (v=v1)) Post):=
 ⟨hg,fun w A h=>.inl (by
  obtain⟨w',h1,h2⟩:=hr w A h;exact⟨v1,w',h1,by rw[aj];exact Sat.fact.2 ⟨rfl,h2⟩⟩)⟩
def X7 (Pre Mid Post:aB) (v1 u1 v2:Value):List Value→aB
 | []=>Pre
 | [v]=>sep (fact (v=v1)) Mid
 | [v,u]=>sep (fact (v=v1∧u=u1)) Mid
 | v::u::x::r=>sep (fact (v=v1∧u=u1∧x=v2∧r=[])) Post
theorem Wq {Pre Mid Post:aB} {v1 u1 v2:Value} {a0:Act} {i k j:Nat} {oi oj:Oper} {di:Option Tmp} (hdi:aU ops i=di) (hoi:ops[i]?=some oi) (hsi:∀cs b,oi.op≠.select cs b) (hoj:ops[j]?=some oj) (hsj:∀cs b,oj.op≠.select cs b)
 (hb:((Region.before ops).getD j 0).testBit i=true) (h1:jf P ops W oi a0 Pre (fun v=>sep (fact (v=v1)) Mid)) (hpl:o7 ops k=true) (hF:y8 P ops (a0.put di v1) [k] [u1])
 (h2:jf P ops W oj ((a0.put di v1).put (aU ops k) u1) Mid (fun v=>sep (fact (v=v2)) Post))
 (hw2:∀v u,Region.wanted oj (yielded ops ((a0.put di v).put (aU ops k) u).tmps)=true):
 Bf P ops W a0 (X7 Pre Mid Post v1 u1 v2) [] [(i,[k]),(j,[])]:=by
 subst hdi;refine⟨⟨oi,hoi,hsi,h1⟩,fun y hy=>?_,fun k' hk'=>?_,fun v w B h=>?_,fun v us hus=>?_⟩
 ·rw[vW hy];exact hb
 ·rw[vW hk'];exact hpl
 ·have h':Sat W w (sep (sep (fact (v=v1)) Mid) B):=h
  rw[aj] at h';obtain⟨rfl,h3⟩:=Sat.fact.1 h';refine⟨[u1],hF,?_⟩;show Sat W w (sep (sep (fact (v=v∧u1=u1)) Mid) B);rw[aj];exact Sat.fact.2 ⟨⟨rfl,rfl⟩,h3⟩
 ·match us,hus with
  | [u],_=>
   refine⟨⟨oj,hoj,hsj,hw2 v u,fun w A hS=>?_⟩,fun y hy=>(by cases hy),fun k' hk'=>(by cases hk'),fun v' w B h=>⟨[],trivial,h⟩,fun _ _ _=>trivial⟩;have hS':Sat W w (sep (sep (fact (v=v1∧u=u1)) Mid) A):=hS;rw[aj] at hS';obtain⟨⟨rfl,rfl⟩,hS2⟩:=Sat.fact.1 hS';have conv:∀(v':Value) (w':World),Sat W w' (sep (sep (fact (v'=v2)) Post) A)→Sat W w' (sep (X7 Pre Mid Post v u v2 ([v,u]++[v'])) A):=fun v' w' h=>by
    show Sat W w' (sep (sep (fact (v=v∧u=u∧v'=v2∧([]:List Value)=[])) Post) A);rw[aj] at h ⊢;obtain⟨h1,h2⟩:=Sat.fact.1 h;exact Sat.fact.2 ⟨⟨rfl,rfl,h1,rfl⟩,h2⟩
   rcases h2.2 w A hS2 with ⟨v',w',h3,h4⟩|⟨f,args,w1,h3,h4⟩
   ·exact .inl ⟨v',w',h3,conv v' w' h4⟩
   ·refine .inr ⟨f,args,w1,h3,h4.mono ?_⟩
    rintro e w' ⟨v',rfl,h5⟩;exact⟨v',rfl,conv v' w' h5⟩
theorem LJ {Pre Mid Post:aB} {v1 u1 v2:Value} {A:aB} {w:World} {i k j:Nat} {dn:List (Nat×Value)} (hdn:dn.map (·.1)=[i,k,j])
 (h:Sat W w (sep (X7 Pre Mid Post v1 u1 v2 (dn.map (·.2))) A)):dn=[(i,v1),(k,u1),(j,v2)]∧Sat W w (sep Post A):=by
 match dn,hdn with
 | [(i',u),(k',x),(j',y)],hdn=>
  simp only[mM,List.map_nil,List.cons.injEq,and_true] at hdn;obtain⟨rfl,rfl,rfl⟩:=hdn;have h':Sat W w (sep (sep (fact (u=v1∧x=u1∧y=v2∧([]:List Value)=[])) Post) A):=h;rw[aj] at h';obtain⟨⟨rfl,rfl,rfl,-⟩,h3⟩:=Sat.fact.1 h';exact⟨rfl,h3⟩
end
end
section
section
variable {P:Program} {ops:Array Oper} {Q:Exit→Act→World→Prop} {S:World→Prop} {W:World}
theorem J9 {s:AL}:∀{l:List AL},s∈l→∀A,∃X,J8 l A=sep s.now X
 | [],h,_=>by cases h
 | u::l,h,A=>by
  rcases List.mem_cons.1 h with rfl|h
  ·exact⟨_,by rw[rM,zi]⟩
  ·exact J9 h (sep u.now A)
theorem S9 {ts:List ThG} {xu:List AL} (h:yD ts xu) {t:ThG} (ht:t∈ts):∃s∈xu,s.A=t.A:=by
 unfold yD at h;have:(nums t.ids,t.A)∈xu.map (fun s=>(s.dn.map (·.1)++nums s.td,s.A)):=by rw[h];exact List.mem_map.2 ⟨t,ht,rfl⟩
 obtain⟨s,hs,e⟩:=List.mem_map.1 this;exact⟨s,hs,(Prod.mk.inj e).2⟩
theorem QO {a0:Act} {A:aB} {b:Bool} {K:Act→World→Prop} (ts:List ThG) (hS:b=true→∃t∈ts,∀us w X,Sat W w (sep (t.A us) X)→S w) (hfin:Zb ops W a0 K ts [] A):
 ∀(n:Nat) (xu:List AL) (E:List (Nat×List Nat)) (w:World),E.length=n→E.Perm (xu.flatMap (·.td))→yD ts xu→(∀s∈xu,Bf P ops W a0 s.A s.dn s.td)→(xu.Pairwise fun s t=>VJ ops s.all t.all)→Sat W w (J8 xu A) →
  pI P ops Q S b n E K (puts ops (xu.flatMap (·.dn)) a0) w:=by
 intro n
 induction n with
 | zero=>
  intro xu E w hn hp hL _ _ hw;have hE:=Ju hn;subst hE;have:=MF xu ts [] A hL (List.nil_perm.1 hp) hfin w hw;rw[tK] at this;exact this
 | succ n ih=>
  intro xu E w hn hp hL hg hap hw i hi hr;obtain⟨s,hs,his⟩:=List.mem_flatMap.1 (hp.mem_iff.1 hi);obtain⟨S1,S2,rfl⟩:=List.append_of_mem hs;obtain⟨dn,td,AT⟩:=s;cases td with
  | nil=>simp at his
  | cons k td=>
   have hgs:=hg _ hs;obtain⟨⟨o,ho,hsel,hd⟩,hch,hplain,htl,hnext⟩:=hgs;have hik:i=k:=by
    rcases List.mem_cons.1 his with e|hm
    ·exact e
    ·exfalso
     have h1:=hch i hm;have h2:k∈E:=hp.mem_iff.2 (List.mem_flatMap.2 ⟨_,hs,by simp⟩);have h3:=List.all_eq_true.1 hr k h2;rw[h1] at h3;cases h3
   subst hik;have hall:∀j∈dn.map (·.1)++i.1::i.2,j∈AL.all ⟨dn,i::td,AT⟩:=fun j hj=>by
    unfold AL.all nums;rw[List.flatMap_cons];rcases List.mem_append.1 hj with hj|hj
    ·exact zC _ hj
    ·exact Bl _ (zC _ hj)
   have hpw:=List.pairwise_append.1 hap;have hpc:=List.pairwise_cons.1 hpw.2.1;have hl1:∀x∈S1.flatMap (·.dn),∀j∈dn.map (·.1)++i.1::i.2,apartB ops x.1 j=true:=fun x hx j hj=>by
    obtain⟨s1,hs1,hx1⟩:=List.mem_flatMap.1 hx;exact hpw.2.2 s1 hs1 ⟨dn,i::td,AT⟩ (by simp) x.1 (zC _ (List.mem_map.2 ⟨x,hx1,rfl⟩)) j (hall j hj)
   have hl2:∀x∈S2.flatMap (·.dn),∀j∈dn.map (·.1)++i.1::i.2,apartB ops j x.1=true:=fun x hx j hj=>by
    obtain⟨s1,hs1,hx1⟩:=List.mem_flatMap.1 hx;exact hpc.1 s1 hs1 j (hall j hj) x.1 (zC _ (List.mem_map.2 ⟨x,hx1,rfl⟩))
   have aaB:∀dn':List (Nat×Value),(∀y∈dn',y.1∈dn.map (·.1)++i.1::i.2)→puts ops ((S1++⟨dn',td,AT⟩::S2).flatMap (·.dn)) a0=puts ops (S2.flatMap (·.dn)) (puts ops (S1.flatMap (·.dn)) (puts ops dn' a0)):=fun dn' afC=>by
    rw[List.flatMap_append,List.flatMap_cons,jD,jD];congr 1;exact ET dn' _ (fun x hx y hy=>hl1 x hx y.1 (afC y hy)) a0
   have aaA:puts ops ((S1++⟨dn,i::td,AT⟩::S2).flatMap (·.dn)) a0=puts ops (S2.flatMap (·.dn)) (puts ops (S1.flatMap (·.dn)) (puts ops dn a0)):=by
    rw[←aaB dn (fun y hy=>zC _ (List.mem_map.2 ⟨y,hy,rfl⟩)),List.flatMap_append,List.flatMap_append,List.flatMap_cons,List.flatMap_cons]
   have hboth:∀x∈S1.flatMap (·.dn)++S2.flatMap (·.dn),∀j∈dn.map (·.1)++i.1::i.2,apartB ops x.1 j=true∨apartB ops j x.1=true:=fun x hx j hj=>by
    rcases List.mem_append.1 hx with hx|hx
    ·exact .inl (hl1 x hx j hj)
    ·exact .inr (hl2 x hx j hj)
   have hd':jf P ops W o (puts ops ((S1++⟨dn,i::td,AT⟩::S2).flatMap (·.dn)) a0) (AT (dn.map (·.2))) (fun v=>AT (dn.map (·.2)++[v])):=by
    rw[aaA,←jD];exact jf.puts ho hsel _ (fun x hx=>hboth x hx i.1 (by simp)) hd
   have hw2:Sat W w (sep (AT (dn.map (·.2))) (J8 S2 (J8 S1 A))):=by
    rw[FD,rM,zi] at hw;exact hw
   refine hd'.wpOp ho hw2 (fun v w' hv=>?_);refine⟨fun hb=>?_,?_⟩
   ·obtain⟨t,ht,hSt⟩:=hS hb
    obtain⟨s,hs,hsA⟩:=S9 hL ht;rcases List.mem_append.1 hs with h|h
    ·obtain⟨X,hX⟩:=J9 h A
     rw[hX,zi] at hv;have hv3:Sat W w' (sep (s.A (s.dn.map (·.2))) (sep (AT (dn.map (·.2)++[v])) (J8 S2 X))):=hv.p1;rw[hsA] at hv3;exact hSt _ _ _ hv3
    ·rcases List.mem_cons.1 h with h|h
     ·have e:AT=t.A:=by rw[←hsA,h]
      rw[e] at hv;exact hSt _ _ _ hv
     ·obtain⟨X,hX⟩:=J9 h (J8 S1 A)
      rw[hX] at hv;have hv3:Sat W w' (sep (s.A (s.dn.map (·.2))) (sep (AT (dn.map (·.2)++[v])) X)):=hv.p1;rw[hsA] at hv3;exact hSt _ _ _ hv3
   ·obtain⟨us,hpu,hv2⟩:=htl v w' _ hv
    have zB:=NR hpu;have hdo:aU ops i.1=o.dst:=by unfold aU;rw[ho];rfl
    have e1:(puts ops ((S1++⟨dn,i::td,AT⟩::S2).flatMap (·.dn)) a0).put o.dst v=puts ops (S1.flatMap (·.dn)++S2.flatMap (·.dn)) (puts ops (dn++[(i.1,v)]) a0):=by
     rw[aaA,←hdo,←jD,jD dn];show _=puts ops _ ((puts ops dn a0).put (aU ops i.1) v);exact (yc v _ (fun x hx=>hboth x hx i.1 (by simp)) _).symm
    rw[e1];refine BF i.2 us _ w' hplain (Ik _ hplain (fun x hx j hj=>hboth x hx j (by simp[hj])) hpu) ?_;have e2:puts ops (i.2.zip us) (puts ops (S1.flatMap (·.dn)++S2.flatMap (·.dn)) (puts ops (dn++[(i.1,v)]) a0))=puts ops ((S1++⟨dn++(i.1,v)::i.2.zip us,td,AT⟩::S2).flatMap (·.dn)) a0:=by
     rw[aaB (dn++(i.1,v)::i.2.zip us) (fun y hy=>?_)]
     ·rw[←jD (S1.flatMap (·.dn))]
      have e3:dn++(i.1,v)::i.2.zip us=(dn++[(i.1,v)])++i.2.zip us:=by simp
      rw[e3,jD (dn++[(i.1,v)])];have key:∀(z:List (Nat×Value)),(∀y∈z,y.1∈i.2)→∀(L:List (Nat×Value)),(∀x∈L,∀j∈dn.map (·.1)++i.1::i.2,apartB ops x.1 j=true∨apartB ops j x.1=true)→∀a:Act,puts ops z (puts ops L a)=puts ops L (puts ops z a):=by
       intro z
       induction z with
       | nil=>intro _ L _ a;rfl
       | cons y z ihz=>
        intro hz L hL a;show puts ops z ((puts ops L a).put (aU ops y.1) y.2)=puts ops L (puts ops z (a.put (aU ops y.1) y.2));rw[←yc y.2 L (fun x hx=>hL x hx y.1 (Bl _ (tY _ (hz y (by simp))))),ihz (fun u hu=>hz u (by simp[hu])) L hL]
      exact key _ (fun y hy=>by obtain⟨y1,y2⟩:=y;exact (List.of_mem_zip hy).1) _ hboth _
     ·rcases List.mem_append.1 hy with hy|hy
      ·exact zC _ (List.mem_map.2 ⟨y,hy,rfl⟩)
      ·rcases List.mem_cons.1 hy with rfl|hy
       ·simp
       ·obtain⟨y1,y2⟩:=y
        exact Bl _ (tY _ (List.of_mem_zip hy).1)
    rw[e2];have hzm:((i.1,v)::i.2.zip us).map (·.1)=i.1::i.2:=by rw[mM,List.map_fst_zip (by omega)]
    have hzs:((i.1,v)::i.2.zip us).map (·.2)=v::us:=by rw[mM,List.map_snd_zip (by omega)]
    refine ih _ (E.erase i) w' ?_ ?_ ?_ ?_ ?_ ?_
    ·rw[List.length_erase_of_mem hi,hn];rfl
    ·have h1:((S1++⟨dn,i::td,AT⟩::S2).flatMap (·.td)).Perm (i::(S1++⟨dn++(i.1,v)::i.2.zip us,td,AT⟩::S2).flatMap (·.td)):=by
      simp only[List.flatMap_append,List.flatMap_cons];exact List.perm_middle
     have h2:=(hp.trans h1).erase i;rw[List.erase_cons_head] at h2;exact h2
    ·unfold yD at *
     rw[←hL];simp only[qy,mM];rw[show i.1::(i.2.zip us).map (·.1)=i.1::i.2 by rw[←hzm];rfl];congr 2;simp[nums]
    ·intro s hs'
     rcases List.mem_append.1 hs' with h|h
     ·exact hg s (zC _ h)
     ·rcases List.mem_cons.1 h with rfl|h
      ·exact hnext v us zB
      ·exact hg s (by simp[h])
    ·have hsame:AL.all ⟨dn++(i.1,v)::i.2.zip us,td,AT⟩=AL.all ⟨dn,i::td,AT⟩:=by
      unfold AL.all nums;rw[qy,hzm,List.flatMap_cons,kZ]
     refine List.pairwise_append.2 ⟨hpw.1,List.pairwise_cons.2 ⟨fun y hy=>?_,hpc.2⟩,fun x hx y hy=>?_⟩
     ·rw[hsame];exact hpc.1 y hy
     ·rcases List.mem_cons.1 hy with rfl|hy
      ·rw[hsame];exact hpw.2.2 x hx _ (List.mem_cons_self)
      ·exact hpw.2.2 x hx y (by simp[hy])
    ·rw[FD,rM,zi]
     show Sat W w' (sep (AT ((dn++(i.1,v)::i.2.zip us).map (·.2))) (J8 S2 (J8 S1 A)));rw[qy,hzs];exact hv2
theorem sZ {a:Act} {w:World} {A:aB} {b:Bool} {l:List lu} {K:Act→World→Prop} (ts:List ThG) (hS:b=true→∃t∈ts,∀us w X,Sat W w (sep (t.A us) X)→S w)
 (hap:CX ops (ts.map (fun t=>nums t.ids))=true) (hg:∀t∈ts,Bf P ops W a t.A [] t.ids) (hw:Sat W w (ts.foldl (fun B t=>sep (t.A []) B) A)) (hfin:Zb ops W a (ou P ops Q S l K) ts [] A):
 ou P ops Q S (.grp b (ts.flatMap (·.ids))::l) K a w:=by
 have afY:J8 (ts.map fun t=>(⟨[],t.ids,t.A⟩:AL)) A=ts.foldl (fun B t=>sep (t.A []) B) A:=by
  rw[J8,List.foldl_map];rfl
 have h:=QO (P:=P) (Q:=Q) (S:=S) (b:=b) ts hS hfin _ (ts.map fun t=>(⟨[],t.ids,t.A⟩:AL)) (ts.flatMap (·.ids)) w rfl ?_ ?_ ?_ (EN ts hap) (by rw[afY];exact hw)
 ·have e:(ts.map fun t=>(⟨[],t.ids,t.A⟩:AL)).flatMap (·.dn)=[]:=by
   induction ts with
   | nil=>rfl
   | cons t ts ih=>simp
  rw[e] at h;exact h
 ·rw[List.flatMap_map]
 ·unfold yD;simp
 ·intro s hs
  obtain⟨t,ht,rfl⟩:=List.mem_map.1 hs;exact hg t ht
end
end
section
def Xg (ops:Array Oper) (bf:Array Nat) (b:Bool) (E:List (Nat×List Nat)):Bool:=
 E.all (fun x=>x.2.all (fun j=>(bf.getD j 0).testBit x.1))&&E.all (fun x=>EG ops bf (x.2.map fun j=>(j,(.inr none:Kd)))) &&
 E.all (fun x=>E.all fun y=>x==y||(bf.getD x.1 0).testBit y.1||x.2.all fun u=>(BJ b y).all fun v=>gq ops bf (u,.inr none) v)
section
variable {P:Program} {ops:Array Oper} {Q:Exit→Act→World→Prop} {S:World→Prop}
structure Um (ops:Array Oper) (bf:Array Nat) (b:Bool) (E:List (Nat×List Nat)):Prop where
 own:∀x∈E,∀j∈x.2,(bf.getD j 0).testBit x.1=true
 seq:∀x∈E,x.2.Pairwise fun u v=>gq ops bf (u,.inr none) (v,.inr none)=true
 other:∀x∈E,∀y∈E,x≠y→(bf.getD x.1 0).testBit y.1=false→∀u∈x.2,∀v∈BJ b y,gq ops bf (u,.inr none) v=true
theorem Xh {bf:Array Nat} {b:Bool} {E:List (Nat×List Nat)} (h:Xg ops bf b E=true):Um ops bf b E:=by
 simp only[Xg,Bool.and_eq_true,List.all_eq_true,Bool.or_eq_true,beq_iff_eq] at h;obtain⟨⟨h1,h2⟩,h3⟩:=h;refine⟨h1,fun x hx=>ND _ (h2 x hx),fun x hx y hy hne hnb u hu v hv=>?_⟩;rcases h3 x hx y hy with (e|e)|h
 ·exact absurd e hne
 ·rw[hnb] at e;cases e
 ·exact h u hu v hv
theorem Um.erase {bf:Array Nat} {b:Bool} {E:List (Nat×List Nat)} (h:Um ops bf b E) (x:Nat×List Nat):Um ops bf b (E.erase x):=
 ⟨fun y hy=>h.own y (List.mem_of_mem_erase hy),fun y hy=>h.seq y (List.mem_of_mem_erase hy),fun y hy z hz=>h.other y (List.mem_of_mem_erase hy) z (List.mem_of_mem_erase hz)⟩
structure aai (ops:Array Oper) (bf:Array Nat) (listed:Array Bool) (l:List lu):Prop where
 size:listed.size=ops.size
 mem:∀i,i∈(fA l).map (·.1)↔i<ops.size∧listed.getD i true=false
 nodup:((fA l).map (·.1)).Nodup
 pair:l.Pairwise fun x y=>∀u∈x.fl,∀v∈y.fl,gq ops bf u v=true
 dep:(fA l).Pairwise fun x y=>mW ops x.1 y.1=false
 self:∀x∈fA l,mW ops x.1 x.1=false
 grp:∀b E,lu.grp b E∈l→Um ops bf b E
 closed:∀d r,r<ops.size→listed.getD d false=true→(bf.getD d 0).testBit r=true→listed.getD r false=true
theorem G5 (hsel:∀(j:Nat) (o:Oper) cs b,ops[j]?=some o→o.op≠.select cs b) (hQ:∀c a d v w,Q (.panic c) (a.put d v) w→Q (.panic c) a w)
 (hbf:oU ops (Region.before ops)=true) (hon:∀(j:Nat) (o:Oper),ops[j]?=some o→∀e∈o.after,Region.binds .any e=true→e.on<ops.size):
 ∀(n:Nat) (l:List lu) (listed:Array Bool),(fA l).length=n→aai ops (Region.before ops) listed l→∀(a:Act) (w:World),ou P ops Q S l (Q .normal) a w→wpAny P .any ops Q n listed a w:=by
 obtain⟨bf,hbe⟩:=aC (Region.before ops);have Wn:∀(listed:Array Bool) (i:Nat),listed.size=ops.size→i<ops.size→(listed.getD i false=true↔¬listed.getD i true=false):=fun listed i hs hi=>by
  simp[Array.getD,hs,hi]
 have nil:∀(listed:Array Bool) (l:List lu),fA l=[]→aai ops (Region.before ops) listed l→Region.ready .any ops listed=[]:=fun listed l hl hI=>by
  simp only[Region.ready,List.filter_eq_nil_iff,List.mem_range];intro i hi;have h':¬listed.getD i true=false:=fun hh=>by have:=(hI.mem i).2 ⟨hi,hh⟩;rw[hl] at this;simp at this
  have h'':listed.getD i true=true:=by simpa using h'
  simp[h'']
 intro n
 induction n with
 | zero=>
  intro l listed hn hI a w h;have hl:=Ju hn;exact⟨nil _ l hl hI,IE l hl a w h⟩
 | succ n ih=>
  intro l listed hn hI a w h;refine⟨fun hr=>?_,fun j hj=>?_⟩
  ·exfalso
   cases hfl:fA l with
   | nil=>rw[hfl] at hn;simp at hn
   | cons x xs=>
    have hx:=(hI.mem x.1).1 (by rw[hfl];simp);have hmem:x.1∈Region.ready .any ops listed:=by
     simp only[Region.ready,List.mem_filter,List.mem_range];refine⟨hx.1,?_⟩;have:listed.getD x.1 true=false:=hx.2;have ho:ops[x.1]?=some ops[x.1]:=Array.getElem?_eq_getElem hx.1;simp only[this,Bool.not_false,Bool.true_and,ho,Option.map_some,Option.getD_some];rw[Array.all_eq_true];intro k hk;have hmem:=Array.getElem_mem hk;by_cases hb:Region.binds .any (ops[x.1].after[k])=true
     ·have hlt:=hon x.1 _ ho _ hmem hb
      have PZ:mW ops x.1 (ops[x.1].after[k]).on=true:=by
       simp only[mW,ho,Array.any_eq_true];exact⟨k,hk,by simp[hb]⟩
      have hnot:(ops[x.1].after[k]).on∉(fA l).map (·.1):=by
       intro hm;rw[hfl] at hm;simp only[mM,List.mem_cons,List.mem_map] at hm;rcases hm with hm|⟨y,hy,hm⟩
       ·have:=hI.self x (by rw[hfl];simp)
        rw[hm] at PZ;rw[PZ] at this;cases this
       ·have hd:=hI.dep
        rw[hfl] at hd;have:=(List.pairwise_cons.1 hd).1 y hy;rw[hm,PZ] at this;cases this
      have h2:¬listed.getD (ops[x.1].after[k]).on true=false:=fun e=>hnot ((hI.mem _).2 ⟨hlt,e⟩)
      have:=(Wn listed _ hI.size hlt).2 h2;simp[this]
     ·simp[hb]
    rw[hr] at hmem;cases hmem
  ·simp only[Region.ready,List.mem_filter,List.mem_range,Bool.and_eq_true,Bool.not_eq_true'] at hj
   obtain⟨hjs,hjl,hja⟩:=hj;have hjm:=(hI.mem j).2 ⟨hjs,hjl⟩;cases hoj:ops[j]? with
   | none=>simp[hoj] at hja
   | some oj=>
    simp only[hoj,Option.map_some,Option.getD_some] at hja;have MJ:∀d,mW ops j d=true→listed.getD d false=true:=fun d hd=>by
     simp only[mW,hoj,Array.any_eq_true] at hd;obtain⟨k,hk,hd⟩:=hd;simp only[Bool.and_eq_true,beq_iff_eq] at hd;rw[Array.all_eq_true] at hja;have:=hja k hk;rw[hd.1] at this;simpa[hd.2] using this
    have hbl:∀r,r<ops.size→((Region.before ops).getD j 0).testBit r=true→listed.getD r false=true:=fun r hr hb=>by
     simp only[oU,List.all_eq_true,List.mem_range] at hbf;have:=hbf j hjs r hr;simp only[hb,Bool.not_true,Bool.false_or,Bool.or_eq_true,List.any_eq_true,List.mem_range,Bool.and_eq_true] at this;rcases this with h|⟨d,_,h1,h2⟩
     ·exact MJ r h
     ·exact hI.closed d r hr (MJ d h1) h2
    have hnotin:∀x∈fA l,((Region.before ops).getD j 0).testBit x.1=false:=fun x hx=>by
     have hxm:=(hI.mem x.1).1 (List.mem_map.2 ⟨x,hx,rfl⟩);cases hb:((Region.before ops).getD j 0).testBit x.1 with
     | false=>rfl
     | true=>exact absurd hxm.2 ((Wn listed x.1 hI.size hxm.1).1 (hbl x.1 hxm.1 hb))
    have hclosed:∀d r,r<ops.size→(listed.setIfInBounds j true).getD d false=true→((Region.before ops).getD d 0).testBit r=true→(listed.setIfInBounds j true).getD r false=true:=by
     intro d r hr hd hb;by_cases e:r=j
     ·subst e;simp[Array.getD,hI.size,hr]
     ·have hg:(listed.setIfInBounds j true).getD r false=listed.getD r false:=getD_set_ne _ _ _ _ _ e
      rw[hg];by_cases e2:d=j
      ·subst e2;exact hbl r hr hb
      ·have hg2:(listed.setIfInBounds j true).getD d false=listed.getD d false:=getD_set_ne _ _ _ _ _ e2
       rw[hg2] at hd;exact hI.closed d r hr hd hb
    have adC:(listed.setIfInBounds j true).getD j true=true:=by simp[Array.getD,hI.size,hjs]
    have aaF:∀(F:List Nat),(∀i,i∈F↔i∈(fA l).map (·.1)∧i≠j)→∀i,i∈F↔i<ops.size∧(listed.setIfInBounds j true).getD i true=false:=fun F hF i=>by
     rw[hF,hI.mem];by_cases e:i=j
     ·subst e;simp[adC]
     ·have hg:(listed.setIfInBounds j true).getD i true=listed.getD i true:=getD_set_ne _ _ _ _ _ e
      rw[hg];simp[e]
    obtain⟨⟨j',kj⟩,hxf,hje⟩:=List.mem_map.1 hjm;obtain rfl:j'=j:=hje;obtain⟨it,hit,hin⟩:=List.mem_flatMap.1 hxf;obtain⟨l1,l2,rfl⟩:=List.append_of_mem hit;have hpw:=List.pairwise_append.1 hI.pair;have hfe:fA (l1++it::l2)=fA l1++(it.fl++fA l2):=by rw[kD,kE]
    have hok:∀x∈fA l1,gq ops (Region.before ops) x (j',kj)=true∧((Region.before ops).getD j' 0).testBit x.1=false:=fun x hx=>by
     obtain⟨y,hy,hxy⟩:=List.mem_flatMap.1 hx;exact⟨hpw.2.2 y hy it (by simp) x hxy (j',kj) hin,hnotin x (by rw[hfe];exact zC _ hx)⟩
    have hnd:=hI.nodup;rw[hfe] at hnd;rw[yu] at h;cases it with
    | one i k=>
     simp only[lu.fl,List.mem_singleton,Prod.mk.injEq] at hin;obtain⟨rfl,rfl⟩:=hin;refine wpOp_mono (fun a' w' ⟨h1,_,_⟩=>ih (l1++l2) (listed.setIfInBounds j' true) ?_ ?_ a' w' (by rw[yu];exact h1)) (Sj (kj:=kj) hoj hsel hQ (ou P ops Q S (.one j' kj::l2) (Q .normal)) (ou P ops Q S l2 (Q .normal)) ?_ l1 hok a w h)
     ·rintro a w ⟨o,ho,h⟩
      rcases kj with b|_|_|_;case inr.none=>obtain⟨v,hy,h⟩:=h;exact (hy w).wpOp ho ⟨h,fun h=>(by cases h),fun _=>rfl⟩
      case inr.some.true=>obtain⟨hS,v,hy,h⟩:=h;exact (hy w hS).wpOp ho ⟨h,fun h=>(by cases h),fun _=>rfl⟩
      case inr.some.false=>obtain⟨v,hy,h⟩:=h;exact hy.wpOp ho ⟨h,fun h=>(by cases h),fun _=>rfl⟩
      case inl=>exact wpOp_mono (fun a' w' ⟨h1,h2⟩=>⟨h2,fun hb=>h1 (by cases hb;rfl),fun hb=>(by simp[Kd.eff] at hb)⟩) h
     ·rw[hfe] at hn;rw[kD];simp[lu.fl] at hn ⊢;omega
     ·have hpf:List.Sublist (l1++l2) (l1++lu.one j' kj::l2):=List.Sublist.append_left (List.sublist_cons_self _ _) _
      have hsf:List.Sublist (fA (l1++l2)) (fA (l1++lu.one j' kj::l2)):=by
       rw[hfe,kD];exact List.Sublist.append_left (List.sublist_append_right _ _) _
      refine⟨by simp[hI.size],aaF _ fun i=>?_,?_,hI.pair.sublist hpf,hI.dep.sublist hsf,fun x hx=>hI.self x (hsf.subset hx),fun b E hm=>hI.grp b E (hpf.subset hm),hclosed⟩
      ·rw[hfe,kD]
       simp only[lu.fl,qy,mM,List.map_nil,List.mem_append,List.mem_cons,List.not_mem_nil,or_false];have hn2:=hI.nodup;rw[hfe] at hn2;simp only[lu.fl,qy,mM,List.map_nil,List.nodup_append,List.mem_append,List.mem_cons,List.not_mem_nil,or_false] at hn2;constructor
       ·rintro (hi|hi)
        ·exact⟨.inl hi,fun e=>hn2.2.2 i hi j' (.inl rfl) e⟩
        ·exact⟨.inr (.inr hi),fun e=>hn2.2.1.2.2 j' rfl i hi e.symm⟩
       ·rintro⟨hi|hi|hi,hne⟩
        ·exact .inl hi
        ·exact absurd hi hne
        ·exact .inr hi
      ·exact hI.nodup.sublist (hsf.map _)
    | grp b E=>
     obtain⟨x,Zp,afG⟩:=List.mem_flatMap.1 (show (j',kj)∈E.flatMap (BJ b) from hin);have hG:=hI.grp b E (by simp);have hxm:(x.1,(.inl b:Kd))∈fA (l1++lu.grp b E::l2):=by
      rw[hfe];refine Bl _ (zC _ ?_);exact List.mem_flatMap.2 ⟨x,Zp,List.mem_cons_self⟩
     have hj':(j',kj)=(x.1,.inl b):=by
      rcases List.mem_cons.1 afG with e|hm
      ·exact e
      ·exfalso
       obtain⟨u,hu,e⟩:=List.mem_map.1 hm;have e1:u=j':=congrArg Prod.fst e;have h1:=hG.own x Zp u hu;have h2:=hnotin _ hxm;rw[e1] at h1;rw[h1] at h2;cases h2
     obtain⟨rfl,rfl⟩:j'=x.1∧kj=.inl b:=Prod.mk.inj hj';obtain⟨E1,E2,afM,hEe,hEr⟩:=List.exists_erase_eq Zp;have hfl:fA (l1++lu.grp b E::l2)=fA l1++(E1.flatMap (BJ b)++((x.1,.inl b)::((x.2.map fun j=>(j,(.inr none:Kd)))++E2.flatMap (BJ b)))++fA l2):=by
      rw[hfe];show fA l1++(E.flatMap (BJ b)++fA l2)=_;rw[hEe,List.flatMap_append,List.flatMap_cons];simp[BJ]
     have hfn:fA (l1++(x.2.map (fun j=>lu.one j (.inr none))++lu.grp b (E.erase x)::l2))=fA l1++((x.2.map fun j=>(j,(.inr none:Kd)))++(E1.flatMap (BJ b)++E2.flatMap (BJ b))++fA l2):=by
      rw[kD,kD,kE];show fA l1++(_++((E.erase x).flatMap (BJ b)++fA l2))=_;rw[hEr,List.flatMap_append];have:fA (x.2.map fun j=>lu.one j (.inr none))=x.2.map fun j=>(j,(.inr none:Kd)):=by
       unfold fA;rw[List.flatMap_map]
       induction x.2 with
       | nil=>rfl
       | cons u us ih=>rw[List.flatMap_cons,ih];rfl
      rw[this];simp
     have hperm:(fA (l1++lu.grp b E::l2)).Perm ((x.1,.inl b)::fA (l1++(x.2.map (fun j=>lu.one j (.inr none))++lu.grp b (E.erase x)::l2))):=by
      rw[hfl,hfn];refine List.Perm.trans ?_ List.perm_middle;refine List.Perm.append_left _ ?_;refine List.Perm.append_right (fA l2) (show List.Perm _ ((x.1,(.inl b:Kd))::_) from List.Perm.trans List.perm_middle (List.Perm.cons _ ?_));rw[←kZ,←kZ];exact List.Perm.append_right _ List.perm_append_comm
     have hnd':=(hperm.map (fun y:Nat×Kd=>y.1)).nodup_iff.1 hI.nodup;rw[mM] at hnd';obtain⟨hxn,afN⟩:=List.nodup_cons.1 hnd';have abm:∀y∈E1,y∈E∧y≠x:=fun y hy=>⟨by rw[hEe];simp[hy],fun e=>afM (by rw[←e];exact hy)⟩
     have abn:∀y∈E2,y∈E∧y≠x:=fun y hy=>by
      refine⟨by rw[hEe];simp[hy],fun e=>?_⟩;have hn0:=hI.nodup;rw[hfl] at hn0;simp only[qy,mM] at hn0;have h3:=(List.nodup_append.1 (List.nodup_append.1 (List.nodup_append.1 hn0).2.1).1).2.1;refine (List.nodup_cons.1 h3).1 (Bl _ (List.mem_map.2 ⟨(x.1,.inl b),List.mem_flatMap.2 ⟨y,hy,by rw[e];exact List.mem_cons_self⟩,rfl⟩))
     have hfr:∀y∈E,((Region.before ops).getD x.1 0).testBit y.1=false:=fun y hy=>hnotin (y.1,.inl b) (by rw[hfe];refine Bl _ (zC _ ?_);exact List.mem_flatMap.2 ⟨y,hy,List.mem_cons_self⟩)
     have RJ:∀u∈x.2,∀v∈E1.flatMap (BJ b)++E2.flatMap (BJ b),gq ops (Region.before ops) (u,.inr none) v=true:=fun u hu v hv=>by
      rcases List.mem_append.1 hv with hv|hv
      ·obtain⟨y,hy,hvy⟩:=List.mem_flatMap.1 hv
       exact hG.other x Zp y (abm y hy).1 (fun e=>(abm y hy).2 e.symm) (hfr y (abm y hy).1) u hu v hvy
      ·obtain⟨y,hy,hvy⟩:=List.mem_flatMap.1 hv
       exact hG.other x Zp y (abn y hy).1 (fun e=>(abn y hy).2 e.symm) (hfr y (abn y hy).1) u hu v hvy
     have ady:∀{u v:Nat×Kd},gq ops (Region.before ops) u v=true→mW ops u.1 v.1=false:=fun h=>by
      simp only[gq,Bool.and_eq_true,Bool.not_eq_true'] at h;exact h.1
     refine wpOp_mono (fun a' w' ⟨h1,_,_⟩=>ih (l1++(x.2.map (fun j=>lu.one j (.inr none))++lu.grp b (E.erase x)::l2)) (listed.setIfInBounds x.1 true) ?_ ?_ a' w' (by rw[yu];exact h1)) (Sj (kj:=.inl b) hoj hsel hQ (ou P ops Q S (.grp b E::l2) (Q .normal)) (ou P ops Q S (x.2.map (fun j=>lu.one j (.inr none))++lu.grp b (E.erase x)::l2) (Q .normal)) ?_ l1 hok a w h)
     ·intro a w h
      have xP:(E.all fun r=>!((Region.before ops).getD x.1 0).testBit r.1)=true:=by
       rw[List.all_eq_true];intro r hr;have h9:((Region.before ops).getD x.1 0).testBit r.1=false:=hnotin (r.1,.inl b) (by rw[hfe];refine Bl _ (zC _ ?_);exact List.mem_flatMap.2 ⟨r,hr,List.mem_cons_self⟩);rw[h9];rfl
      have hlen:E.length=(E.erase x).length+1:=by
       have hp:0<E.length:=List.length_pos_of_mem Zp;rw[List.length_erase_of_mem Zp];omega
      simp only[ou] at h;rw[hlen] at h;refine wpOp_mono (fun a' w' ⟨h1,h2⟩=>⟨aaV (.grp b (E.erase x)::l2) (Q .normal) x.2 a' w' h2,fun hb=>h1 (by cases hb;rfl),fun hb=>(by simp[Kd.eff] at hb)⟩) (h x Zp xP)
     ·have:=hperm.length_eq
      rw[oP] at this;omega
     ·have hc:=List.pairwise_cons.1 hpw.2.1
      have hl1:∀y∈l1,∀u∈y.fl,∀v,v∈(x.2.map fun j=>(j,(.inr none:Kd)))∨v∈E1.flatMap (BJ b)++E2.flatMap (BJ b)→gq ops (Region.before ops) u v=true:=fun y hy u hu v hv=>by
       refine hpw.2.2 y hy (.grp b E) (by simp) u hu v ?_;show v∈E.flatMap (BJ b);rw[hEe,List.flatMap_append,List.flatMap_cons];rcases hv with hv|hv
       ·exact Bl _ (zC _ (tY _ hv))
       ·rcases List.mem_append.1 hv with hv|hv
        ·exact zC _ hv
        ·exact Bl _ (Bl _ hv)
      have hl2:∀y∈l2,∀v∈y.fl,∀u,u∈(x.2.map fun j=>(j,(.inr none:Kd)))∨u∈E1.flatMap (BJ b)++E2.flatMap (BJ b)→gq ops (Region.before ops) u v=true:=fun y hy v hv u hu=>by
       refine hc.1 y hy u ?_ v hv;show u∈E.flatMap (BJ b);rw[hEe,List.flatMap_append,List.flatMap_cons];rcases hu with hu|hu
       ·exact Bl _ (zC _ (tY _ hu))
       ·rcases List.mem_append.1 hu with hu|hu
        ·exact zC _ hu
        ·exact Bl _ (Bl _ hu)
      have hgf:lu.fl (.grp b (E.erase x))=E1.flatMap (BJ b)++E2.flatMap (BJ b):=by
       show (E.erase x).flatMap (BJ b)=_;rw[hEr,List.flatMap_append]
      have hone:∀y∈x.2.map (fun j=>lu.one j (.inr none)),∀u∈y.fl,u∈(x.2.map fun j=>(j,(.inr none:Kd))):=fun y hy u hu=>by
       obtain⟨j,hj,rfl⟩:=List.mem_map.1 hy;rw[vW hu];exact List.mem_map.2 ⟨j,hj,rfl⟩
      refine⟨by simp[hI.size],aaF _ fun k=>?_,afN,?_,?_,fun y hy=>hI.self y (hperm.symm.subset (tY _ hy)),?_,hclosed⟩
      ·have hmm:=(hperm.map (fun y:Nat×Kd=>y.1)).mem_iff (a:=k)
       rw[mM,List.mem_cons] at hmm;rw[hmm];constructor
       ·intro hk
        exact⟨.inr hk,fun e=>hxn (by rw[←e];exact hk)⟩
       ·rintro⟨rfl|hk,hne⟩
        ·exact absurd rfl hne
        ·exact hk
      ·refine List.pairwise_append.2 ⟨hpw.1,List.pairwise_append.2 ⟨?_,List.pairwise_cons.2 ⟨fun y hy u hu v hv=>hl2 y hy v hv u (.inr (by rw[←hgf];exact hu)),hc.2⟩,fun y hy z hz u hu v hv=>?_⟩,fun y hy z hz u hu v hv=>?_⟩
       ·rw[List.pairwise_map]
        refine (hG.seq x Zp).imp fun h u hu v hv=>?_
        rw[vW hu,vW hv];exact h
       ·have h1:=hone y hy u hu
        rcases List.mem_cons.1 hz with rfl|hz
        ·obtain⟨j,hj,rfl⟩:=List.mem_map.1 h1
         exact RJ j hj v (by rw[←hgf];exact hv)
        ·exact hl2 z hz v hv u (.inl h1)
       ·rcases List.mem_append.1 hz with hz|hz
        ·exact hl1 y hy u hu v (.inl (hone z hz v hv))
        ·rcases List.mem_cons.1 hz with rfl|hz
         ·exact hl1 y hy u hu v (.inr (by rw[←hgf];exact hv))
         ·exact hpw.2.2 y hy z (by simp[hz]) u hu v hv
      ·have hd:=hI.dep
       rw[hfl] at hd;rw[hfn];obtain⟨a1,a2,a3⟩:=List.pairwise_append.1 hd;obtain⟨b1,b2,b3⟩:=List.pairwise_append.1 a2;obtain⟨c1,c2,c3⟩:=List.pairwise_append.1 b1;obtain⟨d1,d2⟩:=List.pairwise_cons.1 c2;obtain⟨e1,e2,e3⟩:=List.pairwise_append.1 d2;refine List.pairwise_append.2 ⟨a1,List.pairwise_append.2 ⟨List.pairwise_append.2 ⟨e1,List.pairwise_append.2 ⟨c1,e2,fun y hy z hz=>c3 y hy z (tY _ (Bl _ hz))⟩,fun y hy z hz=>?_⟩,b2,fun y hy z hz=>b3 y ?_ z hz⟩,fun y hy z hz=>a3 y hy z ?_⟩
       ·obtain⟨j,hj,rfl⟩:=List.mem_map.1 hy
        exact ady (RJ j hj z hz)
       ·rcases List.mem_append.1 hy with hy|hy
        ·exact Bl _ (tY _ (zC _ hy))
        ·rcases List.mem_append.1 hy with hy|hy
         ·exact zC _ hy
         ·exact Bl _ (tY _ (Bl _ hy))
       ·rcases List.mem_append.1 hz with hz|hz
        ·rcases List.mem_append.1 hz with hz|hz
         ·exact zC _ (Bl _ (tY _ (zC _ hz)))
         ·rcases List.mem_append.1 hz with hz|hz
          ·exact zC _ (zC _ hz)
          ·exact zC _ (Bl _ (tY _ (Bl _ hz)))
        ·exact Bl _ hz
      ·intro b' E' hm
       rcases List.mem_append.1 hm with hm|hm
       ·exact hI.grp b' E' (zC _ hm)
       ·rcases List.mem_append.1 hm with hm|hm
        ·obtain⟨j,_,e⟩:=List.mem_map.1 hm
         cases e
        ·rcases List.mem_cons.1 hm with e|hm
         ·cases e
          exact hG.erase x
         ·exact hI.grp b' E' (by simp[hm])
def zZ (ops:Array Oper) (bf:Array Nat):List lu→Bool
 | []=>true
 | .one _ _::l=>zZ ops bf l
 | .grp b E::l=>Xg ops bf b E&&zZ ops bf l
theorem vP {bf:Array Nat}:∀(l:List lu),zZ ops bf l=true→∀b E,lu.grp b E∈l→Um ops bf b E
 | [],_,_,_,h=>by cases h
 | .one _ _::l,h,b,E,hm=>by
  rcases List.mem_cons.1 hm with e|hm
  ·cases e
  ·exact vP l h b E hm
 | .grp b' E'::l,h,b,E,hm=>by
  simp only[zZ,Bool.and_eq_true] at h;rcases List.mem_cons.1 hm with e|hm
  ·cases e
   exact Xh h.1
  ·exact vP l h.2 b E hm
def yO (ops:Array Oper) (l:List lu):Bool:=
 NI ops (Region.before ops) l&&VX ops (fA l)&&EF ops&&oU ops (Region.before ops)&&(fA l).length==ops.size&&nodupB ((fA l).map (·.1))&&((fA l).map (·.1)).all (fun i=>decide (i<ops.size))&&(List.range ops.size).all (fun i=>((fA l).map (·.1)).contains i) &&
 ops.all (fun o=>o.after.all fun e=>!Region.binds .any e||decide (e.on<ops.size))&&zZ ops (Region.before ops) l
theorem fE {id:Nat} {a:Act} {w:World} (hm:P.follows .mixedOrders=true) (S:World→Prop) (l:List lu) (hok:yO ops l=true)
 (h:ou P ops (NoPanic Q) S l (Q .normal) a w.drew):(Code.region id ops true).wp P Q a w:=by
 simp only[yO,Bool.and_eq_true] at hok;obtain⟨⟨⟨⟨⟨⟨⟨⟨⟨h1,h0⟩,h2⟩,h3⟩,h4⟩,h7⟩,h8⟩,h5⟩,h6⟩,h9⟩:=hok;have hlen:(fA l).length=ops.size:=by simpa using h4
 have hall:∀i,i<ops.size→i∈(fA l).map (·.1):=fun i hi=>by
  simp only[List.all_eq_true,List.mem_range] at h5;simpa using h5 i hi
 have hback:∀i,i∈(fA l).map (·.1)→i<ops.size:=fun i hi=>by
  rw[List.all_eq_true] at h8;simpa using h8 i hi
 have hd:=Je _ h0;refine wp_region_noPanic (wp_region_any hm ?_);refine G5 (S:=S) ?_ ?_ h3 ?_ ops.size l _ hlen ?_ a w.drew h
 ·intro j o cs b ho hsel
  simp only[EF,Array.all_eq_true] at h2;obtain⟨hj,rfl⟩:=Array.getElem?_eq_some_iff.1 ho;have:=h2 j hj;rw[hsel] at this;cases this
 ·intro c a d v w hh;exact hh
 ·intro j o ho e he hb
  obtain⟨hj,rfl⟩:=Array.getElem?_eq_some_iff.1 ho;rw[Array.all_eq_true] at h6;have:=h6 j hj;rw[Array.all_eq_true] at this;obtain⟨k,hk,rfl⟩:=Array.mem_iff_getElem.1 he;have:=this k hk;simpa[hb] using this
 ·refine⟨by simp,fun i=>⟨fun hi=>?_,fun hi=>hall i hi.1⟩,oQ _ h7,EM l h1,hd.1,hd.2,vP l h9,fun d r _ hd=>?_⟩
  ·have:=hback i hi
   exact⟨this,by simp[Array.getD,this]⟩
  ·exfalso
   simp only[Array.getD,Array.size_replicate] at hd;split at hd<;>simp at hd
theorem PS {W:World} {Pre Mid Post:aB} {v1 v2:Value} {FU:List Value} {a0:Act} {i j:Nat} {js:List Nat} {oi oj:Oper} {di dj:Option Tmp} (hdi:aU ops i=di) (hdj:aU ops j=dj) (hoi:ops[i]?=some oi) (hsi:∀cs b,oi.op≠.select cs b) (hoj:ops[j]?=some oj) (hsj:∀cs b,oj.op≠.select cs b)
 (hb:((Region.before ops).getD j 0).testBit i=true) (h1:jf P ops W oi a0 Pre (fun v=>sep (fact (v=v1)) Mid)) (h2:jf P ops W oj (a0.put di v1) Mid (fun v=>sep (fact (v=v2)) Post))
 (hw2:∀v,Region.wanted oj (yielded ops (a0.put di v).tmps)=true) (hpl:js.all (o7 ops)=true) (hF:y8 P ops ((a0.put di v1).put dj v2) js FU):
 Bf P ops W a0 (Oy Pre Mid Post v1 v2 FU) [] [(i,[]),(j,js)]:=by
 subst hdj;exact TR hdi hoi hsi hoj hsj hb h1 h2 hw2 hpl hF
theorem Ht {W:World} {Pre Mid Post:aB} {v1 u1 v2:Value} {a0:Act} {i k j:Nat} {oi oj:Oper} {di dk:Option Tmp} (hdi:aU ops i=di) (hdk:aU ops k=dk) (hoi:ops[i]?=some oi) (hsi:∀cs b,oi.op≠.select cs b) (hoj:ops[j]?=some oj) (hsj:∀cs b,oj.op≠.select cs b)
 (hb:((Region.before ops).getD j 0).testBit i=true) (h1:jf P ops W oi a0 Pre (fun v=>sep (fact (v=v1)) Mid)) (hpl:o7 ops k=true) (hF:y8 P ops (a0.put di v1) [k] [u1])
 (h2:jf P ops W oj ((a0.put di v1).put dk u1) Mid (fun v=>sep (fact (v=v2)) Post))
 (hw2:∀v u,Region.wanted oj (yielded ops ((a0.put di v).put dk u).tmps)=true):
 Bf P ops W a0 (X7 Pre Mid Post v1 u1 v2) [] [(i,[k]),(j,[])]:=by
 subst hdk;exact Wq hdi hoi hsi hoj hsj hb h1 hpl hF h2 hw2
theorem twoA_S {W:World} {Pre Mid Post:aB} {v1 v2:Value} {FU:List Value} (h1:∀w X,Sat W w (sep Pre X)→S w) (h2:∀w X,Sat W w (sep Mid X)→S w) (h3:∀w X,Sat W w (sep Post X)→S w):∀us w X,Sat W w (sep (Oy Pre Mid Post v1 v2 FU us) X)→S w
 | [],w,X,h=>h1 w X h
 | [_],w,X,h=>by
  rw[Oy,aj] at h;exact h2 w X (Sat.fact.1 h).2
 | _::_::_,w,X,h=>by
  rw[Oy,aj] at h;exact h3 w X (Sat.fact.1 h).2
theorem aas {W:World} {Pre Mid Post:aB} {v1 u1 v2:Value} (h1:∀w X,Sat W w (sep Pre X)→S w) (h2:∀w X,Sat W w (sep Mid X)→S w) (h3:∀w X,Sat W w (sep Post X)→S w):∀us w X,Sat W w (sep (X7 Pre Mid Post v1 u1 v2 us) X)→S w
 | [],w,X,h=>h1 w X h
 | [_],w,X,h=>by
  rw[X7,aj] at h;exact h2 w X (Sat.fact.1 h).2
 | [_,_],w,X,h=>by
  rw[X7,aj] at h;exact h2 w X (Sat.fact.1 h).2
 | _::_::_::_,w,X,h=>by
  rw[X7,aj] at h;exact h3 w X (Sat.fact.1 h).2
end
end
section
section
variable {P:Program} {ops:Array Oper} {Q:Exit→Act→World→Prop} {S:World→Prop}
theorem Dp {b:Bool} {E:List (Nat×List Nat)} {l:List lu} {K:Act→World→Prop} {a:Act} {w:World} {n:Nat} (hn:E.length=n) (h:pI P ops Q S b n E (ou P ops Q S l K) a w):ou P ops Q S (.grp b E::l) K a w:=by
 subst hn;exact h
end
end
section
section
variable {P:Program} {ops:Array Oper} {Q:Exit→Act→World→Prop} {S:World→Prop} {W:World}
def dB (ops:Array Oper) (L:List Nat) (f:Nat→Option Value) (a:Act):Act:=L.foldl (fun a x=>match f x with|some v=>a.put (aU ops x) v|none=>a) a
theorem Xr (f:Nat→Option Value) (a:Act):dB ops [] f a=a:=rfl
theorem jG (x:Nat) (L:List Nat) (f:Nat→Option Value) (a:Act):dB ops (x::L) f a=dB ops L f (match f x with|some v=>a.put (aU ops x) v|none=>a):=rfl
def fO (f:Nat→Option Value) (x:Nat) (v:Value):Nat→Option Value:=fun y=>if y=x then some v else f y
theorem aN {f:Nat→Option Value} {x y:Nat} {v:Value} (h:y≠x):fO f x v y=f y:=by unfold fO;rw[if_neg h]
theorem dG {f:Nat→Option Value} {x:Nat} {v:Value}:fO f x v x=some v:=by unfold fO;rw[if_pos rfl]
def zX (ops:Array Oper) (x y:Nat):Prop:=∀d,aU ops x=some d→aU ops y≠some d
theorem ER {x:Nat} {v:Value} (f:Nat→Option Value):∀(L:List Nat),(∀y∈L,zX ops x y)→∀a:Act,dB ops L f (a.put (aU ops x) v)=(dB ops L f a).put (aU ops x) v
 | [],_,_=>rfl
 | y::L,h,a=>by
  rw[jG,jG];cases hy:f y with
  | none=>exact ER f L (fun z hz=>h z (tY _ hz)) a
  | some u=>
   show dB ops L f ((a.put (aU ops x) v).put (aU ops y) u)=(dB ops L f (a.put (aU ops y) u)).put (aU ops x) v;rw[Act.put_comm a v u (h y (List.mem_cons_self ..)),ER f L (fun z hz=>h z (tY _ hz))]
theorem EP {f g:Nat→Option Value}:∀(L:List Nat),(∀y∈L,f y=g y)→∀a:Act,dB ops L f a=dB ops L g a
 | [],_,_=>rfl
 | y::L,h,a=>by
  rw[jG,jG,h y (List.mem_cons_self ..)];exact EP L (fun z hz=>h z (tY _ hz)) _
theorem ES {x:Nat} {v:Value} {f:Nat→Option Value}:∀(L:List Nat),x∈L→L.Pairwise (zX ops)→L.Nodup→f x=none→∀a:Act,dB ops L (fO f x v) a=(dB ops L f a).put (aU ops x) v
 | [],h,_,_,_,_=>by cases h
 | y::L,h,hp,hn,hx,a=>by
  obtain⟨p1,p2⟩:=List.pairwise_cons.1 hp;obtain⟨n1,n2⟩:=List.nodup_cons.1 hn;rw[jG,jG];by_cases e:x=y
  ·subst e
   rw[dG,hx];show dB ops L (fO f x v) (a.put (aU ops x) v)=(dB ops L f a).put (aU ops x) v;rw[EP L (g:=f) (fun z hz=>aN (x:=x) (v:=v) (fun e=>n1 (by rw[←e];exact hz))),ER f L p1]
  ·rw[aN (Ne.symm e)]
   exact ES L ((List.mem_cons.1 h).resolve_left e) p2 n2 hx _
theorem NS (a:Act) (d:Option Tmp) (v:Value):(a.put d v).tmps.size=a.tmps.size:=by
 cases d with
 | none=>rfl
 | some d=>simp[Act.put]
theorem Gq {a b:Act} {t:Tmp} {v:Value} (h:a.tmps.size=b.tmps.size):(a.put (some t) v).eval (.tmp t)=(b.put (some t) v).eval (.tmp t):=by
 simp[Act.put,Act.eval,Array.getElem?_setIfInBounds,h]
theorem nV {f:Nat→Option Value} {t:Tmp} (keep:Nat→Bool):∀(L:List Nat) (a b:Act),a.tmps.size=b.tmps.size→a.eval (.tmp t)=b.eval (.tmp t)→(∀y∈L,keep y=false→aU ops y≠some t)→(dB ops L f a).eval (.tmp t)=(dB ops (L.filter keep) f b).eval (.tmp t)
 | [],_,_,_,h,_=>h
 | y::L,a,b,hs,h,hL=>by
  have hL':=fun z hz=>hL z (tY _ hz)
  rw[jG,List.filter_cons];by_cases hk:keep y=true
  ·rw[if_pos hk,jG]
   cases hf:f y with
   | none=>exact nV keep L _ _ hs h hL'
   | some v=>
    refine nV keep L _ _ (by simp only[NS,hs]) ?_ hL';by_cases hd:aU ops y=some t
    ·simp only[hd];exact Gq hs
    ·simp only
     rw[Act.eval_put fun d hd' e=>hd (by rw[hd'];cases e;rfl),Act.eval_put fun d hd' e=>hd (by rw[hd'];cases e;rfl)];exact h
  ·rw[if_neg hk]
   have hk':keep y=false:=by simpa using hk
   have hd:=hL y (List.mem_cons_self ..) hk';cases hf:f y with
   | none=>exact nV keep L _ _ hs h hL'
   | some v=>
    refine nV keep L _ _ (by simp only[NS,hs]) ?_ hL';simp only;rw[Act.eval_put fun d hd' e=>hd (by rw[hd'];cases e;rfl)];exact h
def uh (P:Program) (o:Oper) (a:Act) (w:World) (Post:Value→World→Prop):Prop:=
 (∃v w',(execOp a.eval o).run P w=.ok (.value v) w'∧Post v w') ∨
 (∃f args w1,(execOp a.eval o).run P w=.ok (.enter f args) w1∧Calls P f args w1 fun e w'=>∃v,e=.returned v∧Post v w')
theorem uh.go {i:Nat} {o:Oper} {a:Act} {w:World} {Post:Value→World→Prop} (ho:ops[i]?=some o) (hg:o.guard=none) (h:uh P o a w Post) {K:Act→World→Prop}
 (hK:∀v w',Post v w'→K (a.put o.dst v) w'):Go.wpOp P ops Q i K a w:=by
 unfold Go.wpOp;have hw:Region.wanted o (yielded ops a.tmps)=true:=by unfold Region.wanted;rw[hg]
 simp only[ho,hw,if_true];refine .inl ?_;unfold Oper.wp;rcases h with ⟨v,w',h1,h2⟩|⟨f,args,w1,h1,h2⟩
 ·rw[h1];exact hK v w' h2
 ·rw[h1]
  refine Calls.mono h2 ?_;rintro e w' ⟨v,rfl,h3⟩;exact hK v w' h3
def dagB (ops:Array Oper) (E0:List Nat) (D:Nat→List Nat):Bool:=
 E0.all fun x=>(match ops[x]? with
  | none=>false
  | some o=>o.guard.isNone&&(match o.op with|.select ..=>false|_=>true)&&E0.all fun y=>(D x).contains y||(match aU ops y with|some t=>!(o.looksAt ops).contains t|none=>true)) &&
  (D x).all fun d=>E0.contains d&&((Region.before ops).getD x 0).testBit d
def He (ops:Array Oper):List Nat→Bool
 | []=>true
 | x::L=>(L.all fun y=>match aU ops x with|some d=>aU ops y !=some d|none=>true)&&!L.contains x&&He ops L
theorem DY:∀(L:List Nat),He ops L=true→L.Pairwise (zX ops)∧L.Nodup
 | [],_=>⟨.nil,.nil⟩
 | x::L,h=>by
  simp only[He,Bool.and_eq_true,List.all_eq_true,Bool.not_eq_true'] at h;obtain⟨⟨h1,h2⟩,h3⟩:=h;obtain⟨i1,i2⟩:=DY L h3;refine⟨List.pairwise_cons.2 ⟨fun y hy d hd=>?_,i1⟩,List.nodup_cons.2 ⟨fun hm=>?_,i2⟩⟩
  ·have:=h1 y hy
   rw[hd] at this;simpa using this
  ·simp[hm] at h2
theorem QN {a0:Act} {b:Bool} {K:Act→World→Prop} (E0:List Nat) (D:Nat→List Nat) (T:(Nat→Option Value)→aB)
 (hB:dagB ops E0 D=true) (hdst:He ops E0=true) (hS:b=true→∀f w,Sat W w (T f)→S w)
 (hop:∀x∈E0,∀(f:Nat→Option Value) (w:World) (o:Oper),ops[x]?=some o→f x=none→(∀d∈D x,(f d).isSome=true)→(∀y∈E0,(f y).isSome=true→∀d∈D y,(f d).isSome=true)→Sat W w (T f) →
  uh P o (dB ops (E0.filter fun y=>(D x).contains y) f a0) w (fun v w'=>Sat W w' (T (fO f x v))))
 (hfin:∀(f:Nat→Option Value) (w:World),(∀x∈E0,(f x).isSome=true)→Sat W w (T f)→K (dB ops E0 f a0) w):
 ∀(n:Nat) (E:List Nat) (f:Nat→Option Value) (w:World),E.length=n→E.Nodup→(∀x,x∈E↔x∈E0∧f x=none)→(∀y∈E0,(f y).isSome=true→∀d∈D y,(f d).isSome=true)→Sat W w (T f) →
  pI P ops Q S b n (E.map fun x=>(x,[])) K (dB ops E0 f a0) w:=by
 obtain⟨hpw,hnd⟩:=DY E0 hdst;have hB':=List.all_eq_true.1 hB;intro n
 induction n with
 | zero=>
  intro E f w hl _ hE _ hT;have he:=Ju hl;subst he;refine hfin f w (fun x hx=>?_) hT;cases hf:f x with
  | some v=>rfl
  | none=>have:=(hE x).2 ⟨hx,hf⟩;cases this
 | succ n ih=>
  intro E f w hl hn hE hcl hT;rintro⟨x,js⟩ hxm xP;obtain⟨x',hx',e⟩:=List.mem_map.1 hxm;cases e;obtain⟨hx0,hfx⟩:=(hE x).1 hx';have hb:=hB' x hx0;simp only[Bool.and_eq_true,List.all_eq_true] at hb;obtain⟨hb1,hb2⟩:=hb;cases ho:ops[x]? with
  | none=>rw[ho] at hb1;cases hb1
  | some o=>
   rw[ho] at hb1;simp only[Bool.and_eq_true,List.all_eq_true,Bool.or_eq_true] at hb1;obtain⟨⟨hg,hs⟩,hlook⟩:=hb1;have hg':o.guard=none:=by simpa using hg
   have hs':∀cs b,o.op≠.select cs b:=fun cs b e=>by rw[e] at hs;cases hs
   have fK:∀d∈D x,(f d).isSome=true:=fun d hd=>by
    have h1:=hb2 d hd;simp only[List.contains_iff_mem] at h1;cases hf:f d with
    | some v=>rfl
    | none=>
     have hdE:=(hE d).2 ⟨h1.1,hf⟩;have:=List.all_eq_true.1 xP (d,[]) (List.mem_map.2 ⟨d,hdE,rfl⟩);simp only[h1.2] at this;cases this
   have hd1:=hop x hx0 f w o ho hfx fK hcl hT;have hex:execOp (dB ops E0 f a0).eval o=execOp (dB ops (E0.filter fun y=>(D x).contains y) f a0).eval o:=by
    refine execOp_congr o hs' fun z hz=>?_
    cases z with
    | tmp t=>
     refine nV _ E0 a0 a0 rfl rfl fun y hy hk hdt=>?_
     have:=hlook y hy;rw[hk,hdt] at this;simp only[Bool.false_eq_true,false_or,Bool.not_eq_true',List.contains_eq_mem,decide_eq_false_iff_not] at this;exact this (zC _ (List.mem_filterMap.2 ⟨.tmp t,by simpa using hz,rfl⟩))
    | _=>rfl
   have hd2:uh P o (dB ops E0 f a0) w (fun v w'=>Sat W w' (T (fO f x v))):=by
    unfold uh at hd1 ⊢;rw[hex];exact hd1
   refine hd2.go ho hg' fun v w' hT'=>⟨fun hb=>hS hb _ w' hT',?_⟩
   show pI P ops Q S b n _ K _ w';have hdo:o.dst=aU ops x:=by unfold aU;rw[ho];rfl
   rw[hdo,←ES E0 hx0 hpw hnd hfx];have hel:((E.map fun x=>(x,([]:List Nat))).erase (x,[]))=(E.erase x).map fun x=>(x,([]:List Nat)):=by
    clear hl hn hE hxm xP hx'
    induction E with
    | nil=>rfl
    | cons y E ihE=>
     rw[mM,List.erase_cons,List.erase_cons];by_cases e:y=x
     ·subst e;simp
     ·have e1:(y==x)=false:=by simpa using e
      have e2:((y,([]:List Nat))==(x,[]))=false:=by simp[e]
      rw[e1,e2];simp only[Bool.false_eq_true,if_false,mM,ihE]
   rw[hel];refine ih (E.erase x) (fO f x v) w' (by rw[List.length_erase_of_mem hx',hl];rfl) (hn.erase x) (fun y=>?_) (fun y hy hys d hd=>?_) hT'
   ·rw[hn.mem_erase_iff,hE]
    by_cases e:y=x
    ·subst e;simp[dG]
    ·rw[aN e];simp[e]
   ·by_cases e:d=x
    ·subst e;rw[dG];rfl
    ·rw[aN e]
     by_cases e2:y=x
     ·subst e2;exact fK d hd
     ·rw[aN e2] at hys
      exact hcl y hy hys d hd
end
end
end PA
