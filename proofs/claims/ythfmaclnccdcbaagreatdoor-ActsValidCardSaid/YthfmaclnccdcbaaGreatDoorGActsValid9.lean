/- Part of a proof. -/
import Derived.Test.YthfmaclnccdcbaaGreatDoorGActsValid7
import Derived.Lib.SliceRun
import Derived.Laws.IdiomStrings
import Derived.RangeFuncSeq
import Derived.RangeFuncRecord
import Derived.RangeFuncIn
namespace Go.Proofs.YthfmaclnccdcbaaGreatDoor
open Go.RowKit PA
theorem GV:(Tryz.prog.info? 5).map (fun i=>(i.zero,i.size,i.bytes))=some (some (.int .u8 0),1,1):=by kernel_rfl
def dh (p:Nat) (bs:List UInt8):aB:=ex fun a:Option Addr=>ex fun n:Nat=>ex fun c:Nat=>sep (blk p (.cells #[.slice a n c] 104 (0,0))) (aY 5 1 a n c (bs.map bv))
theorem oG {W w:World} {A:aB} {p:Nat} {bs:List UInt8} (h:Sat W w (sep (dh p bs) A)):∃a n c,n=bs.length∧Sat W w (sep (blk p (.cells #[.slice a n c] 104 (0,0))) (sep (aY 5 1 a n c (bs.map bv)) A)):=by
 simp only[dh,fB,Sat.ex,aj] at h
 obtain⟨a,n,c,h⟩:=h
 have:=h.p1.vV.1
 exact⟨a,n,c,by simpa using this.symm,h⟩
theorem sG {W w:World} {A:aB} {p:Nat} {bs:List UInt8} {a:Option Addr} {n c:Nat} (h:Sat W w (sep (blk p (.cells #[.slice a n c] 104 (0,0))) (sep (aY 5 1 a n c (bs.map bv)) A))):Sat W w (sep (dh p bs) A):=by
 simp only[dh,fB,Sat.ex,aj]
 exact⟨a,n,c,h⟩
set_option maxHeartbeats 1000000 in
theorem uI {W w:World} {A:aB} (p:Nat) (bs:List UInt8) (x:Nat) (hx:x<18446744073709551616) (h:Sat W w (sep (dh p bs) A)) (hb:bs.length≤1073741824):
 Calls Tryz.prog 126 #[.pointer (some ⟨p,0,none⟩),.int .u64 (x:Nat)] w fun e w'=>e=.returned (.tuple #[])∧Sat W w' (sep (dh p (bs++Lib.uvarint x)) A):=by
 have HX:=ah hx
 have HB:=ah hb
 clear hx hb
 go_enter Tryz.func126,Tryz.ntmps126
 go_wp2_with fail
 go_loopw [1] (fun nv wr=>∃(y:Nat) (pre:List UInt8),nv=.int .u64 (y:Nat)∧Hid (y<18446744073709551616∧pre++Lib.uvarint y=Lib.uvarint x)∧Sat W wr (sep (dh p (bs++pre)) A)) (fun nv _=>(intOf nv).toNat)
 case atStart=>exact⟨x,[],rfl,ah ⟨HX.out,rfl⟩,by simpa using h⟩
 case round=>
  clear h
  obtain⟨y,pre,rfl,HY,hS⟩:=hrel
  have hpl:pre.length≤10:=by
   have:=congrArg List.length HY.out.2
   have:=Lib.uvarint_length64 HX.out
   simp at *;omega
  obtain⟨a,n,c,hn,h1⟩:=oG hS
  have hnb:n≤1073741834:=by rw[hn,fA];have:=HB.out;omega
  have HN:=ah hnb
  have c1:wr.cell? ⟨p,0,none⟩=some (.slice a n c):=h1.cell 0
  obtain⟨vs,hvs⟩:=aC ((bs++pre).map bv)
  rw[←hvs] at h1
  have Ho:=ah hvs
  have hS':=h1.p1
  clear hn hpl hnb hS hvs
  by_cases hy:128≤y
  ·have hyI:(128:Int)≤(y:Int):=by omega
   obtain⟨z,hz⟩:∃z:UInt8,z=(y % 128+128).toUInt8:=⟨_,rfl⟩
   have hor:bits BinOp.or IntKind.u8 ((y:Int) % 256) 128=(z.toNat:Int):=by
    rw[Lib.u8_or128_any _ (by omega) (by omega),hz]
    simp;omega
   have hB:=(hS'.gu (.cells #[.int .u8 (z.toNat:Int)] 5))
   have HZ:=ah hz
   clear hz h1 hS'
   go_wp2_with (at_builtin;(refine aV rfl (.tmp 12) (.tmp 16) 51 rfl 5 1 1 (.int .u8 0) Tryz.underlying51 GV rfl rfl hB rfl [.int .u8 (z.toNat:Int)] rfl (by simp) (by intro b hb;cases hb;exact iY _ [_] _) (by simp[Value.oneCell']) (by have:=HN.out;omega) (by have:=HN.out;unfold maxLen;omega) ?_))
   intro a2 c2 w2 h2
   have h3:=h2.p1
   have c2':w2.cell? ⟨p,0,none⟩=some (.slice a n c):=h3.cell 0
   have f2':w2.frozen? ⟨p,0,none⟩=false:=h3.aF 0
   have h4:Sat W (w2.setCell ⟨p,0,none⟩ (.slice a2 (n+1) c2)) (sep (blk p (.cells #[.slice a2 (n+1) c2] 104 (0,0))) (sep (aY 5 1 a2 (n+1) c2 (vs++[.int .u8 (z.toNat:Int)])) A)):=h3.setCell 0 _
   clear hB h2 h3 c1
   go_wp2_with fail
   go_roundw
   case rel=>
    refine⟨y / 128,pre++[z],by go_num,ah ⟨by have:=HY.out.1;omega,?_⟩,sG (a:=a2) (n:=n+1) (c:=c2) ?_⟩
    ·rw[List.append_assoc,←HY.out.2,Lib.uvarint_big hy,←HZ.out];rfl
    ·rw[←List.append_assoc,zi,←Ho.out];exact h4
   case measure=>simp[intOf];omega
  ·have hyB:decide ((128:Int)≤(y:Int))=false:=by simp;omega
   have ZA:=ah hy
   obtain⟨z,hz⟩:∃z:UInt8,z=y.toUInt8:=⟨_,rfl⟩
   have hzy:z.toNat=y:=by
    rw[hz];simp;omega
   have hor:((y:Int) % 256)=(z.toNat:Int):=by omega
   have hB:=(hS'.gu (.cells #[.int .u8 (z.toNat:Int)] 5))
   have HZ:=ah hz
   clear hz h1 hS' hzy hy
   go_wp2_with (at_builtin;(refine aV rfl (.tmp 24) (.tmp 27) 51 rfl 5 1 1 (.int .u8 0) Tryz.underlying51 GV rfl rfl hB rfl [.int .u8 (z.toNat:Int)] rfl (by simp) (by intro b hb;cases hb;exact iY _ [_] _) (by simp[Value.oneCell']) (by have:=HN.out;omega) (by have:=HN.out;unfold maxLen;omega) ?_))
   intro a2 c2 w2 h2
   have h3:=h2.p1
   have c2':w2.cell? ⟨p,0,none⟩=some (.slice a n c):=h3.cell 0
   have f2':w2.frozen? ⟨p,0,none⟩=false:=h3.aF 0
   have h4:Sat W (w2.setCell ⟨p,0,none⟩ (.slice a2 (n+1) c2)) (sep (blk p (.cells #[.slice a2 (n+1) c2] 104 (0,0))) (sep (aY 5 1 a2 (n+1) c2 (vs++[.int .u8 (z.toNat:Int)])) A)):=h3.setCell 0 _
   clear hB h2 h3 c1
   go_wp2_with fail
   go_end0
   refine⟨rfl,sG (a:=a2) (n:=n+1) (c:=c2) ?_⟩
   rw[←HY.out.2,Lib.uvarint_small (by have:=ZA.out;omega),←HZ.out,←List.append_assoc,zi,←Ho.out,List.map_cons,List.map_nil,bv];exact h4
end Go.Proofs.YthfmaclnccdcbaaGreatDoor
namespace Go.Proofs.YthfmaclnccdcbaaGreatDoor
open Go.RowKit PA
theorem Tj:(Tryz.prog.info? 5).map (fun i=>(i.zero,i.size,i.bytes))=some (some (.int .u8 0),1,1):=by kernel_rfl
theorem clone_any {W w:World} {A:aB} (a:Option Addr) (n c:Nat) (xs:List Value) (h:Sat W w A) (hsrc:∀b,a=some b→∀j u,xs[j]?=some u→w.cell? (b.add j)=some u) (hl:xs.length=n) (hw:U4 a n c) (h1:∀u∈xs,u.oneCell'=true) (hn:n≤140737488355328):
 Calls Tryz.prog 93 #[.slice a n c] w fun e w'=>∃a' c',e=.returned (.slice a' n c')∧Sat W w' (sep (aY 5 1 a' n c' xs) A):=by
 obtain⟨hw1,hw2,hw3⟩:=hw
 have hq:=fun w a n c=>Lib.run_eql_slice_nil (P:=Tryz.prog) w 51 5 a n c 0 0 Tryz.underlying51
 cases a with
 | none=>
  obtain rfl:=hw3 rfl
  obtain rfl:n=0:=by omega
  obtain rfl:xs=[]:=List.eq_nil_of_length_eq_zero hl
  clear hsrc
  go_enter Tryz.func93,Tryz.ntmps93
  go_wp2
  go_ret
  exact⟨_,_,rfl,h.gK _ _⟩
 | some b=>
  have hS:=(h.alloc (.cells #[] 5)).lM 0 0 1 [] rfl (by omega) (by unfold maxLen;omega) rfl rfl
  have hc2:=ah (Nk (hsrc b rfl) (.cells #[] 5))
  have HN:=ah hn
  have HW2:=ah hw2
  have HW1:=ah hw1
  clear hsrc hn hw1 hw2 hw3
  go_enter Tryz.func93,Tryz.ntmps93
  go_wp2_with (at_builtin;refine aV rfl _ _ 51 rfl 5 1 1 (.int .u8 0) Tryz.underlying51 Tj rfl rfl hS rfl xs (by omega) (by simp) (by intro b' hb;cases hb;exact hc2.out) h1 (by have:=HN.out;omega) (by have:=HN.out;unfold maxLen;omega) ?_)
  intro a' c' w' hS'
  go_wp2
  go_ret
  refine⟨a',c',?_,?_⟩
  ·simp
  ·simpa using hS'
theorem _root_.PA.Sat.Tm {W w:World} {A:aB} {E:Nat} {a:Option Addr} {n c:Nat} {xs:List Value} (h:Sat W w (sep (aY E 1 a n c xs) A)):∀b,a=some b→∀j u,xs[j]?=some u→w.cell? (b.add j)=some u:=by
 intro b hb j u hu
 obtain⟨g,e,hc⟩:=h.Kz (fun e=>by rw[e] at hu;simp at hu)
 rw[hb] at e;cases e
 have:=hc j u hu
 unfold Addr.add
 split
 ·rename_i e;subst e;exact this
 ·simpa using this
end Go.Proofs.YthfmaclnccdcbaaGreatDoor
namespace Go.Proofs.YthfmaclnccdcbaaGreatDoor
open Go.RowKit PA
theorem JL (n:Int) (w:World) (h1:-9223372036854775808≤n) (h2:n≤9223372036854775807):Calls Tryz.prog 127 #[.int .i64 n] w fun e w'=>e=.returned (.int .u64 (Lib.zigzag n:Nat))∧w=w':=by
 go_enter Tryz.func127,Tryz.ntmps127
 go_wp2
 go_ret
 exact⟨TI (zz_val n h1 h2),rfl⟩
theorem iq {W w:World} {A:aB} (p:Nat) (bs:List UInt8) (n:Int) (h1:-9223372036854775808≤n) (h2:n≤9223372036854775807) (h:Sat W w (sep (dh p bs) A)) (hb:bs.length≤1073741824):
 Calls Tryz.prog 72 #[.pointer (some ⟨p,0,none⟩),.int .i64 n] w fun e w'=>e=.returned (.tuple #[])∧Sat W w' (sep (dh p (bs++PA.encI n)) A):=by
 have hz:=Lib.zigzag_lt h1 h2
 have HZ:=ah hz
 have HB:=ah hb
 clear hz hb
 go_enter Tryz.func72,Tryz.ntmps72
 go_wp2_with fail
 refine (JL n _ h1 h2).mono ?_
 rintro e w2 ⟨rfl,rfl⟩
 go_wp2_with fail
 refine (uI p bs (Lib.zigzag n) HZ.out h HB.out).mono ?_
 rintro e w3 ⟨rfl,hS⟩
 go_wp2_with fail
 go_end0
 exact⟨rfl,hS⟩
set_option maxHeartbeats 1000000 in
theorem MP {W w:World} {A:aB} (p:Nat) (bs:List UInt8) (s:ByteArray) (h:Sat W w (sep (dh p bs) A)) (hb:bs.length≤1073741800) (hs:s.size≤1073741824):
 Calls Tryz.prog 129 #[.pointer (some ⟨p,0,none⟩),.string s] w fun e w'=>e=.returned (.tuple #[])∧Sat W w' (sep (dh p (bs++encR s.data.toList)) A):=by
 have hw1:IntKind.u64.wrap (s.size:Int)=(s.size:Nat):=wraps_u64 _ (by omega) (by omega)
 have HB:=ah hb
 have HS:=ah hs
 clear hb hs
 go_enter Tryz.func129,Tryz.ntmps129
 go_wp2_with fail
 refine (uI p bs s.size (by have:=HS.out;omega) h (by have:=HB.out;omega)).mono ?_
 rintro e w3 ⟨rfl,hS⟩
 obtain⟨a,n,c,hn,h3⟩:=oG hS
 have wM:=Lib.uvarint_length64 (x:=s.size) (by have:=HS.out;omega)
 have hnb:n≤1073741900:=by rw[hn,fA];have:=HB.out;omega
 obtain⟨vs,hvs⟩:=aC ((bs++Lib.uvarint s.size).map bv)
 rw[←hvs] at h3
 have c1:w3.cell? ⟨p,0,none⟩=some (.slice a n c):=h3.cell 0
 have f1:w3.frozen? ⟨p,0,none⟩=false:=h3.aF 0
 have hB:=h3.p1
 have HN:=ah hnb
 have Ho:=ah hvs
 clear hn wM hnb hvs h h3 hS hw1
 go_wp2_with (at_builtin;(refine uU rfl (.tmp 13) (.tmp 14) 51 9 rfl 5 Tryz.underlying51 Tryz.underlying9 GV rfl hB s rfl (by have:=HN.out;have:=HS.out;omega) ?_))
 intro a2 c2 w4 h4
 have h5:=h4.p1
 have c2':w4.cell? ⟨p,0,none⟩=some (.slice a n c):=h5.cell 0
 have f2':w4.frozen? ⟨p,0,none⟩=false:=h5.aF 0
 have h6:Sat W (w4.setCell ⟨p,0,none⟩ (.slice a2 (n+s.size) c2)) (sep (blk p (.cells #[.slice a2 (n+s.size) c2] 104 (0,0))) (sep (aY 5 1 a2 (n+s.size) c2 (vs++s.data.toList.map bv)) A)):=h5.setCell 0 _
 clear hB h4 h5 c1 f1
 go_wp2_with fail
 go_end0
 refine⟨rfl,sG (a:=a2) (n:=n+s.size) (c:=c2) ?_⟩
 rw[encR,show s.data.toList.length=s.size by simp,←List.append_assoc,zi,←Ho.out]
 exact h6
theorem lV {W w:World} {A:aB} (p:Nat) (bs:List UInt8) (h:Sat W w (sep (dh p bs) A)) (hb:bs.length≤1073742900):
 Calls Tryz.prog 77 #[.pointer (some ⟨p,0,none⟩)] w fun e w'=>∃a c,e=.returned (.slice a bs.length c)∧Sat W w' (sep (aY 5 1 a bs.length c (bs.map bv)) (sep (dh p bs) A)):=by
 obtain⟨a,n,c,hn,h1⟩:=oG h
 have c1:w.cell? ⟨p,0,none⟩=some (.slice a n c):=h1.cell 0
 have hsw:=h1.p1.gG
 have hsrc:=h1.p1.Tm
 rw[←hn] at hb ⊢
 have hcl:=clone_any a n c (bs.map bv) h1 hsrc (by rw[List.length_map,hn]) hsw (bv_one bs) (by omega)
 have Fb:=ah hcl
 clear h h1 hn hsw hsrc hcl hb
 go_enter Tryz.func77,Tryz.ntmps77
 go_wp2_with fail
 refine Fb.out.mono ?_
 rintro e w2 ⟨a2,c2,rfl,hS⟩
 clear c1
 go_wp2_with fail
 go_ret
 refine⟨a2,c2,rfl,?_⟩
 have h2:=sG (a:=a) (n:=n) (c:=c) (p:=p) (bs:=bs) (A:=sep (aY 5 1 a2 n c2 (bs.map bv)) A) (by simpa only[au,ak,aj] using hS)
 exact h2.p1
set_option maxHeartbeats 1000000 in
theorem lG {W w:World} {A:aB} {I:Mem} (p:Nat) (bs:List UInt8) (v:Value) (b:List UInt8) (h:Sat W w (sep (dh p bs) (sep (kn I) A))) (hv:gZ.rel I [v] b) (hb:bs.length≤1073741800) (hs:b.length≤1073741824):
 Calls Tryz.prog 74 #[.pointer (some ⟨p,0,none⟩),v] w fun e w'=>e=.returned (.tuple #[])∧Sat W w' (sep (dh p (bs++encR b)) (sep (kn I) A)):=by
 obtain⟨a,c,rfl,hsw,hc⟩:=wV.1 hv
 have hsrc:=Fh hc h.p1.ext
 obtain⟨s,hsd⟩:∃s:ByteArray,s=⟨b.toArray⟩:=⟨_,rfl⟩
 have hsl:s.data.toList=b:=by rw[hsd]
 have hss:s.size=b.length:=by rw[hsd];simp[ByteArray.size]
 have hconv:(convert 51 9 (.slice a b.length c)).run Tryz.prog w=.ok (.string s) w:=by
  cases a with
  | none=>
   have hc0:=hsw.2.2 rfl
   have hb0:b=[]:=List.eq_nil_of_length_eq_zero (by have:=hsw.1;omega)
   subst hb0
   rw[hsd]
   simp[convert,run_underlying Tryz.underlying51,run_underlying Tryz.underlying9,run_underlying Tryz.underlying5,Conv.bytesToString]
   rfl
  | some ad=>
   have:=run_convert_bytes_back (P:=Tryz.prog) w 51 9 5 ad c b Tryz.underlying51 Tryz.underlying5 Tryz.underlying9 (fun j hj=>hsrc ad rfl j _ (by rw[List.getElem?_map,List.getElem?_eq_getElem hj];rfl))
   rw[hsd];exact this
 have htx:=MP p bs s h hb (by rw[hss];exact hs)
 rw[hsl] at htx
 have HT:=ah htx
 obtain⟨n0,hn0⟩:=aC (b.length)
 rw[←hn0] at hconv ⊢
 clear htx hv hsw hc hsrc hsd hsl hss hn0 hb hs h
 go_enter Tryz.func74,Tryz.ntmps74
 go_wp2_with fail
 refine HT.out.mono ?_
 rintro e w3 ⟨rfl,hS⟩
 go_wp2_with fail
 go_end0
 exact⟨rfl,hS⟩
end Go.Proofs.YthfmaclnccdcbaaGreatDoor
namespace Go.Proofs.YthfmaclnccdcbaaGreatDoor
open Go.RowKit PA
end Go.Proofs.YthfmaclnccdcbaaGreatDoor
namespace PA
open Go Go.RowKit
structure SrcOw (w:World) (a:Option Addr) (n:Nat) (vs:List Value):Prop where
 len:vs.length=n*1
 nil:a=none→n=0
 src:∀b,a=some b→∀j u,vs[j]?=some u→w.cell? (b.add j)=some u
 one:∀u∈vs,u.oneCell'=true
def lN (l:List Int):List UInt8:=Lib.uvarint l.length++(l.map PA.encI).flatten
def uJ (l:List Int) (k:Nat):List UInt8:=Lib.uvarint l.length++((l.take k).map PA.encI).flatten
theorem Ee {l:List Int} {k:Nat} {r:Int} (h:l[k]?=some r):uJ l (k+1)=uJ l k++PA.encI r:=by
 unfold uJ
 rw[List.take_add_one,h];simp
theorem wu (l:List Int):uJ l l.length=lN l:=by unfold uJ lN;rw[List.take_length]
theorem iE {r:Int} (h1:-9223372036854775808≤r) (h2:r≤9223372036854775807):(PA.encI r).length≤10:=by
 unfold PA.encI;exact Lib.uvarint_length64 (Lib.zigzag_lt h1 h2)
theorem zH {l:List Int} (hn:l.length≤1048576) (hi:∀r∈l,-9223372036854775808≤r∧r≤9223372036854775807) (k:Nat):(uJ l k).length≤10+10*k:=by
 induction k with
 | zero=>unfold uJ;simp;exact Lib.uvarint_length64 (by omega)
 | succ k ih=>
  cases h:l[k]? with
  | none=>
   have e:uJ l (k+1)=uJ l k:=by unfold uJ;rw[List.take_add_one,h];simp
   rw[e];omega
  | some r=>
   rw[Ee h,fA]
   have:=iE (hi r (List.mem_iff_getElem?.2 ⟨k,h⟩)).1 (hi r (List.mem_iff_getElem?.2 ⟨k,h⟩)).2
   omega
end PA
namespace Go.Proofs.YthfmaclnccdcbaaGreatDoor
open Go.RowKit PA
end Go.Proofs.YthfmaclnccdcbaaGreatDoor
namespace PA
open Go
def KW (a b:Rt):Bool:=decide (a.n*b.d<b.n*a.d)
def dX (r:Rt):Bool:=okR r&&(decide (r.n≤1073741824)&&(decide (-1073741824≤r.n)&&decide (r.d≤32768)))
def Iv.lw (x:Iv):Rt:=⟨x.ln,x.ld⟩
def Iv.up (x:Iv):Rt:=⟨x.hn,x.hd⟩
def zR (r:Rt):Bool:=r.n==0&&r.d==0
def VB (a b:Rt):Bool:=a.n==b.n&&a.d==b.d
def fQ (x:Iv):Bool:=
 if ((x.li&&(!zR x.lw||x.lo))||(x.hi&&(!zR x.up||x.ho)))=true then false
 else if ((!x.li&&!dX x.lw)||(!x.hi&&!dX x.up))=true then false
 else if (x.li||x.hi)=true then true
 else if VB x.lw x.up=true then !x.lo&&!x.ho else KW x.lw x.up
def pz (a b:Iv):Bool:=
 if (a.hi||b.li)=true then false
 else if VB a.up b.lw=true then a.ho&&b.lo else KW a.up b.lw
def qE (l:List Iv) (j:Nat):Bool:=
 match l[j]? with
 | none=>true
 | some x=>fQ x&&(match j with|0=>true|j'+1=>match l[j']? with|none=>true|some y=>pz y x)
def yT (l:List Iv) (n:Nat):Bool:=(List.range n).all (qE l)
theorem wY (l:List Iv):yT l 0=true:=rfl
theorem ou (l:List Iv) (n:Nat):yT l (n+1)=(yT l n&&qE l n):=by
 unfold yT;rw[List.range_succ,List.all_append];simp
theorem qR {l:List Iv} {n i:Nat} (hi:i<n) (h:qE l i=false):yT l n=false:=by
 unfold yT
 rw[List.all_eq_false]
 exact⟨i,List.mem_range.2 hi,by rw[h];decide⟩
def Hg (l:List Iv):Int:=if yT l l.length=false then 1 else if 32<l.length then 4 else 0
def oQ (l:List Iv):Bool:=decide (Hg l=0)
def mV (l:List Int) (i:Nat) (k:Nat):Bool:=
 match l[k]? with
 | none=>true
 | some r=>decide (0≤r)&&(decide (r<(i:Int))&&(match k with|0=>true|k'+1=>match l[k']? with|none=>true|some q=>decide (q<r)))
def qp (l:List Int) (i n:Nat):Bool:=(List.range n).all (mV l i)
theorem uo (l:List Int) (i:Nat):qp l i 0=true:=rfl
theorem lS (l:List Int) (i n:Nat):qp l i (n+1)=(qp l i n&&mV l i n):=by
 unfold qp;rw[List.range_succ,List.all_append];simp
theorem wX {l:List Int} {i n k:Nat} (hk:k<n) (h:mV l i k=false):qp l i n=false:=by
 unfold qp
 rw[List.all_eq_false]
 exact⟨k,List.mem_range.2 hk,by rw[h];decide⟩
def jr (l:List Int) (i:Nat):Bool:=qp l i l.length
theorem xq {l:List Int} {i:Nat} (h:jr l i=true):∀r∈l,0≤r∧r<(i:Int):=by
 intro r hr
 obtain⟨k,hk,rfl⟩:=List.mem_iff_getElem.1 hr
 unfold jr qp at h
 have:=List.all_eq_true.1 h k (List.mem_range.2 hk)
 unfold mV at this
 rw[List.getElem?_eq_getElem hk] at this
 simp only[Bool.and_eq_true,decide_eq_true_eq] at this
 exact⟨this.1,this.2.1⟩
def jO (f:Fm):Int:=f.valid oQ
def pI:Nat→List Cl→Int
 | _,[]=>0
 | i,c::l=>if 8<c.refs.length then 4 else if jr c.refs i=false then 1 else if jO c.body≠0 then jO c.body else pI (i+1) l
def qF (l:List Cl):Int:=if 32<l.length then 4 else pI 0 l
theorem N8:∀(l:List Cl) (i:Nat),pI i l=0→∀(k:Nat) (hk:k<l.length),l[k].refs.length≤8∧jr l[k].refs (i+k)=true∧jO l[k].body=0
 | c::l,i,h,k,hk=>by
  unfold pI at h
  split at h
  ·cases h
  ·rename_i h1
   split at h
   ·cases h
   ·rename_i h2
    split at h
    ·rename_i h3;exact absurd h h3
    ·rename_i h3
     cases k with
     | zero=>exact⟨by simpa using h1,by simpa using h2,by simpa using h3⟩
     | succ k=>
      have:=N8 l (i+1) h k (by simpa using hk)
      simp only[List.getElem_cons_succ]
      rw[show i+(k+1)=i+1+k by omega]
      exact this
theorem qZ {l:List Cl} (h:qF l=0):l.length≤32∧∀(k:Nat) (hk:k<l.length),l[k].refs.length≤8∧jr l[k].refs k=true∧jO l[k].body=0:=by
 unfold qF at h
 split at h
 ·cases h
 ·rename_i h1
  refine⟨by omega,fun k hk=>?_⟩
  have:=N8 l 0 h k hk
  rwa [Nat.zero_add] at this
mutual
def Fm.cZ:Fm→List Fm
 | .mk o n i k=>if o=5 then Fm.aT k else [.mk o n i k]
def Fm.aT:List Fm→List Fm
 | []=>[]
 | f::l=>Fm.cZ f++Fm.aT l
end
def Fm.parts (f:Fm):List Fm:=if f.op=4 then f.kids else [f]
theorem Fm.BL:∀(l:List Fm) (f:Fm),Fm.aT (l++[f])=Fm.aT l++Fm.cZ f
 | [],f=>by simp[Fm.aT]
 | g::l,f=>by rw[List.cons_append,Fm.aT,Fm.aT,Fm.BL l f,List.append_assoc]
theorem Fm.Ah (l:List Fm) (i:Nat) (hi:i<l.length):Fm.aT (l.take (i+1))=Fm.aT (l.take i)++Fm.cZ l[i]:=by
 rw[List.take_succ_eq_append_getElem hi,Fm.BL]
def dY (a b:Fm):Fm:=.mk 4 0 [] (a.parts++b.parts)
def dV:List Fm→List Fm→Option (List Fm)
 | [],_=>some []
 | a::x,t=>if (t.all fun b=>decide (jO (dY a b)=0))=true then (dV x t).map (t.map (dY a)++·) else none
def dR (of:Nat→Option (List Fm)) (own:List Fm):List Int→List Fm→Option (List Fm)
 | [],out=>some out
 | r::rs,out=>
  match of r.toNat with
  | none=>none
  | some x=>if 64<out.length+x.length*own.length then none else
   match dV x own with
   | none=>none
   | some y=>dR of own rs (out++y)
def qG (of:Nat→Option (List Fm)) (c:Cl):Option (List Fm):=
 if c.refs=[] then (if c.body.cZ.length≤64 then some c.body.cZ else none) else dR of c.body.cZ c.refs []
def eY (l:List Cl) (k:Nat):Option (List Fm):=
 match l[k]? with
 | none=>none
 | some c=>qG (fun r=>if r<k then eY l r else none) c
termination_by k
theorem jS:∀{x t y:List Fm},dV x t=some y→y.length=x.length*t.length
 | [],t,y,h=>by cases h;simp
 | a::x,t,y,h=>by
  unfold dV at h
  split at h
  ·cases hc:dV x t with
   | none=>rw[hc] at h;cases h
   | some z=>
    rw[hc] at h
    cases h
    rw[fA,List.length_map,jS hc,List.length_cons,Nat.add_mul];omega
  ·cases h
theorem yG {of:Nat→Option (List Fm)} {own:List Fm}:∀{rs:List Int} {out y:List Fm},out.length≤64→dR of own rs out=some y→y.length≤64
 | [],out,y,h0,h=>by cases h;exact h0
 | r::rs,out,y,h0,h=>by
  unfold dR at h
  split at h
  ·cases h
  ·split at h
   ·cases h
   ·rename_i h1
    split at h
    ·cases h
    ·rename_i z hz
     have hl:=jS hz
     exact yG (by rw[fA,hl];omega) h
theorem vX {l:List Cl} {k:Nat} {y:List Fm} (h:eY l k=some y):y.length≤64:=by
 unfold eY at h
 split at h
 ·cases h
 ·unfold qG at h
  split at h
  ·split at h
   ·cases h;assumption
   ·cases h
  ·exact yG (by simp) h
def jU:List Fm→Int
 | []=>0
 | f::l=>if jO f≠0 then jO f else jU l
def jv (l:List Cl):Nat→Option Nat
 | 0=>some 0
 | n+1=>match jv l n with
  | none=>none
  | some s=>match eY l n with
   | none=>none
   | some y=>some (s+y.length)
def FP (td:List Fm) (tc:List Cl):Int:=
 if 16<td.length then 4 else if jU td≠0 then jU td else if qF tc≠0 then qF tc else
  match jv tc tc.length with
  | none=>4
  | some s=>if 128<(Fm.aT td).length+s then 4 else 0
def aJ (n lo hi:Int):Bool:=decide (lo≤n)&&decide (n≤hi)
def bH (k:Int):Bool:=decide (k≠5)&&(decide (k≠19)&&(decide (k≠20)&&decide (k≠21)))
def jJ (x:Pa):Pa:=
 { x with
  f:=if bH x.k=true then 0 else x.f
  o:=if x.k=0∨x.k=20∨x.k=21 then 0 else x.o
  p:=if x.k=0∨x.k=4∨x.k=5∨x.k=12∨x.k=14∨x.k=16∨x.k=17 then 0 else x.p
  q:=if x.k=0∨x.k=4∨x.k=13∨x.k=16∨x.k=17 then 0 else x.q
  u:=if x.k=4∨x.k=5∨x.k=6∨x.k=7∨x.k=8∨x.k=9∨x.k=13∨x.k=17∨x.k=18∨x.k=20∨x.k=21 then 0 else x.u
  m:=if x.k=4∨x.k=8∨x.k=21 then 0 else x.m
  sn:=if x.k=16 then 0 else x.sn
  sd:=if x.k=16 then 0 else x.sd
  td:=if x.k=0 then [] else x.td
  tc:=if x.k=0 then [] else x.tc
  cl:=if x.k=3∨x.k=15∨(x.k=13∧x.u=2) then [] else x.cl
  ea:=if x.k=0 then [] else x.ea
  fx:=if x.k=19 then Fm.zero else x.fx }
def ig (x:Pa):Bool:=
 decide (x.f=0)&&(decide (x.o=0)&&(decide (x.p=0)&&(decide (x.q=0)&&(decide (x.u=0)&&(decide (x.m=0)&&(decide (x.sn=0)&&(decide (x.sd=0) &&
 (decide (x.fx.op=0)&&(decide (x.fx.num=0)&&(decide (x.fx.ins.length=0)&&(decide (x.fx.kids.length=0) &&
 (decide (x.td.length=0)&&(decide (x.tc.length=0)&&(decide (x.cl.length=0)&&decide (x.ea.length=0)))))))))))))))
def FT (f:Int) (l:List Ea) (j:Nat):Bool:=
 match l[j]? with
 | none=>true
 | some e=>aJ e.file 0 4095&&(decide (e.file≠f)&&(aJ e.day 0 131072&&!((l.take j).any fun g=>decide (g.file=e.file))))
def kT (f:Int) (l:List Ea) (n:Nat):Bool:=(List.range n).all (FT f l)
theorem Ed (f:Int) (l:List Ea) (n:Nat):kT f l (n+1)=(kT f l n&&FT f l n):=by
 unfold kT;rw[List.range_succ,List.all_append];simp
theorem I9 {f:Int} {l:List Ea} {n i:Nat} (hi:i<n) (h:FT f l i=false):kT f l n=false:=by
 unfold kT
 rw[List.all_eq_false]
 exact⟨i,List.mem_range.2 hi,by rw[h];decide⟩
def mY (x:Pa):Bool:=
 if aJ x.o 0 11=false∨aJ x.p 1 4095=false∨aJ x.q (-1) 4095=false∨x.q=x.f∨8<x.ea.length∨FP x.td x.tc≠0 then false else kT x.f x.ea x.ea.length
def fP (l:List Cl):Bool:=decide (0<l.length)&&decide (qF l=0)
def lT (x:Pa):Bool:=aJ x.p 1 4095&&(aJ x.q 1 4095&&decide (x.p≠x.q))
def iP (x:Pa):Bool:=aJ x.u x.d 131072
def kZ (n d:Int):Bool:=okR ⟨n,d⟩&&(decide (0<n)&&decide (n≤d))
def aN (x:Pa):Bool:=
 if x.k=0 then mY x
 else if x.k=3∨x.k=15 then fP x.cl
 else if x.k=4 then aJ x.p 1 4095&&((aJ x.u 0 5||aJ x.u 7 66)&&(aJ x.q 0 7&&aJ x.m 1 1099511627776))
 else if x.k=5 then aJ x.p 1 4095&&aJ x.u 0 1
 else if x.k=6∨x.k=7 then aJ x.u 0 255
 else if x.k=8 then aJ x.u 0 255&&aJ x.m 1 12
 else if x.k=9 then iP x
 else if x.k=12∨x.k=14 then aJ x.p 1 4095
 else if x.k=13 then aJ x.u 0 2&&(aJ x.q 0 1&&(decide (x.u≠2)||fP x.cl))
 else if x.k=16 then lT x&&kZ x.sn x.sd
 else if x.k=17 then lT x&&iP x
 else if x.k=18 then aJ x.u 0 7
 else if x.k=19 then decide (jO x.fx=0)
 else if x.k=20 then aJ x.o 0 11&&iP x
 else if x.k=21 then aJ x.o 0 11&&(aJ x.u 0 18&&aJ x.m 0 1099511627776)
 else true
def dB (x:Pa):Bool:=
 aJ x.k 0 21&&(aJ x.d 0 131072&&(aJ x.n 0 1099511627776&&(aJ x.f 0 4095&&(ig (jJ x)&&aN x))))
end PA
namespace PA
open Go
theorem Fv (n d:Int):okR ⟨n,d⟩=true↔1≤d∧d≤1048576∧n≤1099511627776∧-1099511627776≤n∧Nat.gcd n.natAbs d.natAbs=1:=by
 constructor
 ·intro h
  have hr:=(mD h).1
  exact⟨hr.d1,hr.d2,hr.n2,hr.n1,RN n d (by have:=hr.d1;simp only at this;omega) h⟩
 ·rintro⟨h1,h2,h3,h4,h5⟩
  exact ru n d h1 h2 (by omega) h5
end PA
namespace Go.Proofs.YthfmaclnccdcbaaGreatDoor
open Go.RowKit PA
set_option maxHeartbeats 1000000 in
theorem Gs {W w:World} {A:aB} (a b:Int) (ha:a.natAbs≤4611686018427387904) (hb:b.natAbs≤4611686018427387904) (h:Sat W w A):
 Calls Tryz.prog 166 #[.int .i64 a,.int .i64 b] w fun e w'=>e=.returned (.int .i64 (Nat.gcd a.natAbs b.natAbs:Nat))∧Sat W w' A:=by
 obtain⟨g,hg⟩:=aC (Nat.gcd a.natAbs b.natAbs)
 rw[←hg]
 have HG:=ah hg
 clear hg
 go_enter Tryz.func166,Tryz.ntmps166
 go_wp2
 go_loopw [0,1] (fun av bv wr=>∃x y:Int,av=.int .i64 x∧bv=.int .i64 y∧x.natAbs≤4611686018427387904∧y.natAbs≤4611686018427387904∧Hid (Nat.gcd x.natAbs y.natAbs=g)∧Sat W wr A) (fun _ bv _=>(intOf bv).natAbs)
 case atStart=>exact⟨a,b,rfl,rfl,ha,hb,ah HG.out.symm,h⟩
 case round=>
  obtain⟨x,y,rfl,rfl,hx,hy,Zt,hS⟩:=hrel
  by_cases h0:y=0
  ·subst h0
   have hxg:x.natAbs=g:=by rw[←Zt.out];simp
   have HGG:=ah hxg
   by_cases hneg:x<0
   ·have ew:-x=(g:Int):=by omega
    clear hxg HG ha hb h
    go_wp2
    go_ret
    exact⟨by simp,hS⟩
   ·have ew:x=(g:Int):=by omega
    clear hxg HG ha hb h
    go_wp2
    go_ret
    exact⟨rfl,hS⟩
  ·obtain⟨z,hz⟩:∃z,z=Int.tmod x y:=⟨_,rfl⟩
   have hm:Int.tmod x y=z:=hz.symm
   have hzn:z.natAbs=x.natAbs % y.natAbs:=by rw[hz,Int.natAbs_tmod]
   have hzl:z.natAbs<y.natAbs:=by rw[hzn];exact Nat.mod_lt _ (by omega)
   have hyx:(y==0)=false:=by simpa using h0
   have HZ:=ah hzn
   clear hz hzn ha hb h
   go_wp2
   refine aG rfl (fun _=>True) [(0,.p),(1,.p),(2,.p),(3,.p),(4,.p),(5,.p)] (by kernel_rfl) ?_
   have hS0:True:=trivial
   (repeat ((first|(refine iK (v:=?_) rfl rfl (fun w'=>?_) ?_;rotate_left;(go_simp;with_reducible rfl))|(refine iL (v:=?_) rfl rfl hS0 (fun w' hS=>?_) ?_;rotate_left;((try dsimp only at hS);go_simp;with_reducible rfl))|(refine iM (v:=?_) rfl rfl ?_ ?_;rotate_left;(go_simp;with_reducible rfl))|(refine dF rfl rfl ?_)|(refine dG rfl rfl hS0 ?_)|(refine dH rfl rfl ?_));simp only[Act.put,lsA,lsB,bV]))
   refine eF ?_
   go_wp2
   go_roundw
   case rel=>exact⟨y,z,rfl,rfl,hy,by omega,ah (by rw[HZ.out,←Zt.out,Nat.gcd_comm y.natAbs,←Nat.gcd_rec,Nat.gcd_comm]),hS.drew⟩
   case measure=>simp[intOf];omega
theorem FB (w:World) (a b c d:Int):(binOp .eql 26 (.agg #[.int .i64 a,.int .i64 b]) (.agg #[.int .i64 c,.int .i64 d])).run Tryz.prog w=.ok (.bool (a==c&&b==d)) w:=by
 have h1:Tryz.prog.underlying 26=some (.struct (Tryz.prog.fieldsOf 26)):=by kernel_rfl
 have h2:Tryz.prog.stoodInHeld 26=false:=by kernel_rfl
 have e:=run_equalIn_struct (P:=Tryz.prog) w 9999 26 #[.int .i64 a,.int .i64 b] #[.int .i64 c,.int .i64 d] h1 h2
 rw[run_eql_struct,e]
 clear e
 have q0:∀a b:Int,(part 3 #[.int .i64 a,.int .i64 b] 0).run Tryz.prog w=.ok (.int .i64 a) w:=fun a b=>by kernel_rfl
 have q1:∀a b:Int,(part 3 #[.int .i64 a,.int .i64 b] 1).run Tryz.prog w=.ok (.int .i64 b) w:=fun a b=>by kernel_rfl
 have r0:∀a b:Int,(Op.equalIn 9999 3 (.int .i64 a) (.int .i64 b)).run Tryz.prog w=.ok (a==b) w:=fun a b=>run_equalIn_int (P:=Tryz.prog) w 9998 3 .i64 .i64 a b Tryz.underlying3
 by_cases e1:a=c
 ·by_cases e2:b=d
  ·simp[Program.fieldsOf,Tryz.underlying26,Op.eqFields,q0,q1,r0,e1,e2]
  ·simp[Program.fieldsOf,Tryz.underlying26,Op.eqFields,q0,q1,r0,e1,e2]
 ·simp[Program.fieldsOf,Tryz.underlying26,Op.eqFields,q0,r0,e1]
def N9 (b:Bool):Int:=if b=true then 0 else 1
set_option maxHeartbeats 1000000 in
theorem lg {W w:World} {A:aB} (n d:Int) (h:Sat W w A):
 Calls Tryz.prog 122 #[.agg #[.int .i64 n,.int .i64 d]] w fun e w'=>e=.returned (.int .i64 (N9 (okR ⟨n,d⟩)))∧Sat W w' A:=by
 have hiff:=Fv n d
 have h1:=h.alloc (.cells #[.int .i64 n,.int .i64 d] 26)
 obtain⟨B,hB⟩:=aC (w.heap.size)
 obtain⟨w1,hw1⟩:=aC (w.alloc (.cells #[.int .i64 n,.int .i64 d] 26))
 rw[←hB,←hw1] at h1
 obtain⟨k0,k1,-,-⟩:=jL h1
 have HB:=ah (And.intro hB hw1)
 have H1:=ah h1
 clear h h1 hB hw1
 by_cases c1:d<1
 ·have hr:okR ⟨n,d⟩=false:=by rw[Bool.eq_false_iff];intro e;have:=hiff.1 e;omega
  rw[hr]
  clear hiff hr
  go_enter Tryz.func122,Tryz.ntmps122
  go_upto_region 1 with (fail)
  rw[←HB.out.1,←HB.out.2]
  go_wp2
  go_ret
  exact⟨rfl,H1.out.drop⟩
 by_cases c2:1048576<d
 ·have hr:okR ⟨n,d⟩=false:=by rw[Bool.eq_false_iff];intro e;have:=hiff.1 e;omega
  rw[hr]
  clear hiff hr
  go_enter Tryz.func122,Tryz.ntmps122
  go_upto_region 1 with (fail)
  rw[←HB.out.1,←HB.out.2]
  go_wp2
  go_ret
  exact⟨rfl,H1.out.drop⟩
 by_cases c3:1099511627776<n
 ·have hr:okR ⟨n,d⟩=false:=by rw[Bool.eq_false_iff];intro e;have:=hiff.1 e;omega
  rw[hr]
  clear hiff hr
  go_enter Tryz.func122,Tryz.ntmps122
  go_upto_region 1 with (fail)
  rw[←HB.out.1,←HB.out.2]
  go_wp2
  go_ret
  exact⟨rfl,H1.out.drop⟩
 by_cases c4:n < -1099511627776
 ·have hr:okR ⟨n,d⟩=false:=by rw[Bool.eq_false_iff];intro e;have:=hiff.1 e;omega
  rw[hr]
  clear hiff hr
  go_enter Tryz.func122,Tryz.ntmps122
  go_upto_region 1 with (fail)
  rw[←HB.out.1,←HB.out.2]
  go_wp2
  go_ret
  exact⟨rfl,H1.out.drop⟩
 ·obtain⟨g,hg⟩:∃g:Nat,g=Nat.gcd n.natAbs d.natAbs:=⟨_,rfl⟩
  have HC:=ah (Gs n d (by omega) (by omega) H1.out)
  rw[←hg] at HC
  have hr:okR ⟨n,d⟩=decide (g=1):=by
   rw[Bool.eq_iff_iff,hiff,←hg,decide_eq_true_eq]
   constructor
   ·exact fun e=>e.2.2.2.2
   ·exact fun e=>⟨by omega,by omega,by omega,by omega,e⟩
  rw[hr]
  clear hiff hr hg
  by_cases hg1:g=1
  ·subst hg1
   go_enter Tryz.func122,Tryz.ntmps122
   go_upto_region 1 with (fail)
   rw[←HB.out.1,←HB.out.2]
   go_wp2_with fail
   refine HC.out.mono ?_
   rintro e w2 ⟨rfl,h2⟩
   have H2:=ah h2
   clear h2 HC k0 k1
   go_wp2
   go_ret
   exact⟨rfl,H2.out.drop⟩
  ·have hgz:((g:Int)==1)=false:=by simp;omega
   have hd:decide (g=1)=false:=decide_eq_false hg1
   rw[hd]
   clear hg1 hd
   go_enter Tryz.func122,Tryz.ntmps122
   go_upto_region 1 with (fail)
   rw[←HB.out.1,←HB.out.2]
   go_wp2_with fail
   refine HC.out.mono ?_
   rintro e w2 ⟨rfl,h2⟩
   have H2:=ah h2
   clear h2 HC k0 k1
   go_wp2
   go_ret
   exact⟨rfl,H2.out.drop⟩
end Go.Proofs.YthfmaclnccdcbaaGreatDoor
namespace PA
open Go
theorem UY {n:Int} (h:n.natAbs≤1099511627776):okR ⟨n,1⟩=true:=ru n 1 (by omega) (by omega) h (by simp)
theorem CJ {n:Int} (h1:-8≤n) (h2:n≤8):dX ⟨n,1⟩=true:=by
 unfold dX
 rw[UY (by omega),decide_eq_true (by show n≤1073741824;omega),decide_eq_true (by show -1073741824≤n;omega)]
 rfl
theorem SA {x:Iv} (h:zO x):fQ x=true:=by
 obtain⟨h1,h2,h3,h4,h5⟩:=h
 obtain⟨ln,ld,hn,hd,lo,ho,li,hi⟩:=x
 simp only at h1 h2 h3 h4 h5
 subst h3 h4
 have e1:∀hn hd lo ho li hi,dX (Iv.lw ⟨ln,1,hn,hd,lo,ho,li,hi⟩)=true:=fun _ _ _ _ _ _=>CJ (n:=ln) (by omega) (by omega)
 rcases h5 with ⟨rfl,rfl,rfl,rfl⟩|⟨rfl,rfl,h6,h7⟩
 ·unfold fQ;rw[e1];simp[zR,Iv.up]
 ·have e2:dX (Iv.up ⟨ln,1,hn,1,lo,ho,false,false⟩)=true:=CJ (n:=hn) (by omega) (by omega)
  have e3:VB (Iv.lw ⟨ln,1,hn,1,lo,ho,false,false⟩) (Iv.up ⟨ln,1,hn,1,lo,ho,false,false⟩)=false:=by
   unfold VB Iv.lw Iv.up
   rw[show (ln==hn)=false by simpa using (by omega:¬ln=hn)];rfl
  have e4:KW (Iv.lw ⟨ln,1,hn,1,lo,ho,false,false⟩) (Iv.up ⟨ln,1,hn,1,lo,ho,false,false⟩)=true:=by
   unfold KW Iv.lw Iv.up
   exact decide_eq_true (show ln*1<hn*1 by omega)
  unfold fQ;rw[e1,e2,e3,e4];simp
theorem UZ {x:Iv} (h:fQ x=true):oQ [x]=true:=by
 have e:yT [x] 1=true:=by rw[ou,wY];simp[qE,h]
 unfold oQ Hg
 rw[show ([x]:List Iv).length=1 from rfl,e];simp
theorem eU {f:Fm} (h:mQ f):Fm.whole oQ f=true∧f.size=1∧f.deep=1∧f.cZ=[f]∧f.parts=[f]:=by
 obtain⟨n,h1,h2,rfl⟩:=h
 refine⟨?_,by simp[Fm.size,Fm.sizes],by simp[Fm.deep,Fm.bZ],by simp[Fm.cZ],by simp[Fm.parts,Fm.op]⟩
 simp[Fm.whole,Fm.formed,Fm.cO];omega
theorem kJ {f:Fm} (h:yc f):Fm.whole oQ f=true∧f.size=1∧f.deep=1∧f.cZ=[f]∧f.parts=[f]:=by
 obtain⟨n,x,h1,h2,hx,rfl⟩:=h
 refine⟨?_,by simp[Fm.size,Fm.sizes],by simp[Fm.deep,Fm.bZ],by simp[Fm.cZ],by simp[Fm.parts,Fm.op]⟩
 have:=UZ (SA hx)
 simp[Fm.whole,Fm.formed,Fm.cO,this];omega
structure FmG (f:Fm):Prop where
 wh:Fm.whole oQ f=true
 sz:f.size≤4
 dp:f.deep≤3
theorem Ba {f:Fm} (h:bU f):FmG f:=by
 cases h with
 | c h=>obtain⟨a,b,c,-⟩:=eU h;exact⟨a,by omega,by omega⟩
 | v h=>obtain⟨a,b,c,-⟩:=kJ h;exact⟨a,by omega,by omega⟩
 | DR h g=>obtain⟨a,b,c,-⟩:=eU h;obtain⟨a',b',c',-⟩:=kJ g;exact⟨by simp[Fm.whole,Fm.formed,Fm.cO,a,a'],by simp[Fm.size,Fm.sizes,b,b'],by simp[Fm.deep,Fm.bZ,c,c']⟩
 | Oo h g=>obtain⟨a,b,c,-⟩:=eU h;obtain⟨a',b',c',-⟩:=kJ g;exact⟨by simp[Fm.whole,Fm.formed,Fm.cO,a,a'],by simp[Fm.size,Fm.sizes,b,b'],by simp[Fm.deep,Fm.bZ,c,c']⟩
 | P8 h g=>obtain⟨a,b,c,-⟩:=eU h;obtain⟨a',b',c',-⟩:=eU g;exact⟨by simp[Fm.whole,Fm.formed,Fm.cO,a,a'],by simp[Fm.size,Fm.sizes,b,b'],by simp[Fm.deep,Fm.bZ,c,c']⟩
 | P9 h g=>obtain⟨a,b,c,-⟩:=eU h;obtain⟨a',b',c',-⟩:=eU g;exact⟨by simp[Fm.whole,Fm.formed,Fm.cO,a,a'],by simp[Fm.size,Fm.sizes,b,b'],by simp[Fm.deep,Fm.bZ,c,c']⟩
 | part h=>obtain⟨a,b,c,-⟩:=eU h;exact⟨by simp[Fm.whole,Fm.formed,Fm.cO,a],by simp[Fm.size,Fm.sizes,b],by simp[Fm.deep,Fm.bZ,c]⟩
 | Qa h g=>obtain⟨a,b,c,-⟩:=eU h;obtain⟨a',b',c',-⟩:=kJ g;exact⟨by simp[Fm.whole,Fm.formed,Fm.cO,a,a'],by simp[Fm.size,Fm.sizes,b,b'],by simp[Fm.deep,Fm.bZ,c,c']⟩
theorem SB {f:Fm} (h1:Fm.whole oQ f=true) (h2:f.size≤96) (h3:f.deep≤8):jO f=0:=by
 unfold jO Fm.valid;rw[if_neg (by omega),if_pos h1]
theorem G5 {f:Fm} (h:bU f):jO f=0:=by
 have:=Ba h
 exact SB this.wh (by have:=this.sz;omega) (by have:=this.dp;omega)
structure mM (n:Nat) (f:Fm):Prop where
 wh:Fm.cO oQ f.parts=true
 sz:Fm.sizes f.parts≤n
 dp:Fm.bZ f.parts≤3
theorem mM.up {m n:Nat} {f:Fm} (h:mM m f) (hmn:m≤n):mM n f:=⟨h.wh,Nat.le_trans h.sz hmn,h.dp⟩
theorem CO (sp:List Iv→Bool):∀a b:List Fm,Fm.cO sp (a++b)=(Fm.cO sp a&&Fm.cO sp b)
 | [],b=>by simp[Fm.cO]
 | f::a,b=>by rw[List.cons_append,Fm.cO,Fm.cO,CO sp a b,Bool.and_assoc]
theorem EK:∀a b:List Fm,Fm.sizes (a++b)=Fm.sizes a+Fm.sizes b
 | [],b=>by simp[Fm.sizes]
 | f::a,b=>by rw[List.cons_append,Fm.sizes,Fm.sizes,EK a b];omega
theorem EL:∀a b:List Fm,Fm.bZ (a++b)=max (Fm.bZ a) (Fm.bZ b)
 | [],b=>by simp[Fm.bZ]
 | f::a,b=>by rw[List.cons_append,Fm.bZ,Fm.bZ,EL a b];omega
theorem qj (a b:Fm):(dY a b).parts=a.parts++b.parts:=by simp[dY,Fm.parts,Fm.op,Fm.kids]
theorem J7 {m n:Nat} {a b:Fm} (ha:mM m a) (hb:mM n b):mM (m+n) (dY a b):=by
 constructor
 ·rw[qj,CO,ha.wh,hb.wh];rfl
 ·rw[qj,EK];have:=ha.sz;have:=hb.sz;omega
 ·rw[qj,EL];have:=ha.dp;have:=hb.dp;omega
theorem U0 {m n:Nat} {a b:Fm} (ha:mM m a) (hb:mM n b) (h:m+n≤90):jO (dY a b)=0:=by
 have hp:=J7 ha hb
 have e:=qj a b
 refine SB ?_ ?_ ?_
 ·have:=hp.wh;rw[e] at this;simp[dY,Fm.whole,Fm.formed,this]
 ·have:=hp.sz;rw[e] at this;rw[dY,Fm.size];omega
 ·have:=hp.dp;rw[e] at this;rw[dY,Fm.deep];omega
theorem oO {f:Fm} (h:Fm.whole oQ f=true∧f.size=1∧f.deep=1∧f.cZ=[f]∧f.parts=[f]):mM 4 f:=by
 obtain⟨a,b,c,-,e⟩:=h
 constructor<;>rw[e]<;>simp[Fm.cO,Fm.sizes,Fm.bZ,a,b,c]
theorem gJ {f:Fm} (h:bU f):(∀t∈f.cZ,mM 4 t)∧f.cZ.length≤2:=by
 cases h with
 | c h=>
  have k:=eU h
  have al:=oO k
  rw[k.2.2.2.1];exact⟨by intro t ht;rw[List.mem_singleton.1 ht];exact al,by simp⟩
 | v h=>
  have k:=kJ h
  have al:=oO k
  rw[k.2.2.2.1];exact⟨by intro t ht;rw[List.mem_singleton.1 ht];exact al,by simp⟩
 | DR h g=>
  obtain⟨a,b,c,-⟩:=eU h;obtain⟨a',b',c',-⟩:=kJ g
  rw[Fm.cZ,if_neg (by decide)]
  refine⟨fun t ht=>?_,by simp⟩
  rw[List.mem_singleton.1 ht]
  constructor<;>simp[Fm.parts,Fm.op,Fm.kids,Fm.cO,Fm.sizes,Fm.bZ,a,b,c,a',b',c']
 | Oo h g=>
  have k:=eU h;have k':=kJ g
  have al:=oO k;have al':=oO k'
  rw[Fm.cZ,if_pos rfl,Fm.aT,Fm.aT,Fm.aT,k.2.2.2.1,k'.2.2.2.1]
  refine⟨fun t ht=>?_,by simp⟩
  simp at ht
  rcases ht with rfl|rfl
  ·exact al
  ·exact al'
 | P8 h g=>
  have k:=eU h;have k':=eU g
  have al:=oO k;have al':=oO k'
  rw[Fm.cZ,if_pos rfl,Fm.aT,Fm.aT,Fm.aT,k.2.2.2.1,k'.2.2.2.1]
  refine⟨fun t ht=>?_,by simp⟩
  simp at ht
  rcases ht with rfl|rfl
  ·exact al
  ·exact al'
 | P9 h g=>
  obtain⟨a,b,c,-⟩:=eU h;obtain⟨a',b',c',-⟩:=eU g
  rw[Fm.cZ,if_neg (by decide)]
  refine⟨fun t ht=>?_,by simp⟩
  rw[List.mem_singleton.1 ht]
  constructor<;>simp[Fm.parts,Fm.op,Fm.kids,Fm.whole,Fm.formed,Fm.cO,Fm.size,Fm.sizes,Fm.deep,Fm.bZ,a,b,c,a',b',c']
 | part h=>
  obtain⟨a,b,c,-⟩:=eU h
  rw[Fm.cZ,if_neg (by decide)]
  refine⟨fun t ht=>?_,by simp⟩
  rw[List.mem_singleton.1 ht]
  constructor<;>simp[Fm.parts,Fm.op,Fm.whole,Fm.formed,Fm.cO,Fm.size,Fm.sizes,Fm.deep,Fm.bZ,a,b,c]
 | Qa h g=>
  obtain⟨a,b,c,-⟩:=eU h;obtain⟨a',b',c',-⟩:=kJ g
  rw[Fm.cZ,if_neg (by decide)]
  refine⟨fun t ht=>?_,by simp⟩
  rw[List.mem_singleton.1 ht]
  constructor<;>simp[Fm.parts,Fm.op,Fm.kids,Fm.whole,Fm.formed,Fm.cO,Fm.size,Fm.sizes,Fm.deep,Fm.bZ,a,b,c,a',b',c']
theorem sK {m n:Nat} {t:List Fm} (hn:∀b∈t,mM n b) (hmn:m+n≤90):∀{x:List Fm},(∀a∈x,mM m a)→∃y,dV x t=some y∧y.length=x.length*t.length∧∀c∈y,mM (m+n) c
 | [],_=>⟨[],rfl,by simp,by simp⟩
 | a::x,h=>by
  obtain⟨y,h1,h2,h3⟩:=sK hn hmn (x:=x) (fun c hc=>h c (List.mem_cons_of_mem _ hc))
  have hall:(t.all fun b=>decide (jO (dY a b)=0))=true:=List.all_eq_true.2 fun b hb=>decide_eq_true (U0 (h a (List.mem_cons_self ..)) (hn b hb) hmn)
  refine⟨t.map (dY a)++y,?_,?_,?_⟩
  ·unfold dV;rw[if_pos hall,h1];rfl
  ·rw[fA,List.length_map,h2,List.length_cons,Nat.add_mul];omega
  ·intro c hc
   rcases List.mem_append.1 hc with hc|hc
   ·obtain⟨b,hb,rfl⟩:=List.mem_map.1 hc
    exact J7 (h a (List.mem_cons_self ..)) (hn b hb)
   ·exact h3 c hc
theorem CP {l:List Cl} {k:Nat} {c:Cl} (hc:l[k]?=some c) (hr:c.refs=[]) (hF:bU c.body):∃y,eY l k=some y∧y.length≤2∧∀f∈y,mM 4 f:=by
 refine⟨c.body.cZ,?_,(gJ hF).2,(gJ hF).1⟩
 unfold eY;rw[hc];simp only;unfold qG;rw[if_pos hr,if_pos (by have:=(gJ hF).2;omega)]
theorem CQ {l:List Cl} {k j m n:Nat} {c:Cl} {y:List Fm} (hc:l[k]?=some c) (hr:c.refs=[(j:Int)]) (hj:j<k) (hF:bU c.body) (hy:eY l j=some y) (hyl:y.length≤n) (hya:∀f∈y,mM m f) (hm:m+4≤90) (hn:n*2≤64):
 ∃z,eY l k=some z∧z.length≤n*2∧∀f∈z,mM (m+4) f:=by
 obtain⟨z,h1,h2,h3⟩:=sK (gJ hF).1 hm hya
 have hl:y.length*c.body.cZ.length≤n*2:=Nat.mul_le_mul hyl (gJ hF).2
 refine⟨z,?_,by omega,h3⟩
 unfold eY;rw[hc];simp only;unfold qG;rw[if_neg (by rw[hr];simp),hr]
 unfold dR
 simp only[Int.toNat_natCast,if_pos hj,hy]
 rw[if_neg (by simp;omega),h1]
 simp[dR]
theorem SC {l:List Cl} {k:Nat} {c:Cl} {y0 y1:List Fm} (hc:l[k]?=some c) (hr:c.refs=[0,1]) (hk:2≤k) (hF:bU c.body) (hy0:eY l 0=some y0) (hl0:y0.length≤4) (ha0:∀f∈y0,mM 8 f) (hy1:eY l 1=some y1) (hl1:y1.length≤4) (ha1:∀f∈y1,mM 8 f):
 ∃z,eY l k=some z∧z.length≤16∧∀f∈z,mM 12 f:=by
 obtain⟨z0,h1,h2,h3⟩:=sK (m:=8) (n:=4) (gJ hF).1 (by omega) ha0
 obtain⟨z1,g1,g2,g3⟩:=sK (m:=8) (n:=4) (gJ hF).1 (by omega) ha1
 have e0:y0.length*c.body.cZ.length≤4*2:=Nat.mul_le_mul hl0 (gJ hF).2
 have e1:y1.length*c.body.cZ.length≤4*2:=Nat.mul_le_mul hl1 (gJ hF).2
 refine⟨z0++z1,?_,by rw[fA];omega,fun f hf=>?_⟩
 ·unfold eY;rw[hc];simp only;unfold qG;rw[if_neg (by rw[hr];simp),hr]
  unfold dR
  simp only[show (0:Int).toNat=0 from rfl,if_pos (show 0<k by omega),hy0]
  rw[if_neg (by simp;omega),h1]
  simp only[List.nil_append]
  unfold dR
  simp only[show (1:Int).toNat=1 from rfl,if_pos (show 1<k by omega),hy1]
  rw[if_neg (by omega),g1]
  simp[dR]
 ·rcases List.mem_append.1 hf with hf|hf
  ·exact h3 f hf
  ·exact g3 f hf
theorem MX {l:List Cl} (h:jG l):∀k,k<l.length→∃y,eY l k=some y∧y.length≤16∧∀f∈y,mM 12 f:=by
 obtain⟨h1,h2,h3⟩:=h
 have g0:∃y,eY l 0=some y∧y.length≤2∧∀f∈y,mM 4 f:=by
  obtain⟨hF,hr⟩:=h3 0 h1
  refine CP (List.getElem?_eq_getElem h1) ?_ hF
  rcases hr with hr|⟨j,hj,-⟩|⟨hj,-⟩
  ·exact hr
  ·omega
  ·omega
 obtain⟨y0,a1,a2,a3⟩:=g0
 have g1:1<l.length→∃y,eY l 1=some y∧y.length≤4∧∀f∈y,mM 8 f:=by
  intro hk
  obtain⟨hF,hr⟩:=h3 1 hk
  rcases hr with hr|⟨j,hj,hr⟩|⟨hj,-⟩
  ·obtain⟨y,b1,b2,b3⟩:=CP (List.getElem?_eq_getElem hk) hr hF
   exact⟨y,b1,by omega,fun f hf=>(b3 f hf).up (by omega)⟩
  ·obtain rfl:j=0:=by omega
   exact CQ (List.getElem?_eq_getElem hk) hr (by omega) hF a1 a2 a3 (by omega) (by omega)
  ·omega
 have g2:2<l.length→∃y,eY l 2=some y∧y.length≤16∧∀f∈y,mM 12 f:=by
  intro hk
  obtain⟨y1,c1,c2,c3⟩:=g1 (by omega)
  obtain⟨hF,hr⟩:=h3 2 hk
  rcases hr with hr|⟨j,hj,hr⟩|⟨-,hr⟩
  ·obtain⟨y,b1,b2,b3⟩:=CP (List.getElem?_eq_getElem hk) hr hF
   exact⟨y,b1,by omega,fun f hf=>(b3 f hf).up (by omega)⟩
  ·rcases (by omega:j=0∨j=1) with rfl|rfl
   ·obtain⟨z,b1,b2,b3⟩:=CQ (List.getElem?_eq_getElem hk) hr (by omega) hF a1 a2 a3 (by omega) (by omega)
    exact⟨z,b1,by omega,fun f hf=>(b3 f hf).up (by omega)⟩
   ·obtain⟨z,b1,b2,b3⟩:=CQ (List.getElem?_eq_getElem hk) hr (by omega) hF c1 c2 c3 (by omega) (by omega)
    exact⟨z,b1,by omega,fun f hf=>(b3 f hf).up (by omega)⟩
  ·exact SC (List.getElem?_eq_getElem hk) hr (by omega) hF a1 (by omega) (fun f hf=>(a3 f hf).up (by omega)) c1 c2 c3
 intro k hk
 rcases (by omega:k=0∨k=1∨k=2) with rfl|rfl|rfl
 ·exact⟨y0,a1,by omega,fun f hf=>(a3 f hf).up (by omega)⟩
 ·obtain⟨y,b1,b2,b3⟩:=g1 hk
  exact⟨y,b1,by omega,fun f hf=>(b3 f hf).up (by omega)⟩
 ·exact g2 hk
theorem yM {l:List Cl} (h:jG l):∀n,n≤l.length→∃s,jv l n=some s∧s≤16*n
 | 0,_=>⟨0,rfl,by omega⟩
 | n+1,hn=>by
  obtain⟨s,h1,h2⟩:=yM h n (by omega)
  obtain⟨y,g1,g2,-⟩:=MX h n (by omega)
  exact⟨s+y.length,by rw[jv,h1];simp only;rw[g1],by omega⟩
theorem Oh:∀(l:List Cl) (i:Nat),(∀(k:Nat) (hk:k<l.length),l[k].refs.length≤8∧jr l[k].refs (i+k)=true∧jO l[k].body=0)→pI i l=0
 | [],_,_=>rfl
 | c::l,i,h=>by
  obtain⟨h1,h2,h3⟩:=h 0 (by simp)
  simp only[List.getElem_cons_zero,Nat.add_zero] at h1 h2 h3
  unfold pI
  rw[if_neg (by omega),if_neg (by rw[h2];decide),if_neg (by rw[h3];decide)]
  refine Oh l (i+1) fun k hk=>?_
  have:=h (k+1) (by simp;omega)
  simp only[List.getElem_cons_succ] at this
  rw[show i+1+k=i+(k+1) by omega];exact this
theorem nG {i:Nat} {r:List Int} (h:ku i r):r.length≤2∧jr r i=true:=by
 rcases h with rfl|⟨j,hj,rfl⟩|⟨rfl,rfl⟩
 ·exact⟨by simp,rfl⟩
 ·refine⟨by simp,?_⟩
  unfold jr
  rw[show ([(j:Int)]:List Int).length=1 from rfl,lS,uo]
  simp[mV];omega
 ·exact⟨by simp,by decide⟩
theorem CU {l:List Cl} (h:jG l):qF l=0:=by
 unfold qF
 rw[if_neg (by have:=h.2.1;omega)]
 refine Oh l 0 fun k hk=>?_
 obtain⟨hF,hr⟩:=h.2.2 k hk
 rw[Nat.zero_add]
 exact⟨by have:=(nG hr).1;omega,(nG hr).2,G5 hF⟩
theorem U1 {l:List Fm} (h:∀f∈l,jO f=0):jU l=0:=by
 induction l with
 | nil=>rfl
 | cons f l ih=>
  unfold jU
  rw[if_neg (by rw[h f (List.mem_cons_self ..)];decide)]
  exact ih fun g hg=>h g (List.mem_cons_of_mem _ hg)
theorem SE {l:List Fm} (h:∀f∈l,f.cZ.length≤2):(Fm.aT l).length≤2*l.length:=by
 induction l with
 | nil=>simp[Fm.aT]
 | cons f l ih=>
  rw[Fm.aT,fA,List.length_cons]
  have:=h f (List.mem_cons_self ..)
  have:=ih fun g hg=>h g (List.mem_cons_of_mem _ hg)
  omega
theorem U2 {td:List Fm} {tc:List Cl} (h:yg td tc):FP td tc=0:=by
 obtain⟨h1,h2,h3,h4⟩:=h
 obtain⟨s,g1,g2⟩:=yM h4 tc.length (by omega)
 have ht:=SE (l:=td) fun f hf=>(gJ (h3 f hf)).2
 have hc:=h4.2.1
 unfold FP
 rw[if_neg (by omega),if_neg (by rw[U1 fun f hf=>G5 (h3 f hf)];decide),if_neg (by rw[CU h4];decide),g1]
 simp only
 rw[if_neg (by omega)]
theorem U3 {N:Nat} {l:List Ea} (hN:N≤800) (h:ES N l):kT (5*(N:Int)) l l.length=true:=by
 obtain⟨h1,h2,h3⟩:=h
 unfold kT
 refine List.all_eq_true.2 fun k hk=>?_
 have hk:=List.mem_range.1 hk
 obtain⟨⟨j,hj,hf⟩,hd1,hd2⟩:=h2 l[k] (List.getElem_mem hk)
 unfold FT
 rw[List.getElem?_eq_getElem hk]
 simp only
 have hany:((l.take k).any fun g=>decide (g.file=l[k].file))=false:=by
  rw[List.any_eq_false]
  intro g hg
  obtain⟨i,hi,rfl⟩:=List.mem_iff_getElem.1 hg
  rw[List.length_take] at hi
  rw[List.getElem_take]
  have:=List.pairwise_iff_getElem.1 h3 i k (by omega) hk (by omega)
  simpa using this
 rw[hany]
 unfold aJ
 simp
 omega
theorem Ji {N:Nat} {x:Pa} (hN:N≤100) (h:Ic N x) (hn:0≤x.n∧x.n≤1000000):dB x=true:=by
 obtain⟨y,d,n,hy,hd1,hd2,rfl⟩:=h
 have hn':0≤n∧n≤1000000:=hn
 rcases hy with ⟨o,p,q,td,tc,ea,rfl,ho,hp,hq,hT,hE⟩|hy
 ·have e1:=U2 hT
  have e2:=U3 (by omega) hE
  have e3:=hE.1
  have TV:¬q=5*(N:Int)∧-1≤q∧q≤4095:=by
   rcases hq with rfl|⟨j,hj,rfl⟩
   ·omega
   ·omega
  simp[dB,aW,aJ,ig,jJ,bH,aN,mY,Pa.zero,Fm.zero,Fm.op,Fm.num,Fm.ins,Fm.kids,e1,e2]
  omega
 ·have ZE:True:=trivial
  cases hy with
  | plain hk hf=>
   obtain⟨j,hj,rfl⟩:=hf
   rcases hk with rfl|rfl|rfl|rfl<;>(simp[dB,aW,aJ,ig,jJ,bH,aN,Pa.zero,Fm.zero,Fm.op,Fm.num,Fm.ins,Fm.kids];omega)
  | list hk hf hc=>
   obtain⟨j,hj,rfl⟩:=hf
   have e1:=CU hc
   have e2:=hc.1
   rcases hk with rfl|rfl<;>(simp[dB,aW,aJ,ig,jJ,bH,aN,fP,Pa.zero,Fm.zero,Fm.op,Fm.num,Fm.ins,Fm.kids,e1];omega)
  | pay hf hp hq hu hm1 hm2=>
   obtain⟨j,hj,rfl⟩:=hf
   simp[dB,aW,aJ,ig,jJ,bH,aN,Pa.zero,Fm.zero,Fm.op,Fm.num,Fm.ins,Fm.kids];omega
  | small hp hu=>
   simp[dB,aW,aJ,ig,jJ,bH,aN,Pa.zero,Fm.zero,Fm.op,Fm.num,Fm.ins,Fm.kids];omega
  | order hk hf hu1 hu2 hu3=>
   obtain⟨j,hj,rfl⟩:=hf
   rcases hk with rfl|rfl|rfl|rfl<;>(simp[dB,aW,aJ,ig,jJ,bH,aN,iP,Pa.zero,Fm.zero,Fm.op,Fm.num,Fm.ins,Fm.kids];omega)
  | extend hf hu1 hu2 hm1 hm2=>
   obtain⟨j,hj,rfl⟩:=hf
   simp[dB,aW,aJ,ig,jJ,bH,aN,Pa.zero,Fm.zero,Fm.op,Fm.num,Fm.ins,Fm.kids];omega
  | ET hk hf hp1 hp2=>
   obtain⟨j,hj,rfl⟩:=hf
   rcases hk with rfl|rfl<;>(simp[dB,aW,aJ,ig,jJ,bH,aN,Pa.zero,Fm.zero,Fm.op,Fm.num,Fm.ins,Fm.kids];omega)
  | decide hf hq hu=>
   obtain⟨j,hj,rfl⟩:=hf
   rcases hu with ⟨hu,rfl⟩|⟨rfl,hc⟩
   ·rcases hu with rfl|rfl<;>(simp[dB,aW,aJ,ig,jJ,bH,aN,Pa.zero,Fm.zero,Fm.op,Fm.num,Fm.ins,Fm.kids];omega)
   ·have e1:=CU hc
    have e2:=hc.1
    simp[dB,aW,aJ,ig,jJ,bH,aN,fP,Pa.zero,Fm.zero,Fm.op,Fm.num,Fm.ins,Fm.kids,e1];omega
  | @transfer f p q sn sd hf hp1 hp2 hq1 hq2 hs=>
   obtain⟨j,hj,rfl⟩:=hf
   have e1:kZ sn sd=true:=by
    rcases hs with ⟨rfl,rfl⟩|⟨rfl,rfl⟩|⟨rfl,rfl⟩|⟨rfl,rfl⟩
    ·unfold kZ;rw[ru 1 1 (by omega) (by omega) (by decide) (by decide)];rfl
    ·unfold kZ;rw[ru 1 2 (by omega) (by omega) (by decide) (by decide)];rfl
    ·unfold kZ;rw[ru 1 3 (by omega) (by omega) (by decide) (by decide)];rfl
    ·unfold kZ;rw[ru 2 3 (by omega) (by omega) (by decide) (by decide)];rfl
   simp[dB,aW,aJ,ig,jJ,bH,aN,lT,Pa.zero,Fm.zero,Fm.op,Fm.num,Fm.ins,Fm.kids,e1];omega
  | EU hf hp1 hp2 hq1 hq2 hu1 hu2=>
   obtain⟨j,hj,rfl⟩:=hf
   simp[dB,aW,aJ,ig,jJ,bH,aN,lT,iP,Pa.zero,Fm.zero,Fm.op,Fm.num,Fm.ins,Fm.kids];omega
  | art hg=>
   have e1:=G5 hg
   simp[dB,aW,aJ,ig,jJ,bH,aN,Pa.zero,Fm.zero,Fm.op,Fm.num,Fm.ins,Fm.kids,e1];omega
  | closure ho hu1 hu2=>
   simp[dB,aW,aJ,ig,jJ,bH,aN,iP,Pa.zero,Fm.zero,Fm.op,Fm.num,Fm.ins,Fm.kids];omega
  | rule ho hu1 hu2 hm1 hm2=>
   simp[dB,aW,aJ,ig,jJ,bH,aN,Pa.zero,Fm.zero,Fm.op,Fm.num,Fm.ins,Fm.kids];omega
end PA
namespace PA
open Go Go.RowKit
theorem Sat.putObj {W w:World} {A:aB} {l:Nat} {o:Obj} (h:Sat W w (sep (blk l o) A)) (o':Obj):Sat W (w.putObj l o') (sep (blk l o') A):=
 h.change rfl rfl rfl (World.putObj_heap_same h.lt) fun _ hk _=>World.putObj_heap_other hk
section
variable {α:Type} {F:Fence} {P:Program}
end
end PA
namespace PA
open Go Go.RowKit
section
variable {α:Type} {F:Fence} {P:Program}
end
end PA
namespace PA
open Go Go.RowKit
section
variable {α:Type} {F:Fence} {P:Program}
def uy (F:Fence) (n:Nat) (P:Program) (W:World) (l:Nat) (encs:α→Array Value) (Fx:α→aB) (N:Nat) (R Z:List α→aB):Prop:=
 ∀(pre:List α) (x:α) (w:World) (B:aB),pre.length<N→Sat W w (sep (R pre) (sep (Fx x) B)) →
  YieldAt F n P l (encs x) w fun e w'=>(e=.returned (.bool true)∧Sat W w' (sep (R (pre++[x])) B))∨(e=.returned (.bool false)∧Sat W w' (sep (Z (pre++[x])) B))
def Ag (F:Fence) (n:Nat) (P:Program) (W:World) (gf:Nat) (lb:Array Value) (encs:α→Array Value) (Fx:α→aB) (N:Nat) (S Sp:List α→Prop) (Pre Post:aB):Prop:=
 ∀(l:Nat) (R Z:List α→aB) (w:World),uy F (n-1) P W l encs Fx N R Z→Sat W w (sep (R []) Pre) →
  CallsIn F n P gf (#[.func (.yield l) #[] #[]]++lb) w fun e w'=>(∃v,e=.returned v)∧((∃xs,S xs∧Sat W w' (sep (R xs) Post))∨∃xs,Sp xs∧Sat W w' (sep (Z xs) Post))
def Rz (W:World) (A:aB) (Z:Code→aB):Exit→Act→World→Prop
 | .normal,_,w=>Sat W w A
 | .ret,_,w=>Sat W w (Z .ret)
 | .exit id,_,w=>Sat W w (Z (.exit id))
 | _,_,_=>False
theorem Gm {n:Nat} {W:World} {g:Operand} {ps:Array Tmp} {assign body:Code} {Q:Exit→Act→World→Prop} {a:Act} {w:World}
 (hro:F.round=none) (h1:1≤n) {gf:Nat} {lb:Array Value} (hg:a.eval g=.func (.func gf) #[] lb) (hFg:F.fn gf) (eg:∀args w,(callFunc gf args).run P w=.ok (.enter gf args) w)
 {encs:α→Array Value} {Fx:α→aB} {N:Nat} {S Sp:List α→Prop} {Pre Post:aB} (hps:∀x,(encs x).size=ps.size)
 (hseq:Ag F (n-1) P W gf lb encs Fx N S Sp Pre Post)
 (C:List α→aB) (Zc:Code→List α→aB) (h0:Sat W w (sep (C []) Pre)) (Mid:List α→α→Act→aB→Prop)
 (hassign:∀(l:Nat) (pre:List α) (x:α) (w':World) (B:aB) (K:Act→World→Prop),pre.length<N→Sat W w' (sep (C pre) (sep (Fx x) B))→(∀a₁ w₁ E,Mid pre x a₁ E→Sat W w₁ (sep E B)→K a₁ w₁) →
  assign.wpIn (F.inRound l) (n-1-1) P (Exit.then K (fun _ _ _=>False)) { tmps:=(ps.zip (encs x)).foldl (fun t (p,v)=>t.setIfInBounds p v) a.tmps,defers:=[] } w')
 (hbody:∀(l:Nat) (pre:List α) (x:α) (a₁:Act) (E:aB) (w':World) (B:aB),pre.length<N→Mid pre x a₁ E→Sat W w' (sep E B) →
  body.wpIn (F.inRound l) (n-1-1) P (Rz W (sep (C (pre++[x])) B) (fun c=>sep (Zc c (pre++[x])) B)) a₁ w')
 (hdone:∀(D:Nat) (xs:List α) (w':World),S xs→Sat W w' (sep (blk D (.deferred (some []))) (sep (C xs) Post)) →
  Q .normal { a with defers:={ target:=.collected D,args:=#[] }::a.defers } w')
 (hstop:∀(D:Nat) (c:Code) (xs:List α) (w':World),Sp xs→Sat W w' (sep (blk D (.deferred (some []))) (sep (Zc c xs) Post)) →
  c.wpIn F n P Q { a with defers:={ target:=.collected D,args:=#[] }::a.defers } w'):
 (Code.rangeFunc g ps assign body).wpIn F n P Q a w:=by
 refine wpIn_rangeFunc fun fn hfn=>?_
 rw[hro]
 obtain⟨D,hD⟩:=aC (w.heap.size)
 obtain⟨mk,hmk⟩:∃mk:LoopState→Option Code→Loop,mk=fun st pe=>⟨st,pe,fn,a.tmps,ps,assign,body,D⟩:=⟨_,rfl⟩
 obtain⟨w1,hw1⟩:=aC ((w.alloc (.deferred (some []))).alloc (.loop (mk .ready none)))
 have hS1:Sat W w1 (sep (sep (C []) (sep (blk (D+1) (.loop (mk .ready none))) (blk D (.deferred (some []))))) Pre):=by
  have h:=(h0.alloc (.deferred (some []))).alloc (.loop (mk .ready none))
  rw[World.size_alloc,←hw1,←hD] at h
  simpa only[au,ak,aj] using h
 have henter:=run_enterLoop_outer (P:=P) (w:=w) fn a.tmps ps assign body
 refine⟨D+1,[{ target:=.collected D,args:=#[] }],w1,{ target:=.fn (.func gf) lb,args:=#[.func (.yield (D+1)) #[] #[]] },w1,gf,#[.func (.yield (D+1)) #[] #[]]++lb,w1,?_,?_,?_,?_,fun _=>h1,?_⟩
 ·rw[hw1,hmk,hD];exact henter
 ·simp only[resolve,hg]
  simp[go_sem]
 ·intro f' hf';simp[Target.leads] at hf';subst hf';exact hFg
 ·simp[invoke,go_sem,eg]
 ·refine (hseq (D+1) (fun pre=>sep (C pre) (sep (blk (D+1) (.loop (mk .ready none))) (blk D (.deferred (some [])))))
   (fun pre=>ex fun c:Code=>sep (Zc c pre) (sep (blk (D+1) (.loop (mk .done (some c)))) (blk D (.deferred (some []))))) w1 ?_ hS1).mono ?_
  ·intro pre x w2 B hlen hS
   have hl:Sat W w2 (sep (blk (D+1) (.loop (mk .ready none))) (sep (C pre) (sep (Fx x) (sep B (blk D (.deferred (some []))))))):=by simpa only[au,ak,aj] using hS
   have hy:=run_yield (P:=P) (args:=encs x) hl.aK (by rw[hmk];exact hps x)
   rw[hmk] at hy
   refine⟨fn,_,assign,body,hy,roundIn_of_wpIn hfn (hassign _ pre x w2 (sep (blk (D+1) (.loop (mk .ready none))) (sep B (blk D (.deferred (some []))))) _ hlen (by simpa only[au,ak,aj] using hS) ?_)⟩
   intro a₁ w₁ E hmid hE
   have hl1:Sat W w₁ (sep (blk (D+1) (.loop (mk .ready none))) (sep E (sep B (blk D (.deferred (some [])))))):=by simpa only[au,ak,aj] using hE
   refine⟨_,run_beginRound hl1.aK (by rw[hmk]),?_⟩
   have h3:=(hl1.putObj (.loop { mk .ready none with state:=.busy })).p1
   have ebz:({ mk .ready none with state:=.busy }:Loop)=mk .busy none:=by rw[hmk]
   refine wpIn_mono (hbody _ pre x a₁ E _ (sep (blk (D+1) (.loop { mk .ready none with state:=.busy })) (sep B (blk D (.deferred (some []))))) hlen hmid (by simpa only[au,ak,aj] using h3)) ?_
   have stop:∀(c:Code) (w3:World),Sat W w3 (sep (Zc c (pre++[x])) (sep (blk (D+1) (.loop { mk .ready none with state:=.busy })) (sep B (blk D (.deferred (some [])))))) →
    ∃v w',(Instr.endRound (D+1) (some c)).run P w3=.ok v w'∧((Ending.returned v=.returned (.bool true)∧Sat W w' (sep (sep (C (pre++[x])) (sep (blk (D+1) (.loop (mk .ready none))) (blk D (.deferred (some []))))) B)) ∨
     (Ending.returned v=.returned (.bool false)∧Sat W w' (sep (ex fun c:Code=>sep (Zc c (pre++[x])) (sep (blk (D+1) (.loop (mk .done (some c)))) (blk D (.deferred (some []))))) B))):=by
    intro c w3 hp
    have h4:Sat W w3 (sep (blk (D+1) (.loop { mk .ready none with state:=.busy })) (sep (Zc c (pre++[x])) (sep B (blk D (.deferred (some [])))))):=Sat.p1 hp
    have hr:=run_endRound (P:=P) (some c) h4.aK
    have h5:=h4.putObj (.loop (mk .done (some c)))
    refine⟨_,_,hr,.inr ⟨rfl,?_⟩⟩
    rw[ebz]
    have e2:({ mk .busy none with state:=if (some c:Option Code).isNone then .ready else .done,pending:=some c }:Loop)=mk .done (some c):=by rw[hmk];rfl
    rw[e2,fB,Sat.ex]
    exact⟨c,by simpa only[au,ak,aj] using h5⟩
   rintro e a3 w3 hp
   cases e with
   | normal=>
    have h4:Sat W w3 (sep (blk (D+1) (.loop { mk .ready none with state:=.busy })) (sep (C (pre++[x])) (sep B (blk D (.deferred (some [])))))):=Sat.p1 hp
    have hr:=run_endRound (P:=P) none h4.aK
    have h5:=h4.putObj (.loop (mk .ready none))
    refine⟨_,_,hr,.inl ⟨rfl,?_⟩⟩
    rw[ebz]
    have e2:({ mk .busy none with state:=if (none:Option Code).isNone then .ready else .done,pending:=none }:Loop)=mk .ready none:=by rw[hmk];rfl
    rw[e2]
    simpa only[au,ak,aj] using h5
   | ret=>exact stop .ret w3 hp
   | exit id=>exact stop (.exit id) w3 hp
   | goto t=>exact hp.elim
   | panic ch=>exact hp.elim
   | outgrown=>exact hp.elim
  ·rintro e w2 ⟨⟨v,rfl⟩,⟨xs,hS,h2⟩|⟨xs,hS,h2⟩⟩
   ·have h3:Sat W w2 (sep (blk (D+1) (.loop (mk .ready none))) (sep (C xs) (sep Post (blk D (.deferred (some [])))))):=by simpa only[au,ak,aj] using h2
    have e:(mk .ready none).pending=none:=by rw[hmk]
    have hr:=run_endLoop (P:=P) h3.aK (by rw[hmk];simp)
    have h4:=(h3.putObj (.loop { mk .ready none with state:=.exhausted })).drop
    rw[e] at hr
    refine⟨none,_,hr,hdone D xs _ hS ?_⟩
    dsimp only at h4
    rw[e] at h4
    simpa only[au,ak,aj] using h4
   ·rw[fB,Sat.ex] at h2
    obtain⟨c,h2⟩:=h2
    have h3:Sat W w2 (sep (blk (D+1) (.loop (mk .done (some c)))) (sep (Zc c xs) (sep Post (blk D (.deferred (some [])))))):=by simpa only[au,ak,aj] using h2
    have e:(mk .done (some c)).pending=some c:=by rw[hmk]
    have hr:=run_endLoop (P:=P) h3.aK (by rw[hmk];simp)
    have h4:=(h3.putObj (.loop { mk .done (some c) with state:=.exhausted })).drop
    rw[e] at hr
    refine⟨some c,_,hr,hstop D c xs _ hS ?_⟩
    dsimp only at h4
    rw[e] at h4
    simpa only[au,ak,aj] using h4
theorem kX {n:Nat} {W:World} {g:Operand} {ps:Array Tmp} {assign body:Code} {Q:Exit→Act→World→Prop} {a:Act} {w:World}
 (hro:F.round=none) (h1:1≤n) {gf:Nat} {lb:Array Value} (hg:a.eval g=.func (.func gf) #[] lb) (hFg:F.fn gf) (eg:∀args w,(callFunc gf args).run P w=.ok (.enter gf args) w)
 {encs:α→Array Value} {Fx:α→aB} {N:Nat} {S Sp:List α→Prop} {Pre Post:aB} (hps:∀x,(encs x).size=ps.size)
 (hseq:Ag F (n-1) P W gf lb encs Fx N S Sp Pre Post)
 (C:List α→aB) (Zc:Code→List α→aB) (h0:Sat W w (sep (C []) Pre)) (upd:α→Nat→Array Value→Array Value) (Cm:List α→α→Nat→aB)
 (hassign:∀(l:Nat) (pre:List α) (x:α) (w':World) (B:aB) (K:Act→World→Prop),pre.length<N→Sat W w' (sep (C pre) (sep (Fx x) B))→(∀g w₁,Sat W w₁ (sep (Cm pre x g) B)→K { tmps:=upd x g a.tmps,defers:=[] } w₁) →
  assign.wpIn (F.inRound l) (n-1-1) P (Exit.then K (fun _ _ _=>False)) { tmps:=(ps.zip (encs x)).foldl (fun t (p,v)=>t.setIfInBounds p v) a.tmps,defers:=[] } w')
 (hbody:∀(l:Nat) (pre:List α) (x:α) (g:Nat) (w':World) (B:aB),pre.length<N→Sat W w' (sep (Cm pre x g) B) →
  body.wpIn (F.inRound l) (n-1-1) P (Rz W (sep (C (pre++[x])) B) (fun c=>sep (Zc c (pre++[x])) B)) { tmps:=upd x g a.tmps,defers:=[] } w')
 (hdone:∀(D:Nat) (xs:List α) (w':World),S xs→Sat W w' (sep (blk D (.deferred (some []))) (sep (C xs) Post)) →
  Q .normal { a with defers:={ target:=.collected D,args:=#[] }::a.defers } w')
 (hstop:∀(D:Nat) (c:Code) (xs:List α) (w':World),Sp xs→Sat W w' (sep (blk D (.deferred (some []))) (sep (Zc c xs) Post)) →
  c.wpIn F n P Q { a with defers:={ target:=.collected D,args:=#[] }::a.defers } w'):
 (Code.rangeFunc g ps assign body).wpIn F n P Q a w:=by
 refine Gm hro h1 hg hFg eg hps hseq C Zc h0 (fun pre x a₁ E=>∃g,a₁={ tmps:=upd x g a.tmps,defers:=[] }∧E=Cm pre x g) ?_ ?_ hdone hstop
 ·intro l pre x w' B K hl hS hK
  exact hassign l pre x w' B K hl hS fun g w₁ h=>hK _ w₁ _ ⟨g,rfl,rfl⟩ h
 ·rintro l pre x a₁ E w' B hl ⟨g,rfl,rfl⟩ hS
  exact hbody l pre x g w' B hl hS
end
end PA
namespace PA
open Go Go.RowKit
section
variable {W w:World} {A:aB} {t g N:Nat} {f:Nat→Rt}
end
end PA
