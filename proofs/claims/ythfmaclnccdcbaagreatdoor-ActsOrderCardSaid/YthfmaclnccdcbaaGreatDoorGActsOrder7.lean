/- Part of a proof. -/
import Derived.Test.YthfmaclnccdcbaaGreatDoorGActsOrder2
import Derived.Lib.SliceRun
import Derived.Laws.IdiomStrings
import Derived.RangeFuncSeq
import Derived.RangeFuncRecord
import Derived.RangeFuncIn
namespace Go.Proofs.YthfmaclnccdcbaaGreatDoor
open Go.RowKit PA
theorem eH:(Tryz.prog.info? 5).map (fun i=>(i.zero,i.size,i.bytes))=some (some (.int .u8 0),1,1):=by kernel_rfl
def dM (p:Nat) (bs:List UInt8):aC:=ex fun a:Option Addr=>ex fun n:Nat=>ex fun c:Nat=>sep (blk p (.cells #[.slice a n c] 104 (0,0))) (aT 5 1 a n c (bs.map bv))
theorem qp {W w:World} {A:aC} {p:Nat} {bs:List UInt8} (h:Sat W w (sep (dM p bs) A)):∃a n c,n=bs.length∧Sat W w (sep (blk p (.cells #[.slice a n c] 104 (0,0))) (sep (aT 5 1 a n c (bs.map bv)) A)):=by
 simp only[dM,fK,Sat.ex,aj] at h;obtain⟨a,n,c,h⟩:=h;have:=h.p1.uZ.1;exact⟨a,n,c,by simpa using this.symm,h⟩
theorem uU {W w:World} {A:aC} {p:Nat} {bs:List UInt8} {a:Option Addr} {n c:Nat} (h:Sat W w (sep (blk p (.cells #[.slice a n c] 104 (0,0))) (sep (aT 5 1 a n c (bs.map bv)) A))):Sat W w (sep (dM p bs) A):=by
 simp only[dM,fK,Sat.ex,aj];exact⟨a,n,c,h⟩
set_option maxHeartbeats 1000000 in
theorem xg {W w:World} {A:aC} (p:Nat) (bs:List UInt8) (x:Nat) (hx:x<18446744073709551616) (h:Sat W w (sep (dM p bs) A)) (hb:bs.length≤1073741824):
 Calls Tryz.prog 126 #[.pointer (some ⟨p,0,none⟩),.int .u64 (x:Nat)] w fun e w'=>e=.returned (.tuple #[])∧Sat W w' (sep (dM p (bs++Lib.uvarint x)) A):=by
 have HX:=ah hx;have HB:=ah hb;clear hx hb
 go_enter Tryz.func126,Tryz.ntmps126
 go_wp2_with fail
 go_loopw [1] (fun nv wr=>∃(y:Nat) (pre:List UInt8),nv=.int .u64 (y:Nat)∧Hid (y<18446744073709551616∧pre++Lib.uvarint y=Lib.uvarint x)∧Sat W wr (sep (dM p (bs++pre)) A)) (fun nv _=>(intOf nv).toNat)
 case atStart=>exact⟨x,[],rfl,ah ⟨HX.out,rfl⟩,by simpa using h⟩
 case round=>
  clear h;obtain⟨y,pre,rfl,HY,hS⟩:=hrel;have hpl:pre.length≤10:=by
   have:=congrArg List.length HY.out.2;have:=Lib.uvarint_length64 HX.out;simp at *;omega
  obtain⟨a,n,c,hn,h1⟩:=qp hS;have hnb:n≤1073741834:=by rw[hn,dF];have:=HB.out;omega
  have HN:=ah hnb;have c1:wr.cell? ⟨p,0,none⟩=some (.slice a n c):=h1.cell 0;obtain⟨vs,hvs⟩:=aB ((bs++pre).map bv);rw[←hvs] at h1;have sH:=ah hvs;have hS':=h1.p1;clear hn hpl hnb hS hvs
  by_cases hy:128≤y
  ·have hyI:(128:Int)≤(y:Int):=by omega
   obtain⟨z,hz⟩:∃z:UInt8,z=(y % 128+128).toUInt8:=⟨_,rfl⟩
   have hor:bits BinOp.or IntKind.u8 ((y:Int) % 256) 128=(z.toNat:Int):=by
    rw[Lib.u8_or128_any _ (by omega) (by omega),hz];simp;omega
   have hB:=(hS'.gQ (.cells #[.int .u8 (z.toNat:Int)] 5))
   have HZ:=ah hz;clear hz h1 hS'
   go_wp2_with (at_builtin;(refine aJ rfl (.tmp 12) (.tmp 16) 51 rfl 5 1 1 (.int .u8 0) Tryz.underlying51 eH rfl rfl hB rfl [.int .u8 (z.toNat:Int)] rfl (by simp) (by intro b hb;cases hb;exact iP _ [_] _) (by simp[Value.oneCell']) (by have:=HN.out;omega) (by have:=HN.out;unfold maxLen;omega) ?_))
   intro a2 c2 w2 h2;have h3:=h2.p1;have c2':w2.cell? ⟨p,0,none⟩=some (.slice a n c):=h3.cell 0;have f2':w2.frozen? ⟨p,0,none⟩=false:=h3.aH 0;have h4:Sat W (w2.setCell ⟨p,0,none⟩ (.slice a2 (n+1) c2)) (sep (blk p (.cells #[.slice a2 (n+1) c2] 104 (0,0))) (sep (aT 5 1 a2 (n+1) c2 (vs++[.int .u8 (z.toNat:Int)])) A)):=h3.setCell 0 _;clear hB h2 h3 c1
   go_wp2_with fail
   go_roundw
   case rel=>
    refine⟨y / 128,pre++[z],by go_num,ah ⟨by have:=HY.out.1;omega,?_⟩,uU (a:=a2) (n:=n+1) (c:=c2) ?_⟩
    ·rw[List.append_assoc,←HY.out.2,Lib.uvarint_big hy,←HZ.out];rfl
    ·rw[←List.append_assoc,oO,←sH.out];exact h4
   case measure=>simp[intOf];omega
  ·have hyB:decide ((128:Int)≤(y:Int))=false:=by simp;omega
   have SK:=ah hy;obtain⟨z,hz⟩:∃z:UInt8,z=y.toUInt8:=⟨_,rfl⟩
   have hzy:z.toNat=y:=by
    rw[hz];simp;omega
   have hor:((y:Int) % 256)=(z.toNat:Int):=by omega
   have hB:=(hS'.gQ (.cells #[.int .u8 (z.toNat:Int)] 5))
   have HZ:=ah hz;clear hz h1 hS' hzy hy
   go_wp2_with (at_builtin;(refine aJ rfl (.tmp 24) (.tmp 27) 51 rfl 5 1 1 (.int .u8 0) Tryz.underlying51 eH rfl rfl hB rfl [.int .u8 (z.toNat:Int)] rfl (by simp) (by intro b hb;cases hb;exact iP _ [_] _) (by simp[Value.oneCell']) (by have:=HN.out;omega) (by have:=HN.out;unfold maxLen;omega) ?_))
   intro a2 c2 w2 h2;have h3:=h2.p1;have c2':w2.cell? ⟨p,0,none⟩=some (.slice a n c):=h3.cell 0;have f2':w2.frozen? ⟨p,0,none⟩=false:=h3.aH 0;have h4:Sat W (w2.setCell ⟨p,0,none⟩ (.slice a2 (n+1) c2)) (sep (blk p (.cells #[.slice a2 (n+1) c2] 104 (0,0))) (sep (aT 5 1 a2 (n+1) c2 (vs++[.int .u8 (z.toNat:Int)])) A)):=h3.setCell 0 _;clear hB h2 h3 c1
   go_wp2_with fail
   go_end0
   refine⟨rfl,uU (a:=a2) (n:=n+1) (c:=c2) ?_⟩;rw[←HY.out.2,Lib.uvarint_small (by have:=SK.out;omega),←HZ.out,←List.append_assoc,oO,←sH.out,List.map_cons,List.map_nil,bv];exact h4
end Go.Proofs.YthfmaclnccdcbaaGreatDoor
namespace Go.Proofs.YthfmaclnccdcbaaGreatDoor
open Go.RowKit PA
theorem WX:(Tryz.prog.info? 5).map (fun i=>(i.zero,i.size,i.bytes))=some (some (.int .u8 0),1,1):=by kernel_rfl
theorem clone_any {W w:World} {A:aC} (a:Option Addr) (n c:Nat) (xs:List Value) (h:Sat W w A) (hsrc:∀b,a=some b→∀j u,xs[j]?=some u→w.cell? (b.add j)=some u) (hl:xs.length=n) (hw:VQ a n c) (h1:∀u∈xs,u.oneCell'=true) (hn:n≤140737488355328):
 Calls Tryz.prog 93 #[.slice a n c] w fun e w'=>∃a' c',e=.returned (.slice a' n c')∧Sat W w' (sep (aT 5 1 a' n c' xs) A):=by
 obtain⟨hw1,hw2,hw3⟩:=hw;have hq:=fun w a n c=>Lib.run_eql_slice_nil (P:=Tryz.prog) w 51 5 a n c 0 0 Tryz.underlying51
 cases a with
 | none=>
  obtain rfl:=hw3 rfl;obtain rfl:n=0:=by omega
  obtain rfl:xs=[]:=List.eq_nil_of_length_eq_zero hl;clear hsrc
  go_enter Tryz.func93,Tryz.ntmps93
  go_wp2
  go_ret
  exact⟨_,_,rfl,h.gq _ _⟩
 | some b=>
  have hS:=(h.alloc (.cells #[] 5)).kT 0 0 1 [] rfl (by omega) (by unfold maxLen;omega) rfl rfl;have hc2:=ah (PW (hsrc b rfl) (.cells #[] 5));have HN:=ah hn;have HW2:=ah hw2;have HW1:=ah hw1;clear hsrc hn hw1 hw2 hw3
  go_enter Tryz.func93,Tryz.ntmps93
  go_wp2_with (at_builtin;refine aJ rfl _ _ 51 rfl 5 1 1 (.int .u8 0) Tryz.underlying51 WX rfl rfl hS rfl xs (by omega) (by simp) (by intro b' hb;cases hb;exact hc2.out) h1 (by have:=HN.out;omega) (by have:=HN.out;unfold maxLen;omega) ?_)
  intro a' c' w' hS'
  go_wp2
  go_ret
  refine⟨a',c',?_,?_⟩
  ·simp
  ·simpa using hS'
theorem _root_.PA.Sat.PX {W w:World} {A:aC} {E:Nat} {a:Option Addr} {n c:Nat} {xs:List Value} (h:Sat W w (sep (aT E 1 a n c xs) A)):∀b,a=some b→∀j u,xs[j]?=some u→w.cell? (b.add j)=some u:=by
 intro b hb j u hu;obtain⟨g,e,hc⟩:=h.DI (fun e=>by rw[e] at hu;simp at hu);rw[hb] at e;cases e;have:=hc j u hu;unfold Addr.add;split
 ·rename_i e;subst e;exact this
 ·simpa using this
end Go.Proofs.YthfmaclnccdcbaaGreatDoor
namespace Go.Proofs.YthfmaclnccdcbaaGreatDoor
open Go.RowKit PA
theorem L8 (n:Int) (w:World) (h1:-9223372036854775808≤n) (h2:n≤9223372036854775807):Calls Tryz.prog 127 #[.int .i64 n] w fun e w'=>e=.returned (.int .u64 (Lib.zigzag n:Nat))∧w=w':=by
 go_enter Tryz.func127,Tryz.ntmps127
 go_wp2
 go_ret
 exact⟨IK (zz_val n h1 h2),rfl⟩
theorem IV (n:Int) (w:World) (h1:-9223372036854775808≤n) (h2:n≤9223372036854775807):Calls Tryz.prog 137 #[.int .i64 n] w fun e w'=>e=.returned (.int .u64 (Lib.zigzag n:Nat))∧w=w':=by
 by_cases h0:n<0
 ·go_enter Tryz.func137,Tryz.ntmps137
  go_wp2
  go_ret
  exact⟨IK (by show 2*-(n+1)+1=_;unfold Lib.zigzag;rw[if_neg (by omega)];omega),rfl⟩
 ·go_enter Tryz.func137,Tryz.ntmps137
  go_wp2
  go_ret
  exact⟨IK (by show 2*n=_;unfold Lib.zigzag;rw[if_pos (by omega)];omega),rfl⟩
theorem iJ {W w:World} {A:aC} (p:Nat) (bs:List UInt8) (n:Int) (h1:-9223372036854775808≤n) (h2:n≤9223372036854775807) (h:Sat W w (sep (dM p bs) A)) (hb:bs.length≤1073741824):
 Calls Tryz.prog 72 #[.pointer (some ⟨p,0,none⟩),.int .i64 n] w fun e w'=>e=.returned (.tuple #[])∧Sat W w' (sep (dM p (bs++PA.encI n)) A):=by
 have hz:=Lib.zigzag_lt h1 h2;have HZ:=ah hz;have HB:=ah hb;clear hz hb
 go_enter Tryz.func72,Tryz.ntmps72
 go_wp2_with fail
 refine (L8 n _ h1 h2).mono ?_;rintro e w2 ⟨rfl,rfl⟩
 go_wp2_with fail
 refine (xg p bs (Lib.zigzag n) HZ.out h HB.out).mono ?_;rintro e w3 ⟨rfl,hS⟩
 go_wp2_with fail
 go_end0
 exact⟨rfl,hS⟩
set_option maxHeartbeats 1000000 in
theorem OX {W w:World} {A:aC} (p:Nat) (bs:List UInt8) (s:ByteArray) (h:Sat W w (sep (dM p bs) A)) (hb:bs.length≤1073741800) (hs:s.size≤1073741824):
 Calls Tryz.prog 129 #[.pointer (some ⟨p,0,none⟩),.string s] w fun e w'=>e=.returned (.tuple #[])∧Sat W w' (sep (dM p (bs++encR s.data.toList)) A):=by
 have hw1:IntKind.u64.wrap (s.size:Int)=(s.size:Nat):=wraps_u64 _ (by omega) (by omega);have HB:=ah hb;have HS:=ah hs;clear hb hs
 go_enter Tryz.func129,Tryz.ntmps129
 go_wp2_with fail
 refine (xg p bs s.size (by have:=HS.out;omega) h (by have:=HB.out;omega)).mono ?_;rintro e w3 ⟨rfl,hS⟩;obtain⟨a,n,c,hn,h3⟩:=qp hS;have yB:=Lib.uvarint_length64 (x:=s.size) (by have:=HS.out;omega);have hnb:n≤1073741900:=by rw[hn,dF];have:=HB.out;omega
 obtain⟨vs,hvs⟩:=aB ((bs++Lib.uvarint s.size).map bv);rw[←hvs] at h3;have c1:w3.cell? ⟨p,0,none⟩=some (.slice a n c):=h3.cell 0;have f1:w3.frozen? ⟨p,0,none⟩=false:=h3.aH 0;have hB:=h3.p1;have HN:=ah hnb;have sH:=ah hvs;clear hn yB hnb hvs h h3 hS hw1
 go_wp2_with (at_builtin;(refine wZ rfl (.tmp 13) (.tmp 14) 51 9 rfl 5 Tryz.underlying51 Tryz.underlying9 eH rfl hB s rfl (by have:=HN.out;have:=HS.out;omega) ?_))
 intro a2 c2 w4 h4;have h5:=h4.p1;have c2':w4.cell? ⟨p,0,none⟩=some (.slice a n c):=h5.cell 0;have f2':w4.frozen? ⟨p,0,none⟩=false:=h5.aH 0;have h6:Sat W (w4.setCell ⟨p,0,none⟩ (.slice a2 (n+s.size) c2)) (sep (blk p (.cells #[.slice a2 (n+s.size) c2] 104 (0,0))) (sep (aT 5 1 a2 (n+s.size) c2 (vs++s.data.toList.map bv)) A)):=h5.setCell 0 _;clear hB h4 h5 c1 f1
 go_wp2_with fail
 go_end0
 refine⟨rfl,uU (a:=a2) (n:=n+s.size) (c:=c2) ?_⟩;rw[encR,show s.data.toList.length=s.size by simp,←List.append_assoc,oO,←sH.out];exact h6
theorem oq {W w:World} {A:aC} (p:Nat) (bs:List UInt8) (h:Sat W w (sep (dM p bs) A)) (hb:bs.length≤1073742900):
 Calls Tryz.prog 77 #[.pointer (some ⟨p,0,none⟩)] w fun e w'=>∃a c,e=.returned (.slice a bs.length c)∧Sat W w' (sep (aT 5 1 a bs.length c (bs.map bv)) (sep (dM p bs) A)):=by
 obtain⟨a,n,c,hn,h1⟩:=qp h;have c1:w.cell? ⟨p,0,none⟩=some (.slice a n c):=h1.cell 0;have hsw:=h1.p1.eX;have hsrc:=h1.p1.PX;rw[←hn] at hb ⊢;have hcl:=clone_any a n c (bs.map bv) h1 hsrc (by rw[List.length_map,hn]) hsw (Nl bs) (by omega);have EC:=ah hcl;clear h h1 hn hsw hsrc hcl hb
 go_enter Tryz.func77,Tryz.ntmps77
 go_wp2_with fail
 refine EC.out.mono ?_;rintro e w2 ⟨a2,c2,rfl,hS⟩;clear c1
 go_wp2_with fail
 go_ret
 refine⟨a2,c2,rfl,?_⟩;have h2:=uU (a:=a) (n:=n) (c:=c) (p:=p) (bs:=bs) (A:=sep (aT 5 1 a2 n c2 (bs.map bv)) A) (by simpa only[aA,ay,aj] using hS);exact h2.p1
set_option maxHeartbeats 1000000 in
theorem ng {W w:World} {A:aC} {I:Mem} (p:Nat) (bs:List UInt8) (v:Value) (b:List UInt8) (h:Sat W w (sep (dM p bs) (sep (kn I) A))) (hv:bT.rel I [v] b) (hb:bs.length≤1073741800) (hs:b.length≤1073741824):
 Calls Tryz.prog 74 #[.pointer (some ⟨p,0,none⟩),v] w fun e w'=>e=.returned (.tuple #[])∧Sat W w' (sep (dM p (bs++encR b)) (sep (kn I) A)):=by
 obtain⟨a,c,rfl,hsw,hc⟩:=uH.1 hv;have hsrc:=AZ hc h.p1.ext;obtain⟨s,hsd⟩:∃s:ByteArray,s=⟨b.toArray⟩:=⟨_,rfl⟩
 have hsl:s.data.toList=b:=by rw[hsd]
 have hss:s.size=b.length:=by rw[hsd];simp[ByteArray.size]
 have hconv:(convert 51 9 (.slice a b.length c)).run Tryz.prog w=.ok (.string s) w:=by
  cases a with
  | none=>
   have hc0:=hsw.2.2 rfl;have hb0:b=[]:=List.eq_nil_of_length_eq_zero (by have:=hsw.1;omega);subst hb0;rw[hsd];simp[convert,run_underlying Tryz.underlying51,run_underlying Tryz.underlying9,run_underlying Tryz.underlying5,Conv.bytesToString];rfl
  | some ad=>
   have:=run_convert_bytes_back (P:=Tryz.prog) w 51 9 5 ad c b Tryz.underlying51 Tryz.underlying5 Tryz.underlying9 (fun j hj=>hsrc ad rfl j _ (by rw[List.getElem?_map,List.getElem?_eq_getElem hj];rfl));rw[hsd];exact this
 have htx:=OX p bs s h hb (by rw[hss];exact hs);rw[hsl] at htx;have HT:=ah htx;obtain⟨n0,hn0⟩:=aB (b.length);rw[←hn0] at hconv ⊢;clear htx hv hsw hc hsrc hsd hsl hss hn0 hb hs h
 go_enter Tryz.func74,Tryz.ntmps74
 go_wp2_with fail
 refine HT.out.mono ?_;rintro e w3 ⟨rfl,hS⟩
 go_wp2_with fail
 go_end0
 exact⟨rfl,hS⟩
end Go.Proofs.YthfmaclnccdcbaaGreatDoor
namespace Go.Proofs.YthfmaclnccdcbaaGreatDoor
open Go.RowKit PA
set_option maxHeartbeats 1000000 in
theorem wU {W w:World} {A:aC} (x:Nat) (hx:x<18446744073709551616) (h:Sat W w A):
 Calls Tryz.prog 136 #[.int .u64 (x:Nat)] w fun e w'=>∃a c,e=.returned (.slice a (Lib.uvarint x).length c)∧Sat W w' (sep (aT 5 1 a (Lib.uvarint x).length c ((Lib.uvarint x).map bv)) A):=by
 have HX:=ah hx;clear hx
 go_enter Tryz.func136,Tryz.ntmps136
 go_wp2_with fail
 go_loopw [0,3] (fun nv ov wr=>∃(y:Nat) (pre:List UInt8) (a:Option Addr) (n c:Nat) (vs:List Value),nv=.int .u64 (y:Nat)∧ov=.slice a n c∧Hid (vs=pre.map bv∧n=pre.length∧y<18446744073709551616∧pre++Lib.uvarint y=Lib.uvarint x)∧Sat W wr (sep (aT 5 1 a n c vs) A)) (fun nv _ _=>(intOf nv).toNat)
 case atStart=>exact⟨x,[],none,0,0,[],rfl,rfl,ah ⟨rfl,rfl,HX.out,rfl⟩,h.gq _ _⟩
 case round=>
  clear h;obtain⟨y,pre,a,n,c,vs,rfl,rfl,HY,hS⟩:=hrel;have hnb:n≤10:=by
   have h1:=congrArg List.length HY.out.2.2.2;have h2:=Lib.uvarint_length64 HX.out;rw[HY.out.2.1];simp at h1;omega
  have HN:=ah hnb;clear hnb
  by_cases hy:127<y
  ·have hyI:(127:Int)<(y:Int):=by omega
   obtain⟨z,hz⟩:∃z:UInt8,z=(y % 128+128).toUInt8:=⟨_,rfl⟩
   have hzv:z.toNat=y % 128+128:=by rw[hz];simp;omega
   obtain⟨q,hq⟩:∃q:Nat,q=y / 128:=⟨_,rfl⟩
   have ahr:IntKind.u64.wrap ((y:Int) / 128)=(q:Int):=by rw[wraps_u64 _ (by omega) (by have:=HY.out.2.2.1;omega)];omega
   have HQ:=ah hq;have hqy:q<y:=by omega
   have hB:=(hS.gQ (.cells #[.int .u8 (128+(y:Int) % 128)] 5))
   clear hq;have HZ:=ah hz;have HZV:=ah hzv;clear hz hzv hS
   go_wp2_with (at_builtin;(refine aJ rfl (.tmp 6) (.tmp 11) 51 rfl 5 1 1 (.int .u8 0) Tryz.underlying51 eH rfl rfl hB rfl [.int .u8 (128+(y:Int) % 128)] rfl (by simp) (by intro b hb;cases hb;exact iP _ [_] _) (by simp[Value.oneCell']) (by have:=HN.out;omega) (by have:=HN.out;unfold maxLen;omega) ?_))
   intro a2 c2 w2 h2;clear hB
   go_wp2_with fail
   go_roundw
   case rel=>
    refine⟨q,pre++[z],a2,n+1,c2,_,rfl,rfl,ah ⟨rfl,?_,by have:=HY.out.2.2.1;omega,?_⟩,?_⟩
    ·rw[dF,HY.out.2.1];rfl
    ·rw[List.append_assoc,←HY.out.2.2.2,Lib.uvarint_big (by omega:128≤y),←HZ.out,←HQ.out];rfl
    ·have e:(128+(y:Int) % 128)=((z.toNat:Nat):Int):=by have:=HZV.out;omega
     rw[e,HY.out.1] at h2;rw[oO,List.map_cons,List.map_nil,bv];exact h2
   case measure=>simp[intOf];omega
  ·have hyB:decide ((127:Int)<(y:Int))=false:=by simp;omega
   have SK:=ah hy;obtain⟨z,hz⟩:∃z:UInt8,z=y.toUInt8:=⟨_,rfl⟩
   have hzy:z.toNat=y:=by
    rw[hz];simp;omega
   have hor:((y:Int) % 256)=(z.toNat:Int):=by omega
   have hB:=(hS.gQ (.cells #[.int .u8 (z.toNat:Int)] 5))
   have HZ:=ah hz;clear hz hzy hy hS
   go_wp2_with (at_builtin;(refine aJ rfl (.tmp 15) (.tmp 18) 51 rfl 5 1 1 (.int .u8 0) Tryz.underlying51 eH rfl rfl hB rfl [.int .u8 (z.toNat:Int)] rfl (by simp) (by intro b hb;cases hb;exact iP _ [_] _) (by simp[Value.oneCell']) (by have:=HN.out;omega) (by have:=HN.out;unfold maxLen;omega) ?_))
   intro a2 c2 w2 h2;clear hB;have e:Lib.uvarint x=pre++[z]:=by rw[←HY.out.2.2.2,Lib.uvarint_small (by have:=SK.out;omega),←HZ.out]
   have hl:n+1=(Lib.uvarint x).length:=by rw[e,dF,HY.out.2.1];rfl
   have h3:Sat W w2 (sep (aT 5 1 a2 (Lib.uvarint x).length c2 ((Lib.uvarint x).map bv)) A):=by
    rw[←hl,e,oO,List.map_cons,List.map_nil,bv,←HY.out.1];exact h2
   have HL:=ah hl;clear e hl h2
   go_wp2_with fail
   go_ret
   exact⟨a2,c2,by rw[←HL.out];rfl,h3⟩
theorem iH {W w:World} {A:aC} (n:Int) (h1:-9223372036854775808≤n) (h2:n≤9223372036854775807) (h:Sat W w A):
 Calls Tryz.prog 80 #[.int .i64 n] w fun e w'=>∃a c,e=.returned (.slice a (PA.encI n).length c)∧Sat W w' (sep (aT 5 1 a (PA.encI n).length c ((PA.encI n).map bv)) A):=by
 have HZ:=ah (Lib.zigzag_lt h1 h2)
 go_enter Tryz.func80,Tryz.ntmps80
 go_wp2_with fail
 refine (IV n _ h1 h2).mono ?_;rintro e w2 ⟨rfl,rfl⟩
 go_wp2_with fail
 refine (wU (Lib.zigzag n) HZ.out h).mono ?_;rintro e w3 ⟨a,c,rfl,hS⟩
 go_wp2_with fail
 go_ret
 exact⟨a,c,rfl,hS⟩
theorem mX {W w:World} {A:aC} {I:Mem} (v:Value) (b:List UInt8) (h:Sat W w (sep (kn I) A)) (hv:bT.rel I [v] b) (hb:b.length≤1073741824):
 Calls Tryz.prog 82 #[v] w fun e w'=>∃a c,e=.returned (.slice a (encR b).length c)∧Sat W w' (sep (aT 5 1 a (encR b).length c ((encR b).map bv)) (sep (kn I) A)):=by
 obtain⟨a,c,rfl,hsw,hc⟩:=uH.1 hv;obtain⟨n0,hn0⟩:=aB (b.length);rw[←hn0] at hb ⊢;have hw1:IntKind.u64.wrap (n0:Int)=(n0:Nat):=wraps_u64 _ (by omega) (by omega);have HC:=ah hc;have HN:=ah hn0;have HB:=ah hb;have HSW:=ah hsw;clear hc hn0 hb hsw hv
 go_enter Tryz.func82,Tryz.ntmps82
 go_wp2_with fail
 refine (wU n0 (by have:=HB.out;omega) h).mono ?_;rintro e w2 ⟨a1,c1,rfl,hS⟩;have hsrc:=AZ HC.out hS.p1.ext;obtain⟨m,hm⟩:=aB ((Lib.uvarint n0).length);obtain⟨vs,hvs⟩:=aB ((Lib.uvarint n0).map bv);have hmb:m≤10:=by rw[hm];exact Lib.uvarint_length64 (by have:=HB.out;omega)
 rw[←hm,←hvs] at hS;rw[←hm];have HM:=ah hm;have XH:=ah hmb;have HV:=ah hvs;have jX:=ah hsrc;clear hm hvs hmb hsrc h hw1
 go_wp2_with (at_builtin;(refine aJ rfl (.tmp 6) (.tmp 7) 51 rfl 5 1 1 (.int .u8 0) Tryz.underlying51 eH rfl rfl hS rfl (b.map bv) (by rw[List.length_map,HN.out,Nat.mul_one]) (fun e=>by have:=HSW.out.2.2 e;have:=HSW.out.1;have:=HN.out;omega) jX.out (Nl b) (by have:=HB.out;have:=XH.out;omega) (by have:=HB.out;have:=XH.out;unfold maxLen;omega) ?_))
 intro a2 c2 w4 h4;have hl:m+n0=(encR b).length:=by rw[encR,dF,←HN.out,←HM.out]
 have h5:Sat W w4 (sep (aT 5 1 a2 (encR b).length c2 ((encR b).map bv)) (sep (kn I) A)):=by
  rw[←hl,encR,oO,←HN.out,←HV.out];exact h4
 have HL:=ah hl;clear hl h4 hS
 go_wp2_with fail
 go_ret
 exact⟨a2,c2,by rw[←HL.out];rfl,h5⟩
end Go.Proofs.YthfmaclnccdcbaaGreatDoor
namespace PA
open Go Go.RowKit
structure oH (w:World) (a:Option Addr) (n:Nat) (vs:List Value):Prop where
 len:vs.length=n*1
 nil:a=none→n=0
 src:∀b,a=some b→∀j u,vs[j]?=some u→w.cell? (b.add j)=some u
 one:∀u∈vs,u.oneCell'=true
theorem jg {W w:World} {A:aC} {E:Nat} {a:Option Addr} {n c:Nat} {bs:List UInt8} (h:Sat W w (sep (aT E 1 a n c (bs.map PA.bv)) A)):oH w a n (bs.map PA.bv):=
 ⟨h.uZ.1,fun e=>by have:=h.eX.2.2 e;have:=h.eX.1;omega,h.PX,PA.Nl bs⟩
def fO (l:List Int):List UInt8:=Lib.uvarint l.length++(l.map PA.encI).flatten
def pV (l:List Int) (k:Nat):List UInt8:=Lib.uvarint l.length++((l.take k).map PA.encI).flatten
theorem uN {l:List Int} {k:Nat} {r:Int} (h:l[k]?=some r):pV l (k+1)=pV l k++PA.encI r:=by
 unfold pV;rw[List.take_add_one,h];simp
theorem pW (l:List Int):pV l l.length=fO l:=by unfold pV fO;rw[List.take_length]
theorem dY {r:Int} (h1:-9223372036854775808≤r) (h2:r≤9223372036854775807):(PA.encI r).length≤10:=by
 unfold PA.encI;exact Lib.uvarint_length64 (Lib.zigzag_lt h1 h2)
theorem uM {l:List Int} (hn:l.length≤1048576) (hi:∀r∈l,-9223372036854775808≤r∧r≤9223372036854775807) (k:Nat):(pV l k).length≤10+10*k:=by
 induction k with
 | zero=>unfold pV;simp;exact Lib.uvarint_length64 (by omega)
 | succ k ih=>
  cases h:l[k]? with
  | none=>
   have e:pV l (k+1)=pV l k:=by unfold pV;rw[List.take_add_one,h];simp
   rw[e];omega
  | some r=>
   rw[uN h,dF];have:=dY (hi r (List.mem_iff_getElem?.2 ⟨k,h⟩)).1 (hi r (List.mem_iff_getElem?.2 ⟨k,h⟩)).2;omega
end PA
namespace Go.Proofs.YthfmaclnccdcbaaGreatDoor
open Go.RowKit PA
set_option maxHeartbeats 2000000 in
theorem Eb {W w:World} {A:aC} (a:Option Addr) (n c:Nat) (l:List Int) (hn:n=l.length) (hn2:l.length≤1048576) (hi:∀r∈l,-9223372036854775808≤r∧r≤9223372036854775807)
 (hc:∀w' B,Sat W w' (sep B A)→∀(k:Nat) r,l[k]?=some r→∃b o,a=some ⟨b,o,none⟩∧w'.cell? ⟨b,o+k,none⟩=some (.int .i64 r)) (h:Sat W w A):
 Calls Tryz.prog 180 #[.slice a n c] w fun e w'=>∃a' c',e=.returned (.slice a' (fO l).length c')∧Sat W w' (sep (aT 5 1 a' (fO l).length c' ((fO l).map bv)) A):=by
 have HN:=ah (And.intro hn hn2);have HI:=ah hi;have HC:=ah hc;have hw1:IntKind.u64.wrap (n:Int)=(n:Nat):=wraps_u64 _ (by omega) (by omega);have H:=ah h;obtain⟨E,hE⟩:=aB (fO l);rw[←hE];have HE:=ah hE;obtain⟨Po,dU⟩:∃P:Ending→World→Prop,P=fun e w'=>∃a' c',e=.returned (.slice a' E.length c')∧Sat W w' (sep (aT 5 1 a' E.length c' (E.map bv)) A):=⟨_,rfl⟩
 rw[←dU];have bI:=ah dU;have n63:(n:Int)≤9223372036854775807:=by omega
 clear hn hn2 hi hc h hE dU
 go_enter Tryz.func180,Tryz.ntmps180
 go_wp2_with fail
 refine (wU n (by have:=HN.out;omega) H.out).mono ?_;rintro e w2 ⟨a1,c1,rfl,h2⟩;obtain⟨m,hm⟩:=aB ((Lib.uvarint n).length);obtain⟨vs,hvs⟩:=aB ((Lib.uvarint n).map bv);rw[←hm,←hvs] at h2;rw[←hm];have HM:=ah (And.intro hm hvs);have H2:=ah h2;clear hm hvs h2 H
 go_wp2_with fail
 go_loopw [3,4] (fun ov kv wr=>∃(k:Nat) (a':Option Addr) (n' c':Nat) (vs:List Value),ov=.slice a' n' c'∧kv=.int .i64 k∧k≤n∧Hid (n'=(pV l k).length∧vs=(pV l k).map bv)∧Sat W wr (sep (aT 5 1 a' n' c' vs) A)) (fun _ kv _=>n-(intOf kv).toNat)
 case atStart=>
  have e0:pV l 0=Lib.uvarint n:=by unfold pV;rw[HN.out.1];simp
  exact⟨0,a1,m,c1,vs,rfl,rfl,by omega,ah ⟨by rw[HM.out.1,e0],by rw[HM.out.2,e0]⟩,H2.out⟩
 case round=>
  obtain⟨k,a',n',c',vs',rfl,rfl,hk,HV,hS⟩:=hrel;clear H2
  by_cases hlt:k<n
  ·have hltz:(k:Int)<(n:Int):=by omega
   obtain⟨r,hr⟩:∃r,l[k]?=some r:=⟨_,List.getElem?_eq_getElem (by have:=HN.out;omega)⟩
   obtain⟨b,o,rfl,j0⟩:=HC.out _ _ hS k r hr;have HR:=ah (And.intro hr hlt);have HS:=ah hS;clear hr hlt hS hk
   go_wp2_with fail
   refine (iH r (HI.out r (List.mem_iff_getElem?.2 ⟨k,HR.out.1⟩)).1 (HI.out r (List.mem_iff_getElem?.2 ⟨k,HR.out.1⟩)).2 HS.out).mono ?_;rintro e w3 ⟨a2,c2,rfl,h3⟩;have mD:=ah (jg h3);have h4:=h3.drop;have hb1:n'≤10+10*k:=by rw[HV.out.1];exact uM HN.out.2 HI.out k
   have hb2:(PA.encI r).length≤10:=dY (HI.out r (List.mem_iff_getElem?.2 ⟨k,HR.out.1⟩)).1 (HI.out r (List.mem_iff_getElem?.2 ⟨k,HR.out.1⟩)).2;have hkb:k≤1048576:=by have:=HN.out;have:=HR.out.2;omega
   obtain⟨m2,hm2⟩:=aB ((PA.encI r).length);obtain⟨us,hus⟩:=aB ((PA.encI r).map bv);rw[←hm2,←hus] at mD;rw[←hm2] at hb2 ⊢;have HB:=ah (And.intro hb1 (And.intro hb2 hkb));have HU:=ah (And.intro hm2 hus);clear h3 hb1 hb2 hkb hm2 hus j0 HS
   go_wp2_with (at_builtin;(refine aJ rfl (.tmp 15) (.tmp 20) 51 rfl 5 1 1 (.int .u8 0) Tryz.underlying51 eH rfl rfl h4 rfl us mD.out.len mD.out.nil mD.out.src mD.out.one (by have:=HB.out;omega) (by have:=HB.out;unfold maxLen;omega) ?_))
   intro a4 c4 w5 h5;have H5:=ah h5;clear h4 h5 mD
   go_wp2_with fail
   go_roundw
   case rel=>
    refine⟨k+1,a4,n'+m2,c4,_,rfl,by go_num,by have:=HR.out.2;omega,ah ⟨?_,?_⟩,H5.out⟩
    ·rw[uN HR.out.1,dF,HV.out.1,HU.out.1]
    ·rw[uN HR.out.1,oO,HV.out.2,HU.out.2]
   case measure=>simp[intOf];have:=HR.out.2;omega
  ·obtain rfl:k=n:=by omega
   have hE2:E=pV l k:=by rw[HE.out,HN.out.1,pW]
   have HF:Hid (n'=E.length∧vs'=E.map bv):=ah (by rw[hE2];exact HV.out);have HS:=ah hS;clear hS hE2 HV
   go_wp2
   rw[bI.out];exact⟨a',c',by rw[←HF.out.1];try rfl,by rw[←HF.out.1,←HF.out.2];exact HS.out⟩
end Go.Proofs.YthfmaclnccdcbaaGreatDoor
namespace PA
open Go
def Ob (a b:Rt):Bool:=decide (a.n*b.d<b.n*a.d)
def eU (r:Rt):Bool:=okR r&&(decide (r.n≤1073741824)&&(decide (-1073741824≤r.n)&&decide (r.d≤32768)))
def Iv.lw (x:Iv):Rt:=⟨x.ln,x.ld⟩
def Iv.up (x:Iv):Rt:=⟨x.hn,x.hd⟩
def zR (r:Rt):Bool:=r.n==0&&r.d==0
def Yr (a b:Rt):Bool:=a.n==b.n&&a.d==b.d
def gX (x:Iv):Bool:=
 if ((x.li&&(!zR x.lw||x.lo))||(x.hi&&(!zR x.up||x.ho)))=true then false
 else if ((!x.li&&!eU x.lw)||(!x.hi&&!eU x.up))=true then false
 else if (x.li||x.hi)=true then true
 else if Yr x.lw x.up=true then !x.lo&&!x.ho else Ob x.lw x.up
def qI (a b:Iv):Bool:=
 if (a.hi||b.li)=true then false
 else if Yr a.up b.lw=true then a.ho&&b.lo else Ob a.up b.lw
def rZ (l:List Iv) (j:Nat):Bool:=
 match l[j]? with
 | none=>true
 | some x=>gX x&&(match j with|0=>true|j'+1=>match l[j']? with|none=>true|some y=>qI y x)
def Aw (l:List Iv) (n:Nat):Bool:=(List.range n).all (rZ l)
theorem zi (l:List Iv):Aw l 0=true:=rfl
theorem qy (l:List Iv) (n:Nat):Aw l (n+1)=(Aw l n&&rZ l n):=by
 unfold Aw;rw[List.range_succ,List.all_append];simp
theorem uq {l:List Iv} {n i:Nat} (hi:i<n) (h:rZ l i=false):Aw l n=false:=by
 unfold Aw;rw[List.all_eq_false];exact⟨i,List.mem_range.2 hi,by rw[h];decide⟩
def Ji (l:List Iv):Int:=if Aw l l.length=false then 1 else if 32<l.length then 4 else 0
def qG (l:List Iv):Bool:=decide (Ji l=0)
def oU (l:List Int) (i:Nat) (k:Nat):Bool:=
 match l[k]? with
 | none=>true
 | some r=>decide (0≤r)&&(decide (r<(i:Int))&&(match k with|0=>true|k'+1=>match l[k']? with|none=>true|some q=>decide (q<r)))
def rW (l:List Int) (i n:Nat):Bool:=(List.range n).all (oU l i)
theorem wS (l:List Int) (i:Nat):rW l i 0=true:=rfl
theorem nY (l:List Int) (i n:Nat):rW l i (n+1)=(rW l i n&&oU l i n):=by
 unfold rW;rw[List.range_succ,List.all_append];simp
theorem y9 {l:List Int} {i n k:Nat} (hk:k<n) (h:oU l i k=false):rW l i n=false:=by
 unfold rW;rw[List.all_eq_false];exact⟨k,List.mem_range.2 hk,by rw[h];decide⟩
def jS (l:List Int) (i:Nat):Bool:=rW l i l.length
theorem zf {l:List Int} {i:Nat} (h:jS l i=true):∀r∈l,0≤r∧r<(i:Int):=by
 intro r hr;obtain⟨k,hk,rfl⟩:=List.mem_iff_getElem.1 hr;unfold jS rW at h;have:=List.all_eq_true.1 h k (List.mem_range.2 hk);unfold oU at this;rw[List.getElem?_eq_getElem hk] at this;simp only[Bool.and_eq_true,decide_eq_true_eq] at this;exact⟨this.1,this.2.1⟩
def jV (f:Fm):Int:=f.valid qG
def qL:Nat→List Cl→Int
 | _,[]=>0
 | i,c::l=>if 8<c.refs.length then 4 else if jS c.refs i=false then 1 else if jV c.body≠0 then jV c.body else qL (i+1) l
def pR (l:List Cl):Int:=if 32<l.length then 4 else qL 0 l
theorem Pq:∀(l:List Cl) (i:Nat),qL i l=0→∀(k:Nat) (hk:k<l.length),l[k].refs.length≤8∧jS l[k].refs (i+k)=true∧jV l[k].body=0
 | c::l,i,h,k,hk=>by
  unfold qL at h;split at h
  ·cases h
  ·rename_i h1
   split at h
   ·cases h
   ·rename_i h2
    split at h
    ·rename_i h3;exact absurd h h3
    ·rename_i h3
     cases k with
     | zero=>exact⟨by simpa using h1,by simpa using h2,by simpa using h3⟩
     | succ k=>
      have:=Pq l (i+1) h k (by simpa using hk);simp only[List.getElem_cons_succ];rw[show i+(k+1)=i+1+k by omega];exact this
theorem sV {l:List Cl} (h:pR l=0):l.length≤32∧∀(k:Nat) (hk:k<l.length),l[k].refs.length≤8∧jS l[k].refs k=true∧jV l[k].body=0:=by
 unfold pR at h;split at h
 ·cases h
 ·rename_i h1
  refine⟨by omega,fun k hk=>?_⟩;have:=Pq l 0 h k hk
  rwa [Nat.zero_add] at this
mutual
def Fm.dL:Fm→List Fm
 | .mk o n i k=>if o=5 then Fm.aW k else [.mk o n i k]
def Fm.aW:List Fm→List Fm
 | []=>[]
 | f::l=>Fm.dL f++Fm.aW l
end
def Fm.parts (f:Fm):List Fm:=if f.op=4 then f.kids else [f]
theorem Fm.Et:∀(l:List Fm) (f:Fm),Fm.aW (l++[f])=Fm.aW l++Fm.dL f
 | [],f=>by simp[Fm.aW]
 | g::l,f=>by rw[List.cons_append,Fm.aW,Fm.aW,Fm.Et l f,List.append_assoc]
theorem Fm.Eu (l:List Fm) (i:Nat) (hi:i<l.length):Fm.aW (l.take (i+1))=Fm.aW (l.take i)++Fm.dL l[i]:=by
 rw[List.take_succ_eq_append_getElem hi,Fm.Et]
def eP (a b:Fm):Fm:=.mk 4 0 [] (a.parts++b.parts)
def dZ:List Fm→List Fm→Option (List Fm)
 | [],_=>some []
 | a::x,t=>if (t.all fun b=>decide (jV (eP a b)=0))=true then (dZ x t).map (t.map (eP a)++·) else none
def dX (of:Nat→Option (List Fm)) (own:List Fm):List Int→List Fm→Option (List Fm)
 | [],out=>some out
 | r::rs,out=>
  match of r.toNat with
  | none=>none
  | some x=>if 64<out.length+x.length*own.length then none else
   match dZ x own with
   | none=>none
   | some y=>dX of own rs (out++y)
def rX (of:Nat→Option (List Fm)) (c:Cl):Option (List Fm):=
 if c.refs=[] then (if c.body.dL.length≤64 then some c.body.dL else none) else dX of c.body.dL c.refs []
def fJ (l:List Cl) (k:Nat):Option (List Fm):=
 match l[k]? with
 | none=>none
 | some c=>rX (fun r=>if r<k then fJ l r else none) c
termination_by k
theorem kP:∀{x t y:List Fm},dZ x t=some y→y.length=x.length*t.length
 | [],t,y,h=>by cases h;simp
 | a::x,t,y,h=>by
  unfold dZ at h;split at h
  ·cases hc:dZ x t with
   | none=>rw[hc] at h;cases h
   | some z=>
    rw[hc] at h;cases h;rw[dF,List.length_map,kP hc,List.length_cons,Nat.add_mul];omega
  ·cases h
theorem zF {of:Nat→Option (List Fm)} {own:List Fm}:∀{rs:List Int} {out y:List Fm},out.length≤64→dX of own rs out=some y→y.length≤64
 | [],out,y,h0,h=>by cases h;exact h0
 | r::rs,out,y,h0,h=>by
  unfold dX at h;split at h
  ·cases h
  ·split at h
   ·cases h
   ·rename_i h1
    split at h
    ·cases h
    ·rename_i z hz
     have hl:=kP hz;exact zF (by rw[dF,hl];omega) h
theorem xC {l:List Cl} {k:Nat} {y:List Fm} (h:fJ l k=some y):y.length≤64:=by
 unfold fJ at h;split at h
 ·cases h
 ·unfold rX at h
  split at h
  ·split at h
   ·cases h;assumption
   ·cases h
  ·exact zF (by simp) h
def kS:List Fm→Int
 | []=>0
 | f::l=>if jV f≠0 then jV f else kS l
def jI (l:List Cl):Nat→Option Nat
 | 0=>some 0
 | n+1=>match jI l n with
  | none=>none
  | some s=>match fJ l n with
   | none=>none
   | some y=>some (s+y.length)
def ED (td:List Fm) (tc:List Cl):Int:=
 if 16<td.length then 4 else if kS td≠0 then kS td else if pR tc≠0 then pR tc else
  match jI tc tc.length with
  | none=>4
  | some s=>if 128<(Fm.aW td).length+s then 4 else 0
def aN (n lo hi:Int):Bool:=decide (lo≤n)&&decide (n≤hi)
def bP (k:Int):Bool:=decide (k≠5)&&(decide (k≠19)&&(decide (k≠20)&&decide (k≠21)))
def jZ (x:Pa):Pa:=
 { x with
  f:=if bP x.k=true then 0 else x.f
  o:=if x.k=0∨x.k=20∨x.k=21 then 0 else x.o
  p:=if x.k=0∨x.k=4∨x.k=5∨x.k=12∨x.k=14∨x.k=16∨x.k=17 then 0 else x.p
  q:=if x.k=0∨x.k=4∨x.k=13∨x.k=16∨x.k=17 then 0 else x.q
  u:=if x.k=4∨x.k=5∨x.k=6∨x.k=7∨x.k=8∨x.k=9∨x.k=13∨x.k=17∨x.k=18∨x.k=20∨x.k=21 then 0 else x.u
  m:=if x.k=4∨x.k=8∨x.k=21 then 0 else x.m
  sn:=if x.k=16 then 0 else x.sn
  sd:=if x.k=16 then 0 else x.sd
  td:=if x.k=0 then [] else x.td
  tc:=if x.k=0 then [] else x.tc
  cl:=if x.k=3∨x.k=15∨(x.k=13∧x.u=2) then [] else x.cl
  ea:=if x.k=0 then [] else x.ea
  fx:=if x.k=19 then Fm.zero else x.fx }
def iD (x:Pa):Bool:=
 decide (x.f=0)&&(decide (x.o=0)&&(decide (x.p=0)&&(decide (x.q=0)&&(decide (x.u=0)&&(decide (x.m=0)&&(decide (x.sn=0)&&(decide (x.sd=0) &&
 (decide (x.fx.op=0)&&(decide (x.fx.num=0)&&(decide (x.fx.ins.length=0)&&(decide (x.fx.kids.length=0) &&
 (decide (x.td.length=0)&&(decide (x.tc.length=0)&&(decide (x.cl.length=0)&&decide (x.ea.length=0)))))))))))))))
def Hr (f:Int) (l:List Ea) (j:Nat):Bool:=
 match l[j]? with
 | none=>true
 | some e=>aN e.file 0 4095&&(decide (e.file≠f)&&(aN e.day 0 131072&&!((l.take j).any fun g=>decide (g.file=e.file))))
def lK (f:Int) (l:List Ea) (n:Nat):Bool:=(List.range n).all (Hr f l)
theorem FM (f:Int) (l:List Ea) (n:Nat):lK f l (n+1)=(lK f l n&&Hr f l n):=by
 unfold lK;rw[List.range_succ,List.all_append];simp
theorem JJ {f:Int} {l:List Ea} {n i:Nat} (hi:i<n) (h:Hr f l i=false):lK f l n=false:=by
 unfold lK;rw[List.all_eq_false];exact⟨i,List.mem_range.2 hi,by rw[h];decide⟩
def oL (x:Pa):Bool:=
 if aN x.o 0 11=false∨aN x.p 1 4095=false∨aN x.q (-1) 4095=false∨x.q=x.f∨8<x.ea.length∨ED x.td x.tc≠0 then false else lK x.f x.ea x.ea.length
def gW (l:List Cl):Bool:=decide (0<l.length)&&decide (pR l=0)
def nV (x:Pa):Bool:=aN x.p 1 4095&&(aN x.q 1 4095&&decide (x.p≠x.q))
def jf (x:Pa):Bool:=aN x.u x.d 131072
def l7 (n d:Int):Bool:=okR ⟨n,d⟩&&(decide (0<n)&&decide (n≤d))
def aP (x:Pa):Bool:=
 if x.k=0 then oL x
 else if x.k=3∨x.k=15 then gW x.cl
 else if x.k=4 then aN x.p 1 4095&&((aN x.u 0 5||aN x.u 7 66)&&(aN x.q 0 7&&aN x.m 1 1099511627776))
 else if x.k=5 then aN x.p 1 4095&&aN x.u 0 1
 else if x.k=6∨x.k=7 then aN x.u 0 255
 else if x.k=8 then aN x.u 0 255&&aN x.m 1 12
 else if x.k=9 then jf x
 else if x.k=12∨x.k=14 then aN x.p 1 4095
 else if x.k=13 then aN x.u 0 2&&(aN x.q 0 1&&(decide (x.u≠2)||gW x.cl))
 else if x.k=16 then nV x&&l7 x.sn x.sd
 else if x.k=17 then nV x&&jf x
 else if x.k=18 then aN x.u 0 7
 else if x.k=19 then decide (jV x.fx=0)
 else if x.k=20 then aN x.o 0 11&&jf x
 else if x.k=21 then aN x.o 0 11&&(aN x.u 0 18&&aN x.m 0 1099511627776)
 else true
def aZ (x:Pa):Bool:=
 aN x.k 0 21&&(aN x.d 0 131072&&(aN x.n 0 1099511627776&&(aN x.f 0 4095&&(iD (jZ x)&&aP x))))
end PA
namespace PA
open Go
theorem Iq (n d:Int):okR ⟨n,d⟩=true↔1≤d∧d≤1048576∧n≤1099511627776∧-1099511627776≤n∧Nat.gcd n.natAbs d.natAbs=1:=by
 constructor
 ·intro h
  have hr:=(nT h).1;exact⟨hr.d1,hr.d2,hr.n2,hr.n1,Ux n d (by have:=hr.d1;simp only at this;omega) h⟩
 ·rintro⟨h1,h2,h3,h4,h5⟩
  exact uf n d h1 h2 (by omega) h5
end PA
namespace Go.Proofs.YthfmaclnccdcbaaGreatDoor
open Go.RowKit PA
set_option maxHeartbeats 1000000 in
theorem II {W w:World} {A:aC} (a b:Int) (ha:a.natAbs≤4611686018427387904) (hb:b.natAbs≤4611686018427387904) (h:Sat W w A):
 Calls Tryz.prog 166 #[.int .i64 a,.int .i64 b] w fun e w'=>e=.returned (.int .i64 (Nat.gcd a.natAbs b.natAbs:Nat))∧Sat W w' A:=by
 obtain⟨g,hg⟩:=aB (Nat.gcd a.natAbs b.natAbs);rw[←hg];have HG:=ah hg;clear hg
 go_enter Tryz.func166,Tryz.ntmps166
 go_wp2
 go_loopw [0,1] (fun av bv wr=>∃x y:Int,av=.int .i64 x∧bv=.int .i64 y∧x.natAbs≤4611686018427387904∧y.natAbs≤4611686018427387904∧Hid (Nat.gcd x.natAbs y.natAbs=g)∧Sat W wr A) (fun _ bv _=>(intOf bv).natAbs)
 case atStart=>exact⟨a,b,rfl,rfl,ha,hb,ah HG.out.symm,h⟩
 case round=>
  obtain⟨x,y,rfl,rfl,hx,hy,VL,hS⟩:=hrel
  by_cases h0:y=0
  ·subst h0
   have hxg:x.natAbs=g:=by rw[←VL.out];simp
   have HGG:=ah hxg
   by_cases hneg:x<0
   ·have ew:-x=(g:Int):=by omega
    clear hxg HG ha hb h
    go_wp2
    go_ret
    exact⟨by simp,hS⟩
   ·have ew:x=(g:Int):=by omega
    clear hxg HG ha hb h
    go_wp2
    go_ret
    exact⟨rfl,hS⟩
  ·obtain⟨z,hz⟩:∃z,z=Int.tmod x y:=⟨_,rfl⟩
   have hm:Int.tmod x y=z:=hz.symm;have hzn:z.natAbs=x.natAbs % y.natAbs:=by rw[hz,Int.natAbs_tmod]
   have hzl:z.natAbs<y.natAbs:=by rw[hzn];exact Nat.mod_lt _ (by omega)
   have hyx:(y==0)=false:=by simpa using h0
   have HZ:=ah hzn;clear hz hzn ha hb h
   go_wp2
   refine aG rfl (fun _=>True) [(0,.p),(1,.p),(2,.p),(3,.p),(4,.p),(5,.p)] (by kernel_rfl) ?_;have hS0:True:=trivial;refine bF ?_;refine dN ?_
   go_wp2
   go_roundw
   case rel=>exact⟨y,z,rfl,rfl,hy,by omega,ah (by rw[HZ.out,←VL.out,Nat.gcd_comm y.natAbs,←Nat.gcd_rec,Nat.gcd_comm]),hS.drew⟩
   case measure=>simp[intOf];omega
theorem IL (w:World) (a b c d:Int):(binOp .eql 26 (.agg #[.int .i64 a,.int .i64 b]) (.agg #[.int .i64 c,.int .i64 d])).run Tryz.prog w=.ok (.bool (a==c&&b==d)) w:=by
 have h1:Tryz.prog.underlying 26=some (.struct (Tryz.prog.fieldsOf 26)):=by kernel_rfl
 have h2:Tryz.prog.stoodInHeld 26=false:=by kernel_rfl
 have e:=run_equalIn_struct (P:=Tryz.prog) w 9999 26 #[.int .i64 a,.int .i64 b] #[.int .i64 c,.int .i64 d] h1 h2;rw[run_eql_struct,e];clear e;have q0:∀a b:Int,(part 3 #[.int .i64 a,.int .i64 b] 0).run Tryz.prog w=.ok (.int .i64 a) w:=fun a b=>by kernel_rfl
 have q1:∀a b:Int,(part 3 #[.int .i64 a,.int .i64 b] 1).run Tryz.prog w=.ok (.int .i64 b) w:=fun a b=>by kernel_rfl
 have r0:∀a b:Int,(Op.equalIn 9999 3 (.int .i64 a) (.int .i64 b)).run Tryz.prog w=.ok (a==b) w:=fun a b=>run_equalIn_int (P:=Tryz.prog) w 9998 3 .i64 .i64 a b Tryz.underlying3
 by_cases e1:a=c
 ·by_cases e2:b=d
  ·simp[Program.fieldsOf,Tryz.underlying26,Op.eqFields,q0,q1,r0,e1,e2]
  ·simp[Program.fieldsOf,Tryz.underlying26,Op.eqFields,q0,q1,r0,e1,e2]
 ·simp[Program.fieldsOf,Tryz.underlying26,Op.eqFields,q0,r0,e1]
def P7 (b:Bool):Int:=if b=true then 0 else 1
set_option maxHeartbeats 1000000 in
theorem lZ {W w:World} {A:aC} (n d:Int) (h:Sat W w A):
 Calls Tryz.prog 122 #[.agg #[.int .i64 n,.int .i64 d]] w fun e w'=>e=.returned (.int .i64 (P7 (okR ⟨n,d⟩)))∧Sat W w' A:=by
 have hiff:=Iq n d;have h1:=h.alloc (.cells #[.int .i64 n,.int .i64 d] 26);obtain⟨B,hB⟩:=aB (w.heap.size);obtain⟨w1,hw1⟩:=aB (w.alloc (.cells #[.int .i64 n,.int .i64 d] 26));rw[←hB,←hw1] at h1;obtain⟨k0,k1,-,-⟩:=kG h1;have HB:=ah (And.intro hB hw1);have H1:=ah h1;clear h h1 hB hw1
 by_cases c1:d<1
 ·have hr:okR ⟨n,d⟩=false:=by rw[Bool.eq_false_iff];intro e;have:=hiff.1 e;omega
  rw[hr];clear hiff hr
  go_enter Tryz.func122,Tryz.ntmps122
  go_upto_region 1 with (fail)
  rw[←HB.out.1,←HB.out.2]
  go_wp2
  go_ret
  exact⟨rfl,H1.out.drop⟩
 by_cases c2:1048576<d
 ·have hr:okR ⟨n,d⟩=false:=by rw[Bool.eq_false_iff];intro e;have:=hiff.1 e;omega
  rw[hr];clear hiff hr
  go_enter Tryz.func122,Tryz.ntmps122
  go_upto_region 1 with (fail)
  rw[←HB.out.1,←HB.out.2]
  go_wp2
  go_ret
  exact⟨rfl,H1.out.drop⟩
 by_cases c3:1099511627776<n
 ·have hr:okR ⟨n,d⟩=false:=by rw[Bool.eq_false_iff];intro e;have:=hiff.1 e;omega
  rw[hr];clear hiff hr
  go_enter Tryz.func122,Tryz.ntmps122
  go_upto_region 1 with (fail)
  rw[←HB.out.1,←HB.out.2]
  go_wp2
  go_ret
  exact⟨rfl,H1.out.drop⟩
 by_cases c4:n < -1099511627776
 ·have hr:okR ⟨n,d⟩=false:=by rw[Bool.eq_false_iff];intro e;have:=hiff.1 e;omega
  rw[hr];clear hiff hr
  go_enter Tryz.func122,Tryz.ntmps122
  go_upto_region 1 with (fail)
  rw[←HB.out.1,←HB.out.2]
  go_wp2
  go_ret
  exact⟨rfl,H1.out.drop⟩
 ·obtain⟨g,hg⟩:∃g:Nat,g=Nat.gcd n.natAbs d.natAbs:=⟨_,rfl⟩
  have HC:=ah (II n d (by omega) (by omega) H1.out);rw[←hg] at HC;have hr:okR ⟨n,d⟩=decide (g=1):=by
   rw[Bool.eq_iff_iff,hiff,←hg,decide_eq_true_eq];constructor
   ·exact fun e=>e.2.2.2.2
   ·exact fun e=>⟨by omega,by omega,by omega,by omega,e⟩
  rw[hr];clear hiff hr hg
  by_cases hg1:g=1
  ·subst hg1
   go_enter Tryz.func122,Tryz.ntmps122
   go_upto_region 1 with (fail)
   rw[←HB.out.1,←HB.out.2]
   go_wp2_with fail
   refine HC.out.mono ?_;rintro e w2 ⟨rfl,h2⟩;have H2:=ah h2;clear h2 HC k0 k1
   go_wp2
   go_ret
   exact⟨rfl,H2.out.drop⟩
  ·have hgz:((g:Int)==1)=false:=by simp;omega
   have hd:decide (g=1)=false:=decide_eq_false hg1;rw[hd];clear hg1 hd
   go_enter Tryz.func122,Tryz.ntmps122
   go_upto_region 1 with (fail)
   rw[←HB.out.1,←HB.out.2]
   go_wp2_with fail
   refine HC.out.mono ?_;rintro e w2 ⟨rfl,h2⟩;have H2:=ah h2;clear h2 HC k0 k1
   go_wp2
   go_ret
   exact⟨rfl,H2.out.drop⟩
end Go.Proofs.YthfmaclnccdcbaaGreatDoor
namespace PA
open Go
theorem Xd {n:Int} (h:n.natAbs≤1099511627776):okR ⟨n,1⟩=true:=uf n 1 (by omega) (by omega) h (by simp)
theorem Ej {n:Int} (h1:-8≤n) (h2:n≤8):eU ⟨n,1⟩=true:=by
 unfold eU;rw[Xd (by omega),decide_eq_true (by show n≤1073741824;omega),decide_eq_true (by show -1073741824≤n;omega)];rfl
theorem TU {x:Iv} (h:Bf x):gX x=true:=by
 obtain⟨h1,h2,h3,h4,h5⟩:=h;obtain⟨ln,ld,hn,hd,lo,ho,li,hi⟩:=x;simp only at h1 h2 h3 h4 h5;subst h3 h4;have e1:∀hn hd lo ho li hi,eU (Iv.lw ⟨ln,1,hn,hd,lo,ho,li,hi⟩)=true:=fun _ _ _ _ _ _=>Ej (n:=ln) (by omega) (by omega)
 rcases h5 with ⟨rfl,rfl,rfl,rfl⟩|⟨rfl,rfl,h6,h7⟩
 ·unfold gX;rw[e1];simp[zR,Iv.up]
 ·have e2:eU (Iv.up ⟨ln,1,hn,1,lo,ho,false,false⟩)=true:=Ej (n:=hn) (by omega) (by omega)
  have e3:Yr (Iv.lw ⟨ln,1,hn,1,lo,ho,false,false⟩) (Iv.up ⟨ln,1,hn,1,lo,ho,false,false⟩)=false:=by
   unfold Yr Iv.lw Iv.up;rw[show (ln==hn)=false by simpa using (by omega:¬ln=hn)];rfl
  have e4:Ob (Iv.lw ⟨ln,1,hn,1,lo,ho,false,false⟩) (Iv.up ⟨ln,1,hn,1,lo,ho,false,false⟩)=true:=by
   unfold Ob Iv.lw Iv.up;exact decide_eq_true (show ln*1<hn*1 by omega)
  unfold gX;rw[e1,e2,e3,e4];simp
theorem Xo {x:Iv} (h:gX x=true):qG [x]=true:=by
 have e:Aw [x] 1=true:=by rw[qy,zi];simp[rZ,h]
 unfold qG Ji;rw[show ([x]:List Iv).length=1 from rfl,e];simp
theorem fF {f:Fm} (h:oG f):Fm.whole qG f=true∧f.size=1∧f.deep=1∧f.dL=[f]∧f.parts=[f]:=by
 obtain⟨n,h1,h2,rfl⟩:=h;refine⟨?_,by simp[Fm.size,Fm.sizes],by simp[Fm.deep,Fm.dG],by simp[Fm.dL],by simp[Fm.parts,Fm.op]⟩;simp[Fm.whole,Fm.formed,Fm.dI];omega
theorem lD {f:Fm} (h:zx f):Fm.whole qG f=true∧f.size=1∧f.deep=1∧f.dL=[f]∧f.parts=[f]:=by
 obtain⟨n,x,h1,h2,hx,rfl⟩:=h;refine⟨?_,by simp[Fm.size,Fm.sizes],by simp[Fm.deep,Fm.dG],by simp[Fm.dL],by simp[Fm.parts,Fm.op]⟩;have:=Xo (TU hx);simp[Fm.whole,Fm.formed,Fm.dI,this];omega
structure FmG (f:Fm):Prop where
 wh:Fm.whole qG f=true
 sz:f.size≤4
 dp:f.deep≤3
theorem CP {f:Fm} (h:cO f):FmG f:=by
 cases h with
 | c h=>obtain⟨a,b,c,-⟩:=fF h;exact⟨a,by omega,by omega⟩
 | v h=>obtain⟨a,b,c,-⟩:=lD h;exact⟨a,by omega,by omega⟩
 | FB h g=>obtain⟨a,b,c,-⟩:=fF h;obtain⟨a',b',c',-⟩:=lD g;exact⟨by simp[Fm.whole,Fm.formed,Fm.dI,a,a'],by simp[Fm.size,Fm.sizes,b,b'],by simp[Fm.deep,Fm.dG,c,c']⟩
 | Rj h g=>obtain⟨a,b,c,-⟩:=fF h;obtain⟨a',b',c',-⟩:=lD g;exact⟨by simp[Fm.whole,Fm.formed,Fm.dI,a,a'],by simp[Fm.size,Fm.sizes,b,b'],by simp[Fm.deep,Fm.dG,c,c']⟩
 | UE h g=>obtain⟨a,b,c,-⟩:=fF h;obtain⟨a',b',c',-⟩:=fF g;exact⟨by simp[Fm.whole,Fm.formed,Fm.dI,a,a'],by simp[Fm.size,Fm.sizes,b,b'],by simp[Fm.deep,Fm.dG,c,c']⟩
 | Tc h g=>obtain⟨a,b,c,-⟩:=fF h;obtain⟨a',b',c',-⟩:=fF g;exact⟨by simp[Fm.whole,Fm.formed,Fm.dI,a,a'],by simp[Fm.size,Fm.sizes,b,b'],by simp[Fm.deep,Fm.dG,c,c']⟩
 | part h=>obtain⟨a,b,c,-⟩:=fF h;exact⟨by simp[Fm.whole,Fm.formed,Fm.dI,a],by simp[Fm.size,Fm.sizes,b],by simp[Fm.deep,Fm.dG,c]⟩
 | Td h g=>obtain⟨a,b,c,-⟩:=fF h;obtain⟨a',b',c',-⟩:=lD g;exact⟨by simp[Fm.whole,Fm.formed,Fm.dI,a,a'],by simp[Fm.size,Fm.sizes,b,b'],by simp[Fm.deep,Fm.dG,c,c']⟩
theorem TN {f:Fm} (h1:Fm.whole qG f=true) (h2:f.size≤96) (h3:f.deep≤8):jV f=0:=by
 unfold jV Fm.valid;rw[if_neg (by omega),if_pos h1]
theorem Hz {f:Fm} (h:cO f):jV f=0:=by
 have:=CP h;exact TN this.wh (by have:=this.sz;omega) (by have:=this.dp;omega)
structure nC (n:Nat) (f:Fm):Prop where
 wh:Fm.dI qG f.parts=true
 sz:Fm.sizes f.parts≤n
 dp:Fm.dG f.parts≤3
theorem nC.up {m n:Nat} {f:Fm} (h:nC m f) (hmn:m≤n):nC n f:=⟨h.wh,Nat.le_trans h.sz hmn,h.dp⟩
theorem Ey (sp:List Iv→Bool):∀a b:List Fm,Fm.dI sp (a++b)=(Fm.dI sp a&&Fm.dI sp b)
 | [],b=>by simp[Fm.dI]
 | f::a,b=>by rw[List.cons_append,Fm.dI,Fm.dI,Ey sp a b,Bool.and_assoc]
theorem Gu:∀a b:List Fm,Fm.sizes (a++b)=Fm.sizes a+Fm.sizes b
 | [],b=>by simp[Fm.sizes]
 | f::a,b=>by rw[List.cons_append,Fm.sizes,Fm.sizes,Gu a b];omega
theorem FI:∀a b:List Fm,Fm.dG (a++b)=max (Fm.dG a) (Fm.dG b)
 | [],b=>by simp[Fm.dG]
 | f::a,b=>by rw[List.cons_append,Fm.dG,Fm.dG,FI a b];omega
theorem qV (a b:Fm):(eP a b).parts=a.parts++b.parts:=by simp[eP,Fm.parts,Fm.op,Fm.kids]
theorem KZ {m n:Nat} {a b:Fm} (ha:nC m a) (hb:nC n b):nC (m+n) (eP a b):=by
 constructor
 ·rw[qV,Ey,ha.wh,hb.wh];rfl
 ·rw[qV,Gu];have:=ha.sz;have:=hb.sz;omega
 ·rw[qV,FI];have:=ha.dp;have:=hb.dp;omega
theorem Xi {m n:Nat} {a b:Fm} (ha:nC m a) (hb:nC n b) (h:m+n≤90):jV (eP a b)=0:=by
 have hp:=KZ ha hb;have e:=qV a b;refine TN ?_ ?_ ?_
 ·have:=hp.wh;rw[e] at this;simp[eP,Fm.whole,Fm.formed,this]
 ·have:=hp.sz;rw[e] at this;rw[eP,Fm.size];omega
 ·have:=hp.dp;rw[e] at this;rw[eP,Fm.deep];omega
theorem pK {f:Fm} (h:Fm.whole qG f=true∧f.size=1∧f.deep=1∧f.dL=[f]∧f.parts=[f]):nC 4 f:=by
 obtain⟨a,b,c,-,e⟩:=h;constructor<;>rw[e]<;>simp[Fm.dI,Fm.sizes,Fm.dG,a,b,c]
theorem iw {f:Fm} (h:cO f):(∀t∈f.dL,nC 4 t)∧f.dL.length≤2:=by
 cases h with
 | c h=>
  have k:=fF h;have al:=pK k;rw[k.2.2.2.1];exact⟨by intro t ht;rw[List.mem_singleton.1 ht];exact al,by simp⟩
 | v h=>
  have k:=lD h;have al:=pK k;rw[k.2.2.2.1];exact⟨by intro t ht;rw[List.mem_singleton.1 ht];exact al,by simp⟩
 | FB h g=>
  obtain⟨a,b,c,-⟩:=fF h;obtain⟨a',b',c',-⟩:=lD g;rw[Fm.dL,if_neg (by decide)];refine⟨fun t ht=>?_,by simp⟩;rw[List.mem_singleton.1 ht];constructor<;>simp[Fm.parts,Fm.op,Fm.kids,Fm.dI,Fm.sizes,Fm.dG,a,b,c,a',b',c']
 | Rj h g=>
  have k:=fF h;have k':=lD g;have al:=pK k;have al':=pK k';rw[Fm.dL,if_pos rfl,Fm.aW,Fm.aW,Fm.aW,k.2.2.2.1,k'.2.2.2.1];refine⟨fun t ht=>?_,by simp⟩;simp at ht;rcases ht with rfl|rfl
  ·exact al
  ·exact al'
 | UE h g=>
  have k:=fF h;have k':=fF g;have al:=pK k;have al':=pK k';rw[Fm.dL,if_pos rfl,Fm.aW,Fm.aW,Fm.aW,k.2.2.2.1,k'.2.2.2.1];refine⟨fun t ht=>?_,by simp⟩;simp at ht;rcases ht with rfl|rfl
  ·exact al
  ·exact al'
 | Tc h g=>
  obtain⟨a,b,c,-⟩:=fF h;obtain⟨a',b',c',-⟩:=fF g;rw[Fm.dL,if_neg (by decide)];refine⟨fun t ht=>?_,by simp⟩;rw[List.mem_singleton.1 ht];constructor<;>simp[Fm.parts,Fm.op,Fm.kids,Fm.whole,Fm.formed,Fm.dI,Fm.size,Fm.sizes,Fm.deep,Fm.dG,a,b,c,a',b',c']
 | part h=>
  obtain⟨a,b,c,-⟩:=fF h;rw[Fm.dL,if_neg (by decide)];refine⟨fun t ht=>?_,by simp⟩;rw[List.mem_singleton.1 ht];constructor<;>simp[Fm.parts,Fm.op,Fm.whole,Fm.formed,Fm.dI,Fm.size,Fm.sizes,Fm.deep,Fm.dG,a,b,c]
 | Td h g=>
  obtain⟨a,b,c,-⟩:=fF h;obtain⟨a',b',c',-⟩:=lD g;rw[Fm.dL,if_neg (by decide)];refine⟨fun t ht=>?_,by simp⟩;rw[List.mem_singleton.1 ht];constructor<;>simp[Fm.parts,Fm.op,Fm.kids,Fm.whole,Fm.formed,Fm.dI,Fm.size,Fm.sizes,Fm.deep,Fm.dG,a,b,c,a',b',c']
theorem uK {m n:Nat} {t:List Fm} (hn:∀b∈t,nC n b) (hmn:m+n≤90):∀{x:List Fm},(∀a∈x,nC m a)→∃y,dZ x t=some y∧y.length=x.length*t.length∧∀c∈y,nC (m+n) c
 | [],_=>⟨[],rfl,by simp,by simp⟩
 | a::x,h=>by
  obtain⟨y,h1,h2,h3⟩:=uK hn hmn (x:=x) (fun c hc=>h c (List.mem_cons_of_mem _ hc));have hall:(t.all fun b=>decide (jV (eP a b)=0))=true:=List.all_eq_true.2 fun b hb=>decide_eq_true (Xi (h a (List.mem_cons_self ..)) (hn b hb) hmn)
  refine⟨t.map (eP a)++y,?_,?_,?_⟩
  ·unfold dZ;rw[if_pos hall,h1];rfl
  ·rw[dF,List.length_map,h2,List.length_cons,Nat.add_mul];omega
  ·intro c hc
   rcases List.mem_append.1 hc with hc|hc
   ·obtain⟨b,hb,rfl⟩:=List.mem_map.1 hc
    exact KZ (h a (List.mem_cons_self ..)) (hn b hb)
   ·exact h3 c hc
theorem Bq {l:List Cl} {k:Nat} {c:Cl} (hc:l[k]?=some c) (hr:c.refs=[]) (hF:cO c.body):∃y,fJ l k=some y∧y.length≤2∧∀f∈y,nC 4 f:=by
 refine⟨c.body.dL,?_,(iw hF).2,(iw hF).1⟩;unfold fJ;rw[hc];simp only;unfold rX;rw[if_pos hr,if_pos (by have:=(iw hF).2;omega)]
theorem Bv {l:List Cl} {k j m n:Nat} {c:Cl} {y:List Fm} (hc:l[k]?=some c) (hr:c.refs=[(j:Int)]) (hj:j<k) (hF:cO c.body) (hy:fJ l j=some y) (hyl:y.length≤n) (hya:∀f∈y,nC m f) (hm:m+4≤90) (hn:n*2≤64):
 ∃z,fJ l k=some z∧z.length≤n*2∧∀f∈z,nC (m+4) f:=by
 obtain⟨z,h1,h2,h3⟩:=uK (iw hF).1 hm hya;have hl:y.length*c.body.dL.length≤n*2:=Nat.mul_le_mul hyl (iw hF).2;refine⟨z,?_,by omega,h3⟩;unfold fJ;rw[hc];simp only;unfold rX;rw[if_neg (by rw[hr];simp),hr];unfold dX;simp only[Int.toNat_natCast,if_pos hj,hy];rw[if_neg (by simp;omega),h1];simp[dX]
theorem SY {l:List Cl} {k:Nat} {c:Cl} {y0 y1:List Fm} (hc:l[k]?=some c) (hr:c.refs=[0,1]) (hk:2≤k) (hF:cO c.body) (hy0:fJ l 0=some y0) (hl0:y0.length≤4) (ha0:∀f∈y0,nC 8 f) (hy1:fJ l 1=some y1) (hl1:y1.length≤4) (ha1:∀f∈y1,nC 8 f):
 ∃z,fJ l k=some z∧z.length≤16∧∀f∈z,nC 12 f:=by
 obtain⟨z0,h1,h2,h3⟩:=uK (m:=8) (n:=4) (iw hF).1 (by omega) ha0;obtain⟨z1,g1,g2,g3⟩:=uK (m:=8) (n:=4) (iw hF).1 (by omega) ha1;have e0:y0.length*c.body.dL.length≤4*2:=Nat.mul_le_mul hl0 (iw hF).2;have e1:y1.length*c.body.dL.length≤4*2:=Nat.mul_le_mul hl1 (iw hF).2;refine⟨z0++z1,?_,by rw[dF];omega,fun f hf=>?_⟩
 ·unfold fJ;rw[hc];simp only;unfold rX;rw[if_neg (by rw[hr];simp),hr]
  unfold dX;simp only[show (0:Int).toNat=0 from rfl,if_pos (show 0<k by omega),hy0];rw[if_neg (by simp;omega),h1];simp only[List.nil_append];unfold dX;simp only[show (1:Int).toNat=1 from rfl,if_pos (show 1<k by omega),hy1];rw[if_neg (by omega),g1];simp[dX]
 ·rcases List.mem_append.1 hf with hf|hf
  ·exact h3 f hf
  ·exact g3 f hf
theorem NG {l:List Cl} (h:jW l):∀k,k<l.length→∃y,fJ l k=some y∧y.length≤16∧∀f∈y,nC 12 f:=by
 obtain⟨h1,h2,h3⟩:=h;have g0:∃y,fJ l 0=some y∧y.length≤2∧∀f∈y,nC 4 f:=by
  obtain⟨hF,hr⟩:=h3 0 h1;refine Bq (List.getElem?_eq_getElem h1) ?_ hF;rcases hr with hr|⟨j,hj,-⟩|⟨hj,-⟩
  ·exact hr
  ·omega
  ·omega
 obtain⟨y0,a1,a2,a3⟩:=g0;have g1:1<l.length→∃y,fJ l 1=some y∧y.length≤4∧∀f∈y,nC 8 f:=by
  intro hk;obtain⟨hF,hr⟩:=h3 1 hk;rcases hr with hr|⟨j,hj,hr⟩|⟨hj,-⟩
  ·obtain⟨y,b1,b2,b3⟩:=Bq (List.getElem?_eq_getElem hk) hr hF
   exact⟨y,b1,by omega,fun f hf=>(b3 f hf).up (by omega)⟩
  ·obtain rfl:j=0:=by omega
   exact Bv (List.getElem?_eq_getElem hk) hr (by omega) hF a1 a2 a3 (by omega) (by omega)
  ·omega
 have g2:2<l.length→∃y,fJ l 2=some y∧y.length≤16∧∀f∈y,nC 12 f:=by
  intro hk;obtain⟨y1,c1,c2,c3⟩:=g1 (by omega);obtain⟨hF,hr⟩:=h3 2 hk;rcases hr with hr|⟨j,hj,hr⟩|⟨-,hr⟩
  ·obtain⟨y,b1,b2,b3⟩:=Bq (List.getElem?_eq_getElem hk) hr hF
   exact⟨y,b1,by omega,fun f hf=>(b3 f hf).up (by omega)⟩
  ·rcases (by omega:j=0∨j=1) with rfl|rfl
   ·obtain⟨z,b1,b2,b3⟩:=Bv (List.getElem?_eq_getElem hk) hr (by omega) hF a1 a2 a3 (by omega) (by omega)
    exact⟨z,b1,by omega,fun f hf=>(b3 f hf).up (by omega)⟩
   ·obtain⟨z,b1,b2,b3⟩:=Bv (List.getElem?_eq_getElem hk) hr (by omega) hF c1 c2 c3 (by omega) (by omega)
    exact⟨z,b1,by omega,fun f hf=>(b3 f hf).up (by omega)⟩
  ·exact SY (List.getElem?_eq_getElem hk) hr (by omega) hF a1 (by omega) (fun f hf=>(a3 f hf).up (by omega)) c1 c2 c3
 intro k hk;rcases (by omega:k=0∨k=1∨k=2) with rfl|rfl|rfl
 ·exact⟨y0,a1,by omega,fun f hf=>(a3 f hf).up (by omega)⟩
 ·obtain⟨y,b1,b2,b3⟩:=g1 hk
  exact⟨y,b1,by omega,fun f hf=>(b3 f hf).up (by omega)⟩
 ·exact g2 hk
theorem zN {l:List Cl} (h:jW l):∀n,n≤l.length→∃s,jI l n=some s∧s≤16*n
 | 0,_=>⟨0,rfl,by omega⟩
 | n+1,hn=>by
  obtain⟨s,h1,h2⟩:=zN h n (by omega);obtain⟨y,g1,g2,-⟩:=NG h n (by omega);exact⟨s+y.length,by rw[jI,h1];simp only;rw[g1],by omega⟩
theorem Pm:∀(l:List Cl) (i:Nat),(∀(k:Nat) (hk:k<l.length),l[k].refs.length≤8∧jS l[k].refs (i+k)=true∧jV l[k].body=0)→qL i l=0
 | [],_,_=>rfl
 | c::l,i,h=>by
  obtain⟨h1,h2,h3⟩:=h 0 (by simp);simp only[List.getElem_cons_zero,Nat.add_zero] at h1 h2 h3;unfold qL;rw[if_neg (by omega),if_neg (by rw[h2];decide),if_neg (by rw[h3];decide)];refine Pm l (i+1) fun k hk=>?_
  have:=h (k+1) (by simp;omega);simp only[List.getElem_cons_succ] at this;rw[show i+1+k=i+(k+1) by omega];exact this
theorem oM {i:Nat} {r:List Int} (h:lg i r):r.length≤2∧jS r i=true:=by
 rcases h with rfl|⟨j,hj,rfl⟩|⟨rfl,rfl⟩
 ·exact⟨by simp,rfl⟩
 ·refine⟨by simp,?_⟩
  unfold jS;rw[show ([(j:Int)]:List Int).length=1 from rfl,nY,wS];simp[oU];omega
 ·exact⟨by simp,by decide⟩
theorem CJ {l:List Cl} (h:jW l):pR l=0:=by
 unfold pR;rw[if_neg (by have:=h.2.1;omega)];refine Pm l 0 fun k hk=>?_
 obtain⟨hF,hr⟩:=h.2.2 k hk;rw[Nat.zero_add];exact⟨by have:=(oM hr).1;omega,(oM hr).2,Hz hF⟩
theorem WL {l:List Fm} (h:∀f∈l,jV f=0):kS l=0:=by
 induction l with
 | nil=>rfl
 | cons f l ih=>
  unfold kS;rw[if_neg (by rw[h f (List.mem_cons_self ..)];decide)];exact ih fun g hg=>h g (List.mem_cons_of_mem _ hg)
theorem UY {l:List Fm} (h:∀f∈l,f.dL.length≤2):(Fm.aW l).length≤2*l.length:=by
 induction l with
 | nil=>simp[Fm.aW]
 | cons f l ih=>
  rw[Fm.aW,dF,List.length_cons];have:=h f (List.mem_cons_self ..);have:=ih fun g hg=>h g (List.mem_cons_of_mem _ hg)
  omega
theorem WO {td:List Fm} {tc:List Cl} (h:zq td tc):ED td tc=0:=by
 obtain⟨h1,h2,h3,h4⟩:=h;obtain⟨s,g1,g2⟩:=zN h4 tc.length (by omega);have ht:=UY (l:=td) fun f hf=>(iw (h3 f hf)).2
 have hc:=h4.2.1;unfold ED;rw[if_neg (by omega),if_neg (by rw[WL fun f hf=>Hz (h3 f hf)];decide),if_neg (by rw[CJ h4];decide),g1];simp only;rw[if_neg (by omega)]
theorem WC {N:Nat} {l:List Ea} (hN:N≤800) (h:GH N l):lK (5*(N:Int)) l l.length=true:=by
 obtain⟨h1,h2,h3⟩:=h;unfold lK;refine List.all_eq_true.2 fun k hk=>?_
 have hk:=List.mem_range.1 hk;obtain⟨⟨j,hj,hf⟩,hd1,hd2⟩:=h2 l[k] (List.getElem_mem hk);unfold Hr;rw[List.getElem?_eq_getElem hk];simp only;have hany:((l.take k).any fun g=>decide (g.file=l[k].file))=false:=by
  rw[List.any_eq_false];intro g hg;obtain⟨i,hi,rfl⟩:=List.mem_iff_getElem.1 hg;rw[List.length_take] at hi;rw[List.getElem_take];have:=List.pairwise_iff_getElem.1 h3 i k (by omega) hk (by omega);simpa using this
 rw[hany];unfold aN;simp;omega
theorem JW {N:Nat} {x:Pa} (hN:N≤100) (h:Jl N x) (hn:0≤x.n∧x.n≤1000000):aZ x=true:=by
 obtain⟨y,d,n,hy,hd1,hd2,rfl⟩:=h;have hn':0≤n∧n≤1000000:=hn;rcases hy with ⟨o,p,q,td,tc,ea,rfl,ho,hp,hq,hT,hE⟩|hy
 ·have e1:=WO hT
  have e2:=WC (by omega) hE;have e3:=hE.1;have WT:¬q=5*(N:Int)∧-1≤q∧q≤4095:=by
   rcases hq with rfl|⟨j,hj,rfl⟩
   ·omega
   ·omega
  simp[aZ,bC,aN,iD,jZ,bP,aP,oL,Pa.zero,Fm.zero,Fm.op,Fm.num,Fm.ins,Fm.kids,e1,e2];omega
 ·have aa6:True:=trivial
  cases hy with
  | plain hk hf=>
   obtain⟨j,hj,rfl⟩:=hf;rcases hk with rfl|rfl|rfl|rfl<;>(simp[aZ,bC,aN,iD,jZ,bP,aP,Pa.zero,Fm.zero,Fm.op,Fm.num,Fm.ins,Fm.kids];omega)
  | list hk hf hc=>
   obtain⟨j,hj,rfl⟩:=hf;have e1:=CJ hc;have e2:=hc.1;rcases hk with rfl|rfl<;>(simp[aZ,bC,aN,iD,jZ,bP,aP,gW,Pa.zero,Fm.zero,Fm.op,Fm.num,Fm.ins,Fm.kids,e1];omega)
  | pay hf hp hq hu hm1 hm2=>
   obtain⟨j,hj,rfl⟩:=hf;simp[aZ,bC,aN,iD,jZ,bP,aP,Pa.zero,Fm.zero,Fm.op,Fm.num,Fm.ins,Fm.kids];omega
  | small hp hu=>
   simp[aZ,bC,aN,iD,jZ,bP,aP,Pa.zero,Fm.zero,Fm.op,Fm.num,Fm.ins,Fm.kids];omega
  | order hk hf hu1 hu2 hu3=>
   obtain⟨j,hj,rfl⟩:=hf;rcases hk with rfl|rfl|rfl|rfl<;>(simp[aZ,bC,aN,iD,jZ,bP,aP,jf,Pa.zero,Fm.zero,Fm.op,Fm.num,Fm.ins,Fm.kids];omega)
  | extend hf hu1 hu2 hm1 hm2=>
   obtain⟨j,hj,rfl⟩:=hf;simp[aZ,bC,aN,iD,jZ,bP,aP,Pa.zero,Fm.zero,Fm.op,Fm.num,Fm.ins,Fm.kids];omega
  | Ir hk hf hp1 hp2=>
   obtain⟨j,hj,rfl⟩:=hf;rcases hk with rfl|rfl<;>(simp[aZ,bC,aN,iD,jZ,bP,aP,Pa.zero,Fm.zero,Fm.op,Fm.num,Fm.ins,Fm.kids];omega)
  | decide hf hq hu=>
   obtain⟨j,hj,rfl⟩:=hf;rcases hu with ⟨hu,rfl⟩|⟨rfl,hc⟩
   ·rcases hu with rfl|rfl<;>(simp[aZ,bC,aN,iD,jZ,bP,aP,Pa.zero,Fm.zero,Fm.op,Fm.num,Fm.ins,Fm.kids];omega)
   ·have e1:=CJ hc
    have e2:=hc.1;simp[aZ,bC,aN,iD,jZ,bP,aP,gW,Pa.zero,Fm.zero,Fm.op,Fm.num,Fm.ins,Fm.kids,e1];omega
  | @transfer f p q sn sd hf hp1 hp2 hq1 hq2 hs=>
   obtain⟨j,hj,rfl⟩:=hf;have e1:l7 sn sd=true:=by
    rcases hs with ⟨rfl,rfl⟩|⟨rfl,rfl⟩|⟨rfl,rfl⟩|⟨rfl,rfl⟩
    ·unfold l7;rw[uf 1 1 (by omega) (by omega) (by decide) (by decide)];rfl
    ·unfold l7;rw[uf 1 2 (by omega) (by omega) (by decide) (by decide)];rfl
    ·unfold l7;rw[uf 1 3 (by omega) (by omega) (by decide) (by decide)];rfl
    ·unfold l7;rw[uf 2 3 (by omega) (by omega) (by decide) (by decide)];rfl
   simp[aZ,bC,aN,iD,jZ,bP,aP,nV,Pa.zero,Fm.zero,Fm.op,Fm.num,Fm.ins,Fm.kids,e1];omega
  | Ii hf hp1 hp2 hq1 hq2 hu1 hu2=>
   obtain⟨j,hj,rfl⟩:=hf;simp[aZ,bC,aN,iD,jZ,bP,aP,nV,jf,Pa.zero,Fm.zero,Fm.op,Fm.num,Fm.ins,Fm.kids];omega
  | art hg=>
   have e1:=Hz hg;simp[aZ,bC,aN,iD,jZ,bP,aP,Pa.zero,Fm.zero,Fm.op,Fm.num,Fm.ins,Fm.kids,e1];omega
  | closure ho hu1 hu2=>
   simp[aZ,bC,aN,iD,jZ,bP,aP,jf,Pa.zero,Fm.zero,Fm.op,Fm.num,Fm.ins,Fm.kids];omega
  | rule ho hu1 hu2 hm1 hm2=>
   simp[aZ,bC,aN,iD,jZ,bP,aP,Pa.zero,Fm.zero,Fm.op,Fm.num,Fm.ins,Fm.kids];omega
end PA
namespace PA
open Go Go.RowKit
theorem Sat.putObj {W w:World} {A:aC} {l:Nat} {o:Obj} (h:Sat W w (sep (blk l o) A)) (o':Obj):Sat W (w.putObj l o') (sep (blk l o') A):=
 h.change rfl rfl rfl (World.putObj_heap_same h.lt) fun _ hk _=>World.putObj_heap_other hk
section
variable {α:Type} {F:Fence} {P:Program}
end
end PA
namespace PA
open Go Go.RowKit
section
variable {α:Type} {F:Fence} {P:Program}
end
end PA
