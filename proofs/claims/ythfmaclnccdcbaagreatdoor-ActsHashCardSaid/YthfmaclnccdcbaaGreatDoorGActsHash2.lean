/- Part of a proof. -/
import Derived.Test.YthfmaclnccdcbaaGreatDoorGActsHash1
import Derived.Test.YthfmaclnccdcbaaGreatDoorProg
import Derived.Deep.DeepCutAuto
import Derived.Laws.StructEq
import Derived.Maps.RangeWalk
namespace Go.Proofs.YthfmaclnccdcbaaGreatDoor
open Go.RowKit PA
set_option maxHeartbeats 1000000 in
theorem TV {W w:World} {A:aA} (a b:Nat) (ha:a<18446744073709551616) (hb:b<18446744073709551616) (h:Sat W w A):
 Calls Tryz.prog 235 #[.int .u64 a,.int .u64 b] w fun e w'=>e=.returned (.int .u64 (Nat.gcd a b:Nat))∧Sat W w' A:=by
 obtain⟨g,hg⟩:=ay (Nat.gcd a b);rw[←hg];have HG:=ah hg;clear hg
 go_enter Tryz.func235,Tryz.ntmps235
 go_wp2
 go_loopw [0,1] (fun av bv wr=>∃x y:Nat,av=.int .u64 x∧bv=.int .u64 y∧x<18446744073709551616∧y<18446744073709551616∧Nat.gcd x y=g∧Sat W wr A) (fun _ bv _=>(intOf bv).toNat)
 case atStart=>exact⟨a,b,rfl,rfl,ha,hb,HG.out.symm,h⟩
 case round=>
  obtain⟨x,y,rfl,rfl,hx,hy,hxy,hS⟩:=hrel;have HXY:=ah hxy;clear hxy
  by_cases h0:0<y
  ·have h0I:(0:Int)<y:=by omega
   have hy0:¬y=0:=by omega
   obtain⟨z,hz⟩:=ay (x % y);have hm:(x:Int).tmod (y:Int)=(z:Int):=by rw[hz,Int.tmod_eq_emod_of_nonneg (by omega)];omega
   have hm2:z<y:=by rw[hz];exact Nat.mod_lt _ h0
   have HZ:=ah hz;clear hz
   go_wp2
   refine aJ rfl (fun _=>True) [(0,.p),(1,.p),(2,.p),(3,.p),(4,.p),(5,.p)] (by kernel_rfl) ?_;have hS0:True:=trivial;refine dh ?_;refine fC ?_
   go_wp2
   go_roundw
   case rel=>exact⟨y,z,rfl,rfl,hy,by omega,by rw[HZ.out,←HXY.out,Nat.gcd_comm y,←Nat.gcd_rec,Nat.gcd_comm],hS.drew⟩
   case measure=>simp[intOf];omega
  ·obtain rfl:y=0:=by omega
   go_wp2
   go_ret
   exact⟨by rw[←HXY.out];simp,hS⟩
theorem Gp (n:Int) (h1:-9223372036854775808≤n) (h2:n≤9223372036854775807) (w:World):
 Calls Tryz.prog 225 #[.int .i64 n] w fun e w'=>e=.returned (.int .u64 (n.natAbs:Nat))∧w=w':=by
 by_cases hn:n<0
 ·have e1:IntKind.u64.wrap n=n+18446744073709551616:=by rw[IntKind.wrap_u64];omega
  have e2:IntKind.u64.wrap (-(n+18446744073709551616))=(n.natAbs:Int):=by rw[IntKind.wrap_u64];omega
  go_enter Tryz.func225,Tryz.ntmps225
  go_wp2
  go_ret
  exact⟨rfl,rfl⟩
 ·have e1:IntKind.u64.wrap n=(n.natAbs:Int):=by rw[IntKind.wrap_u64];omega
  go_enter Tryz.func225,Tryz.ntmps225
  go_wp2
  go_ret
  exact⟨rfl,rfl⟩
theorem kG {W w:World} {A:aA} {q:Nat} {u v:Value} {t:TypeId} (h:Sat W w (sep (blk q (.cells #[u,v] t (0,0))) A)):
 w.cell? ⟨q,0,none⟩=some u∧w.cell? ⟨q,1,none⟩=some v∧w.frozen? ⟨q,0,none⟩=false∧w.frozen? ⟨q,1,none⟩=false:=⟨h.cell 0,h.cell 1,h.aG 0,h.aG 1⟩
theorem uS {W w:World} {A:aA} {q:Nat} {u v:Value} {t:TypeId} (h:Sat W w (sep (blk q (.cells #[u,v] t (0,0))) A)) (x y:Value):
 Sat W ((w.setCell ⟨q,0,none⟩ x).setCell ⟨q,1,none⟩ y) (sep (blk q (.cells #[x,y] t (0,0))) A):=(h.setCell 0 x).setCell 1 y
set_option maxHeartbeats 1000000 in
theorem Nv {W w:World} {A:aA} (neg:Bool) (n d:Nat) (hn:n<18446744073709551616) (hd:d<18446744073709551616) (h0:0<d) (h:Sat W w A):
 Calls Tryz.prog 224 #[.bool neg,.int .u64 n,.int .u64 d] w fun e w'=>e=.returned (.tuple #[.agg #[.int .i64 (nN neg n d).1.n,.int .i64 (nN neg n d).1.d],.int .i64 (nN neg n d).2])∧Sat W w' A:=by
 obtain⟨g,hg⟩:=ay (Nat.gcd n d);have hg0:0<g:=by rw[hg];exact Nat.gcd_pos_of_pos_right _ h0
 have hg1:¬g=0:=by omega
 have hgl:g<18446744073709551616:=by rw[hg];exact Nat.lt_of_le_of_lt (Nat.gcd_le_right _ h0) hd
 obtain⟨x,hx⟩:=ay (n / g);obtain⟨y,hy⟩:=ay (d / g);have hxl:x≤n:=by rw[hx];exact Nat.div_le_self _ _
 have hyl:y≤d:=by rw[hy];exact Nat.div_le_self _ _
 have hdx:(n:Int).tdiv (g:Int)=(x:Int):=by rw[hx,Int.tdiv_eq_ediv_of_nonneg (by omega)];omega
 have hdy:(d:Int).tdiv (g:Int)=(y:Int):=by rw[hy,Int.tdiv_eq_ediv_of_nonneg (by omega)];omega
 have hgc:=fun w0 (A0:aA) (h0:Sat W w0 A0)=>TV n d hn hd h0
 rw[←hg] at hgc;have hux:IntKind.u64.wrap (x:Int)=x:=IntWalk.u64_in _ (by omega);have huy:IntKind.u64.wrap (y:Int)=y:=IntWalk.u64_in _ (by omega);have eB:nN neg n d=if 1099511627776<x∨1048576<y then (⟨0,0⟩,5) else (⟨if neg=true then -(x:Int) else (x:Int),(y:Int)⟩,0):=by
  rw[hx,hy,hg];rfl
 have HGC:=ah hgc;have EB:=ah eB;have h1:=h.alloc (.cells #[.int .i64 0,.int .i64 0] 26);obtain⟨B,hB⟩:=ay (w.heap.size);rw[←hB] at h1;clear hgc eB hg hx hy h
 go_enter Tryz.func224,Tryz.ntmps224
 go_wp2_with fail
 rw[←hB];refine (HGC.out _ _ h1).mono ?_;rintro e w2 ⟨rfl,h2⟩;clear h1 HGC hB
 go_wp2
 refine aJ rfl (fun _=>True) [(0,.p),(1,.p),(2,.p),(3,.p),(4,.p),(5,.p),(6,.p),(7,.p)] (by kernel_rfl) ?_;have hS0:True:=trivial;refine dh ?_;refine fC ?_;clear hdx hdy hux huy;have h3:=h2.drew;obtain⟨w3,hw3⟩:=ay (w2.drew);rw[←hw3] at h3 ⊢;clear hw3 h2;have bad:(1099511627776<x∨1048576<y)→nN neg n d=(⟨0,0⟩,5):=fun hh=>by rw[EB.out,if_pos hh]
 have BAD:=ah bad;clear bad
 by_cases c1:1099511627776<x
 ·have c1I:(1099511627776:Int)<x:=by omega
  obtain⟨k0,k1,k2,k3⟩:=kG h3;have h4:=uS h3 (.int .i64 0) (.int .i64 0);obtain⟨w4,hw4⟩:=ay ((w3.setCell ⟨B,0,none⟩ (.int .i64 0)).setCell ⟨B,1,none⟩ (.int .i64 0));rw[←hw4] at h4;obtain⟨d0,d1,-,-⟩:=kG h4;have Jo:=ah hw4;clear hw4
  go_wp2
  rw[←Jo.out];exact bodyPost_ret (v:=.tuple #[.agg #[.int .i64 0,.int .i64 0],.int .i64 5]) (by simp[results,Tryz.results224,go_sem,d0,d1]) rfl ⟨by rw[BAD.out (.inl c1)],h4.forget⟩
 ·have c1I:¬(1099511627776:Int)<x:=by omega
  by_cases c2:1048576<y
  ·have c2I:(1048576:Int)<y:=by omega
   obtain⟨k0,k1,k2,k3⟩:=kG h3;have h4:=uS h3 (.int .i64 0) (.int .i64 0);obtain⟨w4,hw4⟩:=ay ((w3.setCell ⟨B,0,none⟩ (.int .i64 0)).setCell ⟨B,1,none⟩ (.int .i64 0));rw[←hw4] at h4;obtain⟨d0,d1,-,-⟩:=kG h4;have Jo:=ah hw4;clear hw4
   go_wp2
   rw[←Jo.out];exact bodyPost_ret (v:=.tuple #[.agg #[.int .i64 0,.int .i64 0],.int .i64 5]) (by simp[results,Tryz.results224,go_sem,d0,d1]) rfl ⟨by rw[BAD.out (.inr c2)],h4.forget⟩
  ·have c2I:¬(1048576:Int)<y:=by omega
   have e1:IntKind.i64.wrap (x:Int)=x:=IntWalk.i64_in _ (by omega);have e2:IntKind.i64.wrap (y:Int)=y:=IntWalk.i64_in _ (by omega);have eB2:=EB.out;rw[if_neg (by omega)] at eB2;have EB2:=ah eB2;have g1:=h3.alloc (.cells #[.int .i64 x,.int .i64 y] 26);obtain⟨C,hC⟩:=ay (w3.heap.size);obtain⟨w4,hw4⟩:=ay (w3.alloc (.cells #[.int .i64 x,.int .i64 y] 26));rw[←hC,←hw4] at g1;have HC:=ah hC;have Jo:=ah hw4;clear EB eB2 BAD hC hw4 h3
   go_upto_region 6 with (fail)
   rw[←HC.out,←Jo.out];cases neg with
   | true=>
    have e3:IntKind.i64.wrap (-(x:Int))=-x:=IntWalk.i64_in _ (by omega);obtain⟨k0,k1,k2,k3⟩:=kG g1;have g2:=(g1.setCell 0 (.int .i64 (-(x:Int)))).p1;obtain⟨w5,hw5⟩:=ay (w4.setCell ⟨C,0,none⟩ (.int .i64 (-(x:Int))));rw[←hw5] at g2;have Jp:=ah hw5;clear hw5 g1
    go_upto_region 8 with (fail)
    clear k0 k1 k2 k3;rw[←Jp.out];obtain⟨k0,k1,-,-⟩:=kG g2.p1;obtain⟨b0,b1,b2,b3⟩:=kG g2;have g3:=uS g2 (.int .i64 (-(x:Int))) (.int .i64 y);obtain⟨w6,hw6⟩:=ay ((w5.setCell ⟨B,0,none⟩ (.int .i64 (-(x:Int)))).setCell ⟨B,1,none⟩ (.int .i64 y));rw[←hw6] at g3;obtain⟨d0,d1,-,-⟩:=kG g3;have MX:=ah hw6;clear hw6
    go_wp2
    rw[←MX.out];exact bodyPost_ret (v:=.tuple #[.agg #[.int .i64 (-(x:Int)),.int .i64 y],.int .i64 0]) (by simp[results,Tryz.results224,go_sem,d0,d1]) rfl ⟨by rw[EB2.out];rfl,g3.forget.forget⟩
   | false=>
    obtain⟨k0,k1,-,-⟩:=kG g1;obtain⟨b0,b1,b2,b3⟩:=kG g1.p1;have g3:=uS g1.p1 (.int .i64 x) (.int .i64 y);obtain⟨w6,hw6⟩:=ay ((w4.setCell ⟨B,0,none⟩ (.int .i64 x)).setCell ⟨B,1,none⟩ (.int .i64 y));rw[←hw6] at g3;obtain⟨d0,d1,-,-⟩:=kG g3;have MX:=ah hw6;clear hw6
    go_wp2
    rw[←MX.out];exact bodyPost_ret (v:=.tuple #[.agg #[.int .i64 x,.int .i64 y],.int .i64 0]) (by simp[results,Tryz.results224,go_sem,d0,d1]) rfl ⟨by rw[EB2.out];rfl,g3.forget.forget⟩
end Go.Proofs.YthfmaclnccdcbaaGreatDoor
namespace Go.Proofs.YthfmaclnccdcbaaGreatDoor
open Go.RowKit PA
def rtRes (r:Rt×Int):Value:=.tuple #[.agg #[.int .i64 r.1.n,.int .i64 r.1.d],.int .i64 r.2]
set_option maxHeartbeats 1000000 in
theorem UG {W w:World} {A:aA} (n d:Int) (hn1:-9223372036854775808≤n) (hn2:n≤9223372036854775807) (hd1:-9223372036854775808≤d) (hd2:d≤9223372036854775807) (h:Sat W w A):
 Calls Tryz.prog 212 #[.int .i64 n,.int .i64 d] w fun e w'=>e=.returned (rtRes (newR n d))∧Sat W w' A:=by
 obtain⟨r,hr⟩:=ay (newR n d);rw[←hr];have HR:=ah hr;have h1:=h.alloc (.cells #[.int .i64 0,.int .i64 0] 26);obtain⟨B,hB⟩:=ay (w.heap.size);obtain⟨w1,hw1⟩:=ay (w.alloc (.cells #[.int .i64 0,.int .i64 0] 26));rw[←hB,←hw1] at h1;have HB:=ah hB;have HW1:=ah hw1;clear hB hw1 h hr
 go_enter Tryz.func212,Tryz.ntmps212
 go_upto_region 1 with (fail)
 rw[←HB.out,←HW1.out]
 by_cases h0:d=0
 ·subst h0
  obtain⟨k0,k1,k2,k3⟩:=kG h1;have h4:=uS h1 (.int .i64 0) (.int .i64 0);obtain⟨w4,hw4⟩:=ay ((w1.setCell ⟨B,0,none⟩ (.int .i64 0)).setCell ⟨B,1,none⟩ (.int .i64 0));rw[←hw4] at h4;obtain⟨d0,d1,-,-⟩:=kG h4;have Jo:=ah hw4;clear hw4
  go_wp2
  rw[←Jo.out];exact bodyPost_ret (v:=.tuple #[.agg #[.int .i64 0,.int .i64 0],.int .i64 1]) (by simp[results,Tryz.results212,go_sem,d0,d1]) rfl ⟨by rw[HR.out];rfl,h4.forget⟩
 ·obtain⟨neg,hneg⟩:∃neg,(!(decide (n<0)==decide (d<0)))=neg:=⟨_,rfl⟩
  have eN:nN neg n.natAbs d.natAbs=r:=by rw[HR.out];unfold newR;rw[if_neg h0,←hneg];rfl
  have hs1:=fun w0=>Gp n hn1 hn2 w0
  have hs2:=fun w0=>Gp d hd1 hd2 w0
  have hb:=fun w0 (A0:aA) (hh:Sat W w0 A0)=>Nv neg n.natAbs d.natAbs (by omega) (by omega) (by omega) hh
  rw[eN] at hb;obtain⟨a1,ha1⟩:=ay (n.natAbs);obtain⟨a2,ha2⟩:=ay (d.natAbs);rw[←ha1] at hs1 hb;rw[←ha2] at hs2 hb;have Jf:=ah hs1;have HS2:=ah hs2;have zq:=ah hb;clear hs1 hs2 hb ha1 ha2 eN HR
  go_wp2_with fail
  refine (Jf.out _).mono ?_;rintro e w2 ⟨rfl,rfl⟩
  go_wp2_with fail
  refine (HS2.out _).mono ?_;rintro e w2 ⟨rfl,rfl⟩;clear Jf HS2
  go_wp2_with fail
  refine (zq.out _ _ h1).mono ?_;rintro e w2 ⟨rfl,h2⟩;obtain⟨⟨rn,rd⟩,re⟩:=r;clear zq h1 hneg;obtain⟨k0,k1,k2,k3⟩:=kG h2;have h4:=uS h2 (.int .i64 rn) (.int .i64 rd);obtain⟨w4,hw4⟩:=ay ((w2.setCell ⟨B,0,none⟩ (.int .i64 rn)).setCell ⟨B,1,none⟩ (.int .i64 rd));rw[←hw4] at h4;obtain⟨d0,d1,-,-⟩:=kG h4;have Jo:=ah hw4;clear hw4
  go_wp2
  rw[←Jo.out];exact bodyPost_ret (v:=.tuple #[.agg #[.int .i64 rn,.int .i64 rd],.int .i64 re]) (by simp[results,Tryz.results212,go_sem,d0,d1]) rfl ⟨rfl,h4.forget⟩
theorem IQ (w:World) (a b c d:Int):(binOp .neq 26 (.agg #[.int .i64 a,.int .i64 b]) (.agg #[.int .i64 c,.int .i64 d])).run Tryz.prog w=.ok (.bool (!(a==c&&b==d))) w:=by
 have h1:Tryz.prog.underlying 26=some (.struct (Tryz.prog.fieldsOf 26)):=by kernel_rfl
 have h2:Tryz.prog.stoodInHeld 26=false:=by kernel_rfl
 have e:=run_equalIn_struct (P:=Tryz.prog) w 9999 26 #[.int .i64 a,.int .i64 b] #[.int .i64 c,.int .i64 d] h1 h2;rw[run_neq_struct,e];clear e;have q0:∀a b:Int,(part 3 #[.int .i64 a,.int .i64 b] 0).run Tryz.prog w=.ok (.int .i64 a) w:=fun a b=>by kernel_rfl
 have q1:∀a b:Int,(part 3 #[.int .i64 a,.int .i64 b] 1).run Tryz.prog w=.ok (.int .i64 b) w:=fun a b=>by kernel_rfl
 have r0:∀a b:Int,(Op.equalIn 9999 3 (.int .i64 a) (.int .i64 b)).run Tryz.prog w=.ok (a==b) w:=fun a b=>run_equalIn_int (P:=Tryz.prog) w 9998 3 .i64 .i64 a b Tryz.underlying3
 by_cases e1:a=c
 ·by_cases e2:b=d
  ·simp[Program.fieldsOf,Tryz.underlying26,Op.eqFields,q0,q1,r0,e1,e2]
  ·simp[Program.fieldsOf,Tryz.underlying26,Op.eqFields,q0,q1,r0,e1,e2]
 ·simp[Program.fieldsOf,Tryz.underlying26,Op.eqFields,q0,r0,e1]
set_option maxHeartbeats 1000000 in
theorem ug {W w:World} {A:aA} (r:Rt) (hn1:-9223372036854775808≤r.n) (hn2:r.n≤9223372036854775807) (hd1:-9223372036854775808≤r.d) (hd2:r.d≤9223372036854775807) (h:Sat W w A):
 Calls Tryz.prog 197 #[.agg #[.int .i64 r.n,.int .i64 r.d]] w fun e w'=>e=.returned (.int .i64 (if okR r=true then 0 else 1))∧Sat W w' A:=by
 obtain⟨n,d⟩:=r;simp only at hn1 hn2 hd1 hd2 ⊢;obtain⟨ok,hok⟩:=ay (okR ⟨n,d⟩);rw[←hok];obtain⟨rv,dI⟩:∃rv:Int,rv=if ok=true then 0 else 1:=⟨_,rfl⟩
 rw[←dI];have mJ:=ah hok;have bJ:=ah dI;have h1:=h.alloc (.cells #[.int .i64 n,.int .i64 d] 26);obtain⟨k0,k1,-,-⟩:=kG h1;clear hok dI h
 by_cases c1:d<1
 ·obtain rfl:ok=false:=by rw[mJ.out];unfold okR;rw[decide_eq_false (by show ¬1≤d;omega)];rfl
  go_enter Tryz.func197,Tryz.ntmps197
  go_wp2
  go_ret
  exact⟨by rw[bJ.out];rfl,h1.forget⟩
 ·have hnew:=UG n d hn1 hn2 hd1 hd2 h1
  obtain⟨⟨⟨rn,rd⟩,re⟩,hr⟩:∃r,r=newR n d:=⟨_,rfl⟩
  rw[←hr] at hnew;have hnew2:Calls Tryz.prog 212 #[.int .i64 n,.int .i64 d] (w.alloc (.cells #[.int .i64 n,.int .i64 d] 26)) fun e w'=>e=.returned (.tuple #[.agg #[.int .i64 rn,.int .i64 rd],.int .i64 re])∧Sat W w' (sep (blk w.heap.size (.cells #[.int .i64 n,.int .i64 d] 26)) A):=hnew
  have aaI:=ah hnew2;have HR:=ah hr;clear hr hnew hnew2
  go_enter Tryz.func197,Tryz.ntmps197
  go_wp2_with fail
  refine aaI.out.mono ?_;rintro e w2 ⟨rfl,h2⟩;clear k0 k1 h1 aaI;have h3:=h2.alloc (.cells #[.int .i64 rn,.int .i64 rd] 26);obtain⟨k0,k1,-,-⟩:=kG h3;obtain⟨j0,j1,-,-⟩:=kG h3.p1;obtain⟨C,hC⟩:=ay (w2.heap.size);obtain⟨B,hB⟩:=ay (w.heap.size);obtain⟨w3,hw3⟩:=ay (w2.alloc (.cells #[.int .i64 rn,.int .i64 rd] 26));rw[←hC,←hB,←hw3] at h3;rw[←hC,←hw3] at k0 k1;rw[←hB,←hw3] at j0 j1;have HC:=ah hC;have HB:=ah hB;have HW3:=ah hw3;have h4:=h3.forget.forget;clear hC hB hw3 h2 h3
  go_upto_region 4 with (fail)
  rw[←HC.out,←HB.out,←HW3.out];have hg:=fun w0=>IQ w0 rn rd n d
  by_cases c2:re=0
  ·subst c2
   obtain⟨eq,heq⟩:=ay (!(rn==n&&rd==d));rw[←heq] at hg;have hko:ok=!eq:=by
    rw[mJ.out];unfold okR;rw[←HR.out,decide_eq_true (show 1≤d by omega),heq]
    by_cases e1:rn=n
    ·by_cases e2:rd=d
     ·simp[e1,e2]
     ·simp[e1,e2]
    ·simp[e1]
   have HKO:=ah hko;clear heq hko;cases eq with
   | true=>
    go_wp2
    go_ret
    exact⟨by rw[bJ.out,HKO.out];rfl,h4⟩
   | false=>
    go_wp2
    go_ret
    exact⟨by rw[bJ.out,HKO.out];rfl,h4⟩
  ·obtain rfl:ok=false:=by
    rw[mJ.out];unfold okR;rw[←HR.out];have:¬(((⟨rn,rd⟩:Rt),re)=(⟨n,d⟩,0)):=fun e=>c2 (Prod.mk.inj e).2
    rw[decide_eq_false this,Bool.and_false]
   have hz:(re !=0)=true:=by simp[c2]
   go_wp2
   go_ret
   exact⟨by rw[bJ.out];rfl,h4⟩
structure Tc (r:Rt):Prop where
 n1:-9223372036854775808≤r.n
 n2:r.n≤9223372036854775807
 d1:-9223372036854775808≤r.d
 d2:r.d≤9223372036854775807
theorem Tc.of {r:Rt} (h:Rok r):Tc r:=⟨by have:=h.n1;omega,by have:=h.n2;omega,by have:=h.d1;omega,by have:=h.d2;omega⟩
set_option maxHeartbeats 1000000 in
theorem MB {W w:World} {A:aA} (a b:Rt) (ha:Tc a) (hb:Tc b) (C:Nat) (h:Sat W w (sep (blk C (.cells #[.int .i64 a.n,.int .i64 a.d,.int .i64 b.n,.int .i64 b.d] 26 (0,0))) A)):
 Calls Tryz.prog 159 #[.slice (some ⟨C,0,none⟩) 2 2] w fun e w'=>e=.returned (.int .i64 (if okR a=true∧okR b=true then 0 else 1))∧Sat W w' A:=by
 obtain⟨rv,dI⟩:∃rv:Int,rv=if okR a=true∧okR b=true then 0 else 1:=⟨_,rfl⟩
 rw[←dI];have bJ:=ah dI;have HA:=fun w0 (A0:aA) (h0:Sat W w0 A0)=>ug a ha.n1 ha.n2 ha.d1 ha.d2 h0
 have HB:=fun w0 (A0:aA) (h0:Sat W w0 A0)=>ug b hb.n1 hb.n2 hb.d1 hb.d2 h0
 obtain⟨oa,hoa⟩:=ay (okR a);obtain⟨ob,hob⟩:=ay (okR b);rw[←hoa] at HA;rw[←hob] at HB;have HOA:=ah hoa;have AO:=ah hob;have HHA:=ah HA;have VF:=ah HB;obtain⟨an,ad⟩:=a;obtain⟨bn,bd⟩:=b;clear dI hoa hob HA HB ha hb
 go_enter Tryz.func159,Tryz.ntmps159
 go_wp2
 go_loopw [8] (fun kv wr=>∃k:Nat,kv=.int .i64 k∧k≤2∧(1≤k→oa=true)∧(2≤k→ob=true)∧Sat W wr (sep (blk C (.cells #[.int .i64 an,.int .i64 ad,.int .i64 bn,.int .i64 bd] 26 (0,0))) A)) (fun kv _=>2-(intOf kv).toNat)
 case atStart=>exact⟨0,rfl,by omega,by omega,by omega,h⟩
 case round=>
  obtain⟨k,rfl,hk,q1,q2,hS⟩:=hrel;have Q1:=ah q1;have Q2:=ah q2;clear q1 q2;obtain rfl|rfl|rfl:k=0∨k=1∨k=2:=by omega
  ·have c0:wr.cell? ⟨C,0,none⟩=some (.int .i64 an):=hS.cell 0
   have c1:wr.cell? ⟨C,1,none⟩=some (.int .i64 ad):=hS.cell 1;have h2:=hS.fO (.cells #[.int .i64 an,.int .i64 ad] 26);clear hS
   go_wp2_with fail
   refine (HHA.out _ _ h2).mono ?_;rintro e w3 ⟨rfl,h3⟩;clear c0 c1 h2;cases oa with
   | true=>
    go_wp2_with fail
    go_roundw
    case rel=>exact⟨1,rfl,by omega,fun _=>(by first|rfl|trivial),by omega,h3⟩
    case measure=>simp[intOf]
   | false=>
    go_wp2_with fail
    go_ret
    exact⟨by rw[bJ.out,if_neg (by rw[←HOA.out];simp)];rfl,h3.forget⟩
  ·have c0:wr.cell? ⟨C,2,none⟩=some (.int .i64 bn):=hS.cell 2
   have c1:wr.cell? ⟨C,3,none⟩=some (.int .i64 bd):=hS.cell 3;have h2:=hS.fO (.cells #[.int .i64 bn,.int .i64 bd] 26);clear hS
   go_wp2_with fail
   refine (VF.out _ _ h2).mono ?_;rintro e w3 ⟨rfl,h3⟩;clear c0 c1 h2;cases ob with
   | true=>
    go_wp2_with fail
    go_roundw
    case rel=>exact⟨2,rfl,by omega,fun _=>Q1.out (by omega),fun _=>(by first|rfl|trivial),h3⟩
    case measure=>simp[intOf]
   | false=>
    go_wp2_with fail
    go_ret
    exact⟨by rw[bJ.out,if_neg (by rw[←AO.out];simp)];rfl,h3.forget⟩
  ·go_wp2_with fail
   go_ret
   exact⟨by rw[bJ.out,if_pos ⟨by rw[←HOA.out];exact Q1.out (by omega),by rw[←AO.out];exact Q2.out (by omega)⟩];rfl,hS.forget⟩
end Go.Proofs.YthfmaclnccdcbaaGreatDoor
namespace Go.Proofs.YthfmaclnccdcbaaGreatDoor
open Go.RowKit PA
theorem Il {a b:Int} (h1:-1099511627776≤a) (h2:a≤1099511627776) (h3:0≤b) (h4:b≤1048576):-1152921504606846976≤a*b∧a*b≤1152921504606846976:=by
 have e1:a*b≤1099511627776*b:=Int.mul_le_mul_of_nonneg_right h2 h3;have e2:-1099511627776*b≤a*b:=Int.mul_le_mul_of_nonneg_right h1 h3;omega
end Go.Proofs.YthfmaclnccdcbaaGreatDoor
namespace PA
open Go
abbrev Zl:=Int→Option Rt
def OM (S:Zl) (p:Int):Rt:=(S p).getD ⟨0,1⟩
def YT (S:Zl) (p:Int) (r:Rt):Zl:=fun x=>if x=p then some r else S x
def TP (p:Int):Zl:=YT (fun _=>none) p ⟨1,1⟩
def V4 (S:Zl):Prop:=∀p r,S p=some r→okR r=true∧0≤r.n
theorem Xp:okR ⟨1,1⟩=true:=by decide
theorem UL:okR ⟨0,1⟩=true:=by decide
theorem V4.first (p:Int):V4 (TP p):=by
 intro q r h;unfold TP YT at h;split at h
 ·cases h;exact⟨Xp,by decide⟩
 ·cases h
theorem V4.share {S:Zl} (h:V4 S) (p:Int):okR (OM S p)=true∧0≤(OM S p).n:=by
 unfold OM;cases e:S p with
 | none=>exact⟨UL,by decide⟩
 | some r=>exact h p r e
end PA
namespace PA
open Go Go.RowKit
structure Born (es:List MapEntry) (clock:Nat):Prop where
 lt:∀e∈es,e.born<clock
 nodup:(es.map (·.born)).Nodup
theorem Born.nil (c:Nat):Born [] c:=⟨fun _ h=>(by cases h),.nil⟩
theorem Pv:∀{l:List MapEntry},(l.map (·.born)).Nodup→∀{x y:MapEntry},x∈l→y∈l→x.born=y.born→x=y
 | [],_,_,_,hx,_,_=>by cases hx
 | a::l,hn,x,y,hx,hy,h=>by
  rw[List.map_cons,List.nodup_cons] at hn;rcases List.mem_cons.1 hx with rfl|hx'
  ·rcases List.mem_cons.1 hy with rfl|hy'
   ·rfl
   ·exact absurd (List.mem_map.2 ⟨y,hy',h.symm⟩) hn.1
  ·rcases List.mem_cons.1 hy with rfl|hy'
   ·exact absurd (List.mem_map.2 ⟨x,hx',h⟩) hn.1
   ·exact Pv hn.2 hx' hy' h
theorem Born.push {es:List MapEntry} {c:Nat} (h:Born es c) (k v:Value):Born (es++[{ key:=k,val:=v,born:=c }]) (c+1):=by
 refine⟨fun e he=>?_,?_⟩
 ·rcases List.mem_append.1 he with he|he
  ·have:=h.lt e he;omega
  ·rw[List.mem_singleton.1 he];exact Nat.lt_succ_self c
 ·rw[lD,List.map_cons,List.map_nil]
  refine List.nodup_append.2 ⟨h.nodup,by simp,fun x hx y hy=>?_⟩;obtain⟨e,he,rfl⟩:=List.mem_map.1 hx;rw[List.mem_singleton.1 hy];have h1:=h.lt e he;show e.born≠c;omega
theorem zT (es:List MapEntry) (j:Nat) (k v:Value):(es.modify j fun x=>{ x with key:=k,val:=v }).map (·.born)=es.map (·.born):=by
 apply List.ext_getElem
 ·simp
 ·intro i h1 h2
  simp only[List.getElem_map,List.getElem_modify];split<;>rfl
theorem Born.modify {es:List MapEntry} {c:Nat} (h:Born es c) (j:Nat) (k v:Value):Born (es.modify j fun x=>{ x with key:=k,val:=v }) c:=by
 refine⟨fun e he=>?_,by rw[zT];exact h.nodup⟩;have:e.born∈(es.modify j fun x=>{ x with key:=k,val:=v }).map (·.born):=List.mem_map.2 ⟨e,he,rfl⟩;rw[zT] at this;obtain⟨e',he',e2⟩:=List.mem_map.1 this;rw[←e2];exact h.lt e' he'
theorem Born.erase {es:List MapEntry} {c:Nat} (h:Born es c) (j:Nat):Born (es.eraseIdx j) c:=
 ⟨fun e he=>h.lt e ((List.eraseIdx_sublist es j).mem he),h.nodup.sublist ((List.eraseIdx_sublist es j).map _)⟩
def vV (b:Nat) (f:Int→Option Value) (n:Nat):aA:=ex fun s:Array MapEntry×Nat=>sep (fact (fV s.1.toList f∧s.1.size=n∧Born s.1.toList s.2)) (blk b (.map s.1 s.2))
section
variable {P:Program} {W w:World} {A:aA}
theorem Sat.mO {b:Nat} {f:Int→Option Value} {n:Nat} (h:Sat W w (sep (vV b f n) A)):∃es clock,fV es.toList f∧es.size=n∧Born es.toList clock∧Sat W w (sep (blk b (.map es clock)) A):=by
 rw[vV,fP,Sat.ex] at h;obtain⟨⟨es,clock⟩,h⟩:=h;rw[aj] at h;have h':=Sat.fact.1 h;exact⟨es,clock,h'.1.1,h'.1.2.1,h'.1.2.2,h'.2⟩
theorem Sat.AU {b:Nat} {f:Int→Option Value} {n:Nat} {es:Array MapEntry} {clock:Nat} (h:Sat W w (sep (blk b (.map es clock)) A)) (h1:fV es.toList f) (h2:es.size=n) (h3:Born es.toList clock):Sat W w (sep (vV b f n) A):=by
 rw[vV,fP,Sat.ex];refine⟨(es,clock),?_⟩;rw[aj];exact Sat.fact.2 ⟨⟨h1,h2,h3⟩,h⟩
theorem Sat.QH {b:Nat} {f:Int→Option Value} {n:Nat} (h:Sat W w (sep (vV b f n) A)):Sat W w (sep (kF b f n) A):=by
 obtain⟨es,clock,h1,h2,-,h4⟩:=h.mO;exact h4.Hz h1 h2
theorem Sat.JC (h:Sat W w A):Sat W (w.alloc (.map #[] 0)) (sep (vV w.heap.size (fun _=>none) 0) A):=
 (h.alloc (.map #[] 0)).AU fV.nil rfl (Born.nil 0)
theorem Az {T K E:TypeId} {z:Value} (hT:P.underlying T=some (.map K E)) (hK:P.underlying K=some (.int .i64)) (hz:∀w,(zeroValue E).run P w=.ok z w)
 {b:Nat} {f:Int→Option Value} {n:Nat} (h:Sat W w (sep (vV b f n) A)) (k:Int) (ok:Bool):
 (Instr.lookup T (.map (some b)) (.int .i64 k) ok).run P w=.ok (if ok then .tuple #[(f k).getD z,.bool (f k).isSome] else (f k).getD z) w:=lV hT hK hz h.QH k ok
theorem lW {T K E:TypeId} (hT:P.underlying T=some (.map K E)) (hK:P.underlying K=some (.int .i64)) {b:Nat} {f:Int→Option Value} {n:Nat} (h:Sat W w (sep (vV b f n) A)) (k:Int) (v:Value):
 ∃w' n',(Instr.mapUpdate T (.map (some b)) (.int .i64 k) v).run P w=.ok () w'∧n'=(if (f k).isSome then n else n+1)∧Sat W w' (sep (vV b (lN f k (some v)) n') A):=by
 obtain⟨es,clock,h1,h2,hb,h3⟩:=h.mO;obtain⟨r,e1,e2,e3⟩:=lU (P:=P) (k:=k) hK h1 w;have hg:=run_getObj_map (P:=P) h3.aO;cases r with
 | none=>
  have hk:f k=none:=by rw[←e2];rfl
  refine⟨_,n+1,by simp[Instr.mapUpdate,run_underlying hT,hg,iI hK,e1,run_setObj_map (P:=P) h3.aO];rfl,by simp[hk],(h3.setObj _).AU ?_ (by simp[h2]) ?_⟩
  ·simpa using h1.push k v clock hk
  ·simpa using hb.push (.int .i64 k) v
 | some r=>
  obtain⟨j,u⟩:=r;obtain⟨e,h4,h5,h6⟩:=e3 j u rfl;have hk:(f k).isSome=true:=by rw[←e2];rfl
  have hkey:((es[j]?.map (·.key)).getD (.int .i64 k))=.int .i64 k:=by
   have:es[j]?=some e:=by simpa using h4
   simp[this,h5]
  refine⟨_,n,by simp[Instr.mapUpdate,run_underlying hT,hg,iI hK,e1,Instr.keyThatStays,hkey,IW,run_setObj_map (P:=P) h3.aO];rfl,by simp[hk],(h3.setObj _).AU ?_ (by simp[h2]) ?_⟩
  ·simpa using h1.modify k v h4 h5
  ·simpa using hb.modify j (.int .i64 k) v
structure SY (es:List MapEntry) (f:Int→Option Value) (clock since c0:Nat) (seen:Array Nat) (left:Int→Bool):Prop where
 rep:fV es f
 born:Born es clock
 old:∀e∈es,e.born<since
 sc:since≤c0
 scl:since≤clock
 lf:∀e∈es,∀k,e.key=.int .i64 k→left k=!seen.contains e.born
 lk:∀k,left k=true→(f k).isSome=true
def rng (b r:Nat) (f:Int→Option Value) (n:Nat) (left:Int→Bool) (cnt:Nat):aA:=ex fun s:Array MapEntry×Nat×Nat×Array Nat×Nat=>
 sep (fact (SY s.1.toList f s.2.1 s.2.2.1 s.2.2.2.2 s.2.2.2.1 left∧s.1.size=n∧(leftOf s.1 s.2.2.2.1).size=cnt)) (sep (blk b (.map s.1 s.2.1)) (blk r (.mapIter (some b) s.2.2.1 s.2.2.2.1 s.2.2.2.2)))
theorem Sat.D5 {b r:Nat} {f:Int→Option Value} {n:Nat} {left:Int→Bool} {cnt:Nat} (h:Sat W w (sep (rng b r f n left cnt) A)):
 ∃es clock since seen c0,SY es.toList f clock since c0 seen left∧es.size=n∧(leftOf es seen).size=cnt∧Sat W w (sep (blk b (.map es clock)) (sep (blk r (.mapIter (some b) since seen c0)) A)):=by
 rw[rng,fP,Sat.ex] at h;obtain⟨⟨es,clock,since,seen,c0⟩,h⟩:=h;rw[aj,aj] at h;have h':=Sat.fact.1 h;exact⟨es,clock,since,seen,c0,h'.1.1,h'.1.2.1,h'.1.2.2,h'.2⟩
theorem Sat.UZ {b r:Nat} {f:Int→Option Value} {n:Nat} {left:Int→Bool} {cnt:Nat} {es:Array MapEntry} {clock since c0:Nat} {seen:Array Nat}
 (h:Sat W w (sep (blk b (.map es clock)) (sep (blk r (.mapIter (some b) since seen c0)) A))) (h1:SY es.toList f clock since c0 seen left) (h2:es.size=n) (h3:(leftOf es seen).size=cnt):Sat W w (sep (rng b r f n left cnt) A):=by
 rw[rng,fP,Sat.ex];refine⟨(es,clock,since,seen,c0),?_⟩;rw[aj,aj];exact Sat.fact.2 ⟨⟨h1,h2,h3⟩,h⟩
theorem Sat.LJ {b r:Nat} {f:Int→Option Value} {n:Nat} {left:Int→Bool} {cnt:Nat} (h:Sat W w (sep (rng b r f n left cnt) A)):w.rangeLeft b r=cnt:=by
 obtain⟨es,clock,since,seen,c0,-,-,h3,h4⟩:=h.D5;simp only[World.rangeLeft,h4.aO,h4.p1.aO];exact h3
theorem Sat.Xx {b r:Nat} {f:Int→Option Value} {n:Nat} {left:Int→Bool} {cnt:Nat} (h:Sat W w (sep (rng b r f n left cnt) A)):Sat W w (sep (vV b f n) A):=by
 obtain⟨es,clock,since,seen,c0,h1,h2,-,h4⟩:=h.D5;exact h4.p1.drop.AU h1.rep h2 h1.born
theorem fV.Ad {es:List MapEntry} {f:Int→Option Value} (h:fV es f) {e:MapEntry} (he:e∈es) {k:Int} (hk:e.key=.int .i64 k):f k=some e.val:=by
 rw[←h.get k];cases hf:es.find? (iG k) with
 | none=>rw[List.find?_eq_none] at hf;exact absurd (by simp[iG,hk]) (hf e he)
 | some x=>
  have hx:=List.mem_of_find?_eq_some hf;obtain⟨n,hn⟩:=h.keys x hx;have hp:=List.find?_some hf;simp[iG,hn] at hp;subst hp;have:=entry_eq_of_key h.nodup hx he (hn.trans hk.symm);rw[this];rfl
theorem fV.KQ {es:List MapEntry} {f:Int→Option Value} (h:fV es f) {k:Int} (hk:(f k).isSome=true):∃e∈es,e.key=.int .i64 k:=by
 rw[←h.get k] at hk;cases hf:es.find? (iG k) with
 | none=>rw[hf] at hk;cases hk
 | some x=>
  have hx:=List.mem_of_find?_eq_some hf;obtain⟨n,hn⟩:=h.keys x hx;have hp:=List.find?_some hf;simp[iG,hn] at hp;subst hp;exact⟨x,hx,hn⟩
theorem oz {T K E:TypeId} (hT:P.underlying T=some (.map K E)) {b:Nat} {f:Int→Option Value} {n:Nat} (h:Sat W w (sep (vV b f n) A)):
 ∃w',(Instr.range T (.map (some b))).run P w=.ok (.pointer (some ⟨w.heap.size,0,none⟩)) w'∧Sat W w' (sep (rng b w.heap.size f n (fun k=>(f k).isSome) n) A):=by
 obtain⟨es,clock,h1,h2,hb,h3⟩:=h.mO;have hg:=run_getObj_map (P:=P) h3.aO;refine⟨w.alloc (.mapIter (some b) clock #[] clock),by simp[Instr.range,run_underlying hT,hg],?_⟩;refine ((h3.alloc (.mapIter (some b) clock #[] clock)).p1).UZ ⟨h1,hb,hb.lt,Nat.le_refl _,Nat.le_refl _,fun e he k hk=>?_,fun k hk=>hk⟩ h2 ?_
 ·rw[h1.Ad he hk];simp
 ·rw[←h2];simp[leftOf]
theorem KN (es:Array MapEntry) (seen:Array Nat) (e:MapEntry) (he:e∈(leftOf es seen).toList):(leftOf es (seen.push e.born)).size<(leftOf es seen).size:=by
 have hsub:(leftOf es (seen.push e.born)).toList=(leftOf es seen).toList.filter fun x=>x.born !=e.born:=by
  unfold leftOf;simp only[Array.toList_filter,List.filter_filter];congr 1;funext x
  by_cases h:x.born=e.born
  ·simp[h]
  ·simp[h,bne]
 have hlt:(leftOf es (seen.push e.born)).toList.length<(leftOf es seen).toList.length:=by
  rw[hsub];exact List.length_filter_lt_length_iff_exists.2 ⟨e,he,by simp⟩
 simpa using hlt
theorem IU {b r:Nat} {f:Int→Option Value} {n:Nat} {left:Int→Bool} {cnt:Nat} (ty:TypeId) (h:Sat W w (sep (rng b r f n left cnt) A)):
 ((∀k,left k=false)∧(Instr.next (.pointer (some ⟨r,0,none⟩)) false ty).run P w=.ok (.tuple #[.bool false]) w) ∨
 ∃k v w' cnt',left k=true∧f k=some v∧cnt'<cnt∧(Instr.next (.pointer (some ⟨r,0,none⟩)) false ty).run P w=.ok (.tuple #[.bool true,.int .i64 k,v]) w' ∧
  (Instr.entry (.pointer (some ⟨r,0,none⟩))).run P w'=.ok (.tuple #[.int .i64 k,v]) w'∧Sat W w' (sep (rng b r f n (fun z=>left z&&z !=k) cnt') A):=by
 obtain⟨es,clock,since,seen,c0,h1,h2,h3,h4⟩:=h.D5;rcases run_next_at (P:=P) w ty r b since c0 seen es clock h4.p1.aO h4.aO h1.old h1.sc with ⟨h0,hrun⟩|⟨e,he,w1,hw1,hrun⟩
 ·refine .inl ⟨fun k=>?_,hrun⟩
  cases hk:left k with
  | false=>rfl
  | true=>
   obtain⟨e,he,hek⟩:=h1.rep.KQ (h1.lk k hk);have:=h1.lf e he k hek;rw[hk] at this;have hm:e∈(leftOf es seen).toList:=by unfold leftOf;simp;exact⟨by simpa using he,by simpa using this.symm⟩
   have h00:(leftOf es seen).toList.length=0:=by simpa using h0
   rw[List.eq_nil_of_length_eq_zero h00] at hm;cases hm
 ·have hmem:e∈es.toList∧seen.contains e.born=false:=by
   unfold leftOf at he;simp at he;exact⟨by simpa using he.1,by simpa using he.2⟩
  obtain⟨k,hk⟩:=h1.rep.keys e hmem.1;have hlk:=h1.lf e hmem.1 k hk;rw[hmem.2] at hlk;have ad4:Sat W w1 (sep (blk r (.mapIter (some b) since seen c0)) (sep (blk b (.map es clock)) A)):=by
   rcases hw1 with rfl|rfl
   ·exact h4.p1
   ·exact h4.p1.drew
  have hset:Sat W (Go.ChangeMaps.setBlock w1 r (.mapIter (some b) since (seen.push e.born) clock)) (sep (blk r (.mapIter (some b) since (seen.push e.born) clock)) (sep (blk b (.map es clock)) A)):=ad4.setObj _;refine .inr ⟨k,e.val,_,_,by simpa using hlk,h1.rep.Ad hmem.1 hk,?_,by rw[hk] at hrun;exact hrun,?_,hset.p1.UZ ⟨h1.rep,h1.born,h1.old,h1.scl,h1.scl,?_,?_⟩ h2 rfl⟩
  ·rw[←h3];exact KN es seen e he
  ·have:=run_entry_at (P:=P) _ r b since seen es clock e hset.aO hset.p1.aO hmem.1 h1.born.nodup
   rw[hk] at this;exact this
  ·intro e2 he2 k2 hk2
   rw[h1.lf e2 he2 k2 hk2,Array.contains_push]
   by_cases hkk:k2=k
   ·subst hkk
    have:e2=e:=entry_eq_of_key h1.rep.nodup he2 hmem.1 (hk2.trans hk.symm);subst this;simp
   ·have hb:¬e2.born=e.born:=fun hbe=>hkk (by
     have:e2=e:=Pv h1.born.nodup he2 hmem.1 hbe;subst this;rw[hk2] at hk;cases hk;rfl)
    have e1:(k2 !=k)=true:=by simp[hkk]
    have e2:(e2.born==e.born)=false:=by simp[hb]
    rw[e1,e2];simp
  ·intro z hz
   simp at hz;exact h1.lk z hz.1
end
end PA
namespace PA
open Go Go.RowKit
section
variable {P:Program} {W w:World} {A:aA}
end
end PA
namespace Go.Proofs.YthfmaclnccdcbaaGreatDoor
open Go.RowKit PA
section
variable {W w:World} {A:aA} {p:Nat} {app:Int} {S:Zl}
end
end Go.Proofs.YthfmaclnccdcbaaGreatDoor
namespace PA
open Go Go.RowKit
inductive It where
 | one (i:Nat) (k:Kd)
 | grp (b:Bool) (E:List Nat)
def It.fl:It→List (Nat×Kd)
 | .one i k=>[(i,k)]
 | .grp b E=>E.map fun i=>(i,.inl b)
def fls (l:List It):List (Nat×Kd):=l.flatMap It.fl
section
variable {P:Program} {ops:Array Oper} {Q:Exit→Act→World→Prop} {S:World→Prop}
structure InvI (ops:Array Oper) (bf:Array Nat) (listed:Array Bool) (l:List It):Prop where
 size:listed.size=ops.size
 mem:∀i,i∈(fls l).map (·.1)↔i<ops.size∧listed.getD i true=false
 nodup:((fls l).map (·.1)).Nodup
 pair:l.Pairwise fun x y=>∀u∈x.fl,∀v∈y.fl,fQ ops bf u v=true
 dep:(fls l).Pairwise fun x y=>lK ops x.1 y.1=false
 self:∀x∈fls l,lK ops x.1 x.1=false
 closed:∀d r,r<ops.size→listed.getD d false=true→(bf.getD d 0).testBit r=true→listed.getD r false=true
def TI (ops:Array Oper):List (Nat×Kd)→Bool
 | []=>true
 | x::l=>!lK ops x.1 x.1&&l.all (fun y=>!lK ops x.1 y.1)&&TI ops l
theorem Hg:∀(l:List (Nat×Kd)),TI ops l=true→(l.Pairwise fun x y=>lK ops x.1 y.1=false)∧∀x∈l,lK ops x.1 x.1=false
 | [],_=>⟨.nil,fun _ h=>(by cases h)⟩
 | x::l,h=>by
  simp only[TI,Bool.and_eq_true,List.all_eq_true,Bool.not_eq_true'] at h;have ih:=Hg l h.2;refine⟨List.pairwise_cons.2 ⟨fun y hy=>h.1.2 y hy,ih.1⟩,fun y hy=>?_⟩;rcases List.mem_cons.1 hy with rfl|hy
  ·exact h.1.1
  ·exact ih.2 y hy
variable {i:Nat} {l:List It} {a:Act} {w:World} {o:Oper} {v:Value} {K:Act→World→Prop}
end
end PA
namespace PA
open Go Go.RowKit
section
variable {P:Program} {ops:Array Oper} {Q:Exit→Act→World→Prop} {S:World→Prop} {W:World}
def iQ (P:Program) (ops:Array Oper) (W:World) (o:Oper) (a:Act) (Pre:aA) (Post:Value→aA):Prop:=
 Region.wanted o (yielded ops a.tmps)=true∧∀(w:World) (A:aA),Sat W w (sep Pre A) →
  (∃v w',(execOp a.eval o).run P w=.ok (.value v) w'∧Sat W w' (sep (Post v) A)) ∨
  (∃f args w1,(execOp a.eval o).run P w=.ok (.enter f args) w1∧Calls P f args w1 fun e w'=>∃v,e=.returned v∧Sat W w' (sep (Post v) A))
theorem iQ.put {o:Oper} {a:Act} {Pre:aA} {Post:Value→aA} (h:iQ P ops W o a Pre Post) (hs:∀cs b,o.op≠.select cs b) {d:Option Tmp} (hd:∀t,d=some t→t∉o.looksAt ops) (v:Value):iQ P ops W o (a.put d v) Pre Post:=by
 unfold iQ at *;rw[execOp_put o hs a d v hd,wanted_put o a d v hd];exact h
theorem iQ.wpOp {i:Nat} {o:Oper} {a:Act} {Pre:aA} {Post:Value→aA} (ho:ops[i]?=some o) (h:iQ P ops W o a Pre Post) {w:World} {A:aA} (hw:Sat W w (sep Pre A)) {K:Act→World→Prop}
 (hK:∀v w',Sat W w' (sep (Post v) A)→K (a.put o.dst v) w'):Go.wpOp P ops Q i K a w:=by
 unfold Go.wpOp;simp only[ho,h.1,if_true];refine .inl ?_;unfold Oper.wp;rcases h.2 w A hw with ⟨v,w',h1,h2⟩|⟨f,args,w1,h1,h2⟩
 ·rw[h1];exact hK v w' h2
 ·rw[h1]
  refine Calls.mono h2 ?_;rintro e w' ⟨v,rfl,h3⟩;exact hK v w' h3
def aS (ops:Array Oper) (i:Nat):Option Tmp:=(ops[i]?).bind (·.dst)
def puts (ops:Array Oper) (l:List (Nat×Value)) (a:Act):Act:=l.foldl (fun a x=>a.put (aS ops x.1) x.2) a
theorem jh (l m:List (Nat×Value)) (a:Act):puts ops (l++m) a=puts ops m (puts ops l a):=by simp[puts]
def apartB (ops:Array Oper) (i j:Nat):Bool:=match ops[i]?,ops[j]? with|some o,some u=>o.apart ops u|_,_=>false
theorem nI {i j:Nat} (h:apartB ops i j=true):(∀d,aS ops i=some d→aS ops j≠some d)∧(∀d,aS ops j=some d→aS ops i≠some d):=by
 unfold apartB at h;unfold aS;cases hi:ops[i]? with
 | none=>rw[hi] at h;cases h
 | some o=>
  cases hj:ops[j]? with
  | none=>rw[hi,hj] at h;cases h
  | some u=>
   rw[hi,hj] at h;obtain⟨h1,h2,h3⟩:=Oper.apart_spec h;exact⟨fun d hd=>h2 d hd,fun d hd he=>h2 d he hd⟩
theorem F9 {i:Nat} (v:Value):∀(l:List (Nat×Value)),(∀x∈l,apartB ops i x.1=true)→∀a:Act,puts ops l (a.put (aS ops i) v)=(puts ops l a).put (aS ops i) v
 | [],_,_=>rfl
 | x::l,h,a=>by
  show puts ops l ((a.put (aS ops i) v).put (aS ops x.1) x.2)=(puts ops l (a.put (aS ops x.1) x.2)).put (aS ops i) v;rw[Act.put_comm a v x.2 (nI (h x (by simp))).1,F9 v l (fun y hy=>h y (by simp[hy]))]
theorem DT (l:List (Nat×Value)):∀(m:List (Nat×Value)),(∀x∈m,∀y∈l,apartB ops x.1 y.1=true)→∀a:Act,puts ops l (puts ops m a)=puts ops m (puts ops l a)
 | [],_,_=>rfl
 | x::m,h,a=>by
  show puts ops l (puts ops m (a.put (aS ops x.1) x.2))=puts ops m ((puts ops l a).put (aS ops x.1) x.2);rw[DT l m (fun y hy=>h y (by simp[hy])),F9 x.2 l (h x (by simp))]
theorem iQ.puts {o:Oper} {i:Nat} {Pre:aA} {Post:Value→aA} (ho:ops[i]?=some o) (hs:∀cs b,o.op≠.select cs b):∀(l:List (Nat×Value)),(∀x∈l,apartB ops x.1 i=true∨apartB ops i x.1=true)→∀{a:Act},iQ P ops W o a Pre Post→iQ P ops W o (puts ops l a) Pre Post
 | [],_,_,h=>h
 | x::l,hl,a,h=>by
  refine iQ.puts ho hs l (fun y hy=>hl y (by simp[hy])) (h.put hs ?_ x.2);intro t ht;unfold aS at ht;cases hx:ops[x.1]? with
  | none=>rw[hx] at ht;cases ht
  | some u=>
   rw[hx] at ht;rcases hl x (by simp) with h1|h1
   ·unfold apartB at h1
    rw[hx,ho] at h1;exact (Oper.apart_spec h1).1 t ht
   ·unfold apartB at h1
    rw[hx,ho] at h1;exact (Oper.apart_spec h1).2.2 t ht
structure Thr where
 ids:List Nat
 A:List Value→aA
structure St where
 dn:List (Nat×Value)
 td:List Nat
 A:List Value→aA
def St.now (s:St):aA:=s.A (s.dn.map (·.2))
def Tn (ops:Array Oper) (l m:List Nat):Prop:=∀i∈l,∀j∈m,apartB ops i j=true
def St.all (s:St):List Nat:=s.dn.map (·.1)++s.td
def Pm (ops:Array Oper) (l m:List Nat):Bool:=l.all fun i=>m.all fun j=>apartB ops i j
def A8 (ops:Array Oper):List (List Nat)→Bool
 | []=>true
 | l::ls=>ls.all (Pm ops l)&&A8 ops ls
end
end PA
namespace PA
open Go Go.RowKit
inductive kJ where
 | one (i:Nat) (k:Kd)
 | grp (b:Bool) (E:List (Nat×List Nat))
def Aj (b:Bool) (x:Nat×List Nat):List (Nat×Kd):=(x.1,.inl b)::x.2.map fun j=>(j,.inr none)
def kJ.fl:kJ→List (Nat×Kd)
 | .one i k=>[(i,k)]
 | .grp b E=>E.flatMap (Aj b)
def eu (l:List kJ):List (Nat×Kd):=l.flatMap kJ.fl
theorem jM (x:kJ) (l:List kJ):eu (x::l)=x.fl++eu l:=by simp[eu]
theorem jL (l m:List kJ):eu (l++m)=eu l++eu m:=by simp[eu]
def wpT (P:Program) (ops:Array Oper) (K:Act→World→Prop):List Nat→Act→World→Prop
 | [],a,w=>K a w
 | j::js,a,w=>∃o,ops[j]?=some o∧∃v,(∀w',Qy P ops o v a w')∧wpT P ops K js (a.put o.dst v) w
def oD (P:Program) (ops:Array Oper) (Q:Exit→Act→World→Prop) (S:World→Prop) (b:Bool):Nat→List (Nat×List Nat)→(Act→World→Prop)→Act→World→Prop
 | 0,_,K,a,w=>K a w
 | n+1,E,K,a,w=>∀x∈E,(E.all fun r=>!((Region.before ops).getD x.1 0).testBit r.1)=true →
  wpOp P ops Q x.1 (fun a' w'=>(b=true→S w')∧wpT P ops (oD P ops Q S b n (E.erase x) K) x.2 a' w') a w
def nC (P:Program) (ops:Array Oper) (Q:Exit→Act→World→Prop) (S:World→Prop):List kJ→(Act→World→Prop)→Act→World→Prop
 | [],K,a,w=>K a w
 | .one i k::l,K,a,w=>∃o,ops[i]?=some o∧match k with
  | .inr none=>∃v,(∀w',Qy P ops o v a w')∧nC P ops Q S l K (a.put o.dst v) w
  | .inr (some true)=>S w∧∃v,(∀w',S w'→Qy P ops o v a w')∧nC P ops Q S l K (a.put o.dst v) w
  | .inr (some false)=>∃v,Qy P ops o v a w∧nC P ops Q S l K (a.put o.dst v) w
  | .inl b=>wpOp P ops Q i (fun a' w'=>(b=true→S w')∧nC P ops Q S l K a' w') a w
 | .grp b E::l,K,a,w=>oD P ops Q S b E.length E (nC P ops Q S l K) a w
section
variable {P:Program} {ops:Array Oper} {Q:Exit→Act→World→Prop} {S:World→Prop}
structure okG (ops:Array Oper) (bf:Array Nat) (b:Bool) (E:List (Nat×List Nat)):Prop where
 own:∀x∈E,∀j∈x.2,(bf.getD j 0).testBit x.1=true
 seq:∀x∈E,x.2.Pairwise fun u v=>fQ ops bf (u,.inr none) (v,.inr none)=true
 other:∀x∈E,∀y∈E,x≠y→∀u∈x.2,∀v∈Aj b y,fQ ops bf (u,.inr none) v=true
theorem La {bf:Array Nat}:∀(js:List Nat),Dv ops bf (js.map fun j=>(j,(.inr none:Kd)))=true→js.Pairwise fun u v=>fQ ops bf (u,.inr none) (v,.inr none)=true
 | [],_=>.nil
 | j::js,h=>by
  simp only[List.map_cons,Dv,Bool.and_eq_true,List.all_eq_true] at h;refine List.pairwise_cons.2 ⟨fun y hy=>h.1.1 _ (List.mem_map.2 ⟨y,hy,rfl⟩),La js h.2⟩
theorem okG.erase {bf:Array Nat} {b:Bool} {E:List (Nat×List Nat)} (h:okG ops bf b E) (x:Nat×List Nat):okG ops bf b (E.erase x):=
 ⟨fun y hy=>h.own y (List.mem_of_mem_erase hy),fun y hy=>h.seq y (List.mem_of_mem_erase hy),fun y hy z hz=>h.other y (List.mem_of_mem_erase hy) z (List.mem_of_mem_erase hz)⟩
theorem YZ (l:List kJ) (K:Act→World→Prop):∀(js:List Nat) (a:Act) (w:World),wpT P ops (nC P ops Q S l K) js a w→nC P ops Q S (js.map (fun j=>.one j (.inr none))++l) K a w
 | [],_,_,h=>h
 | j::js,a,w,h=>by
  obtain⟨o,ho,v,hy,h⟩:=h;exact⟨o,ho,v,hy,YZ l K js _ w h⟩
theorem wQ (l m:List kJ) (K:Act→World→Prop):nC P ops Q S (l++m) K=nC P ops Q S l (nC P ops Q S m K):=by
 induction l with
 | nil=>rfl
 | cons x l ih=>
  funext a w;cases x with
  | one i k=>rcases k with b|_|_|_<;>simp only[List.cons_append,nC,ih]
  | grp b E=>simp only[List.cons_append,nC,ih]
theorem Gx {K:Act→World→Prop}:∀(l:List kJ),eu l=[]→∀(a:Act) (w:World),nC P ops Q S l K a w→K a w
 | [],_,_,_,h=>h
 | .one i k::l,he,_,_,_=>by simp[jM,kJ.fl] at he
 | .grp b E::l,he,a,w,h=>by
  rw[jM,List.append_eq_nil_iff] at he;have hE:E=[]:=by
   cases E with
   | nil=>rfl
   | cons x E=>have:=he.1;simp[kJ.fl,Aj] at this
  subst hE;exact Gx l he.2 a w h
theorem P9 {j:Nat} {kj:Kd} {oj:Oper} {bf:Array Nat} (hj:ops[j]?=some oj) (hsel:∀(j:Nat) (o:Oper) cs b,ops[j]?=some o→o.op≠.select cs b) (hQ:∀c a d v w,Q (.panic c) (a.put d v) w→Q (.panic c) a w)
 (T T':Act→World→Prop) (hT:∀a w,T a w→wpOp P ops Q j (fun a' w'=>T' a' w'∧(kj=.e true→S w')∧(kj.eff=false→w'=w)) a w):
 ∀(l1:List kJ),(∀x∈eu l1,fQ ops bf x (j,kj)=true∧(bf.getD j 0).testBit x.1=false)→∀(a:Act) (w:World),nC P ops Q S l1 T a w →
  wpOp P ops Q j (fun a' w'=>nC P ops Q S l1 T' a' w'∧(kj=.e true→S w')∧(kj.eff=false→w'=w)) a w
 | [],_,a,w,h=>hT a w h
 | .grp b E::l1,hl,a,w,h=>by
  have hE:E=[]:=by
   cases E with
   | nil=>rfl
   | cons r E=>
    obtain⟨hp,hnd⟩:=hl (r.1,.inl b) (by simp[jM,kJ.fl,Aj]);simp only[fQ,hnd,Bool.false_or,Bool.and_eq_true,Kd.eff,Bool.not_true,Bool.false_and] at hp;exact absurd hp.2 (by simp)
  subst hE;exact wpOp_mono (fun a' w' h=>h) (P9 hj hsel hQ T T' hT l1 (fun x hx=>hl x (by rw[jM];exact List.mem_append_right _ hx)) a w h)
 | .one r kr::l1,hl,a,w,h=>by
  obtain⟨o,ho,h⟩:=h;obtain⟨hp,hnd⟩:=hl (r,kr) (by simp[jM,kJ.fl]);simp only[fQ,hnd,Bool.false_or,Bool.and_eq_true,ho,hj] at hp;obtain⟨_,⟨hne,hap⟩,hk⟩:=hp;have ih:=P9 hj hsel hQ T T' hT l1 (fun x hx=>hl x (by rw[jM];exact List.mem_append_right _ hx));have go:∀(v:Value),nC P ops Q S l1 T (a.put o.dst v) w →
   wpOp P ops Q j (fun a' w'=>Alk ops o a a'∧nC P ops Q S l1 T' (a'.put o.dst v) w'∧(kj=.e true→S w')∧(kj.eff=false→w'=w)) a w:=fun v hv=>
   Gy hj hap (fun cs b=>hsel r o cs b ho) (fun cs b=>hsel j oj cs b hj) hQ (ih _ _ hv)
  rcases kr with b|_|_|_
  case inr.none=>
   obtain⟨v,hy,h⟩:=h;exact wpOp_mono (fun a' w' ⟨h1,h2,h3,h4⟩=>⟨⟨o,ho,v,fun w'=>(hy w').alk h1,h2⟩,h3,h4⟩) (go v h)
  case inr.some.true=>
   obtain⟨hS,v,hy,h⟩:=h;refine wpOp_mono (fun a' w' ⟨h1,h2,h3,h4⟩=>⟨⟨o,ho,?_,v,fun w' hw'=>(hy w' hw').alk h1,h2⟩,h3,h4⟩) (go v h);rcases kj with b|_
   ·exact h3 (by simp at hk;rw[hk])
   ·rw[h4 rfl];exact hS
  case inr.some.false=>
   obtain⟨v,hy,h⟩:=h;refine wpOp_mono (fun a' w' ⟨h1,h2,h3,h4⟩=>⟨⟨o,ho,v,?_,h2⟩,h3,h4⟩) (go v h);rcases kj with b|_
   ·simp at hk
   ·rw[h4 rfl];exact hy.alk h1
  case inl=>simp[Kd.eff] at hne
structure InvJ (ops:Array Oper) (bf:Array Nat) (listed:Array Bool) (l:List kJ):Prop where
 size:listed.size=ops.size
 mem:∀i,i∈(eu l).map (·.1)↔i<ops.size∧listed.getD i true=false
 nodup:((eu l).map (·.1)).Nodup
 pair:l.Pairwise fun x y=>∀u∈x.fl,∀v∈y.fl,fQ ops bf u v=true
 dep:(eu l).Pairwise fun x y=>lK ops x.1 y.1=false
 self:∀x∈eu l,lK ops x.1 x.1=false
 grp:∀b E,kJ.grp b E∈l→okG ops bf b E
 closed:∀d r,r<ops.size→listed.getD d false=true→(bf.getD d 0).testBit r=true→listed.getD r false=true
def Le (ops:Array Oper) (bf:Array Nat):List kJ→Bool
 | []=>true
 | x::l=>l.all (fun y=>x.fl.all fun u=>y.fl.all fun v=>fQ ops bf u v)&&Le ops bf l
theorem DI {bf:Array Nat}:∀(l:List kJ),Le ops bf l=true→l.Pairwise fun x y=>∀u∈x.fl,∀v∈y.fl,fQ ops bf u v=true
 | [],_=>.nil
 | x::l,h=>by
  simp only[Le,Bool.and_eq_true,List.all_eq_true] at h;exact List.pairwise_cons.2 ⟨fun y hy u hu v hv=>h.1 y hy u hu v hv,DI l h.2⟩
variable {i:Nat} {l:List kJ} {a:Act} {w:World} {o:Oper} {v:Value} {K:Act→World→Prop}
theorem J_p (ho:ops.toList[i]?=some o) (hg:Region.wanted o (yielded ops a.tmps)=true) (hv:∀w',(execOp a.eval o).run P w'=.ok (.value v) w') (h:nC P ops Q S l K (a.put o.dst v) w):nC P ops Q S (.one i .p::l) K a w:=
 have ho':=(Array.getElem?_toList (xs:=ops) (i:=i)).symm.trans ho
 ⟨o,ho',v,fun w'=>.inl ⟨hg,hv w'⟩,h⟩
theorem J_s (ho:ops.toList[i]?=some o) (hg:Region.wanted o (yielded ops a.tmps)=true) (hS:S w) (hv:∀w',S w'→(execOp a.eval o).run P w'=.ok (.value v) w') (h:nC P ops Q S l K (a.put o.dst v) w):nC P ops Q S (.one i .s::l) K a w:=
 have ho':=(Array.getElem?_toList (xs:=ops) (i:=i)).symm.trans ho
 ⟨o,ho',hS,v,fun w' hw=>.inl ⟨hg,hv w' hw⟩,h⟩
theorem J_t (ho:ops.toList[i]?=some o) (hg:Region.wanted o (yielded ops a.tmps)=true) (hv:(execOp a.eval o).run P w=.ok (.value v) w) (h:nC P ops Q S l K (a.put o.dst v) w):nC P ops Q S (.one i .t::l) K a w:=
 have ho':=(Array.getElem?_toList (xs:=ops) (i:=i)).symm.trans ho
 ⟨o,ho',v,.inl ⟨hg,hv⟩,h⟩
theorem J_po (ho:ops.toList[i]?=some o) (hg:Region.wanted o (yielded ops a.tmps)=false) (h:nC P ops Q S l K (a.put o.dst undef) w):nC P ops Q S (.one i .p::l) K a w:=
 have ho':=(Array.getElem?_toList (xs:=ops) (i:=i)).symm.trans ho
 ⟨o,ho',undef,fun _=>.inr ⟨hg,rfl⟩,h⟩
theorem J_so (ho:ops.toList[i]?=some o) (hg:Region.wanted o (yielded ops a.tmps)=false) (hS:S w) (h:nC P ops Q S l K (a.put o.dst undef) w):nC P ops Q S (.one i .s::l) K a w:=
 have ho':=(Array.getElem?_toList (xs:=ops) (i:=i)).symm.trans ho
 ⟨o,ho',hS,undef,fun _ _=>.inr ⟨hg,rfl⟩,h⟩
theorem J_to (ho:ops.toList[i]?=some o) (hg:Region.wanted o (yielded ops a.tmps)=false) (h:nC P ops Q S l K (a.put o.dst undef) w):nC P ops Q S (.one i .t::l) K a w:=
 have ho':=(Array.getElem?_toList (xs:=ops) (i:=i)).symm.trans ho
 ⟨o,ho',undef,.inr ⟨hg,rfl⟩,h⟩
theorem X6 {b:Bool} (ho:ops.toList[i]?=some o) (hg:Region.wanted o (yielded ops a.tmps)=true)
 (h:∀K':Act→World→Prop,(∀a w,(b=true→S w)→nC P ops Q S l K a w→K' a w)→o.wp P a w K' Q):nC P ops Q S (.one i (.e b)::l) K a w:=
 have ho':=(Array.getElem?_toList (xs:=ops) (i:=i)).symm.trans ho
 ⟨o,ho',by unfold wpOp;simp only[ho',hg,if_true];exact .inl (h _ fun _ _ h1 h2=>⟨h1,h2⟩)⟩
theorem vk (h:K a w):nC P ops Q S [] K a w:=h
end
end PA
namespace PA
open Go Go.RowKit
theorem lG {G G2:Prop} (h:G2) (f:G2→G:=by intro hZ;(repeat ((first|(refine J_p (v:=?_) rfl rfl (fun w'=>?_) ?_;rotate_left;(go_simp;with_reducible rfl))|(refine J_s (v:=?_) rfl rfl hS0 (fun w' hS=>?_) ?_;rotate_left;((try dsimp only at hS);go_simp;with_reducible rfl))|(refine J_t (v:=?_) rfl rfl ?_ ?_;rotate_left;(go_simp;with_reducible rfl))|(refine J_po rfl rfl ?_)|(refine J_so rfl rfl hS0 ?_)|(refine J_to rfl rfl ?_));simp only[Act.put,lsA,lsB,lC]));exact hZ):G:=f h
end PA
namespace PA
open Go Go.RowKit
section
variable {P:Program} {ops:Array Oper} {Q:Exit→Act→World→Prop} {S:World→Prop} {W:World}
def tailA {Y:Type} (Pre:aA) (ok:Y→Value→Prop) (Post:Y→aA) (F:Value→List Value):List Value→aA
 | []=>Pre
 | v::us=>ex fun y:Y=>sep (fact (ok y v∧us=(F v).take us.length)) (Post y)
def xU (P:Program) (ops:Array Oper):Act→List Nat→List Value→Prop
 | _,[],[]=>True
 | a,j::js,u::us=>(∃o,ops[j]?=some o∧(∀w,(execOp a.eval o).run P w=.ok (.value u) w))∧xU P ops (a.put (aS ops j) u) js us
 | _,_,_=>False
def og (ops:Array Oper) (j:Nat):Bool:=match ops[j]? with|some o=>o.guard.isNone&&(match o.op with|.select ..=>false|_=>true)|none=>false
theorem Lp:∀{js:List Nat} {us:List Value} {a:Act},xU P ops a js us→us.length=js.length
 | [],[],_,_=>rfl
 | [],_::_,_,h=>h.elim
 | _::_,[],_,h=>h.elim
 | j::js,u::us,a,h=>by rw[List.length_cons,List.length_cons,Lp h.2]
theorem Af {K:Act→World→Prop}:∀(js:List Nat) (us:List Value) (a:Act) (w:World),(∀j∈js,og ops j=true)→xU P ops a js us→K (puts ops (js.zip us) a) w→wpT P ops K js a w
 | [],us,a,w,_,h,hk=>by
  cases us with
  | nil=>exact hk
  | cons=>exact h.elim
 | j::js,[],_,_,_,h,_=>h.elim
 | j::js,u::us,a,w,hp,h,hk=>by
  obtain⟨⟨o,ho,hr⟩,h2⟩:=h;have Uk:=hp j (by simp);unfold og at Uk;rw[ho] at Uk;simp only[Bool.and_eq_true] at Uk;refine⟨o,ho,u,fun w'=>.inl ⟨?_,hr w'⟩,?_⟩
  ·unfold Region.wanted
   cases hg:o.guard with
   | none=>rfl
   | some x=>rw[hg] at Uk;exact absurd Uk.1 (by simp)
  ·have hd:aS ops j=o.dst:=by unfold aS;rw[ho];rfl
   rw[←hd];exact Af js us _ w (fun k hk=>hp k (by simp[hk])) h2 hk
theorem wJ {i:Nat} (v:Value):∀(l:List (Nat×Value)),(∀x∈l,apartB ops x.1 i=true∨apartB ops i x.1=true)→∀a:Act,puts ops l (a.put (aS ops i) v)=(puts ops l a).put (aS ops i) v
 | [],_,_=>rfl
 | x::l,h,a=>by
  show puts ops l ((a.put (aS ops i) v).put (aS ops x.1) x.2)=(puts ops l (a.put (aS ops x.1) x.2)).put (aS ops i) v;have hd:∀d,aS ops i=some d→aS ops x.1≠some d:=by
   rcases h x (by simp) with h1|h1
   ·exact (nI h1).2
   ·exact (nI h1).1
  rw[Act.put_comm a v x.2 hd,wJ v l (fun y hy=>h y (by simp[hy]))]
theorem UU {js:List Nat} {k:Nat} {v:Value}:∀{us:List Value} {a:Act},(∀j∈js,og ops j=true)→(∀j∈js,apartB ops k j=true∨apartB ops j k=true)→xU P ops a js us→xU P ops (a.put (aS ops k) v) js us:=by
 induction js with
 | nil=>intro us a _ _ h;cases us with
  | nil=>trivial
  | cons=>exact h.elim
 | cons j js ih=>
  intro us a hp hap h;cases us with
  | nil=>exact h.elim
  | cons u us=>
   obtain⟨⟨o,ho,hr⟩,h2⟩:=h;have Uk:=hp j (by simp);unfold og at Uk;rw[ho] at Uk;simp only[Bool.and_eq_true] at Uk;have hsel:∀cs b,o.op≠.select cs b:=fun cs b hs=>by rw[hs] at Uk;exact absurd Uk.2 (by simp)
   have hlook:∀d,aS ops k=some d→d∉o.looksAt ops:=fun d hd=>by
    unfold aS at hd;cases hk:ops[k]? with
    | none=>rw[hk] at hd;cases hd
    | some z=>
     rw[hk] at hd;rcases hap j (by simp) with h1|h1
     ·unfold apartB at h1
      rw[hk,ho] at h1;exact (Oper.apart_spec h1).1 d hd
     ·unfold apartB at h1
      rw[hk,ho] at h1;exact (Oper.apart_spec h1).2.2 d hd
   refine⟨⟨o,ho,fun w=>?_⟩,?_⟩
   ·rw[execOp_put o hsel a _ v hlook];exact hr w
   ·have:=ih (fun i hi=>hp i (by simp[hi])) (fun i hi=>hap i (by simp[hi])) h2
    have hd:∀d,aS ops k=some d→aS ops j≠some d:=by
     rcases hap j (by simp) with h1|h1
     ·exact (nI h1).1
     ·exact (nI h1).2
    rw[Act.put_comm a v u hd];exact this
theorem F8 {js:List Nat} {us:List Value}:∀(l:List (Nat×Value)),(∀j∈js,og ops j=true)→(∀x∈l,∀j∈js,apartB ops x.1 j=true∨apartB ops j x.1=true)→∀{a:Act},xU P ops a js us→xU P ops (puts ops l a) js us
 | [],_,_,_,h=>h
 | x::l,hp,hap,a,h=>F8 l hp (fun y hy=>hap y (by simp[hy])) (UU hp (hap x (by simp)) h)
def nums (ids:List (Nat×List Nat)):List Nat:=ids.flatMap fun x=>x.1::x.2
structure Yj where
 ids:List (Nat×List Nat)
 A:List Value→aA
structure zD where
 dn:List (Nat×Value)
 td:List (Nat×List Nat)
 A:List Value→aA
def zD.now (s:zD):aA:=s.A (s.dn.map (·.2))
def I4 (vP:List zD) (B:aA):aA:=vP.foldl (fun B s=>sep s.now B) B
theorem qC (s:zD) (vP:List zD) (B:aA):I4 (s::vP) B=I4 vP (sep s.now B):=rfl
theorem Ec (s t:List zD) (B:aA):I4 (s++t) B=I4 t (I4 s B):=by simp[I4]
theorem xZ (X:aA):∀(vP:List zD) (B:aA),I4 vP (sep X B)=sep X (I4 vP B)
 | [],_=>rfl
 | s::vP,B=>by rw[qC,qC,aC,xZ X vP]
def zS (P:Program) (ops:Array Oper) (W:World) (a0:Act) (A:List Value→aA):List (Nat×Value)→List (Nat×List Nat)→Prop
 | _,[]=>True
 | dn,x::td=>(∃o,ops[x.1]?=some o∧(∀cs b,o.op≠.select cs b)∧iQ P ops W o (puts ops dn a0) (A (dn.map (·.2))) (fun v=>A (dn.map (·.2)++[v])))∧(∀y∈td,((Region.before ops).getD y.1 0).testBit x.1=true)∧(∀j∈x.2,og ops j=true) ∧
  (∀v w B,Sat W w (sep (A (dn.map (·.2)++[v])) B)→∃us,xU P ops (puts ops (dn++[(x.1,v)]) a0) x.2 us∧Sat W w (sep (A (dn.map (·.2)++v::us)) B)) ∧
  ∀v us,us.length=x.2.length→zS P ops W a0 A (dn++(x.1,v)::x.2.zip us) td
def WV (ops:Array Oper) (W:World) (a0:Act) (K:Act→World→Prop):List Yj→List (Nat×Value)→aA→Prop
 | [],D,B=>∀w,Sat W w B→K (puts ops D a0) w
 | t::ts,D,B=>∀dn:List (Nat×Value),dn.map (·.1)=nums t.ids→WV ops W a0 K ts (D++dn) (sep (t.A (dn.map (·.2))) B)
def wY (ts:List Yj) (vP:List zD):Prop:=vP.map (fun s=>(s.dn.map (·.1)++nums s.td,s.A))=ts.map fun t=>(nums t.ids,t.A)
theorem UH {l:List (Nat×List Nat)} (h:l=[]):nums l=[]:=by rw[h];rfl
theorem JW {a0:Act} {K:Act→World→Prop}:∀(vP:List zD) (ts:List Yj) (D:List (Nat×Value)) (B:aA),wY ts vP→vP.flatMap (·.td)=[]→WV ops W a0 K ts D B→∀w,Sat W w (I4 vP B)→K (puts ops (D++vP.flatMap (·.dn)) a0) w
 | [],ts,D,B,hL,_,hf,w,hS=>by
  have:ts=[]:=by unfold wY at hL;simp at hL;exact hL
  subst this;simpa using hf w hS
 | s::vP,ts,D,B,hL,ht,hf,w,hS=>by
  cases ts with
  | nil=>unfold wY at hL;simp at hL
  | cons t ts=>
   unfold wY at hL;simp only[List.map_cons,List.cons.injEq,Prod.mk.injEq] at hL;obtain⟨⟨h1,h2⟩,h3⟩:=hL;simp only[List.flatMap_cons,List.append_eq_nil_iff] at ht;rw[UH ht.1,List.append_nil] at h1;have:=hf s.dn h1;rw[←h2] at this;have h4:=JW vP ts (D++s.dn) _ h3 ht.2 this w (by rw[qC] at hS;exact hS);rw[List.flatMap_cons,←List.append_assoc];exact h4
def zD.all (s:zD):List Nat:=s.dn.map (·.1)++nums s.td
theorem DJ:∀(ts:List Yj),A8 ops (ts.map (fun t=>nums t.ids))=true→(ts.map fun t=>(⟨[],t.ids,t.A⟩:zD)).Pairwise fun s t=>Tn ops s.all t.all
 | [],_=>.nil
 | t::ts,h=>by
  simp only[List.map_cons,A8,Bool.and_eq_true,List.all_eq_true] at h;refine List.pairwise_cons.2 ⟨fun s hs=>?_,DJ ts h.2⟩;obtain⟨u,hu,rfl⟩:=List.mem_map.1 hs;have:=h.1 (nums u.ids) (List.mem_map.2 ⟨u,hu,rfl⟩);simp only[Pm,List.all_eq_true] at this;intro i hi j hj;exact this i (by simpa[zD.all] using hi) j (by simpa[zD.all] using hj)
theorem wu {Y:Type} {Pre:aA} {ok:Y→Value→Prop} {Post:Y→aA} {F:Value→List Value} {a0:Act} {i:Nat} {js:List Nat} {o:Oper} (ho:ops[i]?=some o) (hs:∀cs b,o.op≠.select cs b)
 (hd:iQ P ops W o a0 Pre (fun v=>ex fun y:Y=>sep (fact (ok y v)) (Post y))) (hpl:js.all (og ops)=true) (hF:∀y v,ok y v→xU P ops (a0.put (aS ops i) v) js (F v)):
 zS P ops W a0 (tailA Pre ok Post F) [] [(i,js)]:=by
 refine⟨⟨o,ho,hs,?_⟩,fun y hy=>(by cases hy),fun j hj=>List.all_eq_true.1 hpl j hj,fun v w B h=>?_,fun _ _ _=>trivial⟩
 ·refine⟨hd.1,fun w A hS=>?_⟩
  have conv:∀(v:Value) (w':World),Sat W w' (sep (ex fun y:Y=>sep (fact (ok y v)) (Post y)) A)→Sat W w' (sep (tailA Pre ok Post F ([]++[v])) A):=fun v w' h=>by
   rw[List.nil_append,tailA,fP,Sat.ex];rw[fP,Sat.ex] at h;obtain⟨y,h⟩:=h;refine⟨y,?_⟩;rw[aj] at h ⊢;obtain⟨h1,h2⟩:=Sat.fact.1 h;exact Sat.fact.2 ⟨⟨h1,rfl⟩,h2⟩
  rcases hd.2 w A hS with ⟨v,w',h1,h2⟩|⟨f,args,w1,h1,h2⟩
  ·exact .inl ⟨v,w',h1,conv v w' h2⟩
  ·refine .inr ⟨f,args,w1,h1,h2.mono ?_⟩
   rintro e w' ⟨v,rfl,h3⟩;exact⟨v,rfl,conv v w' h3⟩
 ·have h':Sat W w (sep (tailA Pre ok Post F [v]) B):=h
  rw[tailA,fP,Sat.ex] at h';obtain⟨y,h'⟩:=h';rw[aj] at h';obtain⟨⟨hok,-⟩,h2⟩:=Sat.fact.1 h';have hp:=hF y v hok;refine⟨F v,hp,?_⟩;show Sat W w (sep (tailA Pre ok Post F (v::F v)) B);rw[tailA,fP,Sat.ex];refine⟨y,?_⟩;rw[aj];exact Sat.fact.2 ⟨⟨hok,by rw[List.take_length]⟩,h2⟩
theorem wP {Y:Type} {Pre:aA} {ok:Y→Value→Prop} {Post:Y→aA} {F:Value→List Value} {A:aA} {w:World} {i:Nat} {js:List Nat} {dn:List (Nat×Value)} (hdn:dn.map (·.1)=i::js) (hl:∀v,(F v).length=js.length)
 (h:Sat W w (sep (tailA Pre ok Post F (dn.map (·.2))) A)):∃(v:Value) (y:Y),dn=(i,v)::js.zip (F v)∧ok y v∧Sat W w (sep (Post y) A):=by
 cases dn with
 | nil=>simp at hdn
 | cons x dn=>
  obtain⟨k,v⟩:=x;simp only[List.map_cons,List.cons.injEq] at hdn h;obtain⟨rfl,hj⟩:=hdn;rw[tailA,fP,Sat.ex] at h;obtain⟨y,h⟩:=h;rw[aj] at h;obtain⟨⟨h1,h2⟩,h3⟩:=Sat.fact.1 h;refine⟨v,y,?_,h1,h3⟩;have hlen:(dn.map (·.2)).length=(F v).length:=by rw[hl,←hj];simp
  rw[hlen,List.take_length] at h2;rw[←h2,←hj];congr 1;clear h2 hlen h h3 hj
  induction dn with
  | nil=>rfl
  | cons z dn ih=>simp[←ih]
end
end PA
