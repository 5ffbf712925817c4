/- Part of a proof. -/
import Derived.Test.YthfmaclnccdcbaaGreatDoorZFO40
import Derived.Test.YthfmaclnccdcbaaGreatDoorZFO42
import Derived.Test.YthfmaclnccdcbaaGreatDoorZFO43
namespace PA
open Go Go.RowKit
section
variable {α:Type} {c:α→α→Int}
end
end PA
namespace Go.Proofs.YthfmaclnccdcbaaGreatDoor
open Go.RowKit PA
theorem TY {W w:World} {A:aB} (v fv:Value) (h:Sat W w A):Calls Tryz.prog 194 #[v,.int .i64 0,.int .i64 0,fv] w fun e w'=>e=.returned (.tuple #[])∧Sat W w' A:=by
 go_enter Tryz.func194,Tryz.ntmps194;go_wp2;go_loopw [8] (fun iv wr=>iv=.int .i64 1∧Sat W wr A) (fun _ _=>0)
 case atStart=>exact⟨rfl,h⟩
 case round=>
  obtain⟨rfl,hS⟩:=hrel;go_wp2;go_end0;exact⟨rfl,hS⟩
theorem Ko {W w:World} {A:aB} (v fv:Value) (h:Sat W w A):Calls Tryz.prog 154 #[v,.int .i64 0,fv] w fun e w'=>e=.returned (.tuple #[])∧Sat W w' A:=by
 have HI:=ah (fun w (h:Sat W w A)=>TY v fv h);go_enter Tryz.func154,Tryz.ntmps154;go_wp2;go_loopw [7,8] (fun av iv wr=>av=.int .i64 0∧iv=.int .i64 20∧Sat W wr A) (fun _ _ _=>0)
 case atStart=>exact⟨rfl,rfl,h⟩
 case round=>
  obtain⟨rfl,rfl,hS⟩:=hrel;go_wp2_with fail;refine (HI.out _ hS).mono ?_;rintro e w2 ⟨rfl,h2⟩;go_wp2;go_loopw [6] (fun iv wr=>iv=.int .i64 20∧Sat W wr A) (fun _ _=>0)
  case atStart=>exact⟨rfl,h2⟩
  case round=>
   obtain⟨rfl,hS3⟩:=hrel;go_wp2;go_end0;exact⟨rfl,hS3⟩
theorem LK (w:World):Calls Tryz.prog 108 #[.slice none 0 0] w fun e w'=>e=.returned (.slice none 0 0)∧w=w':=by
 have hq:=fun w a n c=>Lib.run_eql_slice_nil (P:=Tryz.prog) w 23 36 a n c 0 0 Tryz.underlying23
 go_enter Tryz.func108,Tryz.ntmps108;go_wp2;go_ret;exact⟨rfl,rfl⟩
theorem QF {W w:World} {A:aB} (h:Sat W w A):Calls Tryz.prog 48 #[.slice none 0 0] w fun e w'=>e=.returned (.slice none 0 0)∧Sat W w' A:=by
 have HS:=ah (fun w (h:Sat W w A)=>Ko (.slice none 0 0) (.func (.func 21) #[] #[]) h);go_enter Tryz.func48,Tryz.ntmps48;go_wp2_with fail;refine (LK w).mono ?_;rintro e w1 ⟨rfl,rfl⟩;go_wp2_with (first|(go_at_call 154;refine (HS.out _ h).mono ?_)|go_in)
 rintro e w2 ⟨rfl,h2⟩;go_wp2;go_ret;exact⟨rfl,h2⟩
end Go.Proofs.YthfmaclnccdcbaaGreatDoor
namespace PA
open Go Go.RowKit
def Xe (known day:Int):Prop:=0≤known∧known≤1099511627776∧0≤day∧day≤131072
def upTo (known day:Int) (z:Ac):Bool:=decide (z.n≤known)&&decide (z.d≤day)
def Qq (E O t:Nat) (pre:List Ac):aB:=ex fun q:Option Addr×Nat=>sep (fact (pre=[]→q.1=none∧q.2=0)) (sep (blk O (.cells #[.slice q.1 pre.length q.2] t (0,0))) (aT E 19 q.1 pre.length q.2 (bY pre)))
theorem yU {W w:World} {E O t:Nat} {pre:List Ac} {R:aB}:Sat W w (sep (Qq E O t pre) R)↔∃(a:Option Addr) (c:Nat),(pre=[]→a=none∧c=0)∧Sat W w (sep (blk O (.cells #[.slice a pre.length c] t (0,0))) (sep (aT E 19 a pre.length c (bY pre)) R)):=by
 unfold Qq;rw[fP,Sat.ex];constructor
 ·rintro⟨⟨a,c⟩,h⟩
  rw[aj] at h;obtain⟨h1,h2⟩:=Sat.fact.1 h;rw[aj] at h2;exact⟨a,c,h1,h2⟩
 ·rintro⟨a,c,h1,h2⟩
  refine⟨(a,c),?_⟩;rw[aj];refine Sat.fact.2 ⟨h1,?_⟩;rw[aj];exact h2
end PA
namespace Go.Proofs.YthfmaclnccdcbaaGreatDoor
open Go.RowKit PA
section
attribute [local go_sem ↓] aY bI aV
theorem VL {W:World} {X:aB} {b:Nat} {known:Int}:C9 W (sep (blk b (.cells #[.int .i64 known] 3 (0,0))) X) (.func (.func 104) #[] #[.pointer (some ⟨b,0,none⟩)]) fun z=>decide (z.n≤known):=by
 refine⟨104,#[.pointer (some ⟨b,0,none⟩)],rfl,Go.Proofs.enters_of (P:=Tryz.prog) Tryz.func104 (by kernel_rfl) rfl,fun z w A h=>?_⟩;show Calls Tryz.prog 104 #[.agg z.cells.toArray,.pointer (some ⟨b,0,none⟩)] w _;have h1:=h.alloc (.cells z.cells.toArray 36);have k0:(w.alloc (.cells z.cells.toArray 36)).cell? ⟨w.heap.size,2,none⟩=some (.int .i64 z.n):=(ay h1 2 _ rfl).1;have h2:=h1.drop;have k1:(w.alloc (.cells z.cells.toArray 36)).cell? ⟨b,0,none⟩=some (.int .i64 known):=by
  rw[aj] at h2;exact h2.cell 0
 have H2:=ah h2;clear h h1 h2;go_enter Tryz.func104,Tryz.ntmps104;go_wp2;go_ret;exact⟨rfl,H2.out⟩
theorem VN {W:World} {X:aB} {b:Nat} {day:Int}:C9 W (sep (blk b (.cells #[.int .i64 day] 3 (0,0))) X) (.func (.func 105) #[] #[.pointer (some ⟨b,0,none⟩)]) fun z=>decide (z.d≤day):=by
 refine⟨105,#[.pointer (some ⟨b,0,none⟩)],rfl,Go.Proofs.enters_of (P:=Tryz.prog) Tryz.func105 (by kernel_rfl) rfl,fun z w A h=>?_⟩;show Calls Tryz.prog 105 #[.agg z.cells.toArray,.pointer (some ⟨b,0,none⟩)] w _;have h1:=h.alloc (.cells z.cells.toArray 36);have k0:(w.alloc (.cells z.cells.toArray 36)).cell? ⟨w.heap.size,1,none⟩=some (.int .i64 z.d):=(ay h1 1 _ rfl).1;have h2:=h1.drop;have k1:(w.alloc (.cells z.cells.toArray 36)).cell? ⟨b,0,none⟩=some (.int .i64 day):=by
  rw[aj] at h2;exact h2.cell 0
 have H2:=ah h2;clear h h1 h2;go_enter Tryz.func105,Tryz.ntmps105;go_wp2;go_ret;exact⟨rfl,H2.out⟩
theorem C9.swap {W:World} {X Y:aB} {cv:Value} {P:Ac→Bool} (h:C9 W X cv P) (e:X=Y):C9 W Y cv P:=e ▸ h
theorem Uy {W w:World} {A:aB} {I:Mem} (hW:fZ W) (g:Ac→Pa) (a:Option Addr) (n c:Nat) (xs:List Ac) (hn:n=xs.length) (UW:n<40) (h0:xs=[]→a=none∧c=0) (hg:∀x∈xs,BG I x (g x)) (h:Sat W w (sep (aT 36 19 a n c (bY xs)) (sep (kn I) A))):
 Calls Tryz.prog 48 #[.slice a n c] w fun e w'=>∃(ys:List Ac) (b:Option Addr) (d:Nat) (J:Mem),e=.returned (.slice b n d)∧ys.Perm xs∧Asc (fun x y=>mV (g x) (g y)) ys∧Mem.le I J∧Ld b n d∧(n=0→b=none∧d=0)∧dF b (bY ys) J∧Sat W w' (sep (kn J) A):=by
 by_cases hx:xs=[]
 ·obtain⟨rfl,rfl⟩:=h0 hx
  subst hx;obtain rfl:n=0:=hn;refine (QF h.drop).mono ?_;rintro e w' ⟨rfl,h2⟩;exact⟨[],none,0,I,rfl,.refl _,.nil,bW I,⟨Nat.le_refl _,Nat.zero_le _,fun _=>rfl⟩,fun _=>⟨rfl,rfl⟩,.inl rfl,h2⟩
 ·have hsw:=h.fQ
  obtain⟨J,hle,hcl,hS⟩:=h.eF.learn;have hn0:0<n:=by rw[hn];exact List.length_pos_iff.2 hx
  cases a with
  | none=>have:=hsw.2.2 rfl;have:=hsw.1;omega
  | some b=>
   refine (XA hW g b n c xs hn.symm (fun x hx=>(hg x hx).mono hle) hn0 UW hsw hcl hS).mono ?_;rintro e w' ⟨ys,b',d,J2,rfl,h1,h2,h3,h4,h5,h6,h7⟩;exact⟨ys,_,d,J2,rfl,h1,h2,eG hle h3,⟨h4,h5,fun e=>by cases e⟩,fun e=>by omega,h6,h7⟩
end
section
theorem WO:(Tryz.prog.info? 95).map (fun i=>(i.zero,i.size,i.bytes))=some (some .nilFunc,1,8):=by kernel_rfl
def bsCf (n:Nat) (p:Array (Nat×Value)):Sem Value:=Instr.buildSlice 175 n p
theorem wP (n:Nat) (p:Array (Nat×Value)):Instr.buildSlice 175 n p=bsCf n p:=rfl
theorem bs_cf2 (w:World) (u v:Fn) (x y x2 y2:Array Value):(bsCf 2 #[(0,.func u x y),(1,.func v x2 y2)]).run Tryz.prog w=.ok (.slice (some ⟨w.heap.size,0,none⟩) 2 2) (w.alloc (.cells #[.func u x y,.func v x2 y2] 95)):=by
 obtain⟨i,h1,h2,h3,h4⟩:=info_parts WO;exact run_buildSlice w 175 95 2 _ _ i _ Tryz.underlying175 h1 h2 (by rw[h3];omega) (by rw[h3];omega) (by rw[h3];kernel_rfl)
theorem Ur {W w:World} {O n c:Nat} {a:Option Addr} {pre:List Ac} {z:Ac} {R:aB} (hn:n=pre.length) (h:Sat W w (sep (blk O (.cells #[.slice a (n+1) c] 23 (0,0))) (sep (aT 36 19 a (n+1) c (bY pre++z.cells)) R))):Sat W w (sep (Qq 36 O 23 (pre++[z])) R):=by
 subst hn;refine yU.2 ⟨a,c,fun e=>by simp at e,?_⟩;rw[dM,List.length_singleton,iZ,show bY [z]=z.cells by simp[bY]];exact h
attribute [local go_sem ↓] aY bI aV wP ji
attribute [local go_sem] Oper.semAt_some
set_option maxRecDepth 100000 in
set_option maxHeartbeats 16000000 in
theorem Ri {W w:World} {BK A:aB} {I:Mem} (hW:fZ W) {p:Nat} {a:Option Addr} {m c:Nat} {zl:List Ac} (hB:Dq W BK p a m c zl) (known day:Int) (hok:Xe known day) (g:Ac→Pa) (hg:∀z∈zl,BG I z (g z)) (h39:m<39) (h:Sat W w (sep BK (sep (kn I) A))):
 Calls Tryz.prog 41 #[.pointer (some ⟨p,0,none⟩),.int .i64 known,.int .i64 day] w fun e w'=>∃(ys:List Ac) (b:Option Addr) (n d:Nat) (J:Mem),e=.returned (.tuple #[.slice b n d,.int .i64 0])∧n=ys.length∧ys.Perm (zl.filter (upTo known day))∧Asc (fun x y=>mV (g x) (g y)) ys∧Mem.le I J∧Ld b n d∧(n=0→b=none∧d=0)∧dF b (bY ys) J∧Sat W w' (sep BK (sep (kn J) A)):=by
 have h1:=(h.alloc (.cells #[.int .i64 known] 3)).alloc (.cells #[.int .i64 day] 3);rw[World.size_alloc] at h1;obtain⟨w1,hw1⟩:=aC ((w.alloc (.cells #[.int .i64 known] 3)).alloc (.cells #[.int .i64 day] 3));obtain⟨B,PV⟩:=aC (w.heap.size);rw[←hw1,←PV] at h1;have k0:w1.cell? ⟨B,0,none⟩=some (.int .i64 known):=h1.p1.cell 0;have k1:w1.cell? ⟨B+1,0,none⟩=some (.int .i64 day):=h1.cell 0;have HB:=ah (aH PV hw1);have h2:=h1.alloc (.cells #[.slice none 0 0] 23);obtain⟨O,hO⟩:=aC (w1.heap.size);obtain⟨w2,hw2⟩:=aC (w1.alloc (.cells #[.slice none 0 0] 23));rw[←hO,←hw2] at h2;have h3:=h2.alloc (.cells #[.func (.func 104) #[] #[.pointer (some ⟨B,0,none⟩)],.func (.func 105) #[] #[.pointer (some ⟨B+1,0,none⟩)]] 95);have hbs:=bs_cf2 w2 (.func 104) (.func 105) #[] #[.pointer (some ⟨B,0,none⟩)] #[] #[.pointer (some ⟨B+1,0,none⟩)];obtain⟨G,hG⟩:=aC (w2.heap.size);obtain⟨w3,hw3⟩:=aC (w2.alloc (.cells #[.func (.func 104) #[] #[.pointer (some ⟨B,0,none⟩)],.func (.func 105) #[] #[.pointer (some ⟨B+1,0,none⟩)]] 95));rw[←hG,←hw3] at h3 hbs;have HO:=ah (aH hO (aH hw2 (aH hG hw3)));obtain⟨CN,hCN⟩:=aC (sep (blk B (.cells #[.int .i64 known] 3 (0,0))) (sep (blk (B+1) (.cells #[.int .i64 day] 3 (0,0))) (blk G (.cells #[.func (.func 104) #[] #[.pointer (some ⟨B,0,none⟩)],.func (.func 105) #[] #[.pointer (some ⟨B+1,0,none⟩)]] 95 (0,0)))));obtain⟨fs,hfs⟩:∃fs:List (Value×(Ac→Bool)),fs=[(.func (.func 104) #[] #[.pointer (some ⟨B,0,none⟩)],fun z=>decide (z.n≤known)),(.func (.func 105) #[] #[.pointer (some ⟨B+1,0,none⟩)],fun z=>decide (z.d≤day))]:=⟨_,rfl⟩
 have hF:II W CN (some ⟨G,0,none⟩) 2 2 fs:=by
  subst hfs;subst hCN;refine⟨rfl,by omega,fun _=>⟨G,rfl,fun w' A' h' i f hf=>?_⟩,fun i f hf=>?_⟩
  ·have h5:Sat W w' (sep (blk G (.cells #[.func (.func 104) #[] #[.pointer (some ⟨B,0,none⟩)],.func (.func 105) #[] #[.pointer (some ⟨B+1,0,none⟩)]] 95 (0,0))) (sep (blk B (.cells #[.int .i64 known] 3 (0,0))) (sep (blk (B+1) (.cells #[.int .i64 day] 3 (0,0))) A'))):=by simpa only[aA,au,aj] using h'
   rcases i with _|_|i
   ·cases hf;exact h5.cell 0
   ·cases hf;exact h5.cell 1
   ·cases hf
  ·rcases i with _|_|i
   ·cases hf;exact VL
   ·cases hf;exact (VN (b:=B+1) (day:=day) (X:=sep (blk B (.cells #[.int .i64 known] 3 (0,0))) (blk G (.cells #[.func (.func 104) #[] #[.pointer (some ⟨B,0,none⟩)],.func (.func 105) #[] #[.pointer (some ⟨B+1,0,none⟩)]] 95 (0,0))))).swap (by rw[au])
   ·cases hf
 have hall:zl.filter (jM fs)=zl.filter (upTo known day):=by
  subst hfs;refine List.filter_congr fun z _=>?_
  simp[jM,upTo]
 have h4:Sat W w3 (sep (blk O (.cells #[.slice none 0 0] 23 (0,0))) (sep BK (sep CN (sep (kn I) A)))):=by
  subst hCN;simpa only[aA,au,aj] using h3
 have hwh:=QL p (some ⟨G,0,none⟩) 2 2 h4;have U9:=ah hwh;have HF:=ah hF;have HZ:=ah (aH hall (aH hg (aH hW hB)));have mQ:=ah hok;have hmf:∀(fn:Fn) (first cap:Array Value) (w:World),(Instr.makeFunc fn first cap).run Tryz.prog w=.ok (.func fn first cap) w:=fun _ _ _ _=>rfl
 obtain⟨Po,dS⟩:∃P:Ending→World→Prop,P=fun e w'=>∃(ys:List Ac) (b:Option Addr) (n d:Nat) (J:Mem),e=.returned (.tuple #[.slice b n d,.int .i64 0])∧n=ys.length∧ys.Perm (zl.filter (upTo known day))∧Asc (fun x y=>mV (g x) (g y)) ys∧Mem.le I J∧Ld b n d∧(n=0→b=none∧d=0)∧dF b (bY ys) J∧Sat W w' (sep BK (sep (kn J) A)):=⟨_,rfl⟩
 rw[←dS];have bK:=ah dS;obtain⟨ok1,ok2,ok3,ok4⟩:=hok;have n1:¬known<0:=by omega
 have n2:¬1099511627776<known:=by omega
 have n3:¬day<0:=by omega
 have n4:¬131072<day:=by omega
 clear h h1 h2 h3 h4 hw1 PV hO hw2 hG hw3 hF hwh hall hg hW hB dS hCN hfs ok1 ok2 ok3 ok4;refine (callsIn_wide (n:=5)).1 ?_;refine callsIn_of_wp_marks Tryz.func41 rfl trivial ?_ rfl;simp only[Tryz.ntmps41,List.size_toArray,oP,List.length_nil,Nat.reduceAdd,Nat.reduceSub,Array.replicate_succ,Array.replicate_zero,List.push_toArray,List.append_toArray,tK,pV];refine wpIn_wide.2 ?_;go_upto_region 1 with fail;rw[←HB.out.1,←HB.out.2];go_upto_region 3 with fail;clear n1 n2 n3 n4;go_upto_region 4 with fail;rw[←HO.out.1,←HO.out.2.1];go_wp2_with fail;refine U9.out.mono ?_;rintro e w4 ⟨q1,q2,rfl,h5⟩;have H5:Hid (Sat W w4 (sep (Qq 36 O 23 []) (sep BK (sep CN (sep (oJ q1 q2 p (some ⟨G,0,none⟩) 2 2) (sep (kn I) A)))))):=ah (yU.2 ⟨none,0,fun _=>⟨rfl,rfl⟩,by
  have h6:=h5.p1.fV 36 19;have h7:Sat W w4 (sep (blk O (.cells #[.slice none 0 0] 23 (0,0))) (sep (aT 36 19 none 0 0 []) (sep (oJ q1 q2 p (some ⟨G,0,none⟩) 2 2) (sep BK (sep CN (sep (kn I) A)))))):=h6.p1;have h8:Sat W w4 (sep (blk O (.cells #[.slice none 0 0] 23 (0,0))) (sep (aT 36 19 none 0 0 []) (sep BK (sep CN (sep (oJ q1 q2 p (some ⟨G,0,none⟩) 2 2) (sep (kn I) A)))))):=dI h7;exact h8⟩)
 have eg:=Go.Proofs.enters_of (P:=Tryz.prog) Tryz.func151 (by kernel_rfl) rfl;clear h5 U9 hbs hmf k0 k1;go_wp2_with fail;refine (wpIn_wide (n:=5)).1 ?_;refine OG (F:=Fence.wide) (W:=W) rfl (by omega) (gf:=151) (lb:=#[.pointer (some ⟨q1,0,none⟩),.pointer (some ⟨q2,0,none⟩)]) rfl trivial eg (encs:=RD) (fun _=>rfl) (Ku (A:=sep (kn I) A) (5-1) (by omega) HZ.out.2.2.2 HF.out)
  (fun ys=>Qq 36 O 23 ys) H5.out
  (fun z g t=>(t.setIfInBounds 29 (.agg z.cells.toArray)).setIfInBounds 9 (.pointer (some ⟨g,0,none⟩)))
  (fun pre z g=>sep (blk g (.cells z.cells.toArray 36 (0,0))) (Qq 36 O 23 pre)) ?assign ?body ?done
 case assign=>
  as_aux_lemma=>
  intro lp pre z w' X K hlen hS hK;simp only[lsA,lsB,lq] at hK;have h1:Sat W w' (sep (Qq 36 O 23 pre) X):=by
   exact (Sat.fact.1 (show Sat W w' (sep (Zx zl z) _) from hS.p1)).2
  obtain⟨w10,s1,h11⟩:=zn z h1 iW rfl;have h5:=hK _ w10 (by rw[aj];exact h11);have H6:=ah h5;clear hK hS h1 h11 h5 H5;dsimp only[RD] at *;gi_wp2_with fail;exact H6.out
 case body=>
  as_aux_lemma=>
  intro lp pre z gb w' X hlen hS;simp only[lsA,lsB,lq];rw[aj] at hS;obtain⟨oa,oc,h0f,h1⟩:=yU.1 hS.p1;obtain⟨n,hn⟩:=aC (pre.length);rw[←hn] at h1 hlen;have hO0:w'.cell? ⟨O,0,none⟩=some (.slice oa n oc):=h1.cell 0;have hld:=gB (fun i v hv=>(ay h1.p2 i v hv).1);have hbs:=Rl z w';have h3:=h1.alloc (.cells z.cells.toArray 36);have h4:Sat W (w'.alloc (.cells z.cells.toArray 36)) (sep (aT 36 19 oa n oc (bY pre)) (sep (blk O (.cells #[.slice oa n oc] 23 (0,0))) (sep (blk w'.heap.size (.cells z.cells.toArray 36 (0,0))) (sep (blk gb (.cells z.cells.toArray 36 (0,0))) X)))):=dI h3;have hsrc:∀b',some (⟨w'.heap.size,0,none⟩:Addr)=some b'→∀j u,z.cells[j]?=some u→(w'.alloc (.cells z.cells.toArray 36)).cell? (b'.add j)=some u:=by
   intro b' hb j u hu;cases hb;rw[show (⟨w'.heap.size,0,none⟩:Addr).add j=⟨w'.heap.size,j,none⟩ by unfold Addr.add;split<;>simp_all];exact (ay h3 j u hu).1
  have H4:=ah h4;have oD:=ah hsrc;have HN:=ah hn;clear hS h0f h1 h3 h4 hsrc hn H5;gi_wp2_with (gi_at_builtin;refine Cb rfl (.tmp 30) (.tmp 32) 23 rfl 36 19 248 _ Tryz.underlying23 qw rfl rfl H4.out rfl z.cells rfl (by simp) oD.out z.one (by omega) (by unfold maxLen;omega) ?_)
  intro oa2 oc2 w6 h6;have h7:=h6.p1;have hc0:w6.cell? ⟨O,0,none⟩=some (.slice oa n oc):=h7.cell 0;have hf:=h7.aI 0;have H8:=ah (h7.setCell 0 (.slice oa2 (n+1) oc2));clear h6 h7 H4 oD hld hbs hO0;gi_wp2_with fail;show Sat W _ _;have h9:Sat W (w6.setCell ⟨O,0,none⟩ (.slice oa2 (n+1) oc2)) (sep (blk O (.cells #[.slice oa2 (n+1) oc2] 23 (0,0))) (sep (aT 36 19 oa2 (n+1) oc2 (bY pre++z.cells)) (sep (blk w'.heap.size (.cells z.cells.toArray 36 (0,0))) (sep (blk gb (.cells z.cells.toArray 36 (0,0))) X)))):=H8.out;refine Ur HN.out (c:=oc2) (a:=oa2) ?_;have h10:=h9.p2.drop.p2.drop;exact h10
 case done=>
  as_aux_lemma=>
  intro D xs w' hxs hS;subst hxs;obtain⟨xs,hxs⟩:=aC (zl.filter (jM fs));rw[←hxs] at hS;have hxl:xs.length≤m:=by
   rw[hxs,HZ.out.2.2.2.len];exact List.length_filter_le _ _
  obtain⟨oa,oc,h0f,h1⟩:=yU.1 hS.p1;obtain⟨n,hn⟩:=aC (xs.length);rw[←hn] at h1 hxl;have hO0:w'.cell? ⟨O,0,none⟩=some (.slice oa n oc):=h1.cell 0;obtain⟨X,hX⟩:=aC (sep (blk O (.cells #[.slice oa n oc] 23 (0,0))) (sep (blk D (.deferred (some []))) (sep BK (sep CN (sep (oJ q1 q2 p (some ⟨G,0,none⟩) 2 2) A)))));have h2:Sat W w' (sep (aT 36 19 oa n oc (bY xs)) (sep (kn I) X)):=by
   rw[hX];simpa only[aA,au,aj] using h1
  have hso:=Uy HZ.out.2.2.1 g oa n oc xs hn (by omega) h0f (fun x hx=>HZ.out.2.1 x (by rw[hxs] at hx;exact (List.mem_filter.1 hx).1)) h2;have jK:=ah hso;have wL:Hid (xs=zl.filter (upTo known day)∧n=xs.length):=ah ⟨hxs.trans HZ.out.1,hn⟩;have HX:=ah hX;clear hS h0f h1 h2 hso hxs hn hX H5;go_wp2_with fail;refine jK.out.mono ?_;rintro e w6 ⟨ys,b,d,J,rfl,hp,ha,hle,hsw,hn0,hc,h6⟩;have HY:=ah (aH hp (aH ha (aH hle (aH hsw (aH hn0 hc)))));have H6:=ah h6;clear hp ha hle hsw hn0 hc h6 jK hO0;go_wp2_with fail;have h7:Sat W w6 (sep (blk D (.deferred (some []))) (sep (kn J) (sep (blk O (.cells #[.slice oa n oc] 23 (0,0))) (sep BK (sep CN (sep (oJ q1 q2 p (some ⟨G,0,none⟩) 2 2) A)))))):=by
   have h8:=H6.out;rw[HX.out] at h8;simpa only[aA,au,aj] using h8
  have hD:=h7.aO;have h8:=h7.putObj (.deferred none);refine⟨by simp,.inl ⟨_,_,rfl,run_takeDeferred hD,?_⟩⟩;refine⟨.tuple #[.slice b n d,.int .i64 0],?_,?_⟩
  ·simp[results,Tryz.results41,go_sem]
  ·rw[bK.out]
   refine⟨ys,b,n,d,J,rfl,by rw[HY.out.1.length_eq];exact wL.out.2,by rw[←wL.out.1];exact HY.out.1,HY.out.2.1,HY.out.2.2.1,HY.out.2.2.2.1,HY.out.2.2.2.2.1,HY.out.2.2.2.2.2,?_⟩;have h9:=h8.drop;have h10:Sat W (w6.putObj D (.deferred none)) (sep (blk O (.cells #[.slice oa n oc] 23 (0,0))) (sep CN (sep (oJ q1 q2 p (some ⟨G,0,none⟩) 2 2) (sep BK (sep (kn J) A))))):=dI h9;exact h10.drop.drop.drop
end
end Go.Proofs.YthfmaclnccdcbaaGreatDoor
namespace PA
open Go Go.RowKit
end PA
namespace Go.Proofs.YthfmaclnccdcbaaGreatDoor
open Go.RowKit PA
theorem zJ {w:World} {K:Ending→World→Prop} (p:Value) (known:Int) (h:Calls Tryz.prog 41 #[p,.int .i64 known,.int .i64 131072] w fun e w'=>∃b n d r,e=.returned (.tuple #[.slice b n d,.int .i64 r])∧K (.returned (.tuple #[.slice b n d,.int .i64 r])) w'):
 Calls Tryz.prog 40 #[p,.int .i64 known] w K:=by
 have H:=ah h;clear h;go_enter Tryz.func40,Tryz.ntmps40;go_wp2_with fail;refine H.out.mono ?_;rintro e w2 ⟨b,n,d,r,rfl,h2⟩;have H2:=ah h2;clear h2 H;go_wp2;exact H2.out
attribute [local go_sem ↓] aY bI aV
attribute [local go_sem ↓] aY bI aV wP ji
attribute [local go_sem] Oper.semAt_some
end Go.Proofs.YthfmaclnccdcbaaGreatDoor
namespace PA
open Go Go.RowKit
def gW (z:Ac):Pa:=⟨z.k,z.d,z.n,z.f,z.o,z.p,z.q,z.u,z.m,z.sn,z.sd,[],[],[],[],Fm.zero⟩
def KA:Ac:=⟨5,50,7,0,0,3,0,1,0,0,0,ak,ak,ak,ak,0,0,ak,ak⟩
def FN (n:Int):Ac:=⟨5,40,n,0,0,3,0,0,0,0,0,ak,ak,ak,ak,0,0,ak,ak⟩
theorem is_one (I:Mem):lT I KA (gW KA):=RX I 5 50 7 0 0 3 0 1 0 0 0
theorem WU (I:Mem) (n:Int):lT I (FN n) (gW (FN n)):=RX I 5 40 n 0 0 3 0 0 0 0 0
theorem abY:wO 0 (gW KA):=RY (by unfold jP;simp only[KA];omega)
theorem XB {n:Int} (h:jP n):wO 0 (gW (FN n)):=RY (by
 obtain⟨h1,h2⟩:=h;unfold jP;simp only[FN];omega)
theorem yX {α:Type} {l:List α} {a:α} (h:l.Perm [a]):l=[a]:=List.perm_singleton.1 h
theorem Xo {α:Type} {l:List α} {a b:α} (h:l.Perm [a,b]):l=[a,b]∨l=[b,a]:=by
 match l,h.length_eq with
 | [u,v],_=>
  have hu:u∈[a,b]:=h.mem_iff.1 (List.mem_cons_self ..);rcases List.mem_cons.1 hu with rfl|hu
  ·rw[yX ((List.perm_cons u).1 h)];exact .inl rfl
  ·obtain rfl:=vW hu
   have h2:[u,v].Perm [u,a]:=h.trans (List.Perm.swap u a []);rw[yX ((List.perm_cons u).1 h2)];exact .inr rfl
end PA
namespace Go.Proofs.YthfmaclnccdcbaaGreatDoor
open Go.RowKit PA
theorem UE:bC (gW KA)=true:=by kernel_rfl
theorem UF:bC (gW (FN 9))=true:=by kernel_rfl
theorem QK:bC (gW (FN 8))=true:=by kernel_rfl
def VQ (p:Array (Nat×Value)):Sem Value:=Instr.build 36 p
theorem Pg (p:Array (Nat×Value)):Instr.build 36 p=VQ p:=rfl
theorem TF (w:World):(VQ #[(0,.int .i64 5),(1,.int .i64 50),(2,.int .i64 7),(5,.int .i64 3),(7,.int .i64 1)]).run Tryz.prog w=.ok (.agg KA.cells.toArray) w:=by kernel_rfl
theorem TG (w:World):(VQ #[(0,.int .i64 5),(1,.int .i64 40),(2,.int .i64 9),(5,.int .i64 3)]).run Tryz.prog w=.ok (.agg (FN 9).cells.toArray) w:=by kernel_rfl
attribute [local go_sem ↓] aY bI aV Pg
theorem Y6:mV (gW KA) (gW (FN 9))=1:=by
 rw[Ru];have h1:(gW KA).d=50:=rfl;have h2:(gW (FN 9)).d=40:=rfl;rw[h1,h2,if_neg (by omega),if_pos (by omega)]
theorem Pz {J:Mem} {b:Option Addr} {z:Ac} {zs:List Ac} (h:dF b (bY (z::zs)) J):∃g o,b=some ⟨g,o,none⟩∧∀w',Ext J w'→w'.cell? ⟨g,o+1,none⟩=some (.int .i64 z.d):=by
 obtain⟨g,o,rfl,hc⟩:=lD h (by simp[bY,Ac.cells]);exact⟨g,o,rfl,fun w' he=>hc w' he 1 _ rfl⟩
set_option maxRecDepth 100000 in
set_option maxHeartbeats 8000000 in
theorem Jt {W w:World} {A:aB} (hW:fZ W) (h:Sat W w A):Calls Tryz.prog 42 #[] w fun e w'=>e=.returned (.bool true)∧Sat W w' A:=by
 obtain⟨I,hI⟩:=h.know;have UN:=ah (Hq hI);have HW:=ah hW;obtain⟨z1,hz1⟩:=aC (KA);obtain⟨z2,hz2⟩:=aC (FN 9);obtain⟨z3,hz3⟩:=aC (FN 8);have hb1:∀w',(VQ #[(0,.int .i64 5),(1,.int .i64 50),(2,.int .i64 7),(5,.int .i64 3),(7,.int .i64 1)]).run Tryz.prog w'=.ok (.agg z1.cells.toArray) w':=by rw[hz1];exact TF
 have hb2:∀w',(VQ #[(0,.int .i64 5),(1,.int .i64 40),(2,.int .i64 9),(5,.int .i64 3)]).run Tryz.prog w'=.ok (.agg z2.cells.toArray) w':=by rw[hz2];exact TG
 have HI:Hid (∀J,lT J z1 (gW z1)∧lT J z2 (gW z2)∧lT J z3 (gW z3)):=ah fun J=>by rw[hz1,hz2,hz3];exact⟨is_one J,WU J 9,WU J 8⟩
 have HS:Hid (wO 0 (gW z1)∧wO 0 (gW z2)∧wO 0 (gW z3)):=ah (by rw[hz1,hz2,hz3];exact⟨abY,XB ⟨by omega,by omega⟩,XB ⟨by omega,by omega⟩⟩);have HL:Hid (jO (kP []) z1 (gW z1)=0∧jO (kP [z1]) z2 (gW z2)=0∧jO (kP [z1,z2]) z3 (gW z3)=13∧kP [z1,z2]=9∧z1.d=50∧z2.d=40):=ah (by
  rw[hz1,hz2,hz3];refine⟨?_,?_,?_,rfl,rfl,rfl⟩
  ·unfold jO;rw[if_pos UE];rfl
  ·unfold jO;rw[if_pos UF];rfl
  ·unfold jO;rw[if_pos QK];rfl)
 have HA:Hid ([z1,z2].filter (upTo 8 131072)=[z1]∧[z1,z2].filter (upTo 9 131072)=[z1,z2]∧[z1,z2].filter (upTo 9 45)=[z2]∧mV (gW z1) (gW z2)=1):=ah (by
  rw[hz1,hz2];exact⟨rfl,rfl,rfl,Y6⟩)
 have HC:Hid (∀J,∀z∈[z1,z2],BG J z (gW z)):=ah fun J z hz=>by
  rcases List.mem_cons.1 hz with rfl|hz
  ·exact⟨(HI.out J).1,HS.out.1.szM,HS.out.1.enc (by omega)⟩
  ·rw[vW hz];exact⟨(HI.out J).2.1,HS.out.2.1.szM,HS.out.2.1.enc (by omega)⟩
 have HZ3:Hid ({z2 with n:=8}=z3):=ah (by rw[hz2,hz3];rfl);clear h hI hW hz1 hz2 hz3;go_enter Tryz.func42,Tryz.ntmps42;go_wp2_with fail;refine UN.out.mono ?_;rintro e w1 ⟨q,rfl,h1⟩;clear UN;obtain⟨w2,hst2,h2⟩:=zn z1 h1 iW rfl;obtain⟨w3,hst3,h3⟩:=zn z2 h2 iW rfl;have hl1:=gB (fun i v hv=>(ay h3.p1 i v hv).1);have h4:Sat W w3 (sep (dR q none 0 0 []) (sep (kn I) (sep (blk w1.heap.size (.cells z1.cells.toArray 36 (0,0))) (sep (blk w2.heap.size (.cells z2.cells.toArray 36 (0,0))) A)))):=dI h3;have hle:=qo HW.out q none 0 0 [] z1 (gW z1) rfl (by omega) (HI.out I).1 HS.out.1.szM h4;rw[HL.out.1,xR HL.out.1] at hle;have iL:=ah hle;clear h1 h2 h3 h4 hle;go_upto_region 5 with fail;go_upto_region 6 with fail;go_wp2_with fail;refine iL.out.mono ?_;rintro e w4 ⟨a1,n1,c1,J1,rfl,hn1,hle1,h5⟩;obtain rfl:n1=1:=hn1;have hl2:=gB (fun i v hv=>(ay h5.p3 i v hv).1);have hle:=qo HW.out q a1 1 c1 [z1] z2 (gW z2) rfl (by omega) (HI.out J1).2.1 HS.out.2.1.szM h5;rw[HL.out.2.1,xR HL.out.2.1] at hle;clear iL;have iL:=ah hle;clear hle1 h5 hle hst2 hst3 hl1 hb1 hb2;go_upto_region 7 with fail;go_wp2_with fail;refine iL.out.mono ?_;rintro e w5 ⟨a2,n2,c2,J2,rfl,hn2,hle2,h6⟩;obtain rfl:n2=2:=hn2;have h7:Sat W w5 (sep (dR q a2 2 c2 [z1,z2]) (sep (kn J2) (sep (blk w1.heap.size (.cells z1.cells.toArray 36 (0,0))) (sep (blk w2.heap.size (.cells z2.cells.toArray 36 (0,0))) A)))):=h6;have HB:=ah (jI (n:=2) (zl:=[z1,z2]) rfl h7)
 have hao:=Ri HW.out HB.out 8 131072 (by unfold Xe;omega) gW (HC.out J2) (by omega) h7;rw[HA.out.1] at hao;clear iL;have ZV:Hid (Calls Tryz.prog 40 #[.pointer (some ⟨q,0,none⟩),.int .i64 8] w5 fun e w'=>∃b d J,e=.returned (.tuple #[.slice b 1 d,.int .i64 0])∧dF b (bY [z1]) J∧Sat W w' (sep (dR q a2 2 c2 [z1,z2]) (sep (kn J) (sep (blk w1.heap.size (.cells z1.cells.toArray 36 (0,0))) (sep (blk w2.heap.size (.cells z2.cells.toArray 36 (0,0))) A))))):=ah (zJ _ _ (hao.mono (by
  rintro e w' ⟨ys,b,n,d,J,rfl,hn,hp,-,-,-,-,hc,hs⟩;obtain rfl:=yX hp;obtain rfl:n=1:=hn;exact⟨b,1,d,0,rfl,b,d,J,rfl,hc,hs⟩)))
 clear hle2 h6 h7 hao hl2;go_upto_region 8 with fail;go_wp2_with fail;refine ZV.out.mono ?_;rintro e w6 ⟨b3,d3,J3,rfl,hc3,h8⟩;have hao:=Ri HW.out HB.out 9 131072 (by unfold Xe;omega) gW (HC.out J3) (by omega) h8;rw[HA.out.2.1] at hao;have HC3:=ah hc3;clear ZV;have ZV:Hid (Calls Tryz.prog 40 #[.pointer (some ⟨q,0,none⟩),.int .i64 9] w6 fun e w'=>∃b d J,e=.returned (.tuple #[.slice b 2 d,.int .i64 0])∧Mem.le J3 J∧dF b (bY [z2,z1]) J∧Sat W w' (sep (dR q a2 2 c2 [z1,z2]) (sep (kn J) (sep (blk w1.heap.size (.cells z1.cells.toArray 36 (0,0))) (sep (blk w2.heap.size (.cells z2.cells.toArray 36 (0,0))) A))))):=ah (zJ _ _ (hao.mono (by
  rintro e w' ⟨ys,b,n,d,J,rfl,hn,hp,ha,hle,-,-,hc,hs⟩;rcases Xo hp with rfl|rfl
  ·exfalso
   have:mV (gW z1) (gW z2)≤0:=List.rel_of_pairwise_cons ha (List.mem_singleton.2 rfl);rw[HA.out.2.2.2] at this;omega
  ·obtain rfl:n=2:=hn
   exact⟨b,2,d,0,rfl,b,d,J,rfl,hle,hc,hs⟩)))
 clear h8 hao hc3;go_upto_region 9 with fail;go_wp2_with fail;refine ZV.out.mono ?_;rintro e w7 ⟨b4,d4,J4,rfl,jE,hc4,h9⟩;have hao:=Ri HW.out HB.out 9 45 (by unfold Xe;omega) gW (HC.out J4) (by omega) h9;rw[HA.out.2.2.1] at hao;have ZX:=ah (aH jE hc4);clear ZV;have ZV:=ah hao;clear h9 hao jE hc4;go_upto_region 10 with fail;go_wp2_with fail;refine ZV.out.mono ?_;rintro e w8 ⟨ys5,b5,n5,d5,J5,rfl,hn5,hp5,-,xO,-,-,hc5,h10⟩;obtain rfl:=yX hp5;obtain rfl:n5=1:=hn5;have h11:Sat W w8 (sep (blk w2.heap.size (.cells z2.cells.toArray 36 (0,0))) (sep (dR q a2 2 c2 [z1,z2]) (sep (kn J5) (sep (blk w1.heap.size (.cells z1.cells.toArray 36 (0,0))) A)))):=dI h10;have e11:=ay h11 2 _ rfl;have k11:=e11.1;have f11:=e11.2;have h12:Sat W (w8.setCell ⟨w2.heap.size,2,none⟩ (.int .i64 8)) (sep (blk w2.heap.size (.cells ({z2 with n:=8}:Ac).cells.toArray 36 (0,0))) (sep (dR q a2 2 c2 [z1,z2]) (sep (kn J5) (sep (blk w1.heap.size (.cells z1.cells.toArray 36 (0,0))) A)))):=h11.setCell 2 (.int .i64 8);rw[HZ3.out] at h12;obtain⟨w9,hw9⟩:=aC (w8.setCell ⟨w2.heap.size,2,none⟩ (.int .i64 8));rw[←hw9] at h12;have hl3:=gB (fun i v hv=>(ay h12 i v hv).1);have h13:Sat W w9 (sep (dR q a2 2 c2 [z1,z2]) (sep (kn J5) (sep (blk w2.heap.size (.cells z3.cells.toArray 36 (0,0))) (sep (blk w1.heap.size (.cells z1.cells.toArray 36 (0,0))) A)))):=dI h12;have hle:=qo HW.out q a2 2 c2 [z1,z2] z3 (gW z3) rfl (by omega) (HI.out J5).2.2 HS.out.2.2.szM h13;rw[HL.out.2.2.1,Qd (by rw[HL.out.2.2.1];decide)] at hle;have iL:=ah hle;have ZY:=ah (aH xO hc5);have HW9:=ah hw9;clear xO hc5 h10 h11 e11 h12 hw9 h13 hle ZV;go_upto_region 11 with fail;go_upto_region 12 with fail;rw[←HW9.out];go_wp2_with fail;refine iL.out.mono ?_;rintro e w10 ⟨a6,n6,c6,J6,rfl,hn6,yK,wG⟩;obtain rfl:n6=2:=hn6;obtain⟨g3,o3,rfl,d3'⟩:=Pz HC3.out;obtain⟨g4,o4,rfl,d4'⟩:=Pz ZX.out.2;obtain⟨g5,o5,rfl,d5'⟩:=Pz ZY.out.2;have x5:Ext J5 w10:=fun g o hg=>wG.p1.ext g o (yK g o hg)
 have x4:Ext J4 w10:=fun g o hg=>x5 g o (ZY.out.1 g o hg)
 have k3:=d3' w10 (fun g o hg=>x4 g o (ZX.out.1 g o hg));have k4:=d4' w10 x4;have k5:=d5' w10 x5;rw[HL.out.2.2.2.2.1] at k3;rw[HL.out.2.2.2.2.2] at k4 k5;have hnw:=nU (jI (n:=2) (zl:=[z1,z2]) rfl wG) wG;rw[HL.out.2.2.2.1] at hnw;have UN:=ah hnw;clear yK wG hnw d3' d4' d5' x5 x4 iL k11 f11 hl3;go_upto_region 13 with fail;go_wp2_with fail;refine UN.out.mono ?_;rintro e w11 ⟨rfl,h15⟩;have HLN:=ah (TQ (jI (n:=2) (zl:=[z1,z2]) rfl h15) h15);have HF:=ah h15.drop.drop.drop.drop;clear h15 UN k3 k4 k5;go_wp2_with fail;refine HLN.out.mono ?_;rintro e w12 ⟨rfl,rfl⟩;clear HLN;go_wp2;go_ret;exact⟨rfl,HF.out⟩
end Go.Proofs.YthfmaclnccdcbaaGreatDoor
namespace PA
open Go Go.RowKit
theorem OO.ok {I:Mem} {T:Int} {Rs:List (Ac×Pa)} (h:OO I T Rs):(∀z∈Rs.map (·.1),0≤z.n∧z.n≤T)∧((Rs.map (·.1)).map (·.n)).Pairwise (·≤·):=by
 constructor
 ·intro z hz
  obtain⟨p,hp,rfl⟩:=List.mem_map.1 hz;exact h.n0 p hp
 ·rw[List.map_map,List.pairwise_map]
  exact h.up
end PA
namespace Go.Proofs.YthfmaclnccdcbaaGreatDoor
open Go.RowKit PA
theorem Xf {J:Mem} {g:Ac→Pa} {zl:List Ac} (hg:pR J 2 g zl) (h0:∀z∈zl,0≤z.n) (hup:(zl.map (·.n)).Pairwise (·≤·)):sH (xZ g zl):=by
 refine Ul hg.ZI.2 (fun p hp=>?_) ?_ hg.ZI.1
 ·obtain⟨z,hz,rfl⟩:=List.mem_map.1 hp
  exact h0 z hz
 ·unfold xZ
  rw[List.pairwise_map];rw[List.pairwise_map] at hup;exact hup
theorem pR.cmp {J:Mem} {g:Ac→Pa} {zl:List Ac} (hg:pR J 2 g zl):∀z∈zl,BG J z (g z):=fun z hz=>⟨hg.is z hz,(hg.sp z hz).szM,(hg.sp z hz).enc (by omega)⟩
theorem same_g {W w:World} {A:aB} {I:Mem} {N:Nat} (hN:N≤1000) (g g':Ac→Pa) (a b:Option Addr) (n m c d:Nat) (ys zs:List Ac) (hn:n=ys.length) (hm:m=zs.length) (hn2:n≤65536) (hm2:m≤65536) (hc:dF a (bY ys) I) (hc2:dF b (bY zs) I) (h1:pR I N g ys) (h2:pR I N g' zs) (h:Sat W w (sep (kn I) A)):
 Calls Tryz.prog 23 #[.slice a n c,.slice b m d] w fun e w'=>∃J,e=.returned (.bool (lC (ys.map g) (zs.map g')))∧Mem.le I J∧Sat W w' (sep (kn J) A):=by
 have hs:=Qz a b n m c d (xZ g ys) (xZ g' zs) (by rw[hn];unfold xZ;rw[List.length_map]) (by rw[hm];unfold xZ;rw[List.length_map]) hn2 hm2 (by rw[yZ];exact hc) (by rw[yZ];exact hc2)
  (fun p hp=>⟨(h1.ZI.1 p hp).1,(h1.ZI.1 p hp).2.szA,(h1.ZI.1 p hp).2.enc hN⟩) (fun p hp=>⟨(h2.ZI.1 p hp).1,(h2.ZI.1 p hp).2.szA,(h2.ZI.1 p hp).2.enc hN⟩) h
 rw[NQ,NQ] at hs;exact hs
structure Q7 (J:Mem) (g:Ac→Pa) (zl:List Ac):Prop where
 g:pR J 2 g zl
 n0:∀z∈zl,0≤z.n∧z.n≤28
 up:(zl.map (·.n)).Pairwise (·≤·)
theorem Q7.mono {I J:Mem} {g:Ac→Pa} {zl:List Ac} (h:Q7 I g zl) (hl:Mem.le I J):Q7 J g zl:=⟨h.g.mono hl,h.n0,h.up⟩
theorem Q7.fill {J:Mem} {g:Ac→Pa} {zl:List Ac} (h:Q7 J g zl):sH (xZ g zl):=Xf h.g (fun z hz=>(h.n0 z hz).1) h.up
theorem Q7.now {J:Mem} {g:Ac→Pa} {zl:List Ac} (h:Q7 J g zl):0≤kP zl∧kP zl≤28:=by
 unfold kP;cases hl:zl.getLast? with
 | none=>simp
 | some z=>exact h.n0 z (List.mem_of_getLast? hl)
theorem Zz {zl zs:List Ac} (h:zs.map (·.n)=zl.map (·.n)):kP zs=kP zl:=by
 have e:∀l:List Ac,kP l=((l.map (·.n)).getLast?).getD 0:=fun l=>by
  unfold kP;rw[List.getLast?_map];cases l.getLast?<;>rfl
 rw[e,e,h]
def ScrP (W:World) (I:Mem) (most:Nat) (e:Ending) (w':World):Prop:=
 ∃(a:Option Addr) (n c:Nat) (zl:List Ac) (g:Ac→Pa) (J:Mem),e=.returned (.slice a n c)∧n=zl.length∧n≤most∧Mem.le I J∧Q7 J g zl∧Sat W w' (sep (aT 36 19 a n c (bY zl)) (sep (kn J) emp))
theorem GN {W w:World} (va vb:Value) (l m:List Int) (most:Nat) (hm:most≤14) (I:Mem) (hva:OM I va l) (hvb:OM I vb m) (h:Sat W w (sep (kn I) emp)):
 Calls Tryz.prog 14 #[va,.int .i64 most] w fun e w1=>∃v,e=.returned v∧Calls Tryz.prog 37 #[v,vb] w1 (ScrP W I most):=by
 refine (Fz va l most hm hva h).mono ?_;rintro e w1 ⟨a,n,c,Ls,J,rfl,hn,hnm,hn0,hle,hsp,hv,hS⟩;obtain⟨J1,hle1,afA,hS1⟩:=hS.eF.learn;refine⟨_,rfl,(NW a n c Ls hn (by omega) afA (hsp.mono hle1 (Nat.le_refl _)) hv vb m (hvb.mono (eG hle hle1)) hS1).mono ?_⟩;rintro e w2 ⟨a',c',Rs,rfl,hn2,hR,hS2⟩;obtain⟨g,hg⟩:=gen_of hR.sp hR.v;exact⟨a',n,c',Rs.map (·.1),g,J1,rfl,by rw[List.length_map];exact hn2,hnm,eG hle hle1,⟨hg,hR.ok.1,hR.ok.2⟩,hS2⟩
theorem Q7.perm {J:Mem} {g:Ac→Pa} {zl zs:List Ac} (h:Q7 J g zl) (hp:zs.Perm zl) (hm:zs.map (·.n)=zl.map (·.n)):Q7 J g zs:=⟨h.g.sub fun z hz=>hp.mem_iff.1 hz,fun z hz=>h.n0 z (hp.mem_iff.1 hz),by rw[hm];exact h.up⟩
theorem iG {I J:Mem} {b:Option Addr} {us:List Value} (h:dF b us I) (hl:Mem.le I J):dF b us J:=h.imp_right fun ⟨b0,o,cs,t,f,e,hI,hc⟩=>⟨b0,o,cs,t,f,e,hl _ _ hI,hc⟩
theorem MB {W w:World} {A:aB} {I:Mem} (hW:fZ W) (a:Option Addr) (n c:Nat) (zl:List Ac) (g:Ac→Pa) (hn:n=zl.length) (UW:n≤1000) (hc:dF a (bY zl) I) (hs:Q7 I g zl) (h:Sat W w (sep (kn I) A)):
 Calls Tryz.prog 38 #[.slice a n c] w fun e w'=>∃(p:Nat) (a':Option Addr) (c':Nat) (J:Mem),e=.returned (.pointer (some ⟨p,0,none⟩))∧Mem.le I J∧Sat W w' (sep (dR p a' n c' zl) (sep (kn J) A)):=by
 refine (MC hW a n c 2 (xZ g zl) (by unfold xZ;rw[List.length_map];exact hn) UW (by rw[yZ];exact hc) hs.g.ZI.1 h).mono ?_;rintro e w' ⟨J,hle,⟨_,p,a',c',rfl,hS⟩|⟨hno,_⟩⟩
 ·rw[yZ] at hS
  exact⟨p,a',c',J,rfl,hle,hS⟩
 ·exact absurd hs.fill hno
def Ans (W:World) (BK A:aB) (I:Mem) (g:Ac→Pa) (zl:List Ac) (P:Ac→Bool) (e:Ending) (w':World):Prop:=∃(ys:List Ac) (b:Option Addr) (n d:Nat) (J:Mem),e=.returned (.tuple #[.slice b n d,.int .i64 0])∧n=ys.length∧ys.Perm (zl.filter P)∧Asc (fun x y=>mV (g x) (g y)) ys∧Mem.le I J∧Ld b n d∧(n=0→b=none∧d=0)∧dF b (bY ys) J∧Sat W w' (sep BK (sep (kn J) A))
theorem O6 {W w:World} {A:aB} {I:Mem} (hW:fZ W) {p:Nat} {a:Option Addr} {m c:Nat} {zl:List Ac} (hm:m=zl.length) (known day:Int) (hok:Xe known day) (g:Ac→Pa) (hg:pR I 2 g zl) (h39:m<39) (h:Sat W w (sep (dR p a m c zl) (sep (kn I) A))):
 Calls Tryz.prog 41 #[.pointer (some ⟨p,0,none⟩),.int .i64 known,.int .i64 day] w (Ans W (dR p a m c zl) A I g zl (upTo known day)):=
 Ri hW (jI hm h) known day hok g (pR.cmp hg) h39 h
theorem Lm {W w:World} {A:aB} {I:Mem} (hW:fZ W) {p:Nat} {a:Option Addr} {m c:Nat} {zl:List Ac} (hm:m=zl.length) (known:Int) (hok:0≤known∧known≤1099511627776) (g:Ac→Pa) (hg:pR I 2 g zl) (h39:m<39) (h:Sat W w (sep (dR p a m c zl) (sep (kn I) A))):
 Calls Tryz.prog 40 #[.pointer (some ⟨p,0,none⟩),.int .i64 known] w (Ans W (dR p a m c zl) A I g zl (upTo known 131072)):=by
 refine zJ _ _ ((O6 hW hm known 131072 ⟨hok.1,hok.2,by omega,by omega⟩ g hg h39 h).mono ?_);rintro e w' hA;have h2:=hA;obtain⟨ys,b,n,d,J,rfl,_⟩:=h2;exact⟨b,n,d,0,rfl,hA⟩
theorem ans_g {J:Mem} {N:Nat} {g:Ac→Pa} {zl zs ys us:List Ac} {P:Ac→Bool} (hg:pR J N g zl) (hp:zs.Perm zl) (h1:ys.Perm (zl.filter P)) (h2:us.Perm (zs.filter P)) (a1:Asc (fun x y=>mV (g x) (g y)) ys) (a2:Asc (fun x y=>mV (g x) (g y)) us):pR J N g ys∧pR J N g us∧ys.length≤zl.length∧us.length≤zl.length∧lC (ys.map g) (us.map g)=true:=by
 have e1:∀z∈ys,z∈zl:=fun z hz=>(List.mem_filter.1 (h1.mem_iff.1 hz)).1
 have e2:∀z∈us,z∈zl:=fun z hz=>hp.mem_iff.1 (List.mem_filter.1 (h2.mem_iff.1 hz)).1
 refine⟨hg.sub e1,hg.sub e2,by rw[h1.length_eq];exact List.length_filter_le _ _,by rw[h2.length_eq,←hp.length_eq];exact List.length_filter_le _ _,VK a1 a2 (h1.trans ((hp.filter P).symm.trans h2.symm)) fun z hz=>hg.v z (e1 z hz)⟩
theorem Oh {W w:World} {A:aB} {I:Mem} {N:Nat} (hN:N≤1000) {g:Ac→Pa} {a b:Option Addr} {n m c d:Nat} {zl zs ys us:List Ac} {P:Ac→Bool} (hg:pR I N g zl) (UW:zl.length≤40) (hp:zs.Perm zl) (hn:n=ys.length) (hm:m=us.length) (h1:ys.Perm (zl.filter P)) (h2:us.Perm (zs.filter P)) (a1:Asc (fun x y=>mV (g x) (g y)) ys) (a2:Asc (fun x y=>mV (g x) (g y)) us) (hc:dF a (bY ys) I) (hc2:dF b (bY us) I) (h:Sat W w (sep (kn I) A)):
 Calls Tryz.prog 23 #[.slice a n c,.slice b m d] w fun e w'=>∃J,e=.returned (.bool true)∧Mem.le I J∧Sat W w' (sep (kn J) A):=by
 obtain⟨g1,g2,l1,l2,hs⟩:=ans_g hg hp h1 h2 a1 a2;refine (same_g hN g g a b n m c d ys us hn hm (by omega) (by omega) hc hc2 g1 g2 h).mono ?_;rintro e w' ⟨J,rfl,hle,hS⟩;rw[hs];exact⟨J,rfl,hle,hS⟩
theorem IB {K:Mem} (B1 B2:aB):sep B1 (sep (kn K) (sep B2 emp))=sep B2 (sep (kn K) (sep B1 emp)):=by simp only[aA,au]
section
theorem Dy {W w:World} {A:aB} {q N:Nat} {f:Nat→Ac} {tl:List Value} (h:Sat W w (sep (iC q N f tl) A)) (i:Nat) (hi:i<N) (j:Nat) (v:Value) (hj:(f i).cells[j]?=some v):w.cell? ⟨q,i*19+j,none⟩=some v:=by
 have hjl:j<19:=(qM hj).1;have h5:=Sat.cell (show Sat W w (sep (blk q (.cells (bY ((List.range N).map f)++tl).toArray 36 (0,0))) A) from h) (i*19+j);have h6:(bY ((List.range N).map f))[i*19+j]?=some v:=by
  rw[zG _ i (by simpa using hi) j hjl,List.getElem_map,List.getElem_range];exact hj
 rw[h5,List.getElem?_toArray,List.getElem?_append_left (qM h6).1,h6]
theorem sw_n (n:Nat) (f:Nat→Ac) (i j:Nat) (h:(f i).n=(f j).n):((List.range n).map (uf f i j)).map (·.n)=((List.range n).map f).map (·.n):=by
 rw[List.map_map,List.map_map];refine List.map_congr_left fun k _=>?_
 simp only[Function.comp_apply,uf];by_cases e1:k=i
 ·rw[if_pos e1,e1,h]
 ·rw[if_neg e1]
  by_cases e2:k=j
  ·rw[if_pos e2,e2,h]
  ·rw[if_neg e2]
attribute [local go_sem ↓] aY bI aV
set_option maxRecDepth 100000 in
set_option maxHeartbeats 16000000 in
theorem factsOrder_walk (a0:Option Addr) (len0 cap0:Nat) (z0:List Int) (a1:Option Addr) (len1 cap1:Nat) (z1:List Int) (a2:Option Addr) (len2 cap2:Nat) (z2:List Int) (a3:Int) (w:World) (hW:WholeOK w)
 (w0:Q5 w a0 len0 cap0 z0) (w1:Q5 w a1 len1 cap1 z1) (w2:Q5 w a2 len2 cap2 z2) (w3:(Lit.int .i64 a3).wf=true):
 Calls Tryz.prog 8 #[.slice a0 len0 cap0,.slice a1 len1 cap1,.slice a2 len2 cap2,.int .i64 a3] w fun e w'=>e=.returned (.bool true)∧Below w.heap.size w w':=by
 obtain⟨l,rfl,hr0,h64⟩:=argI w0;obtain⟨m,rfl,hr1,adb⟩:=argI w1;obtain⟨od,rfl,hr2,ade⟩:=argI w2;have Jo:=GN (.slice a0 l.length cap0) (.slice a1 m.length cap1) l m 12 (by omega) (wm w) ⟨⟨a0,cap0,rfl⟩,hr0,h64⟩ ⟨⟨a1,cap1,rfl⟩,hr1,adb⟩ (Sat.ZP w);have UO:=ah Jo;have HR2:=ah (aH hr2 ade);have adH:=(aJ hr2).2.2;have H3:=ah (Hu w3);have HW:Hid (fZ w):=ah hW;obtain⟨ll,hll⟩:=aC (l.length);obtain⟨lm,hlm⟩:=aC (m.length);obtain⟨lo,hlo⟩:=aC (od.length);rw[←hll,←hlm] at UO;rw[←hlo] at HR2 adH;rw[←hll,←hlm,←hlo];have HLO:=ah hlo;clear hr0 h64 hr1 adb hr2 ade w0 w1 w2 w3 Jo hll hlm hlo hW;go_enter Tryz.func8,Tryz.ntmps8;go_wp2_with fail;refine UO.out.mono ?_;rintro e w1 ⟨v,rfl,hv⟩;clear UO;have HV:=ah hv;clear hv;go_wp2_with fail;refine HV.out.mono ?_;rintro e w2 ⟨a,n,c,zl,g,J,rfl,hn,abA,hle,hsc,hS⟩;clear HV;have hn63:(n:Int)≤12:=by omega
 have hS1:=(hS.alloc (.cells #[] 36)).lJ 0 0 19 [] rfl (by omega) (by unfold maxLen;omega) rfl rfl;have hlen:(bY zl).length=n*19:=by rw[kS,hn]
 have hz0:a=none→n=0:=fun e=>by have:=hS.fQ;have h1:=this.2.2 e;have:=this.1;omega
 have lS:=ah (aH hlen (aH hz0 (Xl hS1.p1)));have Ci:=ah hS1;have UO:=ah (aH hn (aH hle hsc));clear hn abA hle hsc hS hS1 hlen hz0;go_upto_region 2 with fail;go_wp2_with (at_builtin;refine aK rfl _ _ 23 rfl 36 19 248 _ Tryz.underlying23 qw rfl rfl Ci.out rfl (bY zl) lS.out.1 lS.out.2.1 lS.out.2.2 (VD _) (by omega) (by unfold maxLen;omega) ?_)
 intro b c2 w3 hS3;have hS4:Sat w w3 (sep (aT 36 19 b n c2 (bY zl)) (sep (kn J) (sep (aT 36 19 a n c (bY zl)) emp))):=by
  have h1:Sat w w3 (sep (aT 36 19 b n c2 (bY zl)) (sep (aT 36 19 a n c (bY zl)) (sep (kn J) emp))):=by simpa using hS3
  simpa only[aA,au,aj] using h1
 have H4:=ah hS4;clear hS3 hS4 Ci lS;go_upto_block 0 with fail;go_cut [] from 11 to 81 (fun wx=>∃zs:List Ac,Hid (zs.Perm zl∧zs.map (·.n)=zl.map (·.n))∧Sat w wx (sep (aT 36 19 b n c2 (bY zs)) (sep (kn J) (sep (aT 36 19 a n c (bY zl)) emp))))
 case first=>
  as_aux_lemma=>
  by_cases hn1:n≤1
  ·have afL:¬(1:Int)<(n:Int):=by omega
   clear hn1;go_wp2_with fail;go_loopw [11] (fun kv wr=>∃i:Nat,kv=.int .i64 i∧i≤12∧Sat w wr (sep (aT 36 19 b n c2 (bY zl)) (sep (kn J) (sep (aT 36 19 a n c (bY zl)) emp)))) (fun kv _=>12-(intOf kv).toNat)
   case atStart=>exact⟨0,rfl,by omega,H4.out⟩
   case round=>
    obtain⟨i,rfl,hi,hS⟩:=hrel;clear H4;have HF:=ah hS;clear hS;by_cases h1:(i:Int)<(lo:Int)
    ·by_cases h2:(i:Int)<12
     ·clear hi
      go_wp2;go_meet;case rel=>exact⟨zl,ah ⟨.refl _,rfl⟩,HF.out⟩
     ·go_wp2
      go_meet;case rel=>exact⟨zl,ah ⟨.refl _,rfl⟩,HF.out⟩
    ·go_wp2
     go_meet;case rel=>exact⟨zl,ah ⟨.refl _,rfl⟩,HF.out⟩
  ·obtain⟨g0,tl,rfl,hc1,hc2,hc3,h2⟩:=NG UO.out.1.symm (by omega) H4.out
   have Cc:=ah (aH hc1 (aH hc2 hc3));have H2:=ah h2;have afL:(1:Int)<(n:Int):=by omega
   have HP0:Hid ((List.range n).map (fun i=>zl.getD i default)=zl):=ah (by rw[UO.out.1];exact xU zl);clear hc1 hc2 hc3 h2 H4 hn1;go_wp2_with fail;go_loopw [11] (fun kv wr=>∃(i:Nat) (f:Nat→Ac),kv=.int .i64 i∧i≤12∧Hid (((List.range n).map f).Perm zl∧((List.range n).map f).map (·.n)=zl.map (·.n))∧Sat w wr (sep (iC g0 n f tl) (sep (kn J) (sep (aT 36 19 a n c (bY zl)) emp)))) (fun kv _=>12-(intOf kv).toNat)
   case atStart=>exact⟨0,_,rfl,by omega,ah ⟨by rw[HP0.out],by rw[HP0.out]⟩,H2.out⟩
   case round=>
    obtain⟨i,f,rfl,hi,HPM,hS⟩:=hrel;clear H2;have HF:Hid (∃zs:List Ac,Hid (zs.Perm zl∧zs.map (·.n)=zl.map (·.n))∧Sat w wr (sep (aT 36 19 (some ⟨g0,0,none⟩) n c2 (bY zs)) (sep (kn J) (sep (aT 36 19 a n c (bY zl)) emp)))):=ah ⟨_,HPM,Ll Cc.out.1 Cc.out.2.1 Cc.out.2.2 hS⟩;by_cases h1:(i:Int)<(lo:Int)
    ·by_cases h2:(i:Int)<12
     ·clear HF
      obtain⟨x,hx⟩:∃x,od[i]?=some x:=⟨_,iM (by have:=HLO.out;omega)⟩
      obtain⟨bo,oo,hba,hcell⟩:=l9 HR2.out.1 hx;have oO:=HR2.out.2 x (mZ hx);have j0:=hcell wr (sD UO.out.2.1 hS.p1.ext);have har:=lX x ((n:Int)-1) wr oO.1 oO.2 (by omega) (by omega);have hlt:=rY x ((n:Int)-1) (by omega);obtain⟨k,hk⟩:∃k:Nat,jT x ((n:Int)-1)=(k:Int):=⟨(jT x ((n:Int)-1)).toNat,by omega⟩
      rw[hk] at har hlt;have ZW:=ah har;have hkn':k+1<n:=by omega
      obtain⟨k1,hk1⟩:=aC (k+1);have hkn:k1<n:=by omega
      have hkz:(k:Int)<(n:Int):=by omega
      have ajc:(k1:Int)<(n:Int):=by omega
      have hw1:IntKind.i64.wrap ((k:Int)+1)=(k1:Int):=by rw[show (k:Int)+1=(k1:Int) by omega];exact IntWalk.i64_in _ (by omega)
      have hnk:k<n:=by omega
      have HI:Hid (i<12):=ah (by omega);have HS:=ah hS;subst hba;clear hx hcell oO har hk hlt hi hS hkn' hk1;have HKN:=ah hkn;have HNK:=ah hnk;clear hkn hnk;go_upto_region 6 with fail;go_wp2_with fail;refine ZW.out.mono ?_;rintro e w4 ⟨rfl,rfl⟩;clear ZW j0;have hd:=HS.out.drew;obtain⟨wd,hwd⟩:=aC (wr.drew);rw[←hwd] at hd;have j1:=Dy hd k HNK.out 2 _ rfl;have j2:=Dy hd k1 HKN.out 2 _ rfl;have jY:=ah hwd;have HD:=ah hd;clear hd hwd;go_upto_region 7 with fail;go_cut [65] from 54 to 64 (fun bv wx=>bv=.bool ((f k).n==(f k1).n)∧wx=wd)
      case first=>
       as_aux_lemma=>
       refine aG rfl (fun _=>True) [(0,.p),(1,.p),(2,.p),(3,.p),(4,.t),(5,.p),(6,.p),(7,.p),(8,.p),(9,.p),(10,.t),(11,.p)] (by kernel_rfl) ?_;rw[←jY.out];have hS0:True:=trivial;refine bG ?_;refine dJ ?_;go_wp2;go_meet;case rel=>exact⟨rfl,rfl⟩
      obtain⟨rfl,rfl⟩:=hcut;clear j1 j2;by_cases heq:(f k).n=(f k1).n
      ·have hb:((f k).n==(f k1).n)=true:=by simpa using heq
       rw[hb];have hd2:=HD.out.drew;obtain⟨we,hwe⟩:=aC (wc.drew);rw[←hwe] at hd2;have hl1:=Lj hd2 k HNK.out;have hl2:=Lj hd2 k1 HKN.out;obtain⟨wA,hsA,hA⟩:=vF hd2 k HNK.out (f k1);obtain⟨wB,hsB,hB⟩:=vF hA k1 HKN.out (f k);rw[Kq f k k1] at hB;have st1:=xk hsA;have st2:=xk hsB;have ae0:Hid (((List.range n).map (uf f k1 k)).Perm zl∧((List.range n).map (uf f k1 k)).map (·.n)=zl.map (·.n)):=ah ⟨(Oq n f k1 k HKN.out HNK.out).trans HPM.out.1,(sw_n n f k1 k heq.symm).trans HPM.out.2⟩;have HB:=ah hB;have HWE:=ah hwe;clear hb heq hd2 hwe hsA hA hsB hB;go_upto_region 8 with fail;refine aG rfl (fun _=>True) [(0,.p),(1,.p),(2,.p),(3,.p),(4,.p),(5,.p),(6,.p),(7,.p),(8,.p),(9,.t),(10,.p),(11,.p),(12,.p),(13,.t),(14,.p),(15,.e false),(16,.p),(17,.e false)] (by kernel_rfl) ?_;rw[←HWE.out];have hS0:True:=trivial;refine bG ?_
       (refine jJ rfl rfl (fun K hK=>?_);go_simp)
       refine dY ?_;clear hK K;refine bG ?_
       (refine jJ rfl rfl (fun K hK=>?_);go_simp)
       refine dY ?_;clear hK K;refine dJ ?_;clear hl1 hl2 st1 st2;go_wp2;go_roundw;case rel=>exact⟨i+1,_,by go_num,by have:=HI.out;omega,ae0,HB.out⟩
       case measure=>simp[intOf];have:=HI.out;omega
      ·have hb:((f k).n==(f k1).n)=false:=by simpa using heq
       rw[hb];clear hb heq;go_wp2;go_roundw;case rel=>exact⟨i+1,f,by go_num,by have:=HI.out;omega,HPM,HD.out⟩
       case measure=>simp[intOf];have:=HI.out;omega
     ·clear hS
      go_wp2;go_meet;case rel=>exact HF.out
    ·clear hS
     go_wp2;go_meet;case rel=>exact HF.out
 clear H4;obtain⟨zs,Vt,hS⟩:=hcut;obtain⟨J1,hle1,hcb,hS1⟩:=hS.eF.learn;have hS2:Sat w wc (sep (aT 36 19 a n c (bY zl)) (sep (kn J1) emp)):=dI hS1;obtain⟨J2,hle2,hca,hS3⟩:=hS2.eF.learn;have Jo:Q7 J2 g zl:=UO.out.2.2.mono (eG hle1 hle2);have aaG:Q7 J2 g zs:=Jo.perm Vt.out.1 Vt.out.2;have hlen:n=zs.length:=by rw[Vt.out.1.length_eq];exact UO.out.1
 obtain⟨T,hT⟩:=aC (kP zl);have hTs:kP zs=T:=by rw[hT];exact Zz Vt.out.2
 have hT0:0≤T:=by rw[hT];exact Jo.now.1
 have ai3:T≤28:=by rw[hT];exact Jo.now.2
 have HT:=ah (aH hT hTs);have HF:=ah (MB HW.out a n c zl g UO.out.1 (by omega) hca Jo hS3);have HQ:=ah (aH (iG hcb hle2) (aH aaG (aH hlen (aH UO.out.1 (aH Jo Vt.out.1)))));clear hS hS1 hS2 hS3 hle1 hle2 hcb hca Jo aaG hlen hT hTs UO Vt;go_wp2_with fail;refine HF.out.mono ?_;rintro e w4 ⟨p,pa,pc,J3,rfl,hle3,h4⟩;have HF2:=ah (MB HW.out b n c2 zs g HQ.out.2.2.1 (by omega) (iG HQ.out.1 hle3) (HQ.out.2.1.mono hle3) (show Sat w w4 (sep (kn J3) (sep (dR p pa n pc zl) emp)) by simpa only[aA,au,aj] using h4));have XW:=ah hle3;clear h4 hle3 HF;go_wp2_with fail;refine HF2.out.mono ?_;rintro e w5 ⟨q,qa,qc,J4,rfl,jE,h5⟩;have hN1:=nU (jI HQ.out.2.2.1 h5) h5;rw[HT.out.2] at hN1;have HG:=ah (aH HQ.out.2.2.1 (aH HQ.out.2.2.2.1 (aH (HQ.out.2.2.2.2.1.g.mono (eG XW.out jE)) HQ.out.2.2.2.2.2)));have hs5:Sat w w5 (sep (dR p pa n pc zl) (sep (kn J4) (sep (dR q qa n qc zs) emp))):=by rw[IB];exact h5
 have Zi:=nU (jI HG.out.2.1 hs5) hs5;rw[←HT.out.1] at Zi;have pJ:=ah Zi;clear hN1 Zi h5 hs5 jE XW HQ HF2;go_wp2_with fail;refine pJ.out.mono ?_;rintro e w6 ⟨rfl,h6⟩;have h6':Sat w w6 (sep (dR q qa n qc zs) (sep (kn J4) (sep (dR p pa n pc zl) emp))):=by rw[IB];exact h6
 have hN3:=nU (jI HG.out.1 h6') h6';rw[HT.out.2] at hN3;have yB:=ah hN3;clear hN3 h6 h6' pJ;go_wp2_with fail;refine yB.out.mono ?_;rintro e w7 ⟨rfl,h7⟩;have H7:Hid (Sat w w7 (sep (dR p pa n pc zl) (sep (kn J4) (sep (dR q qa n qc zs) emp)))):=ah (by rw[IB];exact h7);clear h7 yB;go_wp2_with fail;go_loopw [15] (fun kv wr=>∃(i:Int) (K:Mem),kv=.int .i64 i∧0≤i∧i≤T+1∧Hid (Mem.le J4 K)∧Sat w wr (sep (dR p pa n pc zl) (sep (kn K) (sep (dR q qa n qc zs) emp)))) (fun kv _=>(T+1-intOf kv).toNat)
 case atStart=>exact⟨0,J4,rfl,by omega,by omega,ah (bW _),H7.out⟩
 case round=>
  obtain⟨i,K,rfl,hi0,hi1,HK,hS⟩:=hrel;clear H7;have hN4:=nU (jI HG.out.2.1 hS) hS;rw[←HT.out.1] at hN4;have XY:=ah hN4;clear hN4 hS;go_wp2_with fail;refine XY.out.mono ?_;rintro e w8 ⟨rfl,h8⟩;have H8:=ah h8;clear h8 XY;by_cases hiT:i≤T
  ·have HX:=ah (Lm HW.out HG.out.2.1 i ⟨hi0,by omega⟩ g (HG.out.2.2.1.mono HK.out) (by omega) H8.out)
   clear hi1;go_wp2_with fail;refine HX.out.mono ?_;rintro e w9 ⟨xs1,b1,n1,d1,K1,rfl,hn1,hp1,ha1,hle1,afZ,hz1,hc1,h9⟩;rw[IB] at h9;have hl1:=eG HK.out hle1;have QZ:=ah (Lm HW.out HG.out.1 i ⟨hi0,by omega⟩ g ((HG.out.2.2.1.mono hl1).sub fun z hz=>HG.out.2.2.2.mem_iff.1 hz) (by omega) h9);have HA1:=ah (aH hn1 (aH hp1 (aH ha1 (aH hl1 hc1))));clear hn1 hp1 ha1 hle1 afZ hz1 hc1 h9 hl1 HX H8;go_wp2_with fail;refine QZ.out.mono ?_;rintro e w10 ⟨xs2,b2,n2,d2,K2,rfl,hn2,hp2,ha2,hle2,Zo,hz2,hc2,h10⟩;rw[IB] at h10;have hc1:=iG HA1.out.2.2.2.2 hle2;have hl2:=eG HA1.out.2.2.2.1 hle2;have har:=lX a3 131073 w10 H3.out.1 H3.out.2 (by omega) (by omega);have hlt:=rY a3 131073 (by omega);obtain⟨dy,hdy⟩:=aC (jT a3 131073);rw[←hdy] at har hlt;have HA2:=ah (aH hn2 (aH hp2 (aH ha2 (aH hl2 (aH hc2 (aH hc1 h10))))));have ZW:=ah har;have HDY:=ah hdy;have KF:=ah hlt;clear hn2 hp2 ha2 hle2 Zo hz2 hc2 h10 hc1 hl2 har hdy hlt QZ;go_wp2_with fail;refine ZW.out.mono ?_;rintro e w11 ⟨rfl,rfl⟩;have HX:=ah (O6 HW.out HG.out.2.1 i dy ⟨hi0,by omega,KF.out.1,by have:=KF.out.2;omega⟩ g (HG.out.2.2.1.mono HA2.out.2.2.2.1) (by omega) HA2.out.2.2.2.2.2.2);clear ZW;go_wp2_with fail;refine HX.out.mono ?_;rintro e w12 ⟨xs3,b3,n3,d3,K3,rfl,hn3,hp3,ha3,hle3,af0,hz3,hc3,h12⟩;rw[IB] at h12;have hl3:=eG HA2.out.2.2.2.1 hle3;have QZ:=ah (O6 HW.out HG.out.1 i dy ⟨hi0,by omega,KF.out.1,by have:=KF.out.2;omega⟩ g ((HG.out.2.2.1.mono hl3).sub fun z hz=>HG.out.2.2.2.mem_iff.1 hz) (by omega) h12);have hc1:=iG HA2.out.2.2.2.2.2.1 hle3;have hc2:=iG HA2.out.2.2.2.2.1 hle3;have har:=lX a3 131073 w12 H3.out.1 H3.out.2 (by omega) (by omega);rw[←HDY.out] at har;have ZW:=ah har;have IQ:=ah (aH hn3 (aH hp3 (aH ha3 (aH hl3 (aH hc3 (aH hc1 hc2))))));clear hn3 hp3 ha3 hle3 af0 hz3 hc3 hc1 hc2 h12 hl3 HX har;go_wp2_with fail;refine ZW.out.mono ?_;rintro e Yt ⟨rfl,rfl⟩;clear ZW;go_wp2_with fail;refine QZ.out.mono ?_
   rintro e w14 ⟨xs4,b4,n4,d4,K4,rfl,hn4,hp4,ha4,jE,af2,hz4,hc4,wG⟩;have hl4:=eG IQ.out.2.2.2.1 jE;have ac9:Sat w w14 (sep (kn K4) (sep (dR p pa n pc zl) (sep (dR q qa n qc zs) emp))):=dI wG;have Ci:=ah (Oh (by omega) (c:=d1) (d:=d2) (HG.out.2.2.1.mono hl4) (by rw[←HG.out.2.1];omega) HG.out.2.2.2 HA1.out.1 HA2.out.1 HA1.out.2.1 HA2.out.2.1 HA1.out.2.2.1 HA2.out.2.2.1 (iG IQ.out.2.2.2.2.2.1 jE) (iG IQ.out.2.2.2.2.2.2 jE) ac9);have HA4:=ah (aH hn4 (aH hp4 (aH ha4 (aH hl4 (aH hc4 (iG IQ.out.2.2.2.2.1 jE))))));clear hn4 hp4 ha4 jE af2 hz4 hc4 wG ac9 hl4 QZ;go_wp2_with fail;refine Ci.out.mono ?_;rintro e w15 ⟨K5,rfl,xO,h15⟩;have HS2:=ah (Oh (by omega) (c:=d3) (d:=d4) (HG.out.2.2.1.mono (eG HA4.out.2.2.2.1 xO)) (by rw[←HG.out.2.1];omega) HG.out.2.2.2 IQ.out.1 HA4.out.1 IQ.out.2.1 HA4.out.2.1 IQ.out.2.2.1 HA4.out.2.2.1 (iG HA4.out.2.2.2.2.2 xO) (iG HA4.out.2.2.2.2.1 xO) h15);have HL5:=ah (eG HA4.out.2.2.2.1 xO);clear xO h15 Ci;go_wp2_with fail;refine HS2.out.mono ?_;rintro e w16 ⟨K6,rfl,yK,h16⟩;have SL:Hid (Mem.le J4 K6∧Sat w w16 (sep (dR p pa n pc zl) (sep (kn K6) (sep (dR q qa n qc zs) emp)))):=ah ⟨eG HL5.out yK,by simpa only[aA,au,aj] using h16⟩;clear yK h16 HS2 HL5;go_wp2;go_roundw;case rel=>exact⟨i+1,K6,by go_num,by omega,by omega,ah SL.out.1,SL.out.2⟩
   case measure=>simp[intOf];omega
  ·clear hi1
   have HLV:=ah (Jt HW.out H8.out);clear H8;go_wp2_with fail;refine HLV.out.mono ?_;rintro e w9 ⟨rfl,h9⟩;have HB:=ah h9.below;clear h9 HLV;go_wp2;go_ret;exact⟨rfl,HB.out⟩
end
end Go.Proofs.YthfmaclnccdcbaaGreatDoor
