/- Part of a proof. -/
import Derived.Test.YthfmaclnccdcbaaGreatDoorZFO22
namespace PA
open Go Go.RowKit
def qj:List Int:=[655,1,1,257,61,20,17,17,49,17,1,1,5,281,5,257,77,29,17,1024,18,50]
def fZ (W:World):Prop:=∀(k:Nat) (r:Int),qj[k]?=some r→W.cell? ⟨0,k,none⟩=some (.int .i64 r)
theorem DL {W w:World} {A:aB} (h:Sat W w A) {b i:Nat} {v:Value} (hc:W.cell? ⟨b,i,none⟩=some v):w.cell? ⟨b,i,none⟩=some v:=by
 obtain⟨-,-,-,I,m,h4,h5,-,-⟩:=h;have hh:∀o,W.heap[b]?=some o→w.heap[b]?=some o:=fun o ho=>h5 _ _ (h4 _ _ ho)
 cases ho:W.heap[b]? with
 | none=>simp[World.cell?,ho] at hc
 | some o=>simp only[World.cell?,ho,hh o ho] at hc ⊢;exact hc
theorem qY:∀p∈insL,p.1∈[0,4,8,12,16,20,24,29,40,45,50,69]:=by decide
theorem I7:∀p∈insL,0∈fG p.1:=by decide
theorem bQ {W w:World} {B:Nat→Bool} {X:aB} {f:Nat→Option Value} {u v:Value} (p:Nat×Int×Nat) (hp:p∈insL) (h:Sat W w (oH B X (fO f p.1 u))):Sat W w (oH B X (fO f p.1 v)):=by
 have hne:=Eo p hp;have e:yQ B (fO f p.1 v)=yQ B (fO f p.1 u):=by
  funext k;cases hq:insL.find? (fun p=>p.2.1==k) with
  | none=>rw[qx hq,qx hq]
  | some q=>
   rw[nH hq,nH hq];unfold fO;split<;>rfl
 have e0:fO f p.1 v 0=fO f p.1 u 0:=by rw[aN (Ne.symm hne),aN (Ne.symm hne)]
 unfold oH at h ⊢;rw[e0,e];exact h
def gI (V:Nat→Bool):BitVec 64:=
 (if V 0=true then 1#64 else 0#64) ||| (if V 1=true then 2#64 else 0#64) ||| (if V 2=true then 4#64 else 0#64) ||| (if V 3=true then 8#64 else 0#64) ||| (if V 4=true then 16#64 else 0#64) ||| (if V 5=true then 32#64 else 0#64) |||
 (if V 6=true then 64#64 else 0#64) ||| (if V 7=true then 128#64 else 0#64) ||| (if V 8=true then 256#64 else 0#64) ||| (if V 9=true then 512#64 else 0#64) ||| (if V 10=true then 1024#64 else 0#64)
def lg:Nat→Int
 | 0=>1|1=>2|2=>4|3=>8|4=>16|5=>32|6=>64|7=>128|8=>256|9=>512|_=>1024
theorem uw {V U:Nat→Bool} (h:∀i,i<11→V i=U i):gI V=gI U:=by
 unfold gI;rw[h 0 (by omega),h 1 (by omega),h 2 (by omega),h 3 (by omega),h 4 (by omega),h 5 (by omega),h 6 (by omega),h 7 (by omega),h 8 (by omega),h 9 (by omega),h 10 (by omega)]
theorem O9 {V:Nat→Bool} (h:∀i,i<11→V i=false):gI V=0#64:=by
 rw[uw (U:=fun _=>false) h];decide
theorem WX {B:Nat→Bool} {k:Int} {v:Value} (h:mapA B k=some v):∃i,i<11∧k=lg i∧v=.bool (B i):=by
 unfold mapA at h;cases hq:insL.find? (fun p=>p.2.1==k) with
 | none=>rw[hq] at h;cases h
 | some q=>
  rw[hq] at h;obtain⟨h1,h2⟩:=qZ hq;have h3:∀q∈insL,q.2.2<11∧q.2.1=lg q.2.2:=by decide
  simp only[Option.map_some,Option.some.injEq] at h;exact⟨q.2.2,(h3 q h1).1,by rw[←h2];exact (h3 q h1).2,h.symm⟩
theorem Uc (B:Nat→Bool):∀i,i<11→(mapA B (lg i)).isSome=true:=by
 intro i hi;rcases (by omega:i=0∨i=1∨i=2∨i=3∨i=4∨i=5∨i=6∨i=7∨i=8∨i=9∨i=10) with rfl|rfl|rfl|rfl|rfl|rfl|rfl|rfl|rfl|rfl|rfl<;>rfl
theorem Nl:∀i,i<11→∀j,j<11→lg i=lg j→i=j:=by decide
theorem Lr (V:Nat→Bool):(gI V).toNat<2 ^ 11:=by
 unfold gI;simp only[BitVec.toNat_or]
 repeat' apply Nat.or_lt_two_pow
 all_goals (split<;>decide)
theorem YR (x1 x2 x3 x4 x5 x6 x7 x8 x9 x10:BitVec 64):(if true=true then 1#64 else 0#64) ||| x1 ||| x2 ||| x3 ||| x4 ||| x5 ||| x6 ||| x7 ||| x8 ||| x9 ||| x10=((if false=true then 1#64 else 0#64) ||| x1 ||| x2 ||| x3 ||| x4 ||| x5 ||| x6 ||| x7 ||| x8 ||| x9 ||| x10) ||| 1#64:=by
 rw[if_pos rfl,if_neg (by decide)];ext i;simp only[BitVec.getElem_or,BitVec.getElem_zero,Bool.false_or]
 try ac_rfl
theorem YS (x0 x2 x3 x4 x5 x6 x7 x8 x9 x10:BitVec 64):x0 ||| (if true=true then 2#64 else 0#64) ||| x2 ||| x3 ||| x4 ||| x5 ||| x6 ||| x7 ||| x8 ||| x9 ||| x10=(x0 ||| (if false=true then 2#64 else 0#64) ||| x2 ||| x3 ||| x4 ||| x5 ||| x6 ||| x7 ||| x8 ||| x9 ||| x10) ||| 2#64:=by
 rw[if_pos rfl,if_neg (by decide)];ext i;simp only[BitVec.getElem_or,BitVec.getElem_zero,Bool.or_false]
 try ac_rfl
theorem YT (x0 x1 x3 x4 x5 x6 x7 x8 x9 x10:BitVec 64):x0 ||| x1 ||| (if true=true then 4#64 else 0#64) ||| x3 ||| x4 ||| x5 ||| x6 ||| x7 ||| x8 ||| x9 ||| x10=(x0 ||| x1 ||| (if false=true then 4#64 else 0#64) ||| x3 ||| x4 ||| x5 ||| x6 ||| x7 ||| x8 ||| x9 ||| x10) ||| 4#64:=by
 rw[if_pos rfl,if_neg (by decide)];ext i;simp only[BitVec.getElem_or,BitVec.getElem_zero,Bool.or_false]
 try ac_rfl
theorem YU (x0 x1 x2 x4 x5 x6 x7 x8 x9 x10:BitVec 64):x0 ||| x1 ||| x2 ||| (if true=true then 8#64 else 0#64) ||| x4 ||| x5 ||| x6 ||| x7 ||| x8 ||| x9 ||| x10=(x0 ||| x1 ||| x2 ||| (if false=true then 8#64 else 0#64) ||| x4 ||| x5 ||| x6 ||| x7 ||| x8 ||| x9 ||| x10) ||| 8#64:=by
 rw[if_pos rfl,if_neg (by decide)];ext i;simp only[BitVec.getElem_or,BitVec.getElem_zero,Bool.or_false]
 try ac_rfl
theorem YV (x0 x1 x2 x3 x5 x6 x7 x8 x9 x10:BitVec 64):x0 ||| x1 ||| x2 ||| x3 ||| (if true=true then 16#64 else 0#64) ||| x5 ||| x6 ||| x7 ||| x8 ||| x9 ||| x10=(x0 ||| x1 ||| x2 ||| x3 ||| (if false=true then 16#64 else 0#64) ||| x5 ||| x6 ||| x7 ||| x8 ||| x9 ||| x10) ||| 16#64:=by
 rw[if_pos rfl,if_neg (by decide)];ext i;simp only[BitVec.getElem_or,BitVec.getElem_zero,Bool.or_false]
 try ac_rfl
theorem YW (x0 x1 x2 x3 x4 x6 x7 x8 x9 x10:BitVec 64):x0 ||| x1 ||| x2 ||| x3 ||| x4 ||| (if true=true then 32#64 else 0#64) ||| x6 ||| x7 ||| x8 ||| x9 ||| x10=(x0 ||| x1 ||| x2 ||| x3 ||| x4 ||| (if false=true then 32#64 else 0#64) ||| x6 ||| x7 ||| x8 ||| x9 ||| x10) ||| 32#64:=by
 rw[if_pos rfl,if_neg (by decide)];ext i;simp only[BitVec.getElem_or,BitVec.getElem_zero,Bool.or_false]
 try ac_rfl
theorem YX (x0 x1 x2 x3 x4 x5 x7 x8 x9 x10:BitVec 64):x0 ||| x1 ||| x2 ||| x3 ||| x4 ||| x5 ||| (if true=true then 64#64 else 0#64) ||| x7 ||| x8 ||| x9 ||| x10=(x0 ||| x1 ||| x2 ||| x3 ||| x4 ||| x5 ||| (if false=true then 64#64 else 0#64) ||| x7 ||| x8 ||| x9 ||| x10) ||| 64#64:=by
 rw[if_pos rfl,if_neg (by decide)];ext i;simp only[BitVec.getElem_or,BitVec.getElem_zero,Bool.or_false]
 try ac_rfl
theorem YZ (x0 x1 x2 x3 x4 x5 x6 x8 x9 x10:BitVec 64):x0 ||| x1 ||| x2 ||| x3 ||| x4 ||| x5 ||| x6 ||| (if true=true then 128#64 else 0#64) ||| x8 ||| x9 ||| x10=(x0 ||| x1 ||| x2 ||| x3 ||| x4 ||| x5 ||| x6 ||| (if false=true then 128#64 else 0#64) ||| x8 ||| x9 ||| x10) ||| 128#64:=by
 rw[if_pos rfl,if_neg (by decide)];ext i;simp only[BitVec.getElem_or,BitVec.getElem_zero,Bool.or_false]
 try ac_rfl
theorem Y0 (x0 x1 x2 x3 x4 x5 x6 x7 x9 x10:BitVec 64):x0 ||| x1 ||| x2 ||| x3 ||| x4 ||| x5 ||| x6 ||| x7 ||| (if true=true then 256#64 else 0#64) ||| x9 ||| x10=(x0 ||| x1 ||| x2 ||| x3 ||| x4 ||| x5 ||| x6 ||| x7 ||| (if false=true then 256#64 else 0#64) ||| x9 ||| x10) ||| 256#64:=by
 rw[if_pos rfl,if_neg (by decide)];ext i;simp only[BitVec.getElem_or,BitVec.getElem_zero,Bool.or_false]
 try ac_rfl
theorem Y1 (x0 x1 x2 x3 x4 x5 x6 x7 x8 x10:BitVec 64):x0 ||| x1 ||| x2 ||| x3 ||| x4 ||| x5 ||| x6 ||| x7 ||| x8 ||| (if true=true then 512#64 else 0#64) ||| x10=(x0 ||| x1 ||| x2 ||| x3 ||| x4 ||| x5 ||| x6 ||| x7 ||| x8 ||| (if false=true then 512#64 else 0#64) ||| x10) ||| 512#64:=by
 rw[if_pos rfl,if_neg (by decide)];ext i;simp only[BitVec.getElem_or,BitVec.getElem_zero,Bool.or_false]
 try ac_rfl
theorem VP (x0 x1 x2 x3 x4 x5 x6 x7 x8 x9:BitVec 64):x0 ||| x1 ||| x2 ||| x3 ||| x4 ||| x5 ||| x6 ||| x7 ||| x8 ||| x9 ||| (if true=true then 1024#64 else 0#64)=(x0 ||| x1 ||| x2 ||| x3 ||| x4 ||| x5 ||| x6 ||| x7 ||| x8 ||| x9 ||| (if false=true then 1024#64 else 0#64)) ||| 1024#64:=by
 rw[if_pos rfl,if_neg (by decide)];ext i;simp only[BitVec.getElem_or,BitVec.getElem_zero,Bool.or_false]
 try ac_rfl
theorem Tv {V U:Nat→Bool} {i:Nat} (hi:i<11) (h:∀j,j<11→j≠i→U j=V j) (h1:U i=true) (h0:V i=false):gI U=gI V ||| BitVec.ofInt 64 (lg i):=by
 rcases (by omega:i=0∨i=1∨i=2∨i=3∨i=4∨i=5∨i=6∨i=7∨i=8∨i=9∨i=10) with rfl|rfl|rfl|rfl|rfl|rfl|rfl|rfl|rfl|rfl|rfl
 ·unfold gI;rw[h1,h0,h 1 (by omega) (by omega),h 2 (by omega) (by omega),h 3 (by omega) (by omega),h 4 (by omega) (by omega),h 5 (by omega) (by omega),h 6 (by omega) (by omega),h 7 (by omega) (by omega),h 8 (by omega) (by omega),h 9 (by omega) (by omega),h 10 (by omega) (by omega),show BitVec.ofInt 64 (lg 0)=1#64 from rfl];exact YR _ _ _ _ _ _ _ _ _ _
 ·unfold gI;rw[h1,h0,h 0 (by omega) (by omega),h 2 (by omega) (by omega),h 3 (by omega) (by omega),h 4 (by omega) (by omega),h 5 (by omega) (by omega),h 6 (by omega) (by omega),h 7 (by omega) (by omega),h 8 (by omega) (by omega),h 9 (by omega) (by omega),h 10 (by omega) (by omega),show BitVec.ofInt 64 (lg 1)=2#64 from rfl];exact YS _ _ _ _ _ _ _ _ _ _
 ·unfold gI;rw[h1,h0,h 0 (by omega) (by omega),h 1 (by omega) (by omega),h 3 (by omega) (by omega),h 4 (by omega) (by omega),h 5 (by omega) (by omega),h 6 (by omega) (by omega),h 7 (by omega) (by omega),h 8 (by omega) (by omega),h 9 (by omega) (by omega),h 10 (by omega) (by omega),show BitVec.ofInt 64 (lg 2)=4#64 from rfl];exact YT _ _ _ _ _ _ _ _ _ _
 ·unfold gI;rw[h1,h0,h 0 (by omega) (by omega),h 1 (by omega) (by omega),h 2 (by omega) (by omega),h 4 (by omega) (by omega),h 5 (by omega) (by omega),h 6 (by omega) (by omega),h 7 (by omega) (by omega),h 8 (by omega) (by omega),h 9 (by omega) (by omega),h 10 (by omega) (by omega),show BitVec.ofInt 64 (lg 3)=8#64 from rfl];exact YU _ _ _ _ _ _ _ _ _ _
 ·unfold gI;rw[h1,h0,h 0 (by omega) (by omega),h 1 (by omega) (by omega),h 2 (by omega) (by omega),h 3 (by omega) (by omega),h 5 (by omega) (by omega),h 6 (by omega) (by omega),h 7 (by omega) (by omega),h 8 (by omega) (by omega),h 9 (by omega) (by omega),h 10 (by omega) (by omega),show BitVec.ofInt 64 (lg 4)=16#64 from rfl];exact YV _ _ _ _ _ _ _ _ _ _
 ·unfold gI;rw[h1,h0,h 0 (by omega) (by omega),h 1 (by omega) (by omega),h 2 (by omega) (by omega),h 3 (by omega) (by omega),h 4 (by omega) (by omega),h 6 (by omega) (by omega),h 7 (by omega) (by omega),h 8 (by omega) (by omega),h 9 (by omega) (by omega),h 10 (by omega) (by omega),show BitVec.ofInt 64 (lg 5)=32#64 from rfl];exact YW _ _ _ _ _ _ _ _ _ _
 ·unfold gI;rw[h1,h0,h 0 (by omega) (by omega),h 1 (by omega) (by omega),h 2 (by omega) (by omega),h 3 (by omega) (by omega),h 4 (by omega) (by omega),h 5 (by omega) (by omega),h 7 (by omega) (by omega),h 8 (by omega) (by omega),h 9 (by omega) (by omega),h 10 (by omega) (by omega),show BitVec.ofInt 64 (lg 6)=64#64 from rfl];exact YX _ _ _ _ _ _ _ _ _ _
 ·unfold gI;rw[h1,h0,h 0 (by omega) (by omega),h 1 (by omega) (by omega),h 2 (by omega) (by omega),h 3 (by omega) (by omega),h 4 (by omega) (by omega),h 5 (by omega) (by omega),h 6 (by omega) (by omega),h 8 (by omega) (by omega),h 9 (by omega) (by omega),h 10 (by omega) (by omega),show BitVec.ofInt 64 (lg 7)=128#64 from rfl];exact YZ _ _ _ _ _ _ _ _ _ _
 ·unfold gI;rw[h1,h0,h 0 (by omega) (by omega),h 1 (by omega) (by omega),h 2 (by omega) (by omega),h 3 (by omega) (by omega),h 4 (by omega) (by omega),h 5 (by omega) (by omega),h 6 (by omega) (by omega),h 7 (by omega) (by omega),h 9 (by omega) (by omega),h 10 (by omega) (by omega),show BitVec.ofInt 64 (lg 8)=256#64 from rfl];exact Y0 _ _ _ _ _ _ _ _ _ _
 ·unfold gI;rw[h1,h0,h 0 (by omega) (by omega),h 1 (by omega) (by omega),h 2 (by omega) (by omega),h 3 (by omega) (by omega),h 4 (by omega) (by omega),h 5 (by omega) (by omega),h 6 (by omega) (by omega),h 7 (by omega) (by omega),h 8 (by omega) (by omega),h 10 (by omega) (by omega),show BitVec.ofInt 64 (lg 9)=512#64 from rfl];exact Y1 _ _ _ _ _ _ _ _ _ _
 ·unfold gI;rw[h1,h0,h 0 (by omega) (by omega),h 1 (by omega) (by omega),h 2 (by omega) (by omega),h 3 (by omega) (by omega),h 4 (by omega) (by omega),h 5 (by omega) (by omega),h 6 (by omega) (by omega),h 7 (by omega) (by omega),h 8 (by omega) (by omega),h 9 (by omega) (by omega),show BitVec.ofInt 64 (lg 10)=1024#64 from rfl];exact VP _ _ _ _ _ _ _ _ _ _
theorem Bo (M:BitVec 64):BitVec.ofInt 64 ((M.toNat:Nat):Int)=M:=by
 rw[BitVec.ofInt_natCast];simp
theorem wrap_small {n:Nat} (h:n<2 ^ 11):IntKind.i64.wrap (n:Int)=(n:Int):=IntWalk.i64_in _ (by omega)
theorem TA {V U:Nat→Bool} {i:Nat} (hi:i<11) (h:∀j,j<11→j≠i→U j=V j) (h1:U i=true) (h0:V i=false):bits BinOp.or IntKind.i64 (((gI V).toNat:Nat):Int) (lg i)=(((gI U).toNat:Nat):Int):=by
 have hl:=Lr U;have e:=Tv hi h h1 h0;have e2:bits BinOp.or IntKind.i64 (((gI V).toNat:Nat):Int) (lg i)=IntKind.i64.wrap (((BitVec.ofInt 64 (((gI V).toNat:Nat):Int) ||| BitVec.ofInt 64 (lg i)).toNat:Nat):Int):=rfl;rw[e2,Bo,←e];exact wrap_small hl
theorem Tz (V:Nat→Bool) (fr:Int):(bits BinOp.andNot IntKind.i64 (((gI V).toNat:Nat):Int) fr==0)=((gI V &&& ~~~(BitVec.ofInt 64 fr))==0#64):=by
 have hl:=Lr V;have e2:bits BinOp.andNot IntKind.i64 (((gI V).toNat:Nat):Int) fr=IntKind.i64.wrap (((BitVec.ofInt 64 (((gI V).toNat:Nat):Int) &&& ~~~(BitVec.ofInt 64 fr)).toNat:Nat):Int):=rfl;rw[e2,Bo,wrap_small (Nat.lt_of_le_of_lt (by rw[BitVec.toNat_and];exact Nat.and_le_left) hl)];rw[Bool.eq_iff_iff];simp only[beq_iff_eq];constructor
 ·intro h
  exact BitVec.eq_of_toNat_eq (by simpa using h)
 ·intro h
  rw[h];rfl
def Dz (z:Ac):Bool:=(gI (bB z) &&& ~~~(BitVec.ofInt 64 (qj.getD z.k.toNat 0)))==0#64
end PA
namespace Go.Proofs.YthfmaclnccdcbaaGreatDoor
open Go.RowKit PA
def EX (id:Nat):Code→Option (Array Oper)
 | .region i ops _=>if i==id then some ops else none
 | .seq a b=>match EX id a with|some o=>some o|none=>EX id b
 | _=>none
noncomputable def bD:Array Oper:=match Tryz.f61.body with|some c=>(match EX 3 c with|some o=>o|none=>#[])|none=>#[]
theorem BX {P:Program} {ops ops':Array Oper} {Q:Exit→Act→World→Prop} {id:Nat} {b:Bool} {a:Act} {w:World} (h:ops=ops') (g:(Code.region id ops' b).wp P Q a w):(Code.region id ops b).wp P Q a w:=by rw[h];exact g
theorem Jj {a:Act} {p:Act→Prop} (h:∀a0,a0=a→p a0):p a:=h a rfl
theorem aW {a:Act} {t:Nat} {v:Value} (h:t<a.tmps.size):(a.put (some t) v).eval (.tmp t)=v:=by
 simp[Act.put,Act.eval,h]
theorem eval_put_ne {a:Act} {t s:Nat} {v:Value} (h:s≠t):(a.put (some t) v).eval (.tmp s)=a.eval (.tmp s):=by
 simp[Act.put,Act.eval];rw[Array.getElem?_setIfInBounds_ne (Ne.symm h)]
theorem dh {ops:Array Oper} {f:Nat→Option Value} {a:Act} {x t:Nat} {L:List Nat} {v:Value} (h:f x=some v) (hd:aU ops x=some t) (hL:L=[x]):dB ops L f a=a.put (some t) v:=by
 rw[hL,jG,h,Xr,hd]
theorem aX {P:Program} {o:Oper} {a:Act} {w w':World} {t:TypeId} {m k x:Operand} {b:Nat} {kv:Int} {u:Bool} (ho:o.op=.insert t m k x) (hm:a.eval m=.map (some b)) (hk:a.eval k=.int .i64 kv) (hx:a.eval x=.bool u) (hr:(Instr.mapUpdate t (.map (some b)) (.int .i64 kv) (.bool u)).run P w=.ok () w'):
 (execOp a.eval o).run P w=.ok .skip w':=by
 unfold execOp;rw[ho];show Sem.run P (do Instr.mapUpdate t (a.eval m) (a.eval k) (a.eval x);(pure Next.skip:Sem Next)) w=_;rw[hm,hk,hx,Sem.run_bind,hr];rfl
def O7:Array Nat:=#[0,0,2,6,15,0,32,96,225,0,512,1536,3585,0,8192,24576,57345,0,131072,393216,917505,0,2097152,6291456,14680065,0,33554432,0,234881024,503316481,0,1073741824,3221225472,7516192768,0,17179869184,51539607552,120259084288,273804165120,548682072064,1098437885953,0,2199023255552,6597069766656,15393162788864,32985348833281,0,70368744177664,211106232532992,492581209243648,1055531162664961,0,2251799813685248,6755399441055744,15762598695796736,33776997205278720,69805794224242688,141863388262170624,285978576338026496,574208952489738240,1150669704793161728,2303591209400008704,4609434218613702656,1150669704793161728,10374041741647937536,28820785815357489152,73784724495024521216,147571700789862727680,295145653379539140608,590293558558891966465,1180591620717411303423,2361183241434822606847]
def O8:List lu:=[.one 1 .p,.one 2 .s,.one 3 .p,.one 5 .p,.one 6 .s,.one 7 .p,.one 9 .p,.one 10 .s,.one 11 .p,.one 13 .p,.one 14 .s,.one 15 .p,.one 17 .p,.one 18 .s,.one 19 .p,.one 21 .p,.one 22 .s,.one 23 .p,.one 25 .p,.one 26 .s,.one 27 .p,.one 28 .p,.one 30 .p,.one 31 .p,.one 32 .s,.one 33 .p,.one 34 .p,.one 35 .p,.one 36 .s,.one 37 .p,.one 38 .p,.one 39 .p,.one 41 .p,.one 42 .s,.one 43 .p,.one 44 .p,.one 46 .p,.one 47 .s,.one 48 .p,.one 49 .p,.one 51 .p,.one 52 .s,.one 53 .p,.one 54 .p,.one 55 .p,.one 56 .s,.one 57 .p,.one 58 .p,.one 59 .p,.one 60 .p,.one 61 .s,.one 62 .p,.one 63 .p,.one 64 .s,.one 65 .p,.one 66 .p,.one 67 .p,.one 68 .p,.grp true [(0,[]),(4,[]),(8,[]),(12,[]),(16,[]),(20,[]),(24,[]),(29,[]),(40,[]),(45,[]),(50,[]),(69,[])],.one 70 .p,.one 71 (.e false)]
theorem YP:Region.before bD=O7:=by kernel_rfl
theorem YQ:Nj bD O7 O8=true:=by kernel_rfl
theorem DC:dagB bD [0,4,8,12,16,20,24,29,40,45,50,69] fG=true:=by kernel_rfl
theorem DK:He bD [0,4,8,12,16,20,24,29,40,45,50,69]=true:=by kernel_rfl
theorem dD:aU bD 0=some 9:=by kernel_rfl
theorem DI:aU bD 4=none:=by kernel_rfl
theorem DJ:aU bD 8=none:=by kernel_rfl
theorem zL:aU bD 12=none:=by kernel_rfl
theorem zM:aU bD 16=none:=by kernel_rfl
theorem zN:aU bD 20=none:=by kernel_rfl
theorem zO:aU bD 24=none:=by kernel_rfl
theorem zQ:aU bD 29=none:=by kernel_rfl
theorem zS:aU bD 40=none:=by kernel_rfl
theorem zT:aU bD 45=none:=by kernel_rfl
theorem zU:aU bD 50=none:=by kernel_rfl
theorem zV:aU bD 69=none:=by kernel_rfl
theorem LH (w:World):(Instr.build 26 #[]).run Tryz.prog w=.ok (.agg #[.int .i64 0,.int .i64 0]) w:=by kernel_rfl
attribute [local go_sem ↓] aY bI aV LH
set_option maxRecDepth 100000 in
set_option maxHeartbeats 16000000 in
theorem Tm {W w:World} {A:aB} (hW:fZ W) (z:Ac) (hk0:0≤z.k) (hk1:z.k≤21) (h:Sat W w A):
 Calls Tryz.prog 61 #[.agg z.cells.toArray] w fun e w'=>e=.returned (.bool (Dz z))∧Sat W w' A:=by
 have h1:=(h.alloc (.cells z.cells.toArray 36)).alloc (.cells #[.int .i64 z.fo,.int .i64 z.fn,.slice z.fi.a z.fi.n z.fi.c,.slice z.fk.a z.fk.n z.fk.c] 34);rw[World.size_alloc] at h1;have ha:=h.alloc (.cells z.cells.toArray 36);have c15:=(ay ha 15 _ rfl).1;have c16:=(ay ha 16 _ rfl).1;have c17:=(ay ha 17 _ rfl).1;have c18:=(ay ha 18 _ rfl).1;obtain⟨B,hB⟩:=aC (w.heap.size);obtain⟨wa,hwa⟩:=aC (w.alloc (.cells z.cells.toArray 36));have hsz:wa.heap.size=B+1:=by rw[hwa,World.size_alloc,hB]
 rw[←hB,←hwa] at h1;rw[←hB,←hwa] at c15 c16 c17 c18;obtain⟨w1,hw1⟩:=aC (wa.alloc (.cells #[.int .i64 z.fo,.int .i64 z.fn,.slice z.fi.a z.fi.n z.fi.c,.slice z.fk.a z.fk.n z.fk.c] 34));rw[←hw1] at h1;have HB:=ah (aH hB hwa);have HW1:=ah hw1;have KI:=ah hsz;obtain⟨X,hX⟩:=aC (sep (blk (B+1) (.cells #[.int .i64 z.fo,.int .i64 z.fn,.slice z.fi.a z.fi.n z.fi.c,.slice z.fk.a z.fk.n z.fk.c] 34 (0,0))) (sep (blk B (.cells z.cells.toArray 36 (0,0))) A));rw[←hX] at h1;have wL:Hid (∀w',Sat W w' X→w'.cell? ⟨B,3,none⟩=some (.int .i64 z.f)∧w'.cell? ⟨B,4,none⟩=some (.int .i64 z.o)∧w'.cell? ⟨B,5,none⟩=some (.int .i64 z.p)∧w'.cell? ⟨B,6,none⟩=some (.int .i64 z.q)∧w'.cell? ⟨B,7,none⟩=some (.int .i64 z.u)∧w'.cell? ⟨B,8,none⟩=some (.int .i64 z.m)∧w'.cell? ⟨B,9,none⟩=some (.int .i64 z.sn)∧w'.cell? ⟨B,10,none⟩=some (.int .i64 z.sd)∧w'.cell? ⟨B,11,none⟩=some (.slice z.td.a z.td.n z.td.c)∧w'.cell? ⟨B,12,none⟩=some (.slice z.tc.a z.tc.n z.tc.c)∧w'.cell? ⟨B,13,none⟩=some (.slice z.cl.a z.cl.n z.cl.c)∧w'.cell? ⟨B,14,none⟩=some (.slice z.ea.a z.ea.n z.ea.c)∧w'.cell? ⟨B+1,0,none⟩=some (.int .i64 z.fo)∧w'.cell? ⟨B+1,1,none⟩=some (.int .i64 z.fn)∧w'.cell? ⟨B+1,2,none⟩=some (.slice z.fi.a z.fi.n z.fi.c)∧w'.cell? ⟨B+1,3,none⟩=some (.slice z.fk.a z.fk.n z.fk.c)):=ah fun w' h'=>by
  rw[hX] at h';have h2:=h'.p1;exact⟨(ay h2 3 _ rfl).1,(ay h2 4 _ rfl).1,(ay h2 5 _ rfl).1,(ay h2 6 _ rfl).1,(ay h2 7 _ rfl).1,(ay h2 8 _ rfl).1,(ay h2 9 _ rfl).1,(ay h2 10 _ rfl).1,(ay h2 11 _ rfl).1,(ay h2 12 _ rfl).1,(ay h2 13 _ rfl).1,(ay h2 14 _ rfl).1,h'.cell 0,h'.cell 1,h'.cell 2,h'.cell 3⟩
 have HXK:Hid (∀w',Sat W w' X→w'.cell? ⟨B,0,none⟩=some (.int .i64 z.k)∧Sat W w' A):=ah fun w' h'=>by
  rw[hX] at h';exact⟨(ay h'.p1 0 _ rfl).1,h'.drop.drop⟩
 obtain⟨kn,hkn⟩:∃n:Nat,n=z.k.toNat:=⟨_,rfl⟩
 have hkz:z.k=(kn:Int):=by omega
 have hkl:kn<22:=by omega
 obtain⟨fr,hfr⟩:∃r,qj[kn]?=some r:=⟨_,iM (by show kn<22;omega)⟩
 obtain⟨rv,dQ⟩:=aC (Dz z);have jW:rv=((gI (bB z) &&& ~~~(BitVec.ofInt 64 fr))==0#64):=by
  rw[dQ];unfold Dz;rw[←hkn,List.getD_eq_getElem?_getD,hfr];rfl
 have KE:Hid (∀w' A',Sat W w' A'→w'.cell? ⟨0,kn,none⟩=some (.int .i64 fr)):=ah fun w' A' h'=>DL h' (hW kn fr hfr)
 rw[←dQ];have bU:=ah jW;have HK:=ah (aH hkz hkl);have h2:=h1.drew;obtain⟨wd,hwd⟩:=aC (w1.drew);rw[←hwd] at h2;have jY:=ah hwd;have H2:=ah h2;have CS:=wL.out wd h2;obtain⟨Po,dS⟩:∃P:Ending→World→Prop,P=fun e w'=>e=.returned (.bool rv)∧Sat W w' A:=⟨_,rfl⟩
 rw[←dS];have bK:=ah dS;clear ha h h1 h2 hB hwa hw1 hX dQ jW hwd hkn hkz hkl hfr hk0 hk1 dS hsz;go_enter Tryz.func61,Tryz.ntmps61;go_upto_region 1 with fail;rw[←HB.out.1,←HB.out.2];go_upto_region 3 with fail
 try rw[KI.out]
 try rw[←HW1.out]
 clear c15 c16 c17 c18;go_cut [69] from 7 to 71 (fun rv wx=>∃(b r n:Nat),rv=.pointer (some ⟨r,0,none⟩)∧Sat W wx (sep (rng b r (mapA (bB z)) n (fun k=>(mapA (bB z) k).isSome) n) X))
 case first=>
  as_aux_lemma=>
  obtain⟨q0,hq0⟩:∃b,(z.fo !=0)=b:=⟨_,rfl⟩
  obtain⟨q1,hq1⟩:∃b,(z.fn !=0)=b:=⟨_,rfl⟩
  have HQ:=ah (aH hq0 hq1);clear hq0 hq1;refine BX (ops':=bD) (by kernel_rfl) ?_;refine yw rfl (fun w'=>w'.cell? ⟨B,3,none⟩=some (.int .i64 z.f)∧w'.cell? ⟨B,4,none⟩=some (.int .i64 z.o)∧w'.cell? ⟨B,5,none⟩=some (.int .i64 z.p)∧w'.cell? ⟨B,6,none⟩=some (.int .i64 z.q)∧w'.cell? ⟨B,7,none⟩=some (.int .i64 z.u)∧w'.cell? ⟨B,8,none⟩=some (.int .i64 z.m)∧w'.cell? ⟨B,9,none⟩=some (.int .i64 z.sn)∧w'.cell? ⟨B,10,none⟩=some (.int .i64 z.sd)∧w'.cell? ⟨B,11,none⟩=some (.slice z.td.a z.td.n z.td.c)∧w'.cell? ⟨B,12,none⟩=some (.slice z.tc.a z.tc.n z.tc.c)∧w'.cell? ⟨B,13,none⟩=some (.slice z.cl.a z.cl.n z.cl.c)∧w'.cell? ⟨B,14,none⟩=some (.slice z.ea.a z.ea.n z.ea.c)∧w'.cell? ⟨B+1,0,none⟩=some (.int .i64 z.fo)∧w'.cell? ⟨B+1,1,none⟩=some (.int .i64 z.fn)∧w'.cell? ⟨B+1,2,none⟩=some (.slice z.fi.a z.fi.n z.fi.c)∧w'.cell? ⟨B+1,3,none⟩=some (.slice z.fk.a z.fk.n z.fk.c)) O8 O7 YP YQ ?_;unfold O8;rw[←jY.out];have hS0:=CS;have hg:=fun w0=>JQ w0 z.sn z.sd 0 0
  refine mG ?_;have hq0:=HQ.out.1;have hq1:=HQ.out.2;cases q0 with
  | true=>
   as_aux_lemma=>
   try rw[hq0]
   refine mG ?_;refine Dp (n:=12) rfl ?_;clear hS0 hg;refine Jj (p:=fun a=>pI _ _ _ _ _ _ _ _ a _) (fun a0 ha0=>?_);have e4:a0.eval (.tmp 12)=.bool (bB z 0):=by rw[ha0];rfl
   have e8:a0.eval (.tmp 15)=.bool (bB z 1):=by rw[ha0];rfl
   have e12:a0.eval (.tmp 18)=.bool (bB z 2):=by rw[ha0];rfl
   have e16:a0.eval (.tmp 21)=.bool (bB z 3):=by rw[ha0];rfl
   have e20:a0.eval (.tmp 24)=.bool (bB z 4):=by rw[ha0];rfl
   have e24:a0.eval (.tmp 27)=.bool (bB z 5):=by rw[ha0];rfl
   have e29:a0.eval (.tmp 31)=.bool (bB z 6):=by rw[ha0];rfl
   have e40:a0.eval (.tmp 41)=.bool (bB z 7):=by rw[ha0];rfl
   have e45:a0.eval (.tmp 45)=.bool (bB z 8):=by rw[ha0];rfl
   have e50:a0.eval (.tmp 49)=.bool (bB z 9):=by rw[ha0];rfl
   have e69:a0.eval (.tmp 67)=.bool (bB z 10):=by rw[ha0];simp only[bB,HQ.out.1];rfl
   have jo:Hid (9<a0.tmps.size):=ah (by rw[ha0];show 9<86;omega);have HA0:=ah ha0;clear ha0;refine kL [0,4,8,12,16,20,24,29,40,45,50,69] fG (oH (bB z) X) DC DK ?_ ?_ ?_ 12 [0,4,8,12,16,20,24,29,40,45,50,69] (fun _=>none) wd rfl (by decide) (fun y=>by simp) (fun _ _ h=>by cases h) (by rw[oI rfl];exact H2.out)
   ·intro _ f w' hT
    exact wL.out w' (I8 hT)
   ·intro y hy f w' o' ho Jm fK hcl hT
    simp only[List.mem_cons,List.not_mem_nil,or_false] at hy;rcases hy with rfl|rfl|rfl|rfl|rfl|rfl|rfl|rfl|rfl|rfl|rfl|rfl
    ·as_aux_lemma=>
     cases ho;have hn:∀p∈insL,f p.1=none:=fun p hp=>by
      cases hv:f p.1 with
      | none=>rfl
      | some v=>have:=hcl p.1 (qY p hp) (by rw[hv];rfl) 0 (I7 p hp);rw[Jm] at this;cases this
     refine .inl (.inl ⟨.map (some w'.heap.size),w'.alloc (.map #[] 0),?_,zK Jm hn hT⟩)
     ·(go_simp;try rfl)
    ·as_aux_lemma=>
     cases ho;obtain⟨v0,hv0⟩:=cO (fK 0 (by decide));obtain⟨b,w2,hb,hrun,h3⟩:=bP (P:=Tryz.prog) Tryz.underlying144 Tryz.underlying3 (4,1,0) (by decide) (.bool true) hv0 hT;subst hb;refine .inr ⟨w2,?_,bQ (4,1,0) (by decide) h3⟩
     ·have hp:dB bD ([0,4,8,12,16,20,24,29,40,45,50,69].filter fun y=>(fG 4).contains y) f a0=a0.put (some 9) (.map (some b)):=dh hv0 dD rfl
      rw[hp];exact aX rfl (aW jo.out) rfl (by rw[eval_put_ne (by decide)];exact e4) hrun
    ·as_aux_lemma=>
     cases ho;obtain⟨v0,hv0⟩:=cO (fK 0 (by decide));obtain⟨b,w2,hb,hrun,h3⟩:=bP (P:=Tryz.prog) Tryz.underlying144 Tryz.underlying3 (8,2,1) (by decide) (.bool true) hv0 hT;subst hb;refine .inr ⟨w2,?_,bQ (8,2,1) (by decide) h3⟩
     ·have hp:dB bD ([0,4,8,12,16,20,24,29,40,45,50,69].filter fun y=>(fG 8).contains y) f a0=a0.put (some 9) (.map (some b)):=dh hv0 dD rfl
      rw[hp];exact aX rfl (aW jo.out) rfl (by rw[eval_put_ne (by decide)];exact e8) hrun
    ·as_aux_lemma=>
     cases ho;obtain⟨v0,hv0⟩:=cO (fK 0 (by decide));obtain⟨b,w2,hb,hrun,h3⟩:=bP (P:=Tryz.prog) Tryz.underlying144 Tryz.underlying3 (12,4,2) (by decide) (.bool true) hv0 hT;subst hb;refine .inr ⟨w2,?_,bQ (12,4,2) (by decide) h3⟩
     ·have hp:dB bD ([0,4,8,12,16,20,24,29,40,45,50,69].filter fun y=>(fG 12).contains y) f a0=a0.put (some 9) (.map (some b)):=dh hv0 dD rfl
      rw[hp];exact aX rfl (aW jo.out) rfl (by rw[eval_put_ne (by decide)];exact e12) hrun
    ·as_aux_lemma=>
     cases ho;obtain⟨v0,hv0⟩:=cO (fK 0 (by decide));obtain⟨b,w2,hb,hrun,h3⟩:=bP (P:=Tryz.prog) Tryz.underlying144 Tryz.underlying3 (16,8,3) (by decide) (.bool true) hv0 hT;subst hb;refine .inr ⟨w2,?_,bQ (16,8,3) (by decide) h3⟩
     ·have hp:dB bD ([0,4,8,12,16,20,24,29,40,45,50,69].filter fun y=>(fG 16).contains y) f a0=a0.put (some 9) (.map (some b)):=dh hv0 dD rfl
      rw[hp];exact aX rfl (aW jo.out) rfl (by rw[eval_put_ne (by decide)];exact e16) hrun
    ·as_aux_lemma=>
     cases ho;obtain⟨v0,hv0⟩:=cO (fK 0 (by decide));obtain⟨b,w2,hb,hrun,h3⟩:=bP (P:=Tryz.prog) Tryz.underlying144 Tryz.underlying3 (20,16,4) (by decide) (.bool true) hv0 hT;subst hb;refine .inr ⟨w2,?_,bQ (20,16,4) (by decide) h3⟩
     ·have hp:dB bD ([0,4,8,12,16,20,24,29,40,45,50,69].filter fun y=>(fG 20).contains y) f a0=a0.put (some 9) (.map (some b)):=dh hv0 dD rfl
      rw[hp];exact aX rfl (aW jo.out) rfl (by rw[eval_put_ne (by decide)];exact e20) hrun
    ·as_aux_lemma=>
     cases ho;obtain⟨v0,hv0⟩:=cO (fK 0 (by decide));obtain⟨b,w2,hb,hrun,h3⟩:=bP (P:=Tryz.prog) Tryz.underlying144 Tryz.underlying3 (24,32,5) (by decide) (.bool true) hv0 hT;subst hb;refine .inr ⟨w2,?_,bQ (24,32,5) (by decide) h3⟩
     ·have hp:dB bD ([0,4,8,12,16,20,24,29,40,45,50,69].filter fun y=>(fG 24).contains y) f a0=a0.put (some 9) (.map (some b)):=dh hv0 dD rfl
      rw[hp];exact aX rfl (aW jo.out) rfl (by rw[eval_put_ne (by decide)];exact e24) hrun
    ·as_aux_lemma=>
     cases ho;obtain⟨v0,hv0⟩:=cO (fK 0 (by decide));obtain⟨b,w2,hb,hrun,h3⟩:=bP (P:=Tryz.prog) Tryz.underlying144 Tryz.underlying3 (29,64,6) (by decide) (.bool true) hv0 hT;subst hb;refine .inr ⟨w2,?_,bQ (29,64,6) (by decide) h3⟩
     ·have hp:dB bD ([0,4,8,12,16,20,24,29,40,45,50,69].filter fun y=>(fG 29).contains y) f a0=a0.put (some 9) (.map (some b)):=dh hv0 dD rfl
      rw[hp];exact aX rfl (aW jo.out) rfl (by rw[eval_put_ne (by decide)];exact e29) hrun
    ·as_aux_lemma=>
     cases ho;obtain⟨v0,hv0⟩:=cO (fK 0 (by decide));obtain⟨b,w2,hb,hrun,h3⟩:=bP (P:=Tryz.prog) Tryz.underlying144 Tryz.underlying3 (40,128,7) (by decide) (.bool true) hv0 hT;subst hb;refine .inr ⟨w2,?_,bQ (40,128,7) (by decide) h3⟩
     ·have hp:dB bD ([0,4,8,12,16,20,24,29,40,45,50,69].filter fun y=>(fG 40).contains y) f a0=a0.put (some 9) (.map (some b)):=dh hv0 dD rfl
      rw[hp];exact aX rfl (aW jo.out) rfl (by rw[eval_put_ne (by decide)];exact e40) hrun
    ·as_aux_lemma=>
     cases ho;obtain⟨v0,hv0⟩:=cO (fK 0 (by decide));obtain⟨b,w2,hb,hrun,h3⟩:=bP (P:=Tryz.prog) Tryz.underlying144 Tryz.underlying3 (45,256,8) (by decide) (.bool true) hv0 hT;subst hb;refine .inr ⟨w2,?_,bQ (45,256,8) (by decide) h3⟩
     ·have hp:dB bD ([0,4,8,12,16,20,24,29,40,45,50,69].filter fun y=>(fG 45).contains y) f a0=a0.put (some 9) (.map (some b)):=dh hv0 dD rfl
      rw[hp];exact aX rfl (aW jo.out) rfl (by rw[eval_put_ne (by decide)];exact e45) hrun
    ·as_aux_lemma=>
     cases ho;obtain⟨v0,hv0⟩:=cO (fK 0 (by decide));obtain⟨b,w2,hb,hrun,h3⟩:=bP (P:=Tryz.prog) Tryz.underlying144 Tryz.underlying3 (50,512,9) (by decide) (.bool true) hv0 hT;subst hb;refine .inr ⟨w2,?_,bQ (50,512,9) (by decide) h3⟩
     ·have hp:dB bD ([0,4,8,12,16,20,24,29,40,45,50,69].filter fun y=>(fG 50).contains y) f a0=a0.put (some 9) (.map (some b)):=dh hv0 dD rfl
      rw[hp];exact aX rfl (aW jo.out) rfl (by rw[eval_put_ne (by decide)];exact e50) hrun
    ·as_aux_lemma=>
     cases ho;obtain⟨v0,hv0⟩:=cO (fK 0 (by decide));obtain⟨b,w2,hb,hrun,h3⟩:=bP (P:=Tryz.prog) Tryz.underlying144 Tryz.underlying3 (69,1024,10) (by decide) (.bool true) hv0 hT;subst hb;refine .inr ⟨w2,?_,bQ (69,1024,10) (by decide) h3⟩
     ·have hp:dB bD ([0,4,8,12,16,20,24,29,40,45,50,69].filter fun y=>(fG 69).contains y) f a0=a0.put (some 9) (.map (some b)):=dh hv0 dD rfl
      rw[hp];exact aX rfl (aW jo.out) rfl (by rw[eval_put_ne (by decide)];exact e69) hrun
   ·as_aux_lemma=>
    intro f w' hall hT;obtain⟨v0,hv0⟩:=cO (hall 0 (by decide));obtain⟨b,n,rfl,h3⟩:=(jU hv0).1 hT;rw[Ew _ (fun p hp=>hall p.1 (qY p hp))] at h3;obtain⟨v4,hv4⟩:=cO (hall 4 (by decide));obtain⟨v8,TV⟩:=cO (hall 8 (by decide));obtain⟨v12,l7⟩:=cO (hall 12 (by decide));obtain⟨v16,MO⟩:=cO (hall 16 (by decide));obtain⟨v20,MP⟩:=cO (hall 20 (by decide));obtain⟨v24,hv24⟩:=cO (hall 24 (by decide));obtain⟨v29,hv29⟩:=cO (hall 29 (by decide));obtain⟨v40,MQ⟩:=cO (hall 40 (by decide));obtain⟨v45,MR⟩:=cO (hall 45 (by decide));obtain⟨v50,MS⟩:=cO (hall 50 (by decide));obtain⟨v69,MV⟩:=cO (hall 69 (by decide));have hp:dB bD [0,4,8,12,16,20,24,29,40,45,50,69] f a0=a0.put (some 9) (.map (some b)):=by
     simp only[dB,List.foldl,hv0,hv4,TV,l7,MO,MP,hv24,hv29,MQ,MR,MS,MV];rw[dD,DI,DJ,zL,zM,zN,zO,zQ,zS,zT,zU,zV];rfl
    rw[hp,HA0.out];clear hT hall hp hv0 hv4 TV l7 MO MP hv24 hv29 MQ MR MS MV;obtain⟨w3,WG,h4⟩:=pz (P:=Tryz.prog) Tryz.underlying144 h3;obtain⟨r,hr⟩:=aC (w'.heap.size);rw[←hr] at WG h4;have H4:=ah h4;clear h3 h4 hr;simp only[Act.put,lsA,lsB,lq];refine mG ?_
    (refine J_e rfl rfl (fun K hK=>?_);go_simp)
    refine dY ?_;clear hK K;refine wM ?_;go_wp2;go_meet;case rel=>exact⟨b,r,n,rfl,H4.out⟩
  | false=>
   cases q1 with
   | true=>
    as_aux_lemma=>
    try rw[hq0]
    refine mG ?_
    try rw[hq1]
    refine mG ?_;refine Dp (n:=12) rfl ?_;clear hS0 hg;refine Jj (p:=fun a=>pI _ _ _ _ _ _ _ _ a _) (fun a0 ha0=>?_);have e4:a0.eval (.tmp 12)=.bool (bB z 0):=by rw[ha0];rfl
    have e8:a0.eval (.tmp 15)=.bool (bB z 1):=by rw[ha0];rfl
    have e12:a0.eval (.tmp 18)=.bool (bB z 2):=by rw[ha0];rfl
    have e16:a0.eval (.tmp 21)=.bool (bB z 3):=by rw[ha0];rfl
    have e20:a0.eval (.tmp 24)=.bool (bB z 4):=by rw[ha0];rfl
    have e24:a0.eval (.tmp 27)=.bool (bB z 5):=by rw[ha0];rfl
    have e29:a0.eval (.tmp 31)=.bool (bB z 6):=by rw[ha0];rfl
    have e40:a0.eval (.tmp 41)=.bool (bB z 7):=by rw[ha0];rfl
    have e45:a0.eval (.tmp 45)=.bool (bB z 8):=by rw[ha0];rfl
    have e50:a0.eval (.tmp 49)=.bool (bB z 9):=by rw[ha0];rfl
    have e69:a0.eval (.tmp 67)=.bool (bB z 10):=by rw[ha0];simp only[bB,HQ.out.1,HQ.out.2];rfl
    have jo:Hid (9<a0.tmps.size):=ah (by rw[ha0];show 9<86;omega);have HA0:=ah ha0;clear ha0;refine kL [0,4,8,12,16,20,24,29,40,45,50,69] fG (oH (bB z) X) DC DK ?_ ?_ ?_ 12 [0,4,8,12,16,20,24,29,40,45,50,69] (fun _=>none) wd rfl (by decide) (fun y=>by simp) (fun _ _ h=>by cases h) (by rw[oI rfl];exact H2.out)
    ·intro _ f w' hT
     exact wL.out w' (I8 hT)
    ·intro y hy f w' o' ho Jm fK hcl hT
     simp only[List.mem_cons,List.not_mem_nil,or_false] at hy;rcases hy with rfl|rfl|rfl|rfl|rfl|rfl|rfl|rfl|rfl|rfl|rfl|rfl
     ·as_aux_lemma=>
      cases ho;have hn:∀p∈insL,f p.1=none:=fun p hp=>by
       cases hv:f p.1 with
       | none=>rfl
       | some v=>have:=hcl p.1 (qY p hp) (by rw[hv];rfl) 0 (I7 p hp);rw[Jm] at this;cases this
      refine .inl (.inl ⟨.map (some w'.heap.size),w'.alloc (.map #[] 0),?_,zK Jm hn hT⟩)
      ·(go_simp;try rfl)
     ·as_aux_lemma=>
      cases ho;obtain⟨v0,hv0⟩:=cO (fK 0 (by decide));obtain⟨b,w2,hb,hrun,h3⟩:=bP (P:=Tryz.prog) Tryz.underlying144 Tryz.underlying3 (4,1,0) (by decide) (.bool true) hv0 hT;subst hb;refine .inr ⟨w2,?_,bQ (4,1,0) (by decide) h3⟩
      ·have hp:dB bD ([0,4,8,12,16,20,24,29,40,45,50,69].filter fun y=>(fG 4).contains y) f a0=a0.put (some 9) (.map (some b)):=dh hv0 dD rfl
       rw[hp];exact aX rfl (aW jo.out) rfl (by rw[eval_put_ne (by decide)];exact e4) hrun
     ·as_aux_lemma=>
      cases ho;obtain⟨v0,hv0⟩:=cO (fK 0 (by decide));obtain⟨b,w2,hb,hrun,h3⟩:=bP (P:=Tryz.prog) Tryz.underlying144 Tryz.underlying3 (8,2,1) (by decide) (.bool true) hv0 hT;subst hb;refine .inr ⟨w2,?_,bQ (8,2,1) (by decide) h3⟩
      ·have hp:dB bD ([0,4,8,12,16,20,24,29,40,45,50,69].filter fun y=>(fG 8).contains y) f a0=a0.put (some 9) (.map (some b)):=dh hv0 dD rfl
       rw[hp];exact aX rfl (aW jo.out) rfl (by rw[eval_put_ne (by decide)];exact e8) hrun
     ·as_aux_lemma=>
      cases ho;obtain⟨v0,hv0⟩:=cO (fK 0 (by decide));obtain⟨b,w2,hb,hrun,h3⟩:=bP (P:=Tryz.prog) Tryz.underlying144 Tryz.underlying3 (12,4,2) (by decide) (.bool true) hv0 hT;subst hb;refine .inr ⟨w2,?_,bQ (12,4,2) (by decide) h3⟩
      ·have hp:dB bD ([0,4,8,12,16,20,24,29,40,45,50,69].filter fun y=>(fG 12).contains y) f a0=a0.put (some 9) (.map (some b)):=dh hv0 dD rfl
       rw[hp];exact aX rfl (aW jo.out) rfl (by rw[eval_put_ne (by decide)];exact e12) hrun
     ·as_aux_lemma=>
      cases ho;obtain⟨v0,hv0⟩:=cO (fK 0 (by decide));obtain⟨b,w2,hb,hrun,h3⟩:=bP (P:=Tryz.prog) Tryz.underlying144 Tryz.underlying3 (16,8,3) (by decide) (.bool true) hv0 hT;subst hb;refine .inr ⟨w2,?_,bQ (16,8,3) (by decide) h3⟩
      ·have hp:dB bD ([0,4,8,12,16,20,24,29,40,45,50,69].filter fun y=>(fG 16).contains y) f a0=a0.put (some 9) (.map (some b)):=dh hv0 dD rfl
       rw[hp];exact aX rfl (aW jo.out) rfl (by rw[eval_put_ne (by decide)];exact e16) hrun
     ·as_aux_lemma=>
      cases ho;obtain⟨v0,hv0⟩:=cO (fK 0 (by decide));obtain⟨b,w2,hb,hrun,h3⟩:=bP (P:=Tryz.prog) Tryz.underlying144 Tryz.underlying3 (20,16,4) (by decide) (.bool true) hv0 hT;subst hb;refine .inr ⟨w2,?_,bQ (20,16,4) (by decide) h3⟩
      ·have hp:dB bD ([0,4,8,12,16,20,24,29,40,45,50,69].filter fun y=>(fG 20).contains y) f a0=a0.put (some 9) (.map (some b)):=dh hv0 dD rfl
       rw[hp];exact aX rfl (aW jo.out) rfl (by rw[eval_put_ne (by decide)];exact e20) hrun
     ·as_aux_lemma=>
      cases ho;obtain⟨v0,hv0⟩:=cO (fK 0 (by decide));obtain⟨b,w2,hb,hrun,h3⟩:=bP (P:=Tryz.prog) Tryz.underlying144 Tryz.underlying3 (24,32,5) (by decide) (.bool true) hv0 hT;subst hb;refine .inr ⟨w2,?_,bQ (24,32,5) (by decide) h3⟩
      ·have hp:dB bD ([0,4,8,12,16,20,24,29,40,45,50,69].filter fun y=>(fG 24).contains y) f a0=a0.put (some 9) (.map (some b)):=dh hv0 dD rfl
       rw[hp];exact aX rfl (aW jo.out) rfl (by rw[eval_put_ne (by decide)];exact e24) hrun
     ·as_aux_lemma=>
      cases ho;obtain⟨v0,hv0⟩:=cO (fK 0 (by decide));obtain⟨b,w2,hb,hrun,h3⟩:=bP (P:=Tryz.prog) Tryz.underlying144 Tryz.underlying3 (29,64,6) (by decide) (.bool true) hv0 hT;subst hb;refine .inr ⟨w2,?_,bQ (29,64,6) (by decide) h3⟩
      ·have hp:dB bD ([0,4,8,12,16,20,24,29,40,45,50,69].filter fun y=>(fG 29).contains y) f a0=a0.put (some 9) (.map (some b)):=dh hv0 dD rfl
       rw[hp];exact aX rfl (aW jo.out) rfl (by rw[eval_put_ne (by decide)];exact e29) hrun
     ·as_aux_lemma=>
      cases ho;obtain⟨v0,hv0⟩:=cO (fK 0 (by decide));obtain⟨b,w2,hb,hrun,h3⟩:=bP (P:=Tryz.prog) Tryz.underlying144 Tryz.underlying3 (40,128,7) (by decide) (.bool true) hv0 hT;subst hb;refine .inr ⟨w2,?_,bQ (40,128,7) (by decide) h3⟩
      ·have hp:dB bD ([0,4,8,12,16,20,24,29,40,45,50,69].filter fun y=>(fG 40).contains y) f a0=a0.put (some 9) (.map (some b)):=dh hv0 dD rfl
       rw[hp];exact aX rfl (aW jo.out) rfl (by rw[eval_put_ne (by decide)];exact e40) hrun
     ·as_aux_lemma=>
      cases ho;obtain⟨v0,hv0⟩:=cO (fK 0 (by decide));obtain⟨b,w2,hb,hrun,h3⟩:=bP (P:=Tryz.prog) Tryz.underlying144 Tryz.underlying3 (45,256,8) (by decide) (.bool true) hv0 hT;subst hb;refine .inr ⟨w2,?_,bQ (45,256,8) (by decide) h3⟩
      ·have hp:dB bD ([0,4,8,12,16,20,24,29,40,45,50,69].filter fun y=>(fG 45).contains y) f a0=a0.put (some 9) (.map (some b)):=dh hv0 dD rfl
       rw[hp];exact aX rfl (aW jo.out) rfl (by rw[eval_put_ne (by decide)];exact e45) hrun
     ·as_aux_lemma=>
      cases ho;obtain⟨v0,hv0⟩:=cO (fK 0 (by decide));obtain⟨b,w2,hb,hrun,h3⟩:=bP (P:=Tryz.prog) Tryz.underlying144 Tryz.underlying3 (50,512,9) (by decide) (.bool true) hv0 hT;subst hb;refine .inr ⟨w2,?_,bQ (50,512,9) (by decide) h3⟩
      ·have hp:dB bD ([0,4,8,12,16,20,24,29,40,45,50,69].filter fun y=>(fG 50).contains y) f a0=a0.put (some 9) (.map (some b)):=dh hv0 dD rfl
       rw[hp];exact aX rfl (aW jo.out) rfl (by rw[eval_put_ne (by decide)];exact e50) hrun
     ·as_aux_lemma=>
      cases ho;obtain⟨v0,hv0⟩:=cO (fK 0 (by decide));obtain⟨b,w2,hb,hrun,h3⟩:=bP (P:=Tryz.prog) Tryz.underlying144 Tryz.underlying3 (69,1024,10) (by decide) (.bool true) hv0 hT;subst hb;refine .inr ⟨w2,?_,bQ (69,1024,10) (by decide) h3⟩
      ·have hp:dB bD ([0,4,8,12,16,20,24,29,40,45,50,69].filter fun y=>(fG 69).contains y) f a0=a0.put (some 9) (.map (some b)):=dh hv0 dD rfl
       rw[hp];exact aX rfl (aW jo.out) rfl (by rw[eval_put_ne (by decide)];exact e69) hrun
    ·as_aux_lemma=>
     intro f w' hall hT;obtain⟨v0,hv0⟩:=cO (hall 0 (by decide));obtain⟨b,n,rfl,h3⟩:=(jU hv0).1 hT;rw[Ew _ (fun p hp=>hall p.1 (qY p hp))] at h3;obtain⟨v4,hv4⟩:=cO (hall 4 (by decide));obtain⟨v8,TV⟩:=cO (hall 8 (by decide));obtain⟨v12,l7⟩:=cO (hall 12 (by decide));obtain⟨v16,MO⟩:=cO (hall 16 (by decide));obtain⟨v20,MP⟩:=cO (hall 20 (by decide));obtain⟨v24,hv24⟩:=cO (hall 24 (by decide));obtain⟨v29,hv29⟩:=cO (hall 29 (by decide));obtain⟨v40,MQ⟩:=cO (hall 40 (by decide));obtain⟨v45,MR⟩:=cO (hall 45 (by decide));obtain⟨v50,MS⟩:=cO (hall 50 (by decide));obtain⟨v69,MV⟩:=cO (hall 69 (by decide));have hp:dB bD [0,4,8,12,16,20,24,29,40,45,50,69] f a0=a0.put (some 9) (.map (some b)):=by
      simp only[dB,List.foldl,hv0,hv4,TV,l7,MO,MP,hv24,hv29,MQ,MR,MS,MV];rw[dD,DI,DJ,zL,zM,zN,zO,zQ,zS,zT,zU,zV];rfl
     rw[hp,HA0.out];clear hT hall hp hv0 hv4 TV l7 MO MP hv24 hv29 MQ MR MS MV;obtain⟨w3,WG,h4⟩:=pz (P:=Tryz.prog) Tryz.underlying144 h3;obtain⟨r,hr⟩:=aC (w'.heap.size);rw[←hr] at WG h4;have H4:=ah h4;clear h3 h4 hr;simp only[Act.put,lsA,lsB,lq];refine mG ?_
     (refine J_e rfl rfl (fun K hK=>?_);go_simp)
     refine dY ?_;clear hK K;refine wM ?_;go_wp2;go_meet;case rel=>exact⟨b,r,n,rfl,H4.out⟩
   | false=>
    as_aux_lemma=>
    try rw[hq0]
    refine mG ?_
    try rw[hq1]
    refine mG ?_;refine Dp (n:=12) rfl ?_;clear hS0 hg;refine Jj (p:=fun a=>pI _ _ _ _ _ _ _ _ a _) (fun a0 ha0=>?_);have e4:a0.eval (.tmp 12)=.bool (bB z 0):=by rw[ha0];rfl
    have e8:a0.eval (.tmp 15)=.bool (bB z 1):=by rw[ha0];rfl
    have e12:a0.eval (.tmp 18)=.bool (bB z 2):=by rw[ha0];rfl
    have e16:a0.eval (.tmp 21)=.bool (bB z 3):=by rw[ha0];rfl
    have e20:a0.eval (.tmp 24)=.bool (bB z 4):=by rw[ha0];rfl
    have e24:a0.eval (.tmp 27)=.bool (bB z 5):=by rw[ha0];rfl
    have e29:a0.eval (.tmp 31)=.bool (bB z 6):=by rw[ha0];rfl
    have e40:a0.eval (.tmp 41)=.bool (bB z 7):=by rw[ha0];rfl
    have e45:a0.eval (.tmp 45)=.bool (bB z 8):=by rw[ha0];rfl
    have e50:a0.eval (.tmp 49)=.bool (bB z 9):=by rw[ha0];rfl
    have e69:a0.eval (.tmp 67)=.bool (bB z 10):=by rw[ha0];simp only[bB,HQ.out.1,HQ.out.2];rfl
    have jo:Hid (9<a0.tmps.size):=ah (by rw[ha0];show 9<86;omega);have HA0:=ah ha0;clear ha0;refine kL [0,4,8,12,16,20,24,29,40,45,50,69] fG (oH (bB z) X) DC DK ?_ ?_ ?_ 12 [0,4,8,12,16,20,24,29,40,45,50,69] (fun _=>none) wd rfl (by decide) (fun y=>by simp) (fun _ _ h=>by cases h) (by rw[oI rfl];exact H2.out)
    ·intro _ f w' hT
     exact wL.out w' (I8 hT)
    ·intro y hy f w' o' ho Jm fK hcl hT
     simp only[List.mem_cons,List.not_mem_nil,or_false] at hy;rcases hy with rfl|rfl|rfl|rfl|rfl|rfl|rfl|rfl|rfl|rfl|rfl|rfl
     ·as_aux_lemma=>
      cases ho;have hn:∀p∈insL,f p.1=none:=fun p hp=>by
       cases hv:f p.1 with
       | none=>rfl
       | some v=>have:=hcl p.1 (qY p hp) (by rw[hv];rfl) 0 (I7 p hp);rw[Jm] at this;cases this
      refine .inl (.inl ⟨.map (some w'.heap.size),w'.alloc (.map #[] 0),?_,zK Jm hn hT⟩)
      ·(go_simp;try rfl)
     ·as_aux_lemma=>
      cases ho;obtain⟨v0,hv0⟩:=cO (fK 0 (by decide));obtain⟨b,w2,hb,hrun,h3⟩:=bP (P:=Tryz.prog) Tryz.underlying144 Tryz.underlying3 (4,1,0) (by decide) (.bool true) hv0 hT;subst hb;refine .inr ⟨w2,?_,bQ (4,1,0) (by decide) h3⟩
      ·have hp:dB bD ([0,4,8,12,16,20,24,29,40,45,50,69].filter fun y=>(fG 4).contains y) f a0=a0.put (some 9) (.map (some b)):=dh hv0 dD rfl
       rw[hp];exact aX rfl (aW jo.out) rfl (by rw[eval_put_ne (by decide)];exact e4) hrun
     ·as_aux_lemma=>
      cases ho;obtain⟨v0,hv0⟩:=cO (fK 0 (by decide));obtain⟨b,w2,hb,hrun,h3⟩:=bP (P:=Tryz.prog) Tryz.underlying144 Tryz.underlying3 (8,2,1) (by decide) (.bool true) hv0 hT;subst hb;refine .inr ⟨w2,?_,bQ (8,2,1) (by decide) h3⟩
      ·have hp:dB bD ([0,4,8,12,16,20,24,29,40,45,50,69].filter fun y=>(fG 8).contains y) f a0=a0.put (some 9) (.map (some b)):=dh hv0 dD rfl
       rw[hp];exact aX rfl (aW jo.out) rfl (by rw[eval_put_ne (by decide)];exact e8) hrun
     ·as_aux_lemma=>
      cases ho;obtain⟨v0,hv0⟩:=cO (fK 0 (by decide));obtain⟨b,w2,hb,hrun,h3⟩:=bP (P:=Tryz.prog) Tryz.underlying144 Tryz.underlying3 (12,4,2) (by decide) (.bool true) hv0 hT;subst hb;refine .inr ⟨w2,?_,bQ (12,4,2) (by decide) h3⟩
      ·have hp:dB bD ([0,4,8,12,16,20,24,29,40,45,50,69].filter fun y=>(fG 12).contains y) f a0=a0.put (some 9) (.map (some b)):=dh hv0 dD rfl
       rw[hp];exact aX rfl (aW jo.out) rfl (by rw[eval_put_ne (by decide)];exact e12) hrun
     ·as_aux_lemma=>
      cases ho;obtain⟨v0,hv0⟩:=cO (fK 0 (by decide));obtain⟨b,w2,hb,hrun,h3⟩:=bP (P:=Tryz.prog) Tryz.underlying144 Tryz.underlying3 (16,8,3) (by decide) (.bool true) hv0 hT;subst hb;refine .inr ⟨w2,?_,bQ (16,8,3) (by decide) h3⟩
      ·have hp:dB bD ([0,4,8,12,16,20,24,29,40,45,50,69].filter fun y=>(fG 16).contains y) f a0=a0.put (some 9) (.map (some b)):=dh hv0 dD rfl
       rw[hp];exact aX rfl (aW jo.out) rfl (by rw[eval_put_ne (by decide)];exact e16) hrun
     ·as_aux_lemma=>
      cases ho;obtain⟨v0,hv0⟩:=cO (fK 0 (by decide));obtain⟨b,w2,hb,hrun,h3⟩:=bP (P:=Tryz.prog) Tryz.underlying144 Tryz.underlying3 (20,16,4) (by decide) (.bool true) hv0 hT;subst hb;refine .inr ⟨w2,?_,bQ (20,16,4) (by decide) h3⟩
      ·have hp:dB bD ([0,4,8,12,16,20,24,29,40,45,50,69].filter fun y=>(fG 20).contains y) f a0=a0.put (some 9) (.map (some b)):=dh hv0 dD rfl
       rw[hp];exact aX rfl (aW jo.out) rfl (by rw[eval_put_ne (by decide)];exact e20) hrun
     ·as_aux_lemma=>
      cases ho;obtain⟨v0,hv0⟩:=cO (fK 0 (by decide));obtain⟨b,w2,hb,hrun,h3⟩:=bP (P:=Tryz.prog) Tryz.underlying144 Tryz.underlying3 (24,32,5) (by decide) (.bool true) hv0 hT;subst hb;refine .inr ⟨w2,?_,bQ (24,32,5) (by decide) h3⟩
      ·have hp:dB bD ([0,4,8,12,16,20,24,29,40,45,50,69].filter fun y=>(fG 24).contains y) f a0=a0.put (some 9) (.map (some b)):=dh hv0 dD rfl
       rw[hp];exact aX rfl (aW jo.out) rfl (by rw[eval_put_ne (by decide)];exact e24) hrun
     ·as_aux_lemma=>
      cases ho;obtain⟨v0,hv0⟩:=cO (fK 0 (by decide));obtain⟨b,w2,hb,hrun,h3⟩:=bP (P:=Tryz.prog) Tryz.underlying144 Tryz.underlying3 (29,64,6) (by decide) (.bool true) hv0 hT;subst hb;refine .inr ⟨w2,?_,bQ (29,64,6) (by decide) h3⟩
      ·have hp:dB bD ([0,4,8,12,16,20,24,29,40,45,50,69].filter fun y=>(fG 29).contains y) f a0=a0.put (some 9) (.map (some b)):=dh hv0 dD rfl
       rw[hp];exact aX rfl (aW jo.out) rfl (by rw[eval_put_ne (by decide)];exact e29) hrun
     ·as_aux_lemma=>
      cases ho;obtain⟨v0,hv0⟩:=cO (fK 0 (by decide));obtain⟨b,w2,hb,hrun,h3⟩:=bP (P:=Tryz.prog) Tryz.underlying144 Tryz.underlying3 (40,128,7) (by decide) (.bool true) hv0 hT;subst hb;refine .inr ⟨w2,?_,bQ (40,128,7) (by decide) h3⟩
      ·have hp:dB bD ([0,4,8,12,16,20,24,29,40,45,50,69].filter fun y=>(fG 40).contains y) f a0=a0.put (some 9) (.map (some b)):=dh hv0 dD rfl
       rw[hp];exact aX rfl (aW jo.out) rfl (by rw[eval_put_ne (by decide)];exact e40) hrun
     ·as_aux_lemma=>
      cases ho;obtain⟨v0,hv0⟩:=cO (fK 0 (by decide));obtain⟨b,w2,hb,hrun,h3⟩:=bP (P:=Tryz.prog) Tryz.underlying144 Tryz.underlying3 (45,256,8) (by decide) (.bool true) hv0 hT;subst hb;refine .inr ⟨w2,?_,bQ (45,256,8) (by decide) h3⟩
      ·have hp:dB bD ([0,4,8,12,16,20,24,29,40,45,50,69].filter fun y=>(fG 45).contains y) f a0=a0.put (some 9) (.map (some b)):=dh hv0 dD rfl
       rw[hp];exact aX rfl (aW jo.out) rfl (by rw[eval_put_ne (by decide)];exact e45) hrun
     ·as_aux_lemma=>
      cases ho;obtain⟨v0,hv0⟩:=cO (fK 0 (by decide));obtain⟨b,w2,hb,hrun,h3⟩:=bP (P:=Tryz.prog) Tryz.underlying144 Tryz.underlying3 (50,512,9) (by decide) (.bool true) hv0 hT;subst hb;refine .inr ⟨w2,?_,bQ (50,512,9) (by decide) h3⟩
      ·have hp:dB bD ([0,4,8,12,16,20,24,29,40,45,50,69].filter fun y=>(fG 50).contains y) f a0=a0.put (some 9) (.map (some b)):=dh hv0 dD rfl
       rw[hp];exact aX rfl (aW jo.out) rfl (by rw[eval_put_ne (by decide)];exact e50) hrun
     ·as_aux_lemma=>
      cases ho;obtain⟨v0,hv0⟩:=cO (fK 0 (by decide));obtain⟨b,w2,hb,hrun,h3⟩:=bP (P:=Tryz.prog) Tryz.underlying144 Tryz.underlying3 (69,1024,10) (by decide) (.bool true) hv0 hT;subst hb;refine .inr ⟨w2,?_,bQ (69,1024,10) (by decide) h3⟩
      ·have hp:dB bD ([0,4,8,12,16,20,24,29,40,45,50,69].filter fun y=>(fG 69).contains y) f a0=a0.put (some 9) (.map (some b)):=dh hv0 dD rfl
       rw[hp];exact aX rfl (aW jo.out) rfl (by rw[eval_put_ne (by decide)];exact e69) hrun
    ·as_aux_lemma=>
     intro f w' hall hT;obtain⟨v0,hv0⟩:=cO (hall 0 (by decide));obtain⟨b,n,rfl,h3⟩:=(jU hv0).1 hT;rw[Ew _ (fun p hp=>hall p.1 (qY p hp))] at h3;obtain⟨v4,hv4⟩:=cO (hall 4 (by decide));obtain⟨v8,TV⟩:=cO (hall 8 (by decide));obtain⟨v12,l7⟩:=cO (hall 12 (by decide));obtain⟨v16,MO⟩:=cO (hall 16 (by decide));obtain⟨v20,MP⟩:=cO (hall 20 (by decide));obtain⟨v24,hv24⟩:=cO (hall 24 (by decide));obtain⟨v29,hv29⟩:=cO (hall 29 (by decide));obtain⟨v40,MQ⟩:=cO (hall 40 (by decide));obtain⟨v45,MR⟩:=cO (hall 45 (by decide));obtain⟨v50,MS⟩:=cO (hall 50 (by decide));obtain⟨v69,MV⟩:=cO (hall 69 (by decide));have hp:dB bD [0,4,8,12,16,20,24,29,40,45,50,69] f a0=a0.put (some 9) (.map (some b)):=by
      simp only[dB,List.foldl,hv0,hv4,TV,l7,MO,MP,hv24,hv29,MQ,MR,MS,MV];rw[dD,DI,DJ,zL,zM,zN,zO,zQ,zS,zT,zU,zV];rfl
     rw[hp,HA0.out];clear hT hall hp hv0 hv4 TV l7 MO MP hv24 hv29 MQ MR MS MV;obtain⟨w3,WG,h4⟩:=pz (P:=Tryz.prog) Tryz.underlying144 h3;obtain⟨r,hr⟩:=aC (w'.heap.size);rw[←hr] at WG h4;have H4:=ah h4;clear h3 h4 hr;simp only[Act.put,lsA,lsB,lq];refine mG ?_
     (refine J_e rfl rfl (fun K hK=>?_);go_simp)
     refine dY ?_;clear hK K;refine wM ?_;go_wp2;go_meet;case rel=>exact⟨b,r,n,rfl,H4.out⟩
 clear CS;obtain⟨b,r,n,rfl,hS⟩:=hcut;have HS:=ah hS;clear hS;go_wp2_with fail;go_loopw [4] (fun mv wr=>∃(lf:Int→Bool) (cnt:Nat) (m:Nat),mv=.int .i64 (m:Nat)∧Hid (m=(gI (fun i=>bB z i&&!lf (lg i))).toNat)∧Sat W wr (sep (rng b r (mapA (bB z)) n lf cnt) X)) (fun _ wr=>wr.rangeLeft b r)
 case atStart=>exact⟨_,_,0,rfl,ah (by rw[O9 (fun i hi=>by rw[Uc (bB z) i hi];simp)];rfl),HS.out⟩
 case round=>
  obtain⟨lf,cnt,m,rfl,HM,hS⟩:=hrel;clear HS;have hcnt:=hS.NY;rcases JU (P:=Tryz.prog) 0 hS with ⟨hno,hrun⟩|⟨k,v,w2,cnt2,hlk,hfk,hlt,hrun,hen,hS2⟩
  ·have HF:Hid (m=(gI (bB z)).toNat):=ah (by rw[HM.out,uw (U:=bB z) (fun i _=>by rw[hno];simp)])
   obtain⟨es,clk,-,-,-,h9⟩:=hS.ZL.nO;obtain⟨hk,hA⟩:=HXK.out wr h9.forget;have hfr:=KE.out wr _ hA;have hkl:(kn:Int)<22:=by have:=HK.out.2;omega
   have hk0:(0:Int)≤(kn:Int):=by omega
   rw[HK.out.1] at hk;have HA:=ah hA;clear hS h9 hno hA hcnt HM;go_wp2_with fail;rw[bK.out];exact⟨by rw[bU.out,←Tz,←HF.out];try rfl,HA.out⟩
  ·obtain⟨i,hi,rfl,rfl⟩:=WX hfk
   have XV:=ah (aH hi hlk);obtain⟨ky,hky⟩:=aC (lg i);obtain⟨bz,hbz⟩:=aC (bB z i);rw[←hky] at hrun hen hS2;rw[←hbz] at hrun hen;have HKY:=ah (aH hky hbz);have hcnt2:=hS2.NY;have H2':=ah hS2;clear hS hlk hfk hi hky hbz hS2;cases bz with
   | false=>
    go_wp2_with fail;go_roundw;case rel=>
     refine⟨_,cnt2,m,rfl,ah ?_,H2'.out⟩;rw[HM.out];congr 1;refine uw fun j hj=>?_
     by_cases e:lg j=ky
     ·obtain rfl:j=i:=Nl j hj i XV.out.1 (by rw[e];exact HKY.out.1)
      rw[←HKY.out.2];rfl
     ·have:(lg j !=ky)=true:=by simpa using e
      rw[this];simp
    case measure=>rw[hcnt2,hcnt];exact hlt
   | true=>
    go_wp2_with fail;go_roundw;case rel=>
     have e1:bits BinOp.or IntKind.i64 (m:Int) ky=(((gI fun j=>bB z j&&!(lf (lg j)&&lg j !=ky)).toNat:Nat):Int):=by
      rw[HM.out,HKY.out.1];refine TA XV.out.1 (fun j hj hne=>?_) ?_ ?_
      ·have h1:(lg j !=lg i)=true:=by
        have:=fun e=>hne (Nl j hj i XV.out.1 e)
        simpa using this
       rw[h1];simp
      ·rw[←HKY.out.2];simp
      ·have:=XV.out.2
       rw[this];simp
     exact⟨_,cnt2,_,by rw[e1],ah rfl,H2'.out⟩
    case measure=>rw[hcnt2,hcnt];exact hlt
end Go.Proofs.YthfmaclnccdcbaaGreatDoor
