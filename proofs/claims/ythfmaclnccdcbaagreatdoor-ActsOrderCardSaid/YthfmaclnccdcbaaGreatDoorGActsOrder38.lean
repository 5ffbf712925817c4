/- Part of a proof. -/
import Derived.Test.YthfmaclnccdcbaaGreatDoorGActsOrder37
namespace Go.Proofs.YthfmaclnccdcbaaGreatDoor
open Go.RowKit PA
attribute [local go_sem ↓] bW dB aY
end Go.Proofs.YthfmaclnccdcbaaGreatDoor
namespace PA
open Go Go.RowKit
def kN:List Pa→List Pa→Bool
 | [],[]=>true
 | x::xs,y::ys=>aZ x&&(aZ y&&(decide (gZ x=gZ y)&&kN xs ys))
 | _,_=>false
theorem Gs:∀{l m:List Pa},l.length≠m.length→kN l m=false
 | [],[],h=>absurd rfl h
 | [],_::_,_=>rfl
 | _::_,[],_=>rfl
 | x::xs,y::ys,h=>by
  rw[kN,Gs (l:=xs) (m:=ys) (fun e=>h (by rw[List.length_cons,List.length_cons,e]))];simp
theorem OH {l m:List Pa} {i:Nat} {x y:Pa} (hx:l[i]?=some x) (hy:m[i]?=some y):kN (l.drop i) (m.drop i)=(aZ x&&(aZ y&&(decide (gZ x=gZ y)&&kN (l.drop (i+1)) (m.drop (i+1))))):=by
 obtain⟨h1,e1⟩:=List.getElem?_eq_some_iff.1 hx;obtain⟨h2,e2⟩:=List.getElem?_eq_some_iff.1 hy;rw[List.drop_eq_getElem_cons h1,List.drop_eq_getElem_cons h2,e1,e2,kN]
theorem Rq (x y:Pa):kN [x] [y]=(aZ x&&(aZ y&&decide (gZ x=gZ y))):=by
 rw[kN,kN,Bool.and_true]
end PA
namespace Go.Proofs.YthfmaclnccdcbaaGreatDoor
open Go.RowKit PA
theorem OG {W w:World} {A:aC} {I:Mem} (v u:Value) (x y:List UInt8) (h:Sat W w (sep (kn I) A)) (h1:bT.rel I [v] x) (h2:bT.rel I [u] y):
 Calls Tryz.prog 71 #[v,u] w fun e w'=>e=.returned (.bool (decide (x=y)))∧Sat W w' (sep (kn I) A):=by
 have t1:Sat W w (sep (bT.is [u] y) (sep (kn I) A)):=h.tell h2;have t2:Sat W w (sep (bT.is [v] x) (sep (kn I) (sep (bT.is [u] y) A))):=t1.p1.tell h1;have t3:Sat W w (sep (bT.is [v] x) (sep (bT.is [u] y) (sep (kn I) A))):=dJ t2;refine (Ee v u x y t3).mono ?_;rintro e w' ⟨rfl,h4⟩;exact⟨rfl,h4.drop.drop⟩
attribute [local go_sem ↓] bW dB aY
set_option maxRecDepth 100000 in
set_option maxHeartbeats 8000000 in
theorem OE {W w:World} {A:aC} {I:Mem} (a b:Option Addr) (n m c d:Nat) (Ls Ms:List (Ac×Pa)) (hn:n=Ls.length) (hm:m=Ms.length) (hn2:n≤65536) (hm2:m≤65536) (hc:gY a (dA (Ls.map (·.1))) I) (hc2:gY b (dA (Ms.map (·.1))) I) (hA:∀p∈Ls,kX I p.1 p.2∧SX p.2∧kK p.2) (hB:∀p∈Ms,kX I p.1 p.2∧SX p.2∧kK p.2) (h:Sat W w (sep (kn I) A)):
 Calls Tryz.prog 23 #[.slice a n c,.slice b m d] w fun e w'=>∃J,e=.returned (.bool (kN (Ls.map (·.2)) (Ms.map (·.2))))∧Mem.le I J∧Sat W w' (sep (kn J) A):=by
 have n63:(n:Int)≤65536:=by omega
 have m63:(m:Int)≤65536:=by omega
 have rM:Hid (∀p,p∈Ls∨p∈Ms→∀w' A' J,Mem.le I J→Sat W w' (sep (kn J) A')→Calls Tryz.prog 27 #[.agg p.1.cells.toArray] w' fun e w''=>∃(b:Option Addr) (m d:Nat) (J2:Mem),e=.returned (.tuple #[.slice b m d,.int .i64 (if aZ p.2=true then 0 else 1)])∧Mem.le J J2∧bT.rel J2 [.slice b m d] (gZ p.2)∧Sat W w'' (sep (kn J2) A')):=ah fun p hp w' A' J hl h'=>by
  have hp':kX I p.1 p.2∧SX p.2∧kK p.2:=hp.elim (hA p) (hB p);exact pq p.1 p.2 (hp'.1.mono hl) hp'.2.1 hp'.2.2 h'
 obtain⟨R,hR⟩:=aB (kN (Ls.map (·.2)) (Ms.map (·.2)));obtain⟨Po,dU⟩:∃P:Ending→World→Prop,P=fun e w'=>∃J,e=.returned (.bool R)∧Mem.le I J∧Sat W w' (sep (kn J) A):=⟨_,rfl⟩
 rw[←hR,←dU];have bI:=ah dU;have H:=ah h
 by_cases hnm:n=m
 case neg=>
  have HR:Hid (R=false):=ah (by rw[hR];exact Gs (by rw[List.length_map,List.length_map];omega));have hz:((n:Int)==(m:Int))=false:=by rw[beq_eq_false_iff_ne];omega
  clear hn hm hc hc2 hA hB h dU hR hnm hn2 hm2 rM
  go_enter Tryz.func23,Tryz.ntmps23
  go_wp2
  rw[bI.out,HR.out];exact⟨I,rfl,Mem.le_refl I,H.out⟩
 case pos=>
 subst hnm;have HN:=ah (And.intro hn hm);have HC:=ah (And.intro hc hc2);have HR:Hid (R=kN ((Ls.map (·.2)).drop 0) ((Ms.map (·.2)).drop 0)):=ah hR;have HR0:Hid (kN ((Ls.map (·.2)).drop n) ((Ms.map (·.2)).drop n)=true):=ah (by
  rw[List.drop_eq_nil_of_le (by rw[List.length_map];omega),List.drop_eq_nil_of_le (by rw[List.length_map];omega)];rfl)
 clear hn hn2 hm2 hc hc2 hA hB h dU hR hm m63
 go_enter Tryz.func23,Tryz.ntmps23
 go_wp2_with fail
 go_loopw [5] (fun kv wr=>∃(i:Nat) (J:Mem),kv=.int .i64 i∧i≤n∧Hid (Mem.le I J∧R=kN ((Ls.map (·.2)).drop i) ((Ms.map (·.2)).drop i))∧Sat W wr (sep (kn J) A)) (fun kv _=>n-(intOf kv).toNat)
 case atStart=>exact⟨0,I,rfl,by omega,ah ⟨Mem.le_refl I,HR.out⟩,H.out⟩
 case round=>
  obtain⟨i,J,rfl,hi,HJ,hS⟩:=hrel;clear H HR
  by_cases hlt:i<n
  ·have hltz:(i:Int)<(n:Int):=by omega
   obtain⟨p,hp⟩:∃p,Ls[i]?=some p:=⟨_,List.getElem?_eq_getElem (by have:=HN.out;omega)⟩
   obtain⟨q,hq⟩:∃q,Ms[i]?=some q:=⟨_,List.getElem?_eq_getElem (by have:=HN.out;omega)⟩
   have hpm:p∈Ls:=List.mem_of_getElem? hp;have hqm:q∈Ms:=List.mem_of_getElem? hq;have key:∀{Ks:List (Ac×Pa)} {r:Ac×Pa} {a':Option Addr},Ks[i]?=some r→gY a' (dA (Ks.map (·.1))) I→∃b o,a'=some ⟨b,o,none⟩∧∀w',Ext I w'→Sem.run Tryz.prog (jA (.pointer (some ⟨b,o+i*19,none⟩))) w'=.ok (.agg r.1.cells.toArray) w':=fun {Ks r a'} hr hc'=>by
    obtain⟨hil,hre⟩:=List.getElem?_eq_some_iff.1 hr;have hne:Ks.map (·.1)≠[]:=fun e=>by
     have h1:=congrArg List.length e;rw[List.length_map,List.length_nil] at h1;omega
    obtain⟨b1,o1,e1,hl1⟩:=Jt hc' hne;refine⟨b1,o1,e1,fun w' he=>?_⟩;have h1:=hl1 w' he i (by rw[List.length_map];exact hil)
    rwa [List.getElem_map,hre] at h1
   obtain⟨b1,o1,hba,WR⟩:=key hp HC.out.1;obtain⟨b2,o2,hbb,NR⟩:=key hq HC.out.2;have HL2:=ah NR;have k1:=WR wr (tJ HJ.out.1 hS.ext);have HE:=ah (And.intro (rM.out p (.inl hpm)) (rM.out q (.inr hqm)));have ML:=ah hlt;have HS:=ah hS;have HX:Hid (R=(aZ p.2&&(aZ q.2&&(decide (gZ p.2=gZ q.2)&&kN ((Ls.map (·.2)).drop (i+1)) ((Ms.map (·.2)).drop (i+1)))))):=ah (by
    rw[HJ.out.2];exact OH (by rw[List.getElem?_map,hp];rfl) (by rw[List.getElem?_map,hq];rfl))
   obtain⟨x,hx⟩:=aB (gZ p.2);obtain⟨y,hy⟩:=aB (gZ q.2);obtain⟨vx,hvx⟩:=aB (aZ p.2);obtain⟨vy,ZL⟩:=aB (aZ q.2);obtain⟨ex,hex⟩:∃e:Int,e=if aZ p.2=true then 0 else 1:=⟨_,rfl⟩
   obtain⟨ey,hey⟩:∃e:Int,e=if aZ q.2=true then 0 else 1:=⟨_,rfl⟩
   rw[←hx,←hy,←hex,←hey] at HE;rw[←hx,←hy,←hvx,←ZL] at HX;rw[←hvx] at hex;rw[←ZL] at hey;have HEX:=ah (And.intro hex hey);subst hba;subst hbb;clear hp hq hpm hqm WR NR hlt hi hS key hx hy hvx ZL hex hey
   go_upto_region 6 with (fail)
   go_wp2_with fail
   refine (HE.out.1 _ _ J HJ.out.1 HS.out).mono ?_;rintro e w2 ⟨x1,m1,e1,J1,rfl,hle1,hr1,h2⟩;have XF:=ah (And.intro (eG HJ.out.1 hle1) hr1);have k2:=HL2.out w2 (tJ XF.out.1 h2.ext);have H2:=ah h2;clear hle1 hr1 h2 k1 HS
   go_upto_region 7 with (fail)
   go_wp2_with fail
   refine (HE.out.2 _ _ J1 XF.out.1 H2.out).mono ?_;rintro e w3 ⟨x2,m2,e2,J2,rfl,hle2,hr2,h3⟩;have HJ2:=ah (And.intro (eG XF.out.1 hle2) (And.intro (bT.mono hle2 XF.out.2) hr2));have H3:=ah h3;clear hle2 hr2 h3 k2 H2 HE;cases vx with
   | false=>
    have HF:Hid (R=false):=ah HX.out;obtain rfl:ex=1:=HEX.out.1
    go_wp2
    rw[bI.out,HF.out];exact⟨J2,rfl,HJ2.out.1,H3.out⟩
   | true=>
   obtain rfl:ex=0:=HEX.out.1;cases vy with
   | false=>
    have HF:Hid (R=false):=ah HX.out;obtain rfl:ey=1:=HEX.out.2
    go_wp2
    rw[bI.out,HF.out];exact⟨J2,rfl,HJ2.out.1,H3.out⟩
   | true=>
   obtain rfl:ey=0:=HEX.out.2;have hsb:=OG (.slice x1 m1 e1) (.slice x2 m2 e2) x y H3.out HJ2.out.2.1 HJ2.out.2.2;have HXX:Hid (R=(decide (x=y)&&kN ((Ls.map (·.2)).drop (i+1)) ((Ms.map (·.2)).drop (i+1)))):=ah HX.out;obtain⟨sb,abT⟩:=aB (decide (x=y));rw[←abT] at hsb HXX;have HSB:=ah hsb;clear hsb abT HX
   go_upto_region 8 with (fail)
   go_wp2_with fail
   refine HSB.out.mono ?_;rintro e w4 ⟨rfl,h4⟩;have H4:=ah h4;clear h4 H3 HSB;cases sb with
   | false=>
    have HF:Hid (R=false):=ah HXX.out
    go_wp2
    rw[bI.out,HF.out];exact⟨J2,rfl,HJ2.out.1,H4.out⟩
   | true=>
   go_wp2
   go_roundw
   case rel=>exact⟨i+1,J2,by go_num,by have:=ML.out;omega,ah ⟨HJ2.out.1,HXX.out⟩,H4.out⟩
   case measure=>simp[intOf];have:=ML.out;omega
  ·obtain rfl:i=n:=by omega
   have HS:=ah hS;have HF:Hid (R=true):=ah (HJ.out.2.trans HR0.out);clear hS hlt hi
   go_wp2
   rw[bI.out,HF.out];exact⟨J,rfl,HJ.out.1,HS.out⟩
end Go.Proofs.YthfmaclnccdcbaaGreatDoor
namespace PA
open Go Go.RowKit
theorem Xw {a b:Int} (h:Lib.zigzag a=Lib.zigzag b):a=b:=by
 unfold Lib.zigzag at h;split at h<;>split at h<;>omega
theorem Nw {a b:Int} {s t:List UInt8} (ha:-9223372036854775808≤a∧a≤9223372036854775807) (hb:-9223372036854775808≤b∧b≤9223372036854775807) (h:PA.encI a++s=PA.encI b++t):a=b∧s=t:=by
 have h1:=LU (Lib.zigzag a) s (Lib.zigzag_lt ha.1 ha.2);have h2:=LU (Lib.zigzag b) t (Lib.zigzag_lt hb.1 hb.2);unfold PA.encI at h;rw[h,h2] at h1;simp only[Except.ok.injEq,Prod.mk.injEq] at h1;exact⟨(Xw h1.1).symm,h1.2.symm⟩
theorem Cj:∀(l m:List Int) (s t:List UInt8),l.length=m.length→(∀r∈l,-9223372036854775808≤r∧r≤9223372036854775807)→(∀r∈m,-9223372036854775808≤r∧r≤9223372036854775807)→(l.map PA.encI).flatten++s=(m.map PA.encI).flatten++t→l=m∧s=t
 | [],[],_,_,_,_,_,h=>⟨rfl,h⟩
 | [],_::_,_,_,h,_,_,_=>by simp at h
 | _::_,[],_,_,h,_,_,_=>by simp at h
 | a::l,b::m,s,t,hl,h1,h2,h=>by
  simp only[List.map_cons,List.flatten_cons,List.append_assoc] at h;obtain⟨e1,e2⟩:=Nw (h1 a (List.mem_cons_self ..)) (h2 b (List.mem_cons_self ..)) h;obtain⟨e3,e4⟩:=Cj l m s t (by simpa using hl) (fun r hr=>h1 r (List.mem_cons_of_mem _ hr)) (fun r hr=>h2 r (List.mem_cons_of_mem _ hr)) e2;exact⟨by rw[e1,e3],e4⟩
theorem WE {x y:Pa} (ex:kK x) (ey:kK y) (h:Ce x=Ce y):fH x=fH y:=by
 unfold Ce at h;rw[List.append_assoc,List.append_assoc] at h;exact (Cj (fH x) (fH y) _ _ rfl ex.n64 ey.n64 h).1
theorem TD {x y:Pa} (hx:aZ x=true) (hy:aZ y=true) (ex:kK x) (ey:kK y) (h:gZ x=gZ y):x.d=y.d∧x.n=y.n:=by
 unfold gZ at h;rw[if_pos hx,if_pos hy] at h;have h1:=WE ex ey h;simp only[fH,List.cons.injEq] at h1;exact⟨h1.2.1,h1.2.2.1⟩
theorem QD {x y:Pa} (hx:aZ x=true) (hy:aZ y=true) (ex:kK x) (ey:kK y):decide (o9 x y=0)=kN [x] [y]:=by
 rw[Rq,hx,hy,Bool.true_and,Bool.true_and];refine decide_eq_decide.2 ⟨fun h=>(QG h).2.2,fun h=>?_⟩;obtain⟨h1,h2⟩:=TD hx hy ex ey h;rw[mG];have:NZ x=NZ y:=by unfold NZ;rw[h,h1,h2]
 rw[this];exact yY _
end PA
