/- Part of a proof. -/
import Derived.Test.YtgicfogmdfdjmaaGreatDoorGTitleHolds10
namespace Go.Proofs.YtgicfogmdfdjmaaGreatDoor
open Go.RowKit PA
def kS:Nat:=20
theorem Kt (w:World):(Go.sizeOf 87).run Tryz.prog w=.ok kS w:=by kernel_rfl
def UN (p:Array (Nat×Value)):Sem Value:=Instr.build 87 p
theorem Nv (p:Array (Nat×Value)):Instr.build 87 p=UN p:=rfl
def UO (p:Array (Nat×Value)):Sem Value:=Instr.buildSlice 85 1 p
theorem zH (p:Array (Nat×Value)):Instr.buildSlice 85 1 p=UO p:=rfl
def gB (s:Nat×Ac):List Value:=.int .i64 s.1::s.2.cells
theorem Fg (s:Nat×Ac):(gB s).length=20:=rfl
theorem Fh (s:Nat×Ac):∀u∈gB s,u.oneCell'=true:=by
 intro u hu
 rcases List.mem_cons.1 hu with rfl|hu
 ·rfl
 ·exact s.2.one u hu
def nM (l:List (Nat×Ac)):List Value:=l.flatMap gB
theorem Ku (l:List (Nat×Ac)):(nM l).length=l.length*20:=by
 induction l with
 | nil=>rfl
 | cons x xs ih=>rw[nM,List.flatMap_cons,dI,←nM,ih,List.length_cons,Fg];omega
theorem XP (xs:List (Nat×Ac)) (i:Nat) (hi:i<xs.length) (j:Nat) (hj:j<20):(nM xs)[i*20+j]?=(gB xs[i])[j]?:=by
 have e:xs=xs.take i++xs[i]::xs.drop (i+1):=by rw[←List.drop_eq_getElem_cons hi,List.take_append_drop]
 have hl:(nM (xs.take i)).length=i*20:=by rw[Ku,List.length_take,Nat.min_eq_left (by omega)]
 conv=>lhs;rw[e]
 unfold nM at hl ⊢
 rw[List.flatMap_append,List.getElem?_append_right (by omega),hl,Nat.add_sub_cancel_left,List.flatMap_cons,List.getElem?_append_left (by rw[Fg];exact hj)]
theorem Kv:(Tryz.prog.info? 87).map (fun i=>(i.zero,i.size,i.bytes))=some (some (.agg (gB (0,Ac.zero)).toArray),20,256):=by kernel_rfl
theorem Nw (i:Nat) (x:Ac) (w:World):(UN #[(0,.int .i64 i),(1,.agg x.cells.toArray)]).run Tryz.prog w=.ok (.agg (gB (i,x)).toArray) w:=by kernel_rfl
theorem Ny (s:Nat×Ac) (w:World):(UO #[(0,.agg (gB s).toArray)]).run Tryz.prog w=.ok (.slice (some ⟨w.heap.size,0,none⟩) 1 1) (w.alloc (.cells (gB s).toArray 87)):=by
 obtain⟨i,h1,h2,h3,h4⟩:=info_parts Kv
 exact run_buildSlice w 85 87 1 _ _ i _ Tryz.underlying85 h1 h2 (by rw[h3];omega) (by rw[h3];omega) (by rw[h3];kernel_rfl)
theorem XQ {w:World} {q:Nat} {x:Ac} (h:∀i v,x.cells[i]?=some v→w.cell? ⟨q,i,none⟩=some v):Sem.run Tryz.prog (loadCellsFrom ⟨q,0,none⟩ 0 kA #[]) w=.ok x.cells.toArray w:=by
 have hl:x.cells.length=kA:=rfl
 have:=run_loadCells_list (P:=Tryz.prog) w ⟨q,0,none⟩ x.cells (fun j v hj=>by
  have e:(⟨q,0,none⟩:Addr).add j=⟨q,j,none⟩:=by unfold Addr.add;split<;>simp_all
  rw[e]
  exact h j v hj)
 rw[hl] at this
 exact this
attribute [local go_sem ↓] aT Nv zH
def DW (s:List (Nat×Ac)) (i:Nat) (x:Ac) (dn:Bool):List (Nat×Ac):=if x.k=16∧dn=true then s++[(i,x)] else s
theorem Ph {s:List (Nat×Ac)} {i:Nat} {x:Ac} {dn:Bool} (h:s.length≤i):(DW s i x dn).length≤i+1:=by
 unfold DW
 split
 ·rw[dI,List.length_singleton];omega
 ·omega
def capD (V:Nat) (s:List (Nat×Ac)):aG:=ex fun ac:Option Addr×Nat=>sep (blk V (.cells #[.slice ac.1 s.length ac.2] 85 (0,0))) (aK 87 20 ac.1 s.length ac.2 (nM s))
theorem Fj {W w:World} {A:aG} {V:Nat} {s:List (Nat×Ac)} (h:Sat W w (sep (capD V s) A)):∃a c,Sat W w (sep (blk V (.cells #[.slice a s.length c] 85 (0,0))) (sep (aK 87 20 a s.length c (nM s)) A)):=by
 rw[capD,dA,Sat.ex] at h
 obtain⟨⟨a,c⟩,h⟩:=h
 rw[aj] at h
 exact⟨a,c,h⟩
theorem Ad {W w:World} {A:aG} {V:Nat} {s:List (Nat×Ac)} {a:Option Addr} {c:Nat} (h:Sat W w (sep (blk V (.cells #[.slice a s.length c] 85 (0,0))) (sep (aK 87 20 a s.length c (nM s)) A))):Sat W w (sep (capD V s) A):=by
 rw[capD,dA,Sat.ex]
 exact⟨(a,c),by rw[aj];exact h⟩
set_option maxHeartbeats 2000000 in
theorem y8 {W w:World} {B:aG} (V:Nat) (s:List (Nat×Ac)) (i:Nat) (x:Ac) (dn:Bool) (pt:Value) (hi:i<40) (hs:s.length≤i) (h:Sat W w (sep (capD V s) B)):
 Calls Tryz.prog 28 #[pt,.int .i64 i,.agg x.cells.toArray,.bool dn,.pointer (some ⟨V,0,none⟩)] w fun e w'=>e=.returned (.tuple #[])∧Sat W w' (sep (capD V (DW s i x dn)) B):=by
 obtain⟨a,c,h0⟩:=Fj h
 have h1:=h0.dD (.cells x.cells.toArray 67)
 obtain⟨w1,hw1⟩:=aC (w.alloc (.cells x.cells.toArray 67))
 have b0:(w.alloc (.cells x.cells.toArray 67)).cell? ⟨w.heap.size,0,none⟩=some (.int .i64 x.k):=kT w x 0
 have l1:Sem.run Tryz.prog (loadCellsFrom ⟨w.heap.size,0,none⟩ 0 kA #[]) (w.alloc (.cells x.cells.toArray 67))=.ok x.cells.toArray (w.alloc (.cells x.cells.toArray 67)):=XQ fun j v hj=>by rw[kT];exact hj
 obtain⟨Bx,hBx⟩:=aC (w.heap.size)
 rw[←hw1,←hBx] at b0 l1
 rw[←hw1] at h1
 obtain⟨n,hn⟩:=aC (s.length)
 rw[←hn] at h1
 have H1:=ah h1
 have HW1:=ah hw1
 have pF:=ah hBx
 have HN:=ah hn
 have XG:n≤40:=by omega
 clear h h0 h1 hw1 hBx hn hs
 by_cases hc:x.k=16∧dn=true
 ·obtain⟨hk,rfl⟩:=hc
  have HE:Hid (DW s i x true=s++[(i,x)]):=ah (by unfold DW;rw[if_pos ⟨hk,rfl⟩])
  rw[hk] at b0
  have v0:w1.cell? ⟨V,0,none⟩=some (.slice a n c):=H1.out.cell 0
  have hbd:=Nw i x
  have hbs:=Ny (i,x)
  have hB:Sat W (w1.alloc (.cells (gB (i,x)).toArray 87)) (sep (aK 87 20 a n c (nM s)) (sep (blk V (.cells #[.slice a n c] 85 (0,0))) B)):=(H1.out.dD _).p1
  have gI:=ah (dS w1 (gB (i,x)) 87)
  have HB:=ah hB
  clear hk hB
  go_enter Tryz.func28,Tryz.ntmps28
  go_upto_region 1 with (fail)
  rw[←pF.out,←HW1.out]
  go_wp2_with (at_builtin;refine aJ rfl _ _ 85 rfl 87 20 256 _ Tryz.underlying85 Kv rfl rfl HB.out rfl (gB (i,x)) rfl (by simp) (by intro b' hb;cases hb;exact gI.out) (Fh _) (by omega) (by unfold maxLen;omega) ?_)
  intro a2 c2 w4 h5
  have h6:=h5.p1
  have u0:=h6.aI 0
  have v1:w4.cell? ⟨V,0,none⟩=some (.slice a n c):=h6.cell 0
  have H7:=ah (h6.setCell 0 (.slice a2 (n+1) c2))
  clear h5 h6 HB hbd hbs l1
  go_wp2
  go_end0
  refine⟨rfl,?_⟩
  rw[HE.out]
  have hl:(s++[(i,x)]).length=n+1:=by rw[dI,←HN.out];rfl
  refine Ad (a:=a2) (c:=c2) ?_
  rw[hl,show nM (s++[(i,x)])=nM s++gB (i,x) by simp[nM]]
  exact H7.out
 ·have HE:Hid (DW s i x dn=s):=ah (by unfold DW;rw[if_neg hc])
  have iR:Hid (Sat W w1 (sep (capD V s) B)):=ah (Ad (a:=a) (c:=c) (by rw[←HN.out];exact H1.out))
  clear l1
  by_cases hk:x.k=16
  ·have hdn:dn=false:=by cases dn<;>simp_all
   rw[hk] at b0
   subst hdn
   clear hc hk
   go_enter Tryz.func28,Tryz.ntmps28
   go_upto_region 1 with (fail)
   rw[←pF.out,←HW1.out]
   go_wp2
   go_end0
   exact⟨rfl,by rw[HE.out];exact iR.out⟩
  ·have bz:(x.k==16)=false:=by simp[hk]
   clear hc hk
   go_enter Tryz.func28,Tryz.ntmps28
   go_upto_region 1 with (fail)
   rw[←pF.out,←HW1.out]
   go_wp2
   go_end0
   exact⟨rfl,by rw[HE.out];exact iR.out⟩
theorem BU (a:Option Addr) (n c:Nat) (w:World):
 Calls Tryz.prog 30 #[.slice a n c] w fun e w'=>e=.returned (.func (.func 45) #[] #[.pointer (some ⟨w.heap.size,0,none⟩)])∧w'=w.alloc (.cells #[.slice a n c] 85):=by
 have hmf:∀(fn:Fn) (first cap:Array Value) (w:World),(Instr.makeFunc fn first cap).run Tryz.prog w=.ok (.func fn first cap) w:=fun _ _ _ _=>rfl
 go_enter Tryz.func30,Tryz.ntmps30
 go_wp2
 go_ret
 exact⟨rfl,rfl⟩
end Go.Proofs.YtgicfogmdfdjmaaGreatDoor
namespace Go.Proofs.YtgicfogmdfdjmaaGreatDoor
open Go.RowKit PA
attribute [local go_sem] Oper.semAt_some
attribute [local go_sem ↓] Kt
theorem UR {W w:World} {A:aG} {a:Option Addr} {m c:Nat} {s:List (Nat×Ac)} (hm:s.length=m) (h:Sat W w (sep (aK 87 20 a m c (nM s)) A)) (i:Nat) (hi:i<m):
 ∃g x,a=some ⟨g,0,none⟩∧s[i]?=some x∧Sem.run Tryz.prog (loadCellsFrom ⟨g,i*20,none⟩ 0 kS #[]) w=.ok (gB x).toArray w:=by
 have hil:i<s.length:=by omega
 obtain⟨g,rfl,hc⟩:=h.kD (fun e=>by have:=congrArg List.length e;rw[Ku,List.length_nil] at this;omega)
 refine⟨g,s[i],rfl,List.getElem?_eq_getElem hil,?_⟩
 have hl:(gB s[i]).length=kS:=rfl
 have:=run_loadCells_list (P:=Tryz.prog) w ⟨g,i*20,none⟩ (gB s[i]) (fun j v hj=>by
  have aeN:j<20:=(List.getElem?_eq_some_iff.1 hj).1
  have e:(⟨g,i*20,none⟩:Addr).add j=⟨g,i*20+j,none⟩:=by unfold Addr.add;split<;>simp_all
  rw[e]
  exact hc _ _ (by rw[XP s i hil j aeN];exact hj))
 rw[hl] at this
 exact this
def XT (y:Nat×(Nat×Ac)):Array Value:=#[.int .i64 y.1,.agg (gB y.2).toArray]
def noY (_:Nat×(Nat×Ac)):aG:=emp
def mZ (s:List (Nat×Ac)) (t:Nat):List (Nat×(Nat×Ac)):=(List.range t).map fun k=>(s.length-1-k,s.getD (s.length-1-k) (0,Ac.zero))
theorem NC (s:List (Nat×Ac)) (i:Nat) (x:Nat×Ac) (hx:s[i]?=some x):mZ s (s.length-i)=mZ s (s.length-(i+1))++[(i,x)]:=by
 obtain⟨hi,e⟩:=List.getElem?_eq_some_iff.1 hx
 unfold mZ
 rw[show s.length-i=(s.length-(i+1))+1 by omega,List.range_succ,lS]
 congr 1
 have e2:s.length-1-(s.length-(i+1))=i:=by omega
 simp only[List.map_cons,List.map_nil,e2]
 rw[List.getD_eq_getElem?_getD,hx];rfl
theorem QD (s:List (Nat×Ac)):(mZ s s.length).map (·.2)=s.reverse:=by
 unfold mZ
 rw[List.map_map]
 apply List.ext_getElem
 ·simp
 ·intro k h1 h2
  have hk:k<s.length:=by simpa using h2
  simp only[List.getElem_map,List.getElem_range,Function.comp_apply,List.getElem_reverse]
  rw[List.getD_eq_getElem?_getD,List.getElem?_eq_getElem (by omega)];rfl
set_option maxRecDepth 100000 in
set_option maxHeartbeats 4000000 in
theorem Ky {W:World} {A:aG} (n:Nat) (hn:1≤n) (Bs:Nat) (a:Option Addr) (m c:Nat) (s:List (Nat×Ac)) (hm:s.length=m) (lM:m≤40):
 Gives Fence.wide n Tryz.prog W 45 #[.pointer (some ⟨Bs,0,none⟩)] XT noY 41 (fun xs=>xs=mZ s s.length)
  (sep (blk Bs (.cells #[.slice a m c] 85 (0,0))) (sep (aK 87 20 a m c (nM s)) A)) (sep (aK 87 20 a m c (nM s)) A):=by
 intro lp R w hY h0
 have HY:=ah hY
 clear hY
 have HM:=ah hm
 have c0:w.cell? ⟨Bs,0,none⟩=some (.slice a m c):=h0.p1.cell 0
 have HH0:=ah h0
 have hmI:(m:Int)≤40:=by omega
 clear h0 hm
 refine callsIn_of_wp Tryz.func45 rfl trivial ?_ rfl
 simp only[Tryz.ntmps45,List.size_toArray,List.length_cons,List.length_nil,Nat.reduceAdd,Nat.reduceSub,Array.replicate_succ,Array.replicate_zero,List.push_toArray,List.append_toArray,List.nil_append,List.cons_append]
 gi_wp2_with fail
 gi_loopw [3] (fun iv wr=>∃k:Nat,k≤m∧iv=.int .i64 ((k:Int)-1)∧Sat W wr (sep (R (mZ s (s.length-k))) (sep (blk Bs (.cells #[.slice a m c] 85 (0,0))) (sep (aK 87 20 a m c (nM s)) A)))) (fun iv _=>(intOf iv+1).toNat)
 case atStart=>
  refine⟨m,by omega,rfl,?_⟩
  rw[show s.length-m=0 by have:=HM.out;omega]
  exact HH0.out
 case round=>
  obtain⟨k,hk,rfl,hS⟩:=hrel
  clear c0 HH0
  cases k with
  | zero=>
   have e:((0:Nat):Int)-1=-1:=rfl
   rw[e]
   have HS:=ah hS
   clear hS e
   gi_wp2_with fail
   go_end0
   refine⟨⟨_,rfl⟩,_,rfl,?_⟩
   have:=HS.out.p1.drop
   exact this
  | succ i=>
   have e:((i+1:Nat):Int)-1=(i:Int):=by omega
   rw[e]
   have hlt:i<m:=by omega
   have hltz:(i:Int)<(m:Int):=by omega
   obtain⟨g,x,rfl,hx,l1⟩:=UR HM.out hS.p2 i hlt
   have c0:wr.cell? ⟨Bs,0,none⟩=some (.slice (some ⟨g,0,none⟩) m c):=hS.p1.cell 0
   have hsucc:=NC s i x hx
   have hxx:Sat W wr (sep (R (mZ s (s.length-(i+1)))) (sep (noY (i,x)) (sep (blk Bs (.cells #[.slice (some ⟨g,0,none⟩) m c] 85 (0,0))) (sep (aK 87 20 (some ⟨g,0,none⟩) m c (nM s)) A)))):=by
    unfold noY
    rw[bU];exact hS
   obtain⟨fn,tmps,assign,body,hy,hR⟩:=HY.out (mZ s (s.length-(i+1))) (i,x) wr _ (by unfold mZ;simp;have:=HM.out;omega) hxx
   dsimp only[XT] at hy
   have HSU:=ah hsucc
   clear hx hS hxx hsucc e
   gi_wp2_with fail
   refine hR.mono ?_
   rintro e' w5 ⟨rfl,h9⟩
   rw[←HSU.out] at h9
   have H9:=ah h9
   clear hR hy l1 c0 h9
   gi_wp2_with fail
   go_roundw
   case rel=>exact⟨i,by omega,rfl,H9.out⟩
   case measure=>simp[intOf]
end Go.Proofs.YtgicfogmdfdjmaaGreatDoor
namespace Go.Proofs.YtgicfogmdfdjmaaGreatDoor
open Go.RowKit PA
attribute [local go_sem] Oper.semAt_some
theorem Cb {W w:World} {A:aG} {E:Nat} {a:Option Addr} {n c:Nat} {xs:List Value} (h:Sat W w (sep (aK E 1 a n c xs) A)) (k:Nat) (hk:k<xs.length) (v:Value):
 ∃g,a=some ⟨g,0,none⟩∧w.cell? ⟨g,k,none⟩=some xs[k]∧w.frozen? ⟨g,k,none⟩=false∧Sat W (w.setCell ⟨g,k,none⟩ v) (sep (aK E 1 a n c (xs.set k v)) A):=by
 rcases h.dL with ⟨rfl,rfl,rfl,rfl,_⟩|⟨g,cur,rfl,hlen,hnc,hcm,hcs,htake,hS⟩
 ·simp at hk
 ·simp only[Nat.mul_one] at hlen hcs htake
  have hkc:k<cur.size:=by omega
  refine⟨g,rfl,?_,hS.aI k,?_⟩
  ·rw[hS.cell k,Array.getElem?_eq_getElem hkc]
   congr 1
   have:(cur.toList.take n)[k]?=xs[k]?:=by rw[htake]
   rw[List.getElem?_take,if_pos (by omega),List.getElem?_eq_getElem hk] at this
   simpa[hkc] using this
  ·refine (hS.setCell k v).lI n c 1 (xs.set k v) (by simp[hlen]) hnc hcm (by simp[hcs]) ?_
   rw[Nat.mul_one,Array.toList_setIfInBounds,List.take_set,htake]
def ng (xs:List Int) (t:Nat):List Int:=(List.range xs.length).map fun k=>if k<t∨xs.length-1-t<k then xs.getD (xs.length-1-k) 0 else xs.getD k 0
theorem jf (xs:List Int) (t:Nat):(ng xs t).length=xs.length:=by simp[ng]
theorem oZ (xs:List Int) (t k:Nat) (hk:k<xs.length):(ng xs t)[k]'(by rw[jf];exact hk)=if k<t∨xs.length-1-t<k then xs.getD (xs.length-1-k) 0 else xs.getD k 0:=by
 simp[ng]
theorem QE (xs:List Int):ng xs 0=xs:=by
 apply List.ext_getElem (jf xs 0)
 intro k h1 h2
 rw[oZ xs 0 k h2,if_neg (by omega),List.getD_eq_getElem?_getD,List.getElem?_eq_getElem h2];rfl
theorem UU (xs:List Int) (t:Nat) (h:xs.length≤2*t+1):ng xs t=xs.reverse:=by
 apply List.ext_getElem (by rw[jf,List.length_reverse])
 intro k h1 h2
 have hk:k<xs.length:=by simpa using h2
 rw[oZ xs t k hk,List.getElem_reverse]
 split
 ·rw[List.getD_eq_getElem?_getD,List.getElem?_eq_getElem (by omega)];rfl
 ·have e:xs.length-1-k=k:=by omega
  rw[List.getD_eq_getElem?_getD,List.getElem?_eq_getElem hk]
  simp only[e];rfl
theorem QF (xs:List Int) (t:Nat) (h:2*t+1<xs.length):((ng xs t).set t ((ng xs t).getD (xs.length-1-t) 0)).set (xs.length-1-t) ((ng xs t).getD t 0)=ng xs (t+1):=by
 have g1:(ng xs t).getD (xs.length-1-t) 0=xs.getD (xs.length-1-t) 0:=by
  rw[List.getD_eq_getElem?_getD,List.getElem?_eq_getElem (by rw[jf];omega),Option.getD_some,oZ xs t _ (by omega),if_neg (by omega)]
 have g2:(ng xs t).getD t 0=xs.getD t 0:=by
  rw[List.getD_eq_getElem?_getD,List.getElem?_eq_getElem (by rw[jf];omega),Option.getD_some,oZ xs t _ (by omega),if_neg (by omega)]
 rw[g1,g2]
 apply List.ext_getElem (by rw[List.length_set,List.length_set,jf,jf])
 intro k h1 h2
 have hk:k<xs.length:=by rw[jf] at h2;exact h2
 rw[oZ xs (t+1) k hk,List.getElem_set]
 by_cases e1:xs.length-1-t=k
 ·rw[if_pos e1,if_pos (by omega)]
  congr 1;omega
 ·rw[if_neg e1,List.getElem_set]
  by_cases e2:t=k
  ·rw[if_pos e2,if_pos (by omega)]
   congr 1;omega
  ·rw[if_neg e2,oZ xs t k hk]
   by_cases e3:k<t∨xs.length-1-t<k
   ·rw[if_pos e3,if_pos (by omega)]
   ·rw[if_neg e3,if_neg (by omega)]
set_option maxHeartbeats 2000000 in
theorem G8 {W w:World} {A:aG} (a:Option Addr) (n c:Nat) (xs:List Int) (hn:xs.length=n) (lM:n≤1000) (h:Sat W w (sep (aK 3 1 a n c (xs.map iv)) A)):
 Calls Tryz.prog 31 #[.slice a n c] w fun e w'=>e=.returned (.tuple #[])∧Sat W w' (sep (aK 3 1 a n c (xs.reverse.map iv)) A):=by
 have HN:=ah hn
 have H:=ah h
 have hnI:(n:Int)≤1000:=by omega
 clear hn h
 go_enter Tryz.func31,Tryz.ntmps31
 go_wp2
 go_loopw [2,3] (fun iv0 jv wr=>∃t:Nat,iv0=.int .i64 t∧jv=.int .i64 ((n:Int)-1-t)∧2*t≤n+1∧Sat W wr (sep (aK 3 1 a n c ((ng xs t).map iv)) A)) (fun iv0 _ _=>n+1-(intOf iv0).toNat)
 case atStart=>
  refine⟨0,rfl,by simp,by omega,?_⟩
  rw[QE]
  exact H.out
 case round=>
  obtain⟨t,rfl,rfl,ht,hS⟩:=hrel
  by_cases hlt:2*t+1<n
  ·obtain⟨j,hj⟩:∃j,j=n-1-t:=⟨_,rfl⟩
   have ej:(n:Int)-1-(t:Int)=(j:Int):=by omega
   rw[ej]
   have htj:(t:Int)<(j:Int):=by omega
   have htn:(t:Int)<(n:Int):=by omega
   have hjn:(j:Int)<(n:Int):=by omega
   have hd:=hS.drew
   obtain⟨wd,hwd⟩:=aC (wr.drew)
   rw[←hwd] at hd
   obtain⟨vi,hvi⟩:=aC ((ng xs t).getD t 0)
   obtain⟨vj,hvj⟩:=aC ((ng xs t).getD (xs.length-1-t) 0)
   have hlen:((ng xs t).map iv).length=n:=by rw[List.length_map,jf,HN.out]
   obtain⟨g,rfl,c1,u1,h1⟩:=Cb hd t (by omega) (iv vj)
   obtain⟨g',e',c2,u2,-⟩:=Cb hd j (by omega) (iv vi)
   cases e'
   obtain⟨g',e',c3,u3,h2⟩:=Cb h1 j (by rw[List.length_set];omega) (iv vi)
   cases e'
   have k1:wd.cell? ⟨g,t,none⟩=some (.int .i64 vi):=by
    rw[c1,List.getElem_map,hvi,List.getD_eq_getElem?_getD,List.getElem?_eq_getElem (by rw[jf,HN.out];omega)];rfl
   have k2:wd.cell? ⟨g,j,none⟩=some (.int .i64 vj):=by
    rw[c2,List.getElem_map,hvj,List.getD_eq_getElem?_getD,List.getElem?_eq_getElem (by rw[jf,HN.out];omega)]
    simp only[hj,HN.out];rfl
   obtain⟨ov,k3⟩:∃ov,(wd.setCell ⟨g,t,none⟩ (.int .i64 vj)).cell? ⟨g,j,none⟩=some ov:=⟨_,c3⟩
   have u3':(wd.setCell ⟨g,t,none⟩ (.int .i64 vj)).frozen? ⟨g,j,none⟩=false:=u3
   have hres:Sat W ((wd.setCell ⟨g,t,none⟩ (.int .i64 vj)).setCell ⟨g,j,none⟩ (.int .i64 vi)) (sep (aK 3 1 (some ⟨g,0,none⟩) n c ((ng xs (t+1)).map iv)) A):=by
    have e:((ng xs t).map iv).set t (iv vj)=((ng xs t).set t vj).map iv:=List.map_set.symm
    have e2:(((ng xs t).set t vj).map iv).set j (iv vi)=(((ng xs t).set t vj).set j vi).map iv:=List.map_set.symm
    rw[e,e2] at h2
    have e3:((ng xs t).set t vj).set j vi=ng xs (t+1):=by
     rw[hvi,hvj,hj,←HN.out]
     exact QF xs t (by rw[HN.out];exact hlt)
    rw[e3] at h2
    exact h2
   obtain⟨wz,hwz⟩:=aC (wd.setCell ⟨g,t,none⟩ (.int .i64 vj))
   rw[←hwz] at k3 u3' hres
   have aeS:=ah hres
   have kR:=ah hwd
   have HWZ:=ah hwz
   have HK:=ah (And.intro k1 (And.intro k2 u1))
   have HK3:=ah (And.intro k3 u3')
   have HJ:=ah hj
   clear hS hd hwd hvi hvj hlen c1 c2 c3 u1 u2 u3 h1 h2 k1 k2 k3 u3' hres hwz hj ej H
   go_upto_region 3 with (fail)
   obtain⟨k1,k2,u1⟩:=HK.out
   refine aA rfl (fun _=>True) [(0,.p),(1,.p),(2,.p),(3,.p),(4,.p),(5,.p),(6,.p),(7,.t),(8,.p),(9,.p),(10,.p),(11,.t),(12,.p),(13,.e false),(14,.p),(15,.e false)] (by kernel_rfl) ?_
   have hS0:True:=trivial
   rw[←kR.out]
   (repeat ((first|(refine eF (v:=?_) rfl rfl (fun w'=>?_) ?_;rotate_left;(go_simp;with_reducible rfl))|(refine eG (v:=?_) rfl rfl hS0 (fun w' hS=>?_) ?_;rotate_left;((try dsimp only at hS);go_simp;with_reducible rfl))|(refine eH (v:=?_) rfl rfl ?_ ?_;rotate_left;(go_simp;with_reducible rfl))|(refine bD rfl rfl ?_)|(refine bG rfl rfl hS0 ?_)|(refine bH rfl rfl ?_));simp only[Act.put,lsA,lsB,bC]))
   (refine iQ rfl rfl (fun K hK=>?_);go_simp)
   rw[←HWZ.out]
   (refine hK _ _ (fun h=>by cases h) ?_;clear hK K;(try simp only[Act.put,lsA,lsB,bC]))
   clear k1 k2 u1
   obtain⟨k3,u3⟩:=HK3.out
   (repeat ((first|(refine eF (v:=?_) rfl rfl (fun w'=>?_) ?_;rotate_left;(go_simp;with_reducible rfl))|(refine eG (v:=?_) rfl rfl hS0 (fun w' hS=>?_) ?_;rotate_left;((try dsimp only at hS);go_simp;with_reducible rfl))|(refine eH (v:=?_) rfl rfl ?_ ?_;rotate_left;(go_simp;with_reducible rfl))|(refine bD rfl rfl ?_)|(refine bG rfl rfl hS0 ?_)|(refine bH rfl rfl ?_));simp only[Act.put,lsA,lsB,bC]))
   (refine iQ rfl rfl (fun K hK=>?_);go_simp)
   (refine hK _ _ (fun h=>by cases h) ?_;clear hK K;(try simp only[Act.put,lsA,lsB,bC]))
   refine bM ?_
   clear k3 u3
   go_wp2
   go_roundw
   case rel=>exact⟨t+1,by go_num,by have:=HJ.out;go_num,by omega,aeS.out⟩
   case measure=>simp[intOf];omega
  ·have hge:(n:Int)-1-(t:Int)≤(t:Int):=by omega
   obtain⟨jz,hjz⟩:=aC ((n:Int)-1-(t:Int))
   rw[←hjz] at hge ⊢
   have HS:=ah hS
   clear hS hjz H
   go_wp2
   go_end0
   refine⟨rfl,?_⟩
   have:=HS.out
   rw[UU xs t (by rw[HN.out];omega)] at this
   exact this
end Go.Proofs.YtgicfogmdfdjmaaGreatDoor
namespace Go.Proofs.YtgicfogmdfdjmaaGreatDoor
open Go.RowKit PA
attribute [local go_sem] Oper.semAt_some
attribute [local go_sem ↓] Kt
def LQ (st:(Int→Bool)×List Int) (s:Nat×Ac):(Int→Bool)×List Int:=if st.1 s.2.q=true then (fun k=>decide (k=s.2.p)||st.1 k,st.2++[(s.1:Int)]) else st
def DX (party:Int) (ys:List (Nat×(Nat×Ac))):(Int→Bool)×List Int:=(ys.map (·.2)).foldl LQ (fun k=>decide (k=party),[])
theorem Kz (party:Int) (pre:List (Nat×(Nat×Ac))) (y:Nat×(Nat×Ac)):DX party (pre++[y])=LQ (DX party pre) y.2:=by
 unfold DX
 rw[lS,List.foldl_append];rfl
theorem XU (st:(Int→Bool)×List Int) (s:Nat×Ac):(LQ st s).2.length≤st.2.length+1:=by
 unfold LQ
 split
 ·simp
 ·omega
theorem Pj (party:Int) (ys:List (Nat×(Nat×Ac))):(DX party ys).2.length≤ys.length:=by
 have key:∀(l:List (Nat×Ac)) (st:(Int→Bool)×List Int),(l.foldl LQ st).2.length≤st.2.length+l.length:=by
  intro l
  induction l with
  | nil=>intro st;simp
  | cons x l ih=>
   intro st
   rw[List.foldl_cons,List.length_cons]
   have:=ih (LQ st x)
   have:=XU st x
   omega
 have:=key (ys.map (·.2)) (fun k=>decide (k=party),[])
 unfold DX
 simpa using this
def ND (f:Int→Bool):Int→Option Value:=fun k=>if f k=true then some (.bool true) else none
theorem XV (f:Int→Bool) (p:Int):ou (ND f) p (some (.bool true))=ND (fun k=>decide (k=p)||f k):=by
 funext x
 unfold ou ND
 by_cases e:x=p
 ·simp[e]
 ·simp[e]
theorem XW (party:Int):ou (fun _=>none) party (some (.bool true))=ND (fun k=>decide (k=party)):=by
 funext x
 unfold ou ND
 by_cases e:x=party
 ·simp[e]
 ·simp[e]
theorem QG (w:World):(zeroValue 4).run Tryz.prog w=.ok (.bool false) w:=by kernel_rfl
def WJ (L O mm:Nat) (party:Int) (ys:List (Nat×(Nat×Ac))):aG:=ex fun q:Nat×Option Addr×Nat=>sep (blk L (.cells #[.map (some mm)] 89 (0,0))) (sep (iP mm (ND (DX party ys).1) q.1) (sep (blk O (.cells #[.slice q.2.1 (DX party ys).2.length q.2.2] 22 (0,0))) (aK 3 1 q.2.1 (DX party ys).2.length q.2.2 ((DX party ys).2.map iv))))
theorem KA {W w:World} {A:aG} {L O mm:Nat} {party:Int} {ys:List (Nat×(Nat×Ac))} (h:Sat W w (sep (WJ L O mm party ys) A)):∃nf oa oc,Sat W w (sep (blk L (.cells #[.map (some mm)] 89 (0,0))) (sep (iP mm (ND (DX party ys).1) nf) (sep (blk O (.cells #[.slice oa (DX party ys).2.length oc] 22 (0,0))) (sep (aK 3 1 oa (DX party ys).2.length oc ((DX party ys).2.map iv)) A)))):=by
 rw[WJ,dA,Sat.ex] at h
 obtain⟨⟨nf,oa,oc⟩,h⟩:=h
 simp only[aj] at h
 exact⟨nf,oa,oc,h⟩
theorem NG {W w:World} {A:aG} {L O mm:Nat} {party:Int} {ys:List (Nat×(Nat×Ac))} {nf:Nat} {oa:Option Addr} {oc:Nat} (h:Sat W w (sep (blk L (.cells #[.map (some mm)] 89 (0,0))) (sep (iP mm (ND (DX party ys).1) nf) (sep (blk O (.cells #[.slice oa (DX party ys).2.length oc] 22 (0,0))) (sep (aK 3 1 oa (DX party ys).2.length oc ((DX party ys).2.map iv)) A))))):Sat W w (sep (WJ L O mm party ys) A):=by
 rw[WJ,dA,Sat.ex]
 exact⟨(nf,oa,oc),by simp only[aj];exact h⟩
theorem XY {W w:World} {A:aG} {q:Nat} {cur:Array Value} (hs:cur.size=20) (h:Sat W w (sep (blk q (.cells cur 87 (0,0))) A)) (s:Nat×Ac):
 ∃w',Sem.run Tryz.prog (storeCells ⟨q,0,none⟩ (gB s) 0) w=.ok () w'∧Sat W w' (sep (blk q (.cells (gB s).toArray 87 (0,0))) A):=by
 have hst:=run_storeCells_at Tryz.prog q 0 87 (gB s) 0 cur w h.aN (by show 0+0+20≤_;omega) (Fh s)
 refine⟨_,hst,?_⟩
 have h2:=h.setRow (cur.toList.take (0+0)++gB s++cur.toList.drop (0+0+(gB s).length)).toArray
 have e:cur.toList.take (0+0)++gB s++cur.toList.drop (0+0+(gB s).length)=gB s:=by
  have hd:cur.toList.drop (0+0+(gB s).length)=[]:=List.drop_eq_nil_of_le (by rw[Array.length_toList,hs];show 20≤0+0+20;omega)
  rw[hd,List.append_nil];rfl
 rw[e] at h2 ⊢
 exact h2
theorem yj (file fK day:Int):∀(l:List Ac) (i:Nat) (S:l7) (s:List (Nat×Ac)),(walkT file fK day DW i l S s).2.length≤s.length+l.length
 | [],_,_,_=>by simp[walkT]
 | x::l,i,S,s=>by
  rw[walkT,List.length_cons]
  split
  ·have h1:=yj file fK day l (i+1) (PA.stepT S x).1 (DW s i x (PA.stepT S x).2)
   have h2:(DW s i x (PA.stepT S x).2).length≤s.length+1:=by
    unfold DW
    split
    ·simp
    ·omega
   omega
  ·have h1:=yj file fK day l (i+1) S s
   omega
def y9 (file day:Int) (f:Ac) (xs:List Ac):List (Nat×Ac):=(walkT file f.d day DW 0 (sortK xs) (bW f.p) []).2
def pU (file day party:Int) (f:Ac) (xs:List Ac):List Int:=((y9 file day f xs).reverse.foldl LQ (fun k=>decide (k=party),[])).2.reverse
theorem yt (file day:Int) (f:Ac) (xs:List Ac):(y9 file day f xs).length≤xs.length:=by
 have:=yj file f.d day (sortK xs) 0 (bW f.p) []
 rw[iL] at this
 unfold y9
 simpa using this
set_option maxRecDepth 100000 in
set_option maxHeartbeats 8000000 in
theorem UW {W w:World} {A:aG} {I:Mem} (file day party:Int) (f:Ac) (b:Addr) (n c:Nat) (xs:List Ac) (hn:xs.length=n) (h0:0<n) (lM:n<40) (hD:xs.Pairwise fD) (jL:je xs) (hw:zB (some b) n c) (hc:bP (some b) (bI xs) I)
 (hf:dF file (sortK xs)=some f) (hr:aP file day (sortK xs)=0) (hp:(aQ (kH file day f xs) party).n≠0) (h:Sat W w (sep (kn I) A)):
 Calls Tryz.prog 19 #[.int .i64 file,.int .i64 day,.int .i64 party,.slice (some b) n c] w fun e w'=>∃a c' J,e=.returned (.tuple #[.slice a (pU file day party f xs).length c',.int .i64 0])∧Mem.le I J∧Sat W w' (sep (aK 3 1 a (pU file day party f xs).length c' ((pU file day party f xs).map iv)) (sep (kn J) A)):=by
 have hmf:∀(fn:Fn) (first cap:Array Value) (w:World),(Instr.makeFunc fn first cap).run Tryz.prog w=.ok (.func fn first cap) w:=fun _ _ _ _=>rfl
 have eg:∀args w,(callFunc 28 args).run Tryz.prog w=.ok (.enter 28 args) w:=enters_of Tryz.func28 (by kernel_rfl) rfl
 obtain⟨V,hV⟩:=aC (w.heap.size)
 obtain⟨w1,hw1⟩:=aC (w.alloc (.cells #[.slice none 0 0] 85))
 have h1:Sat W w1 (sep (capD V []) (sep (kn I) A)):=by
  rw[hw1,hV]
  exact Ad (a:=none) (c:=0) ((h.cZ 87 20).alloc (.cells #[.slice none 0 0] 85))
 have hwk:=ah (nU (fun s=>capD V s) DW [] 28 #[.pointer (some ⟨V,0,none⟩)] eg (fun k s=>s.length≤k) (Nat.zero_le _) (fun k s x dn hk=>Ph hk) (fun k s hk=>by omega)
  (fun s i x dn pt w B q1 q2 q3=>y8 V s i x dn pt q1 q2 q3) file day f b n c xs hn h0 lM hD jL hw hc hf hr h1.p1)
 have hRl:=yt file day f xs
 obtain⟨R,hR⟩:=aC (y9 file day f xs)
 obtain⟨S,hS⟩:=aC (kH file day f xs)
 have eS:(walkT file f.d day DW 0 (sortK xs) (bW f.p) []).1=S:=by rw[hS];exact oW _ _ _ _ _ _ _ _ _ _ _
 rw[eS,show (walkT file f.d day DW 0 (sortK xs) (bW f.p) []).2=R from hR.symm] at hwk
 have hOut:pU file day party f xs=(R.reverse.foldl LQ (fun k=>decide (k=party),[])).2.reverse:=by rw[hR];rfl
 rw[←hS] at hp
 rw[←hR] at hRl
 have acn:=ah hOut
 have HRL:Hid (R.length<40):=ah (by omega)
 have HV:=ah hV
 have HW1:=ah hw1
 obtain⟨CT,hCT⟩:=aC (pU file day party f xs)
 rw[←hCT] at acn ⊢
 clear hn h0 lM hD jL hw hc hf hr h h1 hV hw1 hR hS eg eS hOut hRl hCT
 refine (callsIn_wide (n:=5)).1 ?_
 refine callsIn_of_wp_marks Tryz.func19 rfl trivial ?_ rfl
 simp only[Tryz.ntmps19,List.size_toArray,List.length_cons,List.length_nil,Nat.reduceAdd,Nat.reduceSub,Array.replicate_succ,Array.replicate_zero,List.push_toArray,List.append_toArray,List.nil_append,List.cons_append]
 refine wpIn_wide.2 ?_
 go_upto_region 2 with (fail)
 rw[←HV.out,←HW1.out]
 go_wp2_with fail
 refine hwk.out.mono ?_
 rintro e w2 ⟨p,J,rfl,hle,h2⟩
 have gQ:=ah hle
 have JI:=ah (mW party (show Sat W w2 (sep (l9 p f.p S) (sep (kn J) (sep (capD V R) A))) from h2))
 obtain⟨⟨sn,sd⟩,hsh⟩:∃r,r=aQ S party:=⟨_,rfl⟩
 rw[←hsh] at JI hp
 dsimp only at hp
 have hpz:(sn==0)=false:=by simpa using hp
 have jC:∀(u v:Int) (w:World),(Instr.field 57 (.agg #[.int .i64 u,.int .i64 v]) 0).run Tryz.prog w=.ok (.int .i64 u) w:=fun u v w=>by kernel_rfl
 clear hwk hle h2 hsh hp
 go_wp2_with fail
 refine JI.out.mono ?_
 rintro e w3 ⟨rfl,h3⟩
 obtain⟨a,c',h4⟩:=Fj (show Sat W w3 (sep (capD V R) (sep (kn J) A)) from h3.drop.p1)
 obtain⟨m,hm⟩:=aC (R.length)
 rw[←hm] at h4
 have HM:=ah hm
 have aco:m≤40:=by have:=HRL.out;omega
 clear JI h3 hm
 have hmm:=@run_makeMap Tryz.prog
 obtain⟨mm,XZ⟩:=aC (w3.heap.size)
 obtain⟨w4,hw4⟩:=aC (w3.alloc (.map #[] 0))
 have h5:=h4.Ap
 rw[←XZ,←hw4] at h5
 obtain⟨w5,n5,hup,-,h6⟩:=jE (P:=Tryz.prog) (T:=89) Tryz.underlying89 Tryz.underlying3 h5 party (.bool true)
 rw[XW] at h6
 have h7:=h6.alloc (.cells #[.map (some mm)] 89)
 obtain⟨L,hL⟩:=aC (w5.heap.size)
 obtain⟨w6,hw6⟩:=aC (w5.alloc (.cells #[.map (some mm)] 89))
 rw[←hL,←hw6] at h7
 have h8:=(h7.cZ 3 1).alloc (.cells #[.slice none 0 0] 22)
 obtain⟨O,hO⟩:=aC (w6.heap.size)
 obtain⟨w7,hw7⟩:=aC (w6.alloc (.cells #[.slice none 0 0] 22))
 rw[←hO,←hw7] at h8
 have v0:w7.cell? ⟨V,0,none⟩=some (.slice a m c'):=h8.p4.cell 0
 have HBK:=ah (BU a m c' w7)
 have h9:=h8.alloc (.cells #[.slice a m c'] 85)
 obtain⟨Bs,hBs⟩:=aC (w7.heap.size)
 obtain⟨w8,hw8⟩:=aC (w7.alloc (.cells #[.slice a m c'] 85))
 rw[←hBs,←hw8] at h9 HBK
 obtain⟨AA,hAA⟩:=aC (sep (blk V (.cells #[.slice a m c'] 85 (0,0))) (sep (kn J) A))
 have h10:Sat W w8 (sep (WJ L O mm party []) (sep (blk Bs (.cells #[.slice a m c'] 85 (0,0))) (sep (aK 87 20 a m c' (nM R)) AA))):=by
  refine NG (nf:=n5) (oa:=none) (oc:=0) ?_
  rw[hAA]
  have:Sat W w8 (sep (blk L (.cells #[.map (some mm)] 89 (0,0))) (sep (iP mm (ND fun k=>decide (k=party)) n5) (sep (blk O (.cells #[.slice none 0 0] 22 (0,0))) (sep (aK 3 1 none 0 0 []) (sep (blk Bs (.cells #[.slice a m c'] 85 (0,0))) (sep (aK 87 20 a m c' (nM R)) (sep (blk V (.cells #[.slice a m c'] 85 (0,0))) (sep (kn J) A)))))))):=by
   simpa only[ay,au,aj] using h9
  exact this
 have nO:=ah h10
 have HN:=ah (And.intro XZ (And.intro hL (And.intro hw6 (And.intro hO (And.intro hw7 hAA)))))
 rw[XZ,hw4] at hup
 clear h4 h5 h6 h7 h8 h9 h10 hw4 hL hw6 hO hw7 hBs hw8 hAA XZ
 go_upto_region 8 with (fail)
 rw[←HN.out.1,←HN.out.2.1,←HN.out.2.2.1]
 clear hup hmm
 go_upto_region 9 with (fail)
 rw[←HN.out.2.2.2.1,←HN.out.2.2.2.2.1]
 go_wp2_with fail
 refine HBK.out.mono ?_
 rintro e w9 ⟨rfl,rfl⟩
 have eg2:=enters_of (P:=Tryz.prog) Tryz.func45 (by kernel_rfl) rfl
 clear HBK v0 hmf jC
 go_wp2_with fail
 refine (wpIn_wide (n:=5)).1 ?_
 refine JB (F:=Fence.wide) (W:=W) rfl (by omega) (gf:=45) (lb:=#[.pointer (some ⟨Bs,0,none⟩)]) rfl trivial eg2 (encs:=XT) (fun _=>rfl) (Ky (A:=AA) (5-1) (by omega) Bs a m c' R HM.out.symm aco)
  (fun ys=>WJ L O mm party ys) nO.out
  (fun y g t=>((t.setIfInBounds 38 (.int .i64 y.1)).setIfInBounds 39 (.agg (gB y.2).toArray)).setIfInBounds 16 (.pointer (some ⟨g,0,none⟩)))
  (fun pre y g=>sep (blk g (.cells (gB y.2).toArray 87 (0,0))) (WJ L O mm party pre)) ?assign ?body ?done
 case assign=>
  as_aux_lemma=>
   intro lp pre y w' B K hlen hS hK
   simp only[lsA,lsB,bC] at hK
   have h1:Sat W w' (sep (WJ L O mm party pre) B):=by
    unfold noY at hS
    rw[bU] at hS
    exact hS
   obtain⟨w10,s1,h11⟩:=XY (cur:=#[.int .i64 0,.int .i64 0,.int .i64 0,.int .i64 0,.int .i64 0,.int .i64 0,.int .i64 0,.int .i64 0,.int .i64 0,.int .i64 0,.int .i64 0,.int .i64 0,.slice none 0 0,.slice none 0 0,.slice none 0 0,.slice none 0 0,.int .i64 0,.int .i64 0,.slice none 0 0,.slice none 0 0]) rfl (h1.alloc (.cells #[.int .i64 0,.int .i64 0,.int .i64 0,.int .i64 0,.int .i64 0,.int .i64 0,.int .i64 0,.int .i64 0,.int .i64 0,.int .i64 0,.int .i64 0,.int .i64 0,.slice none 0 0,.slice none 0 0,.slice none 0 0,.slice none 0 0,.int .i64 0,.int .i64 0,.slice none 0 0,.slice none 0 0] 87)) y.2
   have h5:=hK _ w10 (by rw[aj];exact h11)
   have H5:=ah h5
   clear hK hS h1 h11 h5 nO
   dsimp only[XT] at *
   gi_wp2_with fail
   exact H5.out
 case body=>
  as_aux_lemma=>
   intro lp pre y g w' B hlen hS
   obtain⟨ix,⟨si,x⟩⟩:=y
   simp only[lsA,lsB,bC]
   rw[aj] at hS
   obtain⟨nf,oa,oc,h1⟩:=KA (show Sat W w' (sep (WJ L O mm party pre) (sep (blk g (.cells (gB (si,x)).toArray 87 (0,0))) B)) from hS.p1)
   have G9:=Pj party pre
   obtain⟨st,hst⟩:=aC (DX party pre)
   rw[←hst] at h1 G9
   obtain⟨ld,out⟩:=st
   dsimp only at h1 G9
   obtain⟨ol,hol⟩:=aC (out.length)
   rw[←hol] at h1 G9
   have agK:ol≤41:=by omega
   have L0:w'.cell? ⟨L,0,none⟩=some (.map (some mm)):=h1.cell 0
   have q0:w'.cell? ⟨g,7,none⟩=some (.int .i64 x.q):=h1.p4.cell 7
   have hlk:=lK (P:=Tryz.prog) (T:=89) Tryz.underlying89 Tryz.underlying3 QG h1.p1 x.q false
   have HST:=ah hst
   have HOL:=ah hol
   by_cases hq:ld x.q=true
   ·have hlk2:(Instr.lookup 89 (.map (some mm)) (.int .i64 x.q) false).run Tryz.prog w'=.ok (.bool true) w':=by
     rw[hlk];unfold ND;rw[if_pos hq];rfl
    have p0:w'.cell? ⟨g,6,none⟩=some (.int .i64 x.p):=h1.p4.cell 6
    obtain⟨w2,n2,hup,-,h2⟩:=jE (P:=Tryz.prog) (T:=89) Tryz.underlying89 Tryz.underlying3 h1.p1 x.p (.bool true)
    rw[XV] at h2
    have i0:w2.cell? ⟨g,0,none⟩=some (.int .i64 si):=h2.p4.cell 0
    have o0:w2.cell? ⟨O,0,none⟩=some (.slice oa ol oc):=h2.p2.cell 0
    have h3:=(h2.alloc (.cells #[.int .i64 si] 3)).p4
    have gI:=ah (dS w2 [.int .i64 si] 3)
    have H3:=ah h3
    have hsn:DX party (pre++[(ix,(si,x))])=(fun k=>decide (k=x.p)||ld k,out++[(si:Int)]):=by
     rw[Kz,←HST.out]
     unfold LQ
     rw[if_pos hq]
    have MQ:=ah hsn
    clear hS h1 hlk h2 h3 hst hol hq hsn nO G9 HST
    gi_wp2_with (gi_at_builtin;refine qp rfl (.tmp 49) (.tmp 52) 22 rfl 3 1 8 (.int .i64 0) Tryz.underlying22 O6 rfl rfl H3.out rfl [.int .i64 si] rfl (by simp) (by intro b' hb;cases hb;exact gI.out) (by simp[Value.oneCell']) (by omega) (by unfold maxLen;omega) ?_)
    intro LH LJ w4 h4
    have h5:=h4.p4
    have hf:=h5.aI 0
    have hc0:w4.cell? ⟨O,0,none⟩=some (.slice oa ol oc):=h5.cell 0
    have H6:=ah (h5.setCell 0 (.slice LH (ol+1) LJ))
    clear h4 h5 H3 gI hlk2 L0 q0 p0 hup i0 o0
    gi_wp2_with fail
    show Sat W _ _
    have hl2:(out++[(si:Int)]).length=ol+1:=by rw[dI,←HOL.out];rfl
    refine NG (nf:=n2) (oa:=LH) (oc:=LJ) ?_
    rw[MQ.out]
    dsimp only
    rw[hl2,lS]
    have h7:Sat W (w4.setCell ⟨O,0,none⟩ (.slice LH (ol+1) LJ)) (sep (blk O (.cells #[.slice LH (ol+1) LJ] 22 (0,0))) (sep (aK 3 1 LH (ol+1) LJ (out.map iv++[.int .i64 si])) (sep (blk w2.heap.size (.cells #[.int .i64 si] 3)) (sep (iP mm (ND fun k=>decide (k=x.p)||ld k) n2) (sep (blk L (.cells #[.map (some mm)] 89 (0,0))) (sep (blk g (.cells (gB (si,x)).toArray 87 (0,0))) B)))))):=H6.out
    have h8:=h7.p2.drop.p4.drop
    have:Sat W (w4.setCell ⟨O,0,none⟩ (.slice LH (ol+1) LJ)) (sep (blk O (.cells #[.slice LH (ol+1) LJ] 22 (0,0))) (sep (aK 3 1 LH (ol+1) LJ (out.map iv++[.int .i64 si])) (sep (iP mm (ND fun k=>decide (k=x.p)||ld k) n2) (sep (blk L (.cells #[.map (some mm)] 89 (0,0))) B)))):=by
     simpa only[ay,au,aj] using h8
    show Sat W (w4.setCell ⟨O,0,none⟩ (.slice LH (ol+1) LJ)) (sep (blk L (.cells #[.map (some mm)] 89 (0,0))) (sep (iP mm (ND fun k=>decide (k=x.p)||ld k) n2) (sep (blk O (.cells #[.slice LH (ol+1) LJ] 22 (0,0))) (sep (aK 3 1 LH (ol+1) LJ (out.map iv++[.int .i64 si])) B))))
    simpa only[ay,au,aj] using this
   ·have hlk2:(Instr.lookup 89 (.map (some mm)) (.int .i64 x.q) false).run Tryz.prog w'=.ok (.bool false) w':=by
     rw[hlk];unfold ND;rw[if_neg hq];rfl
    have hsn:DX party (pre++[(ix,(si,x))])=(ld,out):=by
     rw[Kz,←HST.out]
     unfold LQ
     rw[if_neg hq]
    have MQ:=ah hsn
    have H1:=ah h1
    clear hS h1 hlk hst hol hq hsn nO G9 HST
    gi_wp2_with fail
    show Sat W _ _
    refine NG (nf:=nf) (oa:=oa) (oc:=oc) ?_
    rw[MQ.out]
    dsimp only
    rw[←HOL.out]
    have h8:=H1.out.p4.drop
    exact h8
 case done=>
  as_aux_lemma=>
   intro D ys w' hys hS
   subst hys
   obtain⟨nf,oa,oc,h1⟩:=KA (show Sat W w' (sep (WJ L O mm party (mZ R R.length)) (sep (blk D (.deferred (some []))) (sep (aK 87 20 a m c' (nM R)) AA))) from hS.p1)
   have G9:=Pj party (mZ R R.length)
   obtain⟨st,hst⟩:=aC (DX party (mZ R R.length))
   have hst2:st=R.reverse.foldl LQ (fun k=>decide (k=party),[]):=by rw[hst];unfold DX;rw[QD]
   rw[←hst] at h1 G9
   obtain⟨ld,out⟩:=st
   dsimp only at h1 G9
   have hct:CT=out.reverse:=by rw[acn.out,←hst2]
   have aeV:out.length≤40:=by
    have:(mZ R R.length).length=R.length:=by simp[mZ]
    have:=HM.out
    omega
   obtain⟨ol,hol⟩:=aC (out.length)
   rw[←hol] at h1 aeV
   have o0:w'.cell? ⟨O,0,none⟩=some (.slice oa ol oc):=h1.p2.cell 0
   have hrev:=G8 oa ol oc out hol.symm (by omega) h1.p3
   rw[←hct] at hrev
   have hcl:ol=CT.length:=by rw[hct,List.length_reverse,hol]
   have acp:=ah hrev
   have Jc:=ah hcl
   clear hS h1 G9 hst hst2 hct hol hrev hcl nO
   go_wp2_with fail
   refine acp.out.mono ?_
   rintro e w10 ⟨rfl,h2⟩
   have o1:w10.cell? ⟨O,0,none⟩=some (.slice oa ol oc):=h2.p3.cell 0
   have H2:=ah h2
   clear acp o0 h2
   go_wp2_with fail
   have hD:=H2.out.p4.aN
   have h8:=H2.out.p4.putObj (.deferred none)
   refine⟨by simp,.inl ⟨_,_,rfl,run_takeDeferred hD,?_⟩⟩
   refine⟨.tuple #[.slice oa ol oc,.int .i64 0],?_,?_⟩
   ·simp[results,Tryz.results19,go_sem]
   ·refine⟨oa,oc,J,by rw[←Jc.out],gQ.out,?_⟩
    rw[←Jc.out]
    have h9:=h8.drop
    rw[HN.out.2.2.2.2.2] at h9
    have h10:Sat W (w10.putObj D (.deferred none)) (sep (aK 3 1 oa ol oc (CT.map iv)) (sep (blk L (.cells #[.map (some mm)] 89 (0,0))) (sep (iP mm (ND ld) nf) (sep (blk O (.cells #[.slice oa ol oc] 22 (0,0))) (sep (aK 87 20 a m c' (nM R)) (sep (blk V (.cells #[.slice a m c'] 85 (0,0))) (sep (kn J) A))))))):=h9
    have h11:=h10.p1.drop.p1.drop.p1.drop.p1.drop.p1.drop
    exact h11
end Go.Proofs.YtgicfogmdfdjmaaGreatDoor
namespace Go.Proofs.YtgicfogmdfdjmaaGreatDoor
open Go PA
abbrev Stp:=Nat×Ac
def leadL (party:Int) (L:List Stp):(Int→Bool)×List Int:=L.foldr (fun s st=>LQ st s) (fun k=>decide (k=party),[])
def leads (party:Int) (L:List Stp) (k:Int):Bool:=(leadL party L).1 k
def Fp (party:Int):List Stp→Prop
 | []=>True
 | s::B=>(s.2.q=party∨∃t∈B,t.2.p=s.2.q)∧Fp party B
theorem Fp.at {party:Int}:∀{C:List Stp},Fp party C→∀(k:Nat) (hk:k<C.length),C[k].2.q=party∨∃t∈C.drop (k+1),t.2.p=C[k].2.q
 | [],_,k,hk=>by simp at hk
 | s::B,h,0,_=>h.1
 | s::B,h,k+1,hk=>Fp.at h.2 k (by simpa using hk)
theorem Fp.last {party:Int}:∀{C:List Stp},Fp party C→∀(h0:0<C.length),(C[C.length-1]'(by omega)).2.q=party:=by
 intro C h h0
 rcases h.at (C.length-1) (by omega) with h1|⟨t,h1,-⟩
 ·exact h1
 ·rw[List.drop_eq_nil_of_le (by omega)] at h1;cases h1
def Fed (s:List Stp):Prop:=∀A t B,s=A++t::B→t.2.p=1∨∃a∈A,a.2.q=t.2.p
theorem Fed.snoc {s:List Stp} (h:Fed s) {t:Stp} (ht:t.2.p=1∨∃a∈s,a.2.q=t.2.p):Fed (s++[t]):=by
 intro A u B e
 rcases List.eq_nil_or_concat B with rfl|⟨B',z,rfl⟩
 ·obtain⟨rfl,h2⟩:=List.append_inj' e rfl
  cases h2
  exact ht
 ·have e2:s++[t]=(A++u::B')++[z]:=by rw[e];simp
  obtain⟨h1,-⟩:=List.append_inj' e2 rfl
  exact h A u B' h1
def Got (S:l7) (s:List Stp):Prop:=∀k,0<(aQ S k).n→k=1∨∃t∈s,t.2.q=k
theorem Got.wk {S:l7} {s:List Stp} (h:Got S s) (t:Stp):Got S (s++[t]):=fun k hk=>by
 rcases h k hk with h1|⟨u,h1,h2⟩
 ·exact .inl h1
 ·exact .inr ⟨u,List.mem_append_left _ h1,h2⟩
theorem yu (file fK day:Int):∀(l:List Ac) (i:Nat) (S:l7) (s:List Stp),∀t∈(walkT file fK day DW i l S s).2,t∈s∨∃j,l[j]?=some t.2∧t.1=i+j∧t.2.k=16∧aX file fK day t.2=true
 | [],_,_,_,t,ht=>.inl ht
 | x::l,i,S,s,t,ht=>by
  rw[walkT] at ht
  have up:(∃j,l[j]?=some t.2∧t.1=i+1+j∧t.2.k=16∧aX file fK day t.2=true)→∃j,(x::l)[j]?=some t.2∧t.1=i+j∧t.2.k=16∧aX file fK day t.2=true:=by
   rintro⟨j,h1,h2,h3⟩
   exact⟨j+1,by simpa using h1,by omega,h3⟩
  split at ht
  ·rename_i hc
   rcases yu file fK day l _ _ _ t ht with h1|h1
   ·unfold DW at h1
    split at h1
    ·rename_i h2
     rcases List.mem_append.1 h1 with h1|h1
     ·exact .inl h1
     ·rw[List.mem_singleton.1 h1]
      exact .inr ⟨0,rfl,rfl,h2.1,hc⟩
    ·exact .inl h1
   ·exact .inr (up h1)
  ·rcases yu file fK day l _ _ _ t ht with h1|h1
   ·exact .inl h1
   ·exact .inr (up h1)
end Go.Proofs.YtgicfogmdfdjmaaGreatDoor
namespace Go.Proofs.YtgicfogmdfdjmaaGreatDoor
open Go.RowKit PA
attribute [local go_sem ↓] aT
end Go.Proofs.YtgicfogmdfdjmaaGreatDoor
