/- Part of a proof. -/
import Derived.Test.YtgicfogmdfdjmaaGreatDoorGTitleHolds0
import Derived.Maps.RangeWalk
namespace PA
open Go
abbrev l7:=Int→Option Rt
def aQ (S:l7) (p:Int):Rt:=(S p).getD ⟨0,1⟩
def jd (S:l7) (p:Int) (r:Rt):l7:=fun x=>if x=p then some r else S x
def lN (S:l7) (x:Ac):l7×Bool:=
 if (uX (aQ S x.p) x.sh).2≠0∨(uX (aQ S x.p) x.sh).1.n<0 then (S,false)
 else if (jB (aQ S x.q) x.sh).2≠0 then (S,false)
 else (jd (jd S x.p (uX (aQ S x.p) x.sh).1) x.q (jB (aQ S x.q) x.sh).1,true)
def gu (k:Int):Bool:=!(decide (k=5)||decide (k=19)||decide (k=20)||decide (k=21))
def aX (file fK day:Int) (x:Ac):Bool:=gu x.k&&(decide (x.f=file)&&(decide (fK≤x.d)&&(decide (x.d≤day)&&(decide (x.k=16)||decide (x.k=17)))))
def stepT (S:l7) (x:Ac):l7×Bool:=if x.k=16 then lN S x else (S,decide (0<(aQ S x.p).n))
def walkT {σ:Type} (file fK day:Int) (ev:σ→Nat→Ac→Bool→σ):Nat→List Ac→l7→σ→l7×σ
 | _,[],S,s=>(S,s)
 | i,x::l,S,s=>if aX file fK day x=true then walkT file fK day ev (i+1) l (stepT S x).1 (ev s i x (stepT S x).2) else walkT file fK day ev (i+1) l S s
def eY (file:Int) (x:Ac):Bool:=decide (x.k=0)&&decide (x.f=file)
def dF (file:Int) (S:List Ac):Option Ac:=S.find? (eY file)
def aP (file day:Int) (S:List Ac):Int:=
 if file<0∨4095<file∨day<0∨131072<day then 5 else match dF file S with
 | none=>7
 | some f=>if day<f.d then 7 else 0
def bW (p:Int):l7:=jd (fun _=>none) p ⟨1,1⟩
def uY (S:l7):Prop:=∀p r,S p=some r→okR r=true∧0≤r.n
theorem XR:okR ⟨1,1⟩=true:=by decide
theorem UQ:okR ⟨0,1⟩=true:=by decide
theorem uY.first (p:Int):uY (bW p):=by
 intro q r h
 unfold bW jd at h
 split at h
 ·cases h;exact⟨XR,by decide⟩
 ·cases h
theorem uY.share {S:l7} (h:uY S) (p:Int):okR (aQ S p)=true∧0≤(aQ S p).n:=by
 unfold aQ
 cases e:S p with
 | none=>exact⟨UQ,by decide⟩
 | some r=>exact h p r e
theorem Ux {S:l7} (h:uY S) (x:Ac) (hx:0≤x.sn):uY (lN S x).1:=by
 unfold lN
 split
 ·exact h
 ·rename_i h1
  split
  ·exact h
  ·rename_i h2
   have a1:(uX (aQ S x.p) x.sh).2=0:=by
    rcases Int.lt_trichotomy (uX (aQ S x.p) x.sh).2 0 with e|e|e
    ·exact absurd (.inl (by omega)) h1
    ·exact e
    ·exact absurd (.inl (by omega)) h1
   have a2:0≤(uX (aQ S x.p) x.sh).1.n:=by
    rcases Int.lt_or_le (uX (aQ S x.p) x.sh).1.n 0 with e|e
    ·exact absurd (.inr e) h1
    ·exact e
   have a3:(jB (aQ S x.q) x.sh).2=0:=by
    rcases Int.lt_trichotomy (jB (aQ S x.q) x.sh).2 0 with e|e|e
    ·exact absurd (by omega) h2
    ·exact e
    ·exact absurd (by omega) h2
   intro p r hr
   replace hr:(if p=x.q then some (jB (aQ S x.q) x.sh).1 else if p=x.p then some (uX (aQ S x.p) x.sh).1 else S p)=some r:=hr
   split at hr
   ·cases hr
    have e:jB (aQ S x.q) x.sh=((jB (aQ S x.q) x.sh).1,0):=Prod.ext rfl a3
    have hv:=BZ e
    refine⟨hv.1,?_⟩
    have hq:=h.share x.q
    obtain⟨r0,hr0⟩:=aC ((jB (aQ S x.q) x.sh).1)
    rw[←hr0] at e ⊢
    have e2:newR ((aQ S x.q).n*x.sh.d+x.sh.n*(aQ S x.q).d) ((aQ S x.q).d*x.sh.d)=(r0,0):=by
     rw[←e];unfold jB;rw[if_pos ⟨hv.2.1,hv.2.2⟩]
    have d1:=(dM hv.2.1).1.d1
    have d2:=(dM hv.2.2).1.d1
    have hn:=(G7 e2 (Int.mul_pos (by omega) (by omega)))
    have hnum:0≤(aQ S x.q).n*x.sh.d+x.sh.n*(aQ S x.q).d:=Int.add_nonneg (Int.mul_nonneg hq.2 (by omega)) (Int.mul_nonneg hx (by omega))
    rcases Int.lt_trichotomy ((aQ S x.q).n*x.sh.d+x.sh.n*(aQ S x.q).d) 0 with z|z|z
    ·omega
    ·have:=hn.2.1.2 z;omega
    ·have:=hn.2.2.2 z;omega
   ·split at hr
    ·cases hr
     have e:uX (aQ S x.p) x.sh=((uX (aQ S x.p) x.sh).1,0):=Prod.ext rfl a1
     exact⟨(BZ e).1,a2⟩
    ·exact h p r hr
theorem oW {σ τ:Type} (file fK day:Int) (ev:σ→Nat→Ac→Bool→σ) (ev':τ→Nat→Ac→Bool→τ):∀(l:List Ac) (i j:Nat) (S:l7) (s:σ) (t:τ),(walkT file fK day ev i l S s).1=(walkT file fK day ev' j l S t).1
 | [],_,_,_,_,_=>rfl
 | x::l,i,j,S,s,t=>by
  unfold walkT
  split
  ·exact oW file fK day ev ev' l _ _ _ _ _
  ·exact oW file fK day ev ev' l _ _ _ _ _
end PA
namespace PA
open Go Go.RowKit
structure Born (es:List MapEntry) (clock:Nat):Prop where
 lt:∀e∈es,e.born<clock
 nodup:(es.map (·.born)).Nodup
theorem Born.nil (c:Nat):Born [] c:=⟨fun _ h=>(by cases h),.nil⟩
theorem OC:∀{l:List MapEntry},(l.map (·.born)).Nodup→∀{x y:MapEntry},x∈l→y∈l→x.born=y.born→x=y
 | [],_,_,_,hx,_,_=>by cases hx
 | a::l,hn,x,y,hx,hy,h=>by
  rw[List.map_cons,List.nodup_cons] at hn
  rcases List.mem_cons.1 hx with rfl|hx'
  ·rcases List.mem_cons.1 hy with rfl|hy'
   ·rfl
   ·exact absurd (List.mem_map.2 ⟨y,hy',h.symm⟩) hn.1
  ·rcases List.mem_cons.1 hy with rfl|hy'
   ·exact absurd (List.mem_map.2 ⟨x,hx',h⟩) hn.1
   ·exact OC hn.2 hx' hy' h
theorem Born.push {es:List MapEntry} {c:Nat} (h:Born es c) (k v:Value):Born (es++[{ key:=k,val:=v,born:=c }]) (c+1):=by
 refine⟨fun e he=>?_,?_⟩
 ·rcases List.mem_append.1 he with he|he
  ·have:=h.lt e he;omega
  ·rw[List.mem_singleton.1 he];exact Nat.lt_succ_self c
 ·rw[lS,List.map_cons,List.map_nil]
  refine List.nodup_append.2 ⟨h.nodup,by simp,fun x hx y hy=>?_⟩
  obtain⟨e,he,rfl⟩:=List.mem_map.1 hx
  rw[List.mem_singleton.1 hy]
  have h1:=h.lt e he
  show e.born≠c
  omega
theorem yO (es:List MapEntry) (j:Nat) (k v:Value):(es.modify j fun x=>{ x with key:=k,val:=v }).map (·.born)=es.map (·.born):=by
 apply List.ext_getElem
 ·simp
 ·intro i h1 h2
  simp only[List.getElem_map,List.getElem_modify]
  split<;>rfl
theorem Born.modify {es:List MapEntry} {c:Nat} (h:Born es c) (j:Nat) (k v:Value):Born (es.modify j fun x=>{ x with key:=k,val:=v }) c:=by
 refine⟨fun e he=>?_,by rw[yO];exact h.nodup⟩
 have:e.born∈(es.modify j fun x=>{ x with key:=k,val:=v }).map (·.born):=List.mem_map.2 ⟨e,he,rfl⟩
 rw[yO] at this
 obtain⟨e',he',e2⟩:=List.mem_map.1 this
 rw[←e2];exact h.lt e' he'
theorem Born.erase {es:List MapEntry} {c:Nat} (h:Born es c) (j:Nat):Born (es.eraseIdx j) c:=
 ⟨fun e he=>h.lt e ((List.eraseIdx_sublist es j).mem he),h.nodup.sublist ((List.eraseIdx_sublist es j).map _)⟩
def iP (b:Nat) (f:Int→Option Value) (n:Nat):aG:=ex fun s:Array MapEntry×Nat=>sep (fact (fM s.1.toList f∧s.1.size=n∧Born s.1.toList s.2)) (blk b (.map s.1 s.2))
section
variable {P:Program} {W w:World} {A:aG}
theorem Sat.oL {b:Nat} {f:Int→Option Value} {n:Nat} (h:Sat W w (sep (iP b f n) A)):∃es clock,fM es.toList f∧es.size=n∧Born es.toList clock∧Sat W w (sep (blk b (.map es clock)) A):=by
 rw[iP,dA,Sat.ex] at h
 obtain⟨⟨es,clock⟩,h⟩:=h
 rw[aj] at h
 have h':=Sat.fact.1 h
 exact⟨es,clock,h'.1.1,h'.1.2.1,h'.1.2.2,h'.2⟩
theorem Sat.sK {b:Nat} {f:Int→Option Value} {n:Nat} {es:Array MapEntry} {clock:Nat} (h:Sat W w (sep (blk b (.map es clock)) A)) (h1:fM es.toList f) (h2:es.size=n) (h3:Born es.toList clock):Sat W w (sep (iP b f n) A):=by
 rw[iP,dA,Sat.ex]
 refine⟨(es,clock),?_⟩
 rw[aj]
 exact Sat.fact.2 ⟨⟨h1,h2,h3⟩,h⟩
theorem Sat.P5 {b:Nat} {f:Int→Option Value} {n:Nat} (h:Sat W w (sep (iP b f n) A)):Sat W w (sep (P6 b f n) A):=by
 obtain⟨es,clock,h1,h2,-,h4⟩:=h.oL
 exact h4.Xb h1 h2
theorem Sat.Ap (h:Sat W w A):Sat W (w.alloc (.map #[] 0)) (sep (iP w.heap.size (fun _=>none) 0) A):=
 (h.alloc (.map #[] 0)).sK fM.nil rfl (Born.nil 0)
theorem lK {T K E:TypeId} {z:Value} (hT:P.underlying T=some (.map K E)) (hK:P.underlying K=some (.int .i64)) (hz:∀w,(zeroValue E).run P w=.ok z w)
 {b:Nat} {f:Int→Option Value} {n:Nat} (h:Sat W w (sep (iP b f n) A)) (k:Int) (ok:Bool):
 (Instr.lookup T (.map (some b)) (.int .i64 k) ok).run P w=.ok (if ok then .tuple #[(f k).getD z,.bool (f k).isSome] else (f k).getD z) w:=zC hT hK hz h.P5 k ok
theorem jE {T K E:TypeId} (hT:P.underlying T=some (.map K E)) (hK:P.underlying K=some (.int .i64)) {b:Nat} {f:Int→Option Value} {n:Nat} (h:Sat W w (sep (iP b f n) A)) (k:Int) (v:Value):
 ∃w' n',(Instr.mapUpdate T (.map (some b)) (.int .i64 k) v).run P w=.ok () w'∧n'=(if (f k).isSome then n else n+1)∧Sat W w' (sep (iP b (ou f k (some v)) n') A):=by
 obtain⟨es,clock,h1,h2,hb,h3⟩:=h.oL
 obtain⟨r,e1,e2,e3⟩:=lJ (P:=P) (k:=k) hK h1 w
 have hg:=run_getObj_map (P:=P) h3.aN
 cases r with
 | none=>
  have hk:f k=none:=by rw[←e2];rfl
  refine⟨_,n+1,by simp[Instr.mapUpdate,run_underlying hT,hg,fP hK,e1,run_setObj_map (P:=P) h3.aN];rfl,by simp[hk],(h3.setObj _).sK ?_ (by simp[h2]) ?_⟩
  ·simpa using h1.push k v clock hk
  ·simpa using hb.push (.int .i64 k) v
 | some r=>
  obtain⟨j,u⟩:=r
  obtain⟨e,h4,h5,h6⟩:=e3 j u rfl
  have hk:(f k).isSome=true:=by rw[←e2];rfl
  have hkey:((es[j]?.map (·.key)).getD (.int .i64 k))=.int .i64 k:=by
   have:es[j]?=some e:=by simpa using h4
   simp[this,h5]
  refine⟨_,n,by simp[Instr.mapUpdate,run_underlying hT,hg,fP hK,e1,Instr.keyThatStays,hkey,vT,run_setObj_map (P:=P) h3.aN];rfl,by simp[hk],(h3.setObj _).sK ?_ (by simp[h2]) ?_⟩
  ·simpa using h1.modify k v h4 h5
  ·simpa using hb.modify j (.int .i64 k) v
structure SH (es:List MapEntry) (f:Int→Option Value) (clock since c0:Nat) (seen:Array Nat) (left:Int→Bool):Prop where
 rep:fM es f
 born:Born es clock
 old:∀e∈es,e.born<since
 sc:since≤c0
 scl:since≤clock
 lf:∀e∈es,∀k,e.key=.int .i64 k→left k=!seen.contains e.born
 lk:∀k,left k=true→(f k).isSome=true
def rng (b r:Nat) (f:Int→Option Value) (n:Nat) (left:Int→Bool) (cnt:Nat):aG:=ex fun s:Array MapEntry×Nat×Nat×Array Nat×Nat=>
 sep (fact (SH s.1.toList f s.2.1 s.2.2.1 s.2.2.2.2 s.2.2.2.1 left∧s.1.size=n∧(leftOf s.1 s.2.2.2.1).size=cnt)) (sep (blk b (.map s.1 s.2.1)) (blk r (.mapIter (some b) s.2.2.1 s.2.2.2.1 s.2.2.2.2)))
theorem Sat.Aq {b r:Nat} {f:Int→Option Value} {n:Nat} {left:Int→Bool} {cnt:Nat} (h:Sat W w (sep (rng b r f n left cnt) A)):
 ∃es clock since seen c0,SH es.toList f clock since c0 seen left∧es.size=n∧(leftOf es seen).size=cnt∧Sat W w (sep (blk b (.map es clock)) (sep (blk r (.mapIter (some b) since seen c0)) A)):=by
 rw[rng,dA,Sat.ex] at h
 obtain⟨⟨es,clock,since,seen,c0⟩,h⟩:=h
 rw[aj,aj] at h
 have h':=Sat.fact.1 h
 exact⟨es,clock,since,seen,c0,h'.1.1,h'.1.2.1,h'.1.2.2,h'.2⟩
theorem Sat.SI {b r:Nat} {f:Int→Option Value} {n:Nat} {left:Int→Bool} {cnt:Nat} {es:Array MapEntry} {clock since c0:Nat} {seen:Array Nat}
 (h:Sat W w (sep (blk b (.map es clock)) (sep (blk r (.mapIter (some b) since seen c0)) A))) (h1:SH es.toList f clock since c0 seen left) (h2:es.size=n) (h3:(leftOf es seen).size=cnt):Sat W w (sep (rng b r f n left cnt) A):=by
 rw[rng,dA,Sat.ex]
 refine⟨(es,clock,since,seen,c0),?_⟩
 rw[aj,aj]
 exact Sat.fact.2 ⟨⟨h1,h2,h3⟩,h⟩
theorem Sat.IY {b r:Nat} {f:Int→Option Value} {n:Nat} {left:Int→Bool} {cnt:Nat} (h:Sat W w (sep (rng b r f n left cnt) A)):w.rangeLeft b r=cnt:=by
 obtain⟨es,clock,since,seen,c0,-,-,h3,h4⟩:=h.Aq
 simp only[World.rangeLeft,h4.aN,h4.p1.aN]
 exact h3
theorem Sat.Xc {b r:Nat} {f:Int→Option Value} {n:Nat} {left:Int→Bool} {cnt:Nat} (h:Sat W w (sep (rng b r f n left cnt) A)):Sat W w (sep (iP b f n) A):=by
 obtain⟨es,clock,since,seen,c0,h1,h2,-,h4⟩:=h.Aq
 exact h4.p1.drop.sK h1.rep h2 h1.born
theorem fM.qV {es:List MapEntry} {f:Int→Option Value} (h:fM es f) {e:MapEntry} (he:e∈es) {k:Int} (hk:e.key=.int .i64 k):f k=some e.val:=by
 rw[←h.get k]
 cases hf:es.find? (gY k) with
 | none=>rw[List.find?_eq_none] at hf;exact absurd (by simp[gY,hk]) (hf e he)
 | some x=>
  have hx:=List.mem_of_find?_eq_some hf
  obtain⟨n,hn⟩:=h.keys x hx
  have hp:=List.find?_some hf
  simp[gY,hn] at hp
  subst hp
  have:=entry_eq_of_key h.nodup hx he (hn.trans hk.symm)
  rw[this];rfl
theorem fM.IZ {es:List MapEntry} {f:Int→Option Value} (h:fM es f) {k:Int} (hk:(f k).isSome=true):∃e∈es,e.key=.int .i64 k:=by
 rw[←h.get k] at hk
 cases hf:es.find? (gY k) with
 | none=>rw[hf] at hk;cases hk
 | some x=>
  have hx:=List.mem_of_find?_eq_some hf
  obtain⟨n,hn⟩:=h.keys x hx
  have hp:=List.find?_some hf
  simp[gY,hn] at hp
  subst hp
  exact⟨x,hx,hn⟩
theorem Au {T K E:TypeId} (hT:P.underlying T=some (.map K E)) {b:Nat} {f:Int→Option Value} {n:Nat} (h:Sat W w (sep (iP b f n) A)):
 ∃w',(Instr.range T (.map (some b))).run P w=.ok (.pointer (some ⟨w.heap.size,0,none⟩)) w'∧Sat W w' (sep (rng b w.heap.size f n (fun k=>(f k).isSome) n) A):=by
 obtain⟨es,clock,h1,h2,hb,h3⟩:=h.oL
 have hg:=run_getObj_map (P:=P) h3.aN
 refine⟨w.alloc (.mapIter (some b) clock #[] clock),by simp[Instr.range,run_underlying hT,hg],?_⟩
 refine ((h3.alloc (.mapIter (some b) clock #[] clock)).p1).SI ⟨h1,hb,hb.lt,Nat.le_refl _,Nat.le_refl _,fun e he k hk=>?_,fun k hk=>hk⟩ h2 ?_
 ·rw[h1.qV he hk];simp
 ·rw[←h2];simp[leftOf]
theorem I4 (es:Array MapEntry) (seen:Array Nat) (e:MapEntry) (he:e∈(leftOf es seen).toList):(leftOf es (seen.push e.born)).size<(leftOf es seen).size:=by
 have hsub:(leftOf es (seen.push e.born)).toList=(leftOf es seen).toList.filter fun x=>x.born !=e.born:=by
  unfold leftOf
  simp only[Array.toList_filter,List.filter_filter]
  congr 1
  funext x
  by_cases h:x.born=e.born
  ·simp[h]
  ·simp[h,bne]
 have hlt:(leftOf es (seen.push e.born)).toList.length<(leftOf es seen).toList.length:=by
  rw[hsub]
  exact List.length_filter_lt_length_iff_exists.2 ⟨e,he,by simp⟩
 simpa using hlt
theorem Gj {b r:Nat} {f:Int→Option Value} {n:Nat} {left:Int→Bool} {cnt:Nat} (ty:TypeId) (h:Sat W w (sep (rng b r f n left cnt) A)):
 ((∀k,left k=false)∧(Instr.next (.pointer (some ⟨r,0,none⟩)) false ty).run P w=.ok (.tuple #[.bool false]) w) ∨
 ∃k v w' cnt',left k=true∧f k=some v∧cnt'<cnt∧(Instr.next (.pointer (some ⟨r,0,none⟩)) false ty).run P w=.ok (.tuple #[.bool true,.int .i64 k,v]) w' ∧
  (Instr.entry (.pointer (some ⟨r,0,none⟩))).run P w'=.ok (.tuple #[.int .i64 k,v]) w'∧Sat W w' (sep (rng b r f n (fun z=>left z&&z !=k) cnt') A):=by
 obtain⟨es,clock,since,seen,c0,h1,h2,h3,h4⟩:=h.Aq
 rcases run_next_at (P:=P) w ty r b since c0 seen es clock h4.p1.aN h4.aN h1.old h1.sc with ⟨h0,hrun⟩|⟨e,he,w1,hw1,hrun⟩
 ·refine .inl ⟨fun k=>?_,hrun⟩
  cases hk:left k with
  | false=>rfl
  | true=>
   obtain⟨e,he,hek⟩:=h1.rep.IZ (h1.lk k hk)
   have:=h1.lf e he k hek
   rw[hk] at this
   have hm:e∈(leftOf es seen).toList:=by unfold leftOf;simp;exact⟨by simpa using he,by simpa using this.symm⟩
   have h00:(leftOf es seen).toList.length=0:=by simpa using h0
   rw[List.eq_nil_of_length_eq_zero h00] at hm
   cases hm
 ·have hmem:e∈es.toList∧seen.contains e.born=false:=by
   unfold leftOf at he;simp at he;exact⟨by simpa using he.1,by simpa using he.2⟩
  obtain⟨k,hk⟩:=h1.rep.keys e hmem.1
  have hlk:=h1.lf e hmem.1 k hk
  rw[hmem.2] at hlk
  have adO:Sat W w1 (sep (blk r (.mapIter (some b) since seen c0)) (sep (blk b (.map es clock)) A)):=by
   rcases hw1 with rfl|rfl
   ·exact h4.p1
   ·exact h4.p1.drew
  have hset:Sat W (Go.ChangeMaps.setBlock w1 r (.mapIter (some b) since (seen.push e.born) clock)) (sep (blk r (.mapIter (some b) since (seen.push e.born) clock)) (sep (blk b (.map es clock)) A)):=adO.setObj _
  refine .inr ⟨k,e.val,_,_,by simpa using hlk,h1.rep.qV hmem.1 hk,?_,by rw[hk] at hrun;exact hrun,?_,hset.p1.SI ⟨h1.rep,h1.born,h1.old,h1.scl,h1.scl,?_,?_⟩ h2 rfl⟩
  ·rw[←h3];exact I4 es seen e he
  ·have:=run_entry_at (P:=P) _ r b since seen es clock e hset.aN hset.p1.aN hmem.1 h1.born.nodup
   rw[hk] at this;exact this
  ·intro e2 he2 k2 hk2
   rw[h1.lf e2 he2 k2 hk2,Array.contains_push]
   by_cases hkk:k2=k
   ·subst hkk
    have:e2=e:=entry_eq_of_key h1.rep.nodup he2 hmem.1 (hk2.trans hk.symm)
    subst this
    simp
   ·have hb:¬e2.born=e.born:=fun hbe=>hkk (by
     have:e2=e:=OC h1.born.nodup he2 hmem.1 hbe
     subst this
     rw[hk2] at hk;cases hk;rfl)
    have e1:(k2 !=k)=true:=by simp[hkk]
    have e2:(e2.born==e.born)=false:=by simp[hb]
    rw[e1,e2];simp
  ·intro z hz
   simp at hz
   exact h1.lk z hz.1
end
end PA
namespace PA
open Go Go.RowKit
section
variable {P:Program} {W w:World} {A:aG}
theorem qR {T:TypeId} {b:Nat} {es:Array MapEntry} {clock:Nat} (hb:(es.toList.map (·.born)).Nodup) {j:Nat} {e:MapEntry} (hj:es[j]?=some e) (h:Sat W w (sep (blk b (.map es clock)) A)) (v:Value):
 ∃w',(Instr.entryStore T (.map (some b)) (.int .i64 (e.born:Nat)) v).run P w=.ok () w'∧Sat W w' (sep (blk b (.map (es.modify j fun x=>{ x with val:=v }) clock)) A):=by
 have hg2:=run_getObj_map (P:=P) h.aN
 have hidx:es.findIdx? (fun x=>((x.born:Nat):Int)==((e.born:Nat):Int))=some j:=by
  have hsz:j<es.size:=(Array.getElem?_eq_some_iff.1 hj).1
  have hje:es[j]=e:=(Array.getElem?_eq_some_iff.1 hj).2
  rw[Array.findIdx?_eq_some_iff_getElem]
  refine⟨hsz,by simp[hje],fun i hi=>?_⟩
  have hp:=List.pairwise_iff_getElem.1 (List.pairwise_map.1 hb) i j (by rw[Array.length_toList];omega) (by rw[Array.length_toList];exact hsz) hi
  simp only[Array.getElem_toList] at hp
  rw[hje] at hp
  simp only[beq_iff_eq]
  intro hq
  exact hp (by omega)
 exact⟨_,by simp[Instr.entryStore,hg2,asInt,asIntOf,hidx,run_setObj_map (P:=P) h.aN],h.setObj _⟩
theorem Am {es:List MapEntry} {j:Nat} {e:MapEntry} {k:Value} (h1:es[j]?=some e) (h2:e.key=k) (v:Value):es.modify j (fun x=>{ x with val:=v })=es.modify j fun x=>{ x with key:=k,val:=v }:=by
 apply List.ext_getElem?
 intro i
 rw[List.getElem?_modify,List.getElem?_modify]
 by_cases hi:j=i
 ·subst hi;rw[h1];simp[←h2]
 ·simp[hi]
theorem qU {T K E:TypeId} {z:Value} (hT:P.underlying T=some (.map K E)) (hK:P.underlying K=some (.int .i64)) (hz:∀w,(zeroValue E).run P w=.ok z w) {b:Nat} {f:Int→Option Value} {n:Nat} (h:Sat W w (sep (iP b f n) A)) (k:Int):
 ∃(v0:Value) (st:Int) (w1:World) (X:aG),(Instr.mapEntry T (.map (some b)) (.int .i64 k)).run P w=.ok (.tuple #[v0,.int .i64 st]) w1∧Sat W w1 (sep X A) ∧
  ∀(w2:World) (B:aG) (v:Value),Sat W w2 (sep X B)→∃w3 n',(Instr.entryStore T (.map (some b)) (.int .i64 st) v).run P w2=.ok () w3∧Sat W w3 (sep (iP b (ou f k (some v)) n') B):=by
 obtain⟨es,clock,h1,h2,hb,h3⟩:=h.oL
 obtain⟨r,e1,e2,e3⟩:=lJ (P:=P) (k:=k) hK h1 w
 have hg:=run_getObj_map (P:=P) h3.aN
 cases r with
 | none=>
  have hk:f k=none:=by rw[←e2];rfl
  have hp:=hb.push (.int .i64 k) z
  refine⟨z,(clock:Int),_,blk b (.map (es.push { key:=.int .i64 k,val:=z,born:=clock }) (clock+1)),by simp[Instr.mapEntry,run_underlying hT,hg,fP hK,e1,hz,run_setObj_map (P:=P) h3.aN,goInt],h3.setObj _,fun w2 B v hw2=>?_⟩
  obtain⟨w3,r3,h4⟩:=qR (T:=T) (P:=P) (j:=es.size) (e:={ key:=.int .i64 k,val:=z,born:=clock }) (by simpa using hp.nodup) (by simp) hw2 v
  have hmod:((es.push { key:=Value.int .i64 k,val:=z,born:=clock }).modify es.size fun x=>{ x with val:=v }).toList=es.toList++[{ key:=Value.int .i64 k,val:=v,born:=clock }]:=by
   rw[Array.toList_modify,Array.toList_push]
   apply List.ext_getElem?
   intro i
   rw[List.getElem?_modify]
   by_cases hi:es.size=i
   ·subst hi
    have:es.toList.length=es.size:=Array.length_toList
    simp
   ·simp only[hi,if_false]
    by_cases hlt:i<es.size
    ·rw[List.getElem?_append_left (by simpa using hlt),List.getElem?_append_left (by simpa using hlt)];simp
    ·rw[List.getElem?_append_right (by simp;omega),List.getElem?_append_right (by simp;omega)]
     have:i-es.toList.length≠0:=by simp;omega
     obtain⟨m,hm⟩:∃m,i-es.toList.length=m+1:=⟨i-es.toList.length-1,by omega⟩
     rw[hm];simp
  refine⟨w3,_,r3,h4.sK ?_ rfl ?_⟩
  ·rw[hmod];exact h1.push k v clock hk
  ·rw[hmod];exact hb.push (.int .i64 k) v
 | some r=>
  obtain⟨j,u⟩:=r
  obtain⟨e,h4,h5,h6⟩:=e3 j u rfl
  have hk:(f k).isSome=true:=by rw[←e2];rfl
  have hj:es[j]?=some e:=by simpa using h4
  have hsame:es.modify j (fun x=>{ x with key:=.int .i64 k })=es:=by
   apply Array.ext'
   rw[Array.toList_modify]
   apply List.ext_getElem?
   intro i
   rw[List.getElem?_modify]
   by_cases hi:j=i
   ·subst hi;rw[h4];simp[←h5]
   ·simp[hi]
  refine⟨u,(e.born:Int),_,blk b (.map es clock),by simp[Instr.mapEntry,run_underlying hT,hg,fP hK,e1,hj,h5,Instr.keyThatStays,vT,hsame,run_setObj_map (P:=P) h3.aN,goInt],h3.setObj _,fun w2 B v hw2=>?_⟩
  obtain⟨w3,r3,h7⟩:=qR (T:=T) (P:=P) hb.nodup hj hw2 v
  refine⟨w3,_,r3,h7.sK ?_ rfl ?_⟩
  ·rw[Array.toList_modify,Am h4 h5];exact h1.modify k v h4 h5
  ·rw[Array.toList_modify,Am h4 h5];exact hb.modify j (.int .i64 k) v
end
end PA
namespace Go.Proofs.YtgicfogmdfdjmaaGreatDoor
open Go.RowKit PA
def Eh (S:l7):Int→Option Value:=fun k=>(S k).map Ud
theorem zX (S:l7) (p:Int) (r:Rt):ou (Eh S) p (some (Ud r))=Eh (jd S p r):=by
 funext x
 unfold ou Eh jd
 split<;>rfl
def l9 (p:Nat) (app:Int) (S:l7):aG:=ex fun bn:Nat×Nat=>sep (blk p (.cells #[.int .i64 app,.map (some bn.1)] 78 (0,0))) (iP bn.1 (Eh S) bn.2)
section
variable {W w:World} {A:aG} {p:Nat} {app:Int} {S:l7}
theorem Bq (h:Sat W w (sep (l9 p app S) A)):∃b n,Sat W w (sep (blk p (.cells #[.int .i64 app,.map (some b)] 78 (0,0))) (sep (iP b (Eh S) n) A)):=by
 rw[l9,dA,Sat.ex] at h
 obtain⟨⟨b,n⟩,h⟩:=h
 rw[aj] at h
 exact⟨b,n,h⟩
theorem Bv {b n:Nat} (h:Sat W w (sep (blk p (.cells #[.int .i64 app,.map (some b)] 78 (0,0))) (sep (iP b (Eh S) n) A))):Sat W w (sep (l9 p app S) A):=by
 rw[l9,dA,Sat.ex]
 exact⟨(b,n),by rw[aj];exact h⟩
theorem sV (w:World):(zeroValue 57).run Tryz.prog w=.ok (.agg #[.int .i64 0,.int .i64 0]) w:=by kernel_rfl
set_option maxHeartbeats 1000000 in
theorem mW (x:Int) (h:Sat W w (sep (l9 p app S) A)):
 Calls Tryz.prog 29 #[.pointer (some ⟨p,0,none⟩),.int .i64 x] w fun e w'=>e=.returned (.agg #[.int .i64 (aQ S x).n,.int .i64 (aQ S x).d])∧Sat W w' (sep (l9 p app S) A):=by
 obtain⟨b,n,h0⟩:=Bq h
 obtain⟨r,hr⟩:=aC (aQ S x)
 rw[←hr]
 have h1:=h0.alloc (.cells #[.int .i64 0,.int .i64 0] 57)
 obtain⟨B,hB⟩:=aC (w.heap.size)
 obtain⟨w1,hw1⟩:=aC (w.alloc (.cells #[.int .i64 0,.int .i64 0] 57))
 have hsz:w1.heap.size=B+1:=by rw[hw1,World.size_alloc,hB]
 rw[←hB,←hw1] at h1
 have c1:w1.cell? ⟨p,1,none⟩=some (.map (some b)):=h1.p1.cell 1
 have hlk:=lK (P:=Tryz.prog) (T:=76) Tryz.underlying76 Tryz.underlying3 sV h1.p2 x true
 have HB:=ah hB
 have HW1:=ah hw1
 have HR:=ah hr
 clear hB hw1 h h0 hr
 cases e:S x with
 | some rr=>
  obtain⟨rn,rd⟩:=rr
  have hval:Eh S x=some (.agg #[.int .i64 rn,.int .i64 rd]):=by unfold Eh;rw[e];rfl
  rw[hval] at hlk
  have hlk2:(Instr.lookup 76 (.map (some b)) (.int .i64 x) true).run Tryz.prog w1=.ok (.tuple #[.agg #[.int .i64 rn,.int .i64 rd],.bool true]) w1:=hlk
  have fQ:r=⟨rn,rd⟩:=by rw[HR.out];unfold aQ;rw[e];rfl
  have dP:=ah fQ
  have h2:=h1.alloc (.cells #[.int .i64 rn,.int .i64 rd] 57)
  rw[hsz] at h2
  obtain⟨w2,hw2⟩:=aC (w1.alloc (.cells #[.int .i64 rn,.int .i64 rd] 57))
  rw[←hw2] at h2
  obtain⟨j0,j1,-,-⟩:=gX h2
  obtain⟨k0,k1,k2,k3⟩:=gX h2.p1
  have h4:=fH h2.p1 (.int .i64 rn) (.int .i64 rd)
  obtain⟨w4,hw4⟩:=aC ((w2.setCell ⟨B,0,none⟩ (.int .i64 rn)).setCell ⟨B,1,none⟩ (.int .i64 rd))
  rw[←hw4] at h4
  obtain⟨d0,d1,-,-⟩:=gX h4
  have HW2:=ah hw2
  have uQ:=ah hw4
  have GK:=ah hsz
  have h5:=Bv (S:=S) (h4.forget.forget)
  clear hw2 hw4 hlk hval fQ e h1 h2 h4 hsz
  go_enter Tryz.func29,Tryz.ntmps29
  go_upto_region 1 with (fail)
  rw[←HB.out,←HW1.out]
  go_upto_region 2 with (fail)
  rw[GK.out,←HW2.out]
  go_wp2
  rw[←uQ.out]
  exact bodyPost_ret (v:=.agg #[.int .i64 rn,.int .i64 rd]) (by simp[results,Tryz.results29,go_sem,d0,d1]) rfl ⟨by rw[dP.out],h5⟩
 | none=>
  have hval:Eh S x=none:=by unfold Eh;rw[e];rfl
  rw[hval] at hlk
  have hlk2:(Instr.lookup 76 (.map (some b)) (.int .i64 x) true).run Tryz.prog w1=.ok (.tuple #[.agg #[.int .i64 0,.int .i64 0],.bool false]) w1:=hlk
  have fQ:r=⟨0,1⟩:=by rw[HR.out];unfold aQ;rw[e];rfl
  have dP:=ah fQ
  have h2:=h1.alloc (.cells #[.int .i64 0,.int .i64 0] 57)
  rw[hsz] at h2
  obtain⟨w2,hw2⟩:=aC (w1.alloc (.cells #[.int .i64 0,.int .i64 0] 57))
  rw[←hw2] at h2
  obtain⟨k0,k1,k2,k3⟩:=gX h2.p1
  have h4:=fH h2.p1 (.int .i64 0) (.int .i64 1)
  obtain⟨w4,hw4⟩:=aC ((w2.setCell ⟨B,0,none⟩ (.int .i64 0)).setCell ⟨B,1,none⟩ (.int .i64 1))
  rw[←hw4] at h4
  obtain⟨d0,d1,-,-⟩:=gX h4
  have HW2:=ah hw2
  have uQ:=ah hw4
  have GK:=ah hsz
  have h5:=Bv (S:=S) (h4.forget.forget)
  clear hw2 hw4 hlk hval fQ e h1 h2 h4 hsz
  go_enter Tryz.func29,Tryz.ntmps29
  go_upto_region 1 with (fail)
  rw[←HB.out,←HW1.out]
  go_upto_region 2 with (fail)
  rw[GK.out,←HW2.out]
  go_wp2
  rw[←uQ.out]
  exact bodyPost_ret (v:=.agg #[.int .i64 0,.int .i64 1]) (by simp[results,Tryz.results29,go_sem,d0,d1]) rfl ⟨by rw[dP.out],h5⟩
end
end Go.Proofs.YtgicfogmdfdjmaaGreatDoor
namespace PA
open Go Go.RowKit
inductive It where
 | one (i:Nat) (k:Kd)
 | grp (b:Bool) (E:List Nat)
def It.fl:It→List (Nat×Kd)
 | .one i k=>[(i,k)]
 | .grp b E=>E.map fun i=>(i,.inl b)
def fls (l:List It):List (Nat×Kd):=l.flatMap It.fl
section
variable {P:Program} {ops:Array Oper} {Q:Exit→Act→World→Prop} {S:World→Prop}
structure InvI (ops:Array Oper) (bf:Array Nat) (listed:Array Bool) (l:List It):Prop where
 size:listed.size=ops.size
 mem:∀i,i∈(fls l).map (·.1)↔i<ops.size∧listed.getD i true=false
 nodup:((fls l).map (·.1)).Nodup
 pair:l.Pairwise fun x y=>∀u∈x.fl,∀v∈y.fl,dH ops bf u v=true
 dep:(fls l).Pairwise fun x y=>jQ ops x.1 y.1=false
 self:∀x∈fls l,jQ ops x.1 x.1=false
 closed:∀d r,r<ops.size→listed.getD d false=true→(bf.getD d 0).testBit r=true→listed.getD r false=true
def TT (ops:Array Oper):List (Nat×Kd)→Bool
 | []=>true
 | x::l=>!jQ ops x.1 x.1&&l.all (fun y=>!jQ ops x.1 y.1)&&TT ops l
theorem Gz:∀(l:List (Nat×Kd)),TT ops l=true→(l.Pairwise fun x y=>jQ ops x.1 y.1=false)∧∀x∈l,jQ ops x.1 x.1=false
 | [],_=>⟨.nil,fun _ h=>(by cases h)⟩
 | x::l,h=>by
  simp only[TT,Bool.and_eq_true,List.all_eq_true,Bool.not_eq_true'] at h
  have ih:=Gz l h.2
  refine⟨List.pairwise_cons.2 ⟨fun y hy=>h.1.2 y hy,ih.1⟩,fun y hy=>?_⟩
  rcases List.mem_cons.1 hy with rfl|hy
  ·exact h.1.1
  ·exact ih.2 y hy
variable {i:Nat} {l:List It} {a:Act} {w:World} {o:Oper} {v:Value} {K:Act→World→Prop}
end
end PA
namespace PA
open Go Go.RowKit
section
variable {P:Program} {ops:Array Oper} {Q:Exit→Act→World→Prop} {S:World→Prop} {W:World}
def iq (P:Program) (ops:Array Oper) (W:World) (o:Oper) (a:Act) (Pre:aG) (Post:Value→aG):Prop:=
 Region.wanted o (yielded ops a.tmps)=true∧∀(w:World) (A:aG),Sat W w (sep Pre A) →
  (∃v w',(execOp a.eval o).run P w=.ok (.value v) w'∧Sat W w' (sep (Post v) A)) ∨
  (∃f args w1,(execOp a.eval o).run P w=.ok (.enter f args) w1∧Calls P f args w1 fun e w'=>∃v,e=.returned v∧Sat W w' (sep (Post v) A))
theorem iq.put {o:Oper} {a:Act} {Pre:aG} {Post:Value→aG} (h:iq P ops W o a Pre Post) (hs:∀cs b,o.op≠.select cs b) {d:Option Tmp} (hd:∀t,d=some t→t∉o.looksAt ops) (v:Value):iq P ops W o (a.put d v) Pre Post:=by
 unfold iq at *
 rw[execOp_put o hs a d v hd,wanted_put o a d v hd]
 exact h
theorem iq.wpOp {i:Nat} {o:Oper} {a:Act} {Pre:aG} {Post:Value→aG} (ho:ops[i]?=some o) (h:iq P ops W o a Pre Post) {w:World} {A:aG} (hw:Sat W w (sep Pre A)) {K:Act→World→Prop}
 (hK:∀v w',Sat W w' (sep (Post v) A)→K (a.put o.dst v) w'):Go.wpOp P ops Q i K a w:=by
 unfold Go.wpOp
 simp only[ho,h.1,if_true]
 refine .inl ?_
 unfold Oper.wp
 rcases h.2 w A hw with ⟨v,w',h1,h2⟩|⟨f,args,w1,h1,h2⟩
 ·rw[h1];exact hK v w' h2
 ·rw[h1]
  refine Calls.mono h2 ?_
  rintro e w' ⟨v,rfl,h3⟩
  exact hK v w' h3
def aZ (ops:Array Oper) (i:Nat):Option Tmp:=(ops[i]?).bind (·.dst)
def puts (ops:Array Oper) (l:List (Nat×Value)) (a:Act):Act:=l.foldl (fun a x=>a.put (aZ ops x.1) x.2) a
theorem dK (l m:List (Nat×Value)) (a:Act):puts ops (l++m) a=puts ops m (puts ops l a):=by simp[puts]
def apartB (ops:Array Oper) (i j:Nat):Bool:=match ops[i]?,ops[j]? with|some o,some u=>o.apart ops u|_,_=>false
theorem mQ {i j:Nat} (h:apartB ops i j=true):(∀d,aZ ops i=some d→aZ ops j≠some d)∧(∀d,aZ ops j=some d→aZ ops i≠some d):=by
 unfold apartB at h
 unfold aZ
 cases hi:ops[i]? with
 | none=>rw[hi] at h;cases h
 | some o=>
  cases hj:ops[j]? with
  | none=>rw[hi,hj] at h;cases h
  | some u=>
   rw[hi,hj] at h
   obtain⟨h1,h2,h3⟩:=Oper.apart_spec h
   exact⟨fun d hd=>h2 d hd,fun d hd he=>h2 d he hd⟩
theorem EU {i:Nat} (v:Value):∀(l:List (Nat×Value)),(∀x∈l,apartB ops i x.1=true)→∀a:Act,puts ops l (a.put (aZ ops i) v)=(puts ops l a).put (aZ ops i) v
 | [],_,_=>rfl
 | x::l,h,a=>by
  show puts ops l ((a.put (aZ ops i) v).put (aZ ops x.1) x.2)=(puts ops l (a.put (aZ ops x.1) x.2)).put (aZ ops i) v
  rw[Act.put_comm a v x.2 (mQ (h x (by simp))).1,EU v l (fun y hy=>h y (by simp[hy]))]
theorem uU (l:List (Nat×Value)):∀(m:List (Nat×Value)),(∀x∈m,∀y∈l,apartB ops x.1 y.1=true)→∀a:Act,puts ops l (puts ops m a)=puts ops m (puts ops l a)
 | [],_,_=>rfl
 | x::m,h,a=>by
  show puts ops l (puts ops m (a.put (aZ ops x.1) x.2))=puts ops m ((puts ops l a).put (aZ ops x.1) x.2)
  rw[uU l m (fun y hy=>h y (by simp[hy])),EU x.2 l (h x (by simp))]
theorem iq.puts {o:Oper} {i:Nat} {Pre:aG} {Post:Value→aG} (ho:ops[i]?=some o) (hs:∀cs b,o.op≠.select cs b):∀(l:List (Nat×Value)),(∀x∈l,apartB ops x.1 i=true∨apartB ops i x.1=true)→∀{a:Act},iq P ops W o a Pre Post→iq P ops W o (puts ops l a) Pre Post
 | [],_,_,h=>h
 | x::l,hl,a,h=>by
  refine iq.puts ho hs l (fun y hy=>hl y (by simp[hy])) (h.put hs ?_ x.2)
  intro t ht
  unfold aZ at ht
  cases hx:ops[x.1]? with
  | none=>rw[hx] at ht;cases ht
  | some u=>
   rw[hx] at ht
   rcases hl x (by simp) with h1|h1
   ·unfold apartB at h1
    rw[hx,ho] at h1
    exact (Oper.apart_spec h1).1 t ht
   ·unfold apartB at h1
    rw[hx,ho] at h1
    exact (Oper.apart_spec h1).2.2 t ht
structure Thr where
 ids:List Nat
 A:List Value→aG
structure St where
 dn:List (Nat×Value)
 td:List Nat
 A:List Value→aG
def St.now (s:St):aG:=s.A (s.dn.map (·.2))
def kH (ops:Array Oper) (W:World) (a0:Act) (K:Act→World→Prop):List Thr→List (Nat×Value)→aG→Prop
 | [],D,B=>∀w,Sat W w B→K (puts ops D a0) w
 | t::ts,D,B=>∀dn:List (Nat×Value),dn.map (·.1)=t.ids→kH ops W a0 K ts (D++dn) (sep (t.A (dn.map (·.2))) B)
def MW (ops:Array Oper) (l m:List Nat):Prop:=∀i∈l,∀j∈m,apartB ops i j=true
def St.all (s:St):List Nat:=s.dn.map (·.1)++s.td
def O1 (ops:Array Oper) (l m:List Nat):Bool:=l.all fun i=>m.all fun j=>apartB ops i j
def wo (ops:Array Oper):List (List Nat)→Bool
 | []=>true
 | l::ls=>ls.all (O1 ops l)&&wo ops ls
end
end PA
namespace PA
open Go Go.RowKit
inductive iC where
 | one (i:Nat) (k:Kd)
 | grp (b:Bool) (E:List (Nat×List Nat))
def nK (b:Bool) (x:Nat×List Nat):List (Nat×Kd):=(x.1,.inl b)::x.2.map fun j=>(j,.inr none)
def iC.fl:iC→List (Nat×Kd)
 | .one i k=>[(i,k)]
 | .grp b E=>E.flatMap (nK b)
def bV (l:List iC):List (Nat×Kd):=l.flatMap iC.fl
theorem iK (x:iC) (l:List iC):bV (x::l)=x.fl++bV l:=by simp[bV]
theorem eu (l m:List iC):bV (l++m)=bV l++bV m:=by simp[bV]
def wpT (P:Program) (ops:Array Oper) (K:Act→World→Prop):List Nat→Act→World→Prop
 | [],a,w=>K a w
 | j::js,a,w=>∃o,ops[j]?=some o∧∃v,(∀w',Qg P ops o v a w')∧wpT P ops K js (a.put o.dst v) w
def uT (P:Program) (ops:Array Oper) (Q:Exit→Act→World→Prop) (S:World→Prop) (b:Bool):Nat→List (Nat×List Nat)→(Act→World→Prop)→Act→World→Prop
 | 0,_,K,a,w=>K a w
 | n+1,E,K,a,w=>∀x∈E,(E.all fun r=>!((Region.before ops).getD x.1 0).testBit r.1)=true →
  wpOp P ops Q x.1 (fun a' w'=>(b=true→S w')∧wpT P ops (uT P ops Q S b n (E.erase x) K) x.2 a' w') a w
def jT (P:Program) (ops:Array Oper) (Q:Exit→Act→World→Prop) (S:World→Prop):List iC→(Act→World→Prop)→Act→World→Prop
 | [],K,a,w=>K a w
 | .one i k::l,K,a,w=>∃o,ops[i]?=some o∧match k with
  | .inr none=>∃v,(∀w',Qg P ops o v a w')∧jT P ops Q S l K (a.put o.dst v) w
  | .inr (some true)=>S w∧∃v,(∀w',S w'→Qg P ops o v a w')∧jT P ops Q S l K (a.put o.dst v) w
  | .inr (some false)=>∃v,Qg P ops o v a w∧jT P ops Q S l K (a.put o.dst v) w
  | .inl b=>wpOp P ops Q i (fun a' w'=>(b=true→S w')∧jT P ops Q S l K a' w') a w
 | .grp b E::l,K,a,w=>uT P ops Q S b E.length E (jT P ops Q S l K) a w
def okGB (ops:Array Oper) (bf:Array Nat) (b:Bool) (E:List (Nat×List Nat)):Bool:=
 E.all (fun x=>x.2.all (fun j=>(bf.getD j 0).testBit x.1))&&E.all (fun x=>yS ops bf (x.2.map fun j=>(j,(.inr none:Kd)))) &&
 E.all (fun x=>E.all fun y=>x==y||x.2.all fun u=>(nK b y).all fun v=>dH ops bf (u,.inr none) v)
section
variable {P:Program} {ops:Array Oper} {Q:Exit→Act→World→Prop} {S:World→Prop}
structure okG (ops:Array Oper) (bf:Array Nat) (b:Bool) (E:List (Nat×List Nat)):Prop where
 own:∀x∈E,∀j∈x.2,(bf.getD j 0).testBit x.1=true
 seq:∀x∈E,x.2.Pairwise fun u v=>dH ops bf (u,.inr none) (v,.inr none)=true
 other:∀x∈E,∀y∈E,x≠y→∀u∈x.2,∀v∈nK b y,dH ops bf (u,.inr none) v=true
theorem Ba {bf:Array Nat}:∀(js:List Nat),yS ops bf (js.map fun j=>(j,(.inr none:Kd)))=true→js.Pairwise fun u v=>dH ops bf (u,.inr none) (v,.inr none)=true
 | [],_=>.nil
 | j::js,h=>by
  simp only[List.map_cons,yS,Bool.and_eq_true,List.all_eq_true] at h
  refine List.pairwise_cons.2 ⟨fun y hy=>h.1.1 _ (List.mem_map.2 ⟨y,hy,rfl⟩),Ba js h.2⟩
theorem Xu {bf:Array Nat} {b:Bool} {E:List (Nat×List Nat)} (h:okGB ops bf b E=true):okG ops bf b E:=by
 simp only[okGB,Bool.and_eq_true,List.all_eq_true,Bool.or_eq_true,beq_iff_eq] at h
 obtain⟨⟨h1,h2⟩,h3⟩:=h
 refine⟨h1,fun x hx=>Ba _ (h2 x hx),fun x hx y hy hne u hu v hv=>?_⟩
 rcases h3 x hx y hy with e|h
 ·exact absurd e hne
 ·exact h u hu v hv
theorem okG.erase {bf:Array Nat} {b:Bool} {E:List (Nat×List Nat)} (h:okG ops bf b E) (x:Nat×List Nat):okG ops bf b (E.erase x):=
 ⟨fun y hy=>h.own y (List.mem_of_mem_erase hy),fun y hy=>h.seq y (List.mem_of_mem_erase hy),fun y hy z hz=>h.other y (List.mem_of_mem_erase hy) z (List.mem_of_mem_erase hz)⟩
theorem TS (l:List iC) (K:Act→World→Prop):∀(js:List Nat) (a:Act) (w:World),wpT P ops (jT P ops Q S l K) js a w→jT P ops Q S (js.map (fun j=>.one j (.inr none))++l) K a w
 | [],_,_,h=>h
 | j::js,a,w,h=>by
  obtain⟨o,ho,v,hy,h⟩:=h
  exact⟨o,ho,v,hy,TS l K js _ w h⟩
theorem kG (l m:List iC) (K:Act→World→Prop):jT P ops Q S (l++m) K=jT P ops Q S l (jT P ops Q S m K):=by
 induction l with
 | nil=>rfl
 | cons x l ih=>
  funext a w
  cases x with
  | one i k=>rcases k with b|_|_|_<;>simp only[List.cons_append,jT,ih]
  | grp b E=>simp only[List.cons_append,jT,ih]
theorem xP {K:Act→World→Prop}:∀(l:List iC),bV l=[]→∀(a:Act) (w:World),jT P ops Q S l K a w→K a w
 | [],_,_,_,h=>h
 | .one i k::l,he,_,_,_=>by simp[iK,iC.fl] at he
 | .grp b E::l,he,a,w,h=>by
  rw[iK,List.append_eq_nil_iff] at he
  have hE:E=[]:=by
   cases E with
   | nil=>rfl
   | cons x E=>have:=he.1;simp[iC.fl,nK] at this
  subst hE
  exact xP l he.2 a w h
theorem ET {j:Nat} {kj:Kd} {oj:Oper} {bf:Array Nat} (hj:ops[j]?=some oj) (hsel:∀(j:Nat) (o:Oper) cs b,ops[j]?=some o→o.op≠.select cs b) (hQ:∀c a d v w,Q (.panic c) (a.put d v) w→Q (.panic c) a w)
 (T T':Act→World→Prop) (hT:∀a w,T a w→wpOp P ops Q j (fun a' w'=>T' a' w'∧(kj=.e true→S w')∧(kj.eff=false→w'=w)) a w):
 ∀(l1:List iC),(∀x∈bV l1,dH ops bf x (j,kj)=true∧(bf.getD j 0).testBit x.1=false)→∀(a:Act) (w:World),jT P ops Q S l1 T a w →
  wpOp P ops Q j (fun a' w'=>jT P ops Q S l1 T' a' w'∧(kj=.e true→S w')∧(kj.eff=false→w'=w)) a w
 | [],_,a,w,h=>hT a w h
 | .grp b E::l1,hl,a,w,h=>by
  have hE:E=[]:=by
   cases E with
   | nil=>rfl
   | cons r E=>
    obtain⟨hp,hnd⟩:=hl (r.1,.inl b) (by simp[iK,iC.fl,nK])
    simp only[dH,hnd,Bool.false_or,Bool.and_eq_true,Kd.eff,Bool.not_true,Bool.false_and] at hp
    exact absurd hp.2 (by simp)
  subst hE
  exact wpOp_mono (fun a' w' h=>h) (ET hj hsel hQ T T' hT l1 (fun x hx=>hl x (by rw[iK];exact List.mem_append_right _ hx)) a w h)
 | .one r kr::l1,hl,a,w,h=>by
  obtain⟨o,ho,h⟩:=h
  obtain⟨hp,hnd⟩:=hl (r,kr) (by simp[iK,iC.fl])
  simp only[dH,hnd,Bool.false_or,Bool.and_eq_true,ho,hj] at hp
  obtain⟨_,⟨hne,hap⟩,hk⟩:=hp
  have ih:=ET hj hsel hQ T T' hT l1 (fun x hx=>hl x (by rw[iK];exact List.mem_append_right _ hx))
  have go:∀(v:Value),jT P ops Q S l1 T (a.put o.dst v) w →
   wpOp P ops Q j (fun a' w'=>Alk ops o a a'∧jT P ops Q S l1 T' (a'.put o.dst v) w'∧(kj=.e true→S w')∧(kj.eff=false→w'=w)) a w:=fun v hv=>
   ER hj hap (fun cs b=>hsel r o cs b ho) (fun cs b=>hsel j oj cs b hj) hQ (ih _ _ hv)
  rcases kr with b|_|_|_
  case inr.none=>
   obtain⟨v,hy,h⟩:=h
   exact wpOp_mono (fun a' w' ⟨h1,h2,h3,h4⟩=>⟨⟨o,ho,v,fun w'=>(hy w').alk h1,h2⟩,h3,h4⟩) (go v h)
  case inr.some.true=>
   obtain⟨hS,v,hy,h⟩:=h
   refine wpOp_mono (fun a' w' ⟨h1,h2,h3,h4⟩=>⟨⟨o,ho,?_,v,fun w' hw'=>(hy w' hw').alk h1,h2⟩,h3,h4⟩) (go v h)
   rcases kj with b|_
   ·exact h3 (by simp at hk;rw[hk])
   ·rw[h4 rfl];exact hS
  case inr.some.false=>
   obtain⟨v,hy,h⟩:=h
   refine wpOp_mono (fun a' w' ⟨h1,h2,h3,h4⟩=>⟨⟨o,ho,v,?_,h2⟩,h3,h4⟩) (go v h)
   rcases kj with b|_
   ·simp at hk
   ·rw[h4 rfl];exact hy.alk h1
  case inl=>simp[Kd.eff] at hne
structure InvJ (ops:Array Oper) (bf:Array Nat) (listed:Array Bool) (l:List iC):Prop where
 size:listed.size=ops.size
 mem:∀i,i∈(bV l).map (·.1)↔i<ops.size∧listed.getD i true=false
 nodup:((bV l).map (·.1)).Nodup
 pair:l.Pairwise fun x y=>∀u∈x.fl,∀v∈y.fl,dH ops bf u v=true
 dep:(bV l).Pairwise fun x y=>jQ ops x.1 y.1=false
 self:∀x∈bV l,jQ ops x.1 x.1=false
 grp:∀b E,iC.grp b E∈l→okG ops bf b E
 closed:∀d r,r<ops.size→listed.getD d false=true→(bf.getD d 0).testBit r=true→listed.getD r false=true
theorem TV (hsel:∀(j:Nat) (o:Oper) cs b,ops[j]?=some o→o.op≠.select cs b) (hQ:∀c a d v w,Q (.panic c) (a.put d v) w→Q (.panic c) a w)
 (hbf:jU ops (Region.before ops)=true) (hon:∀(j:Nat) (o:Oper),ops[j]?=some o→∀e∈o.after,Region.binds .any e=true→e.on<ops.size):
 ∀(n:Nat) (l:List iC) (listed:Array Bool),(bV l).length=n→InvJ ops (Region.before ops) listed l→∀(a:Act) (w:World),jT P ops Q S l (Q .normal) a w→wpAny P .any ops Q n listed a w:=by
 obtain⟨bf,hbe⟩:=aC (Region.before ops)
 have Jq:∀(listed:Array Bool) (i:Nat),listed.size=ops.size→i<ops.size→(listed.getD i false=true↔¬listed.getD i true=false):=fun listed i hs hi=>by
  simp[Array.getD,hs,hi]
 have nil:∀(listed:Array Bool) (l:List iC),bV l=[]→InvJ ops (Region.before ops) listed l→Region.ready .any ops listed=[]:=fun listed l hl hI=>by
  simp only[Region.ready,List.filter_eq_nil_iff,List.mem_range]
  intro i hi
  have h':¬listed.getD i true=false:=fun hh=>by have:=(hI.mem i).2 ⟨hi,hh⟩;rw[hl] at this;simp at this
  have h'':listed.getD i true=true:=by simpa using h'
  simp[h'']
 intro n
 induction n with
 | zero=>
  intro l listed hn hI a w h
  have hl:=List.eq_nil_of_length_eq_zero hn
  exact⟨nil _ l hl hI,xP l hl a w h⟩
 | succ n ih=>
  intro l listed hn hI a w h
  refine⟨fun hr=>?_,fun j hj=>?_⟩
  ·exfalso
   cases hfl:bV l with
   | nil=>rw[hfl] at hn;simp at hn
   | cons x xs=>
    have hx:=(hI.mem x.1).1 (by rw[hfl];simp)
    have hmem:x.1∈Region.ready .any ops listed:=by
     simp only[Region.ready,List.mem_filter,List.mem_range]
     refine⟨hx.1,?_⟩
     have:listed.getD x.1 true=false:=hx.2
     have ho:ops[x.1]?=some ops[x.1]:=Array.getElem?_eq_getElem hx.1
     simp only[this,Bool.not_false,Bool.true_and,ho,Option.map_some,Option.getD_some]
     rw[Array.all_eq_true]
     intro k hk
     have hmem:=Array.getElem_mem hk
     by_cases hb:Region.binds .any (ops[x.1].after[k])=true
     ·have hlt:=hon x.1 _ ho _ hmem hb
      have AX:jQ ops x.1 (ops[x.1].after[k]).on=true:=by
       simp only[jQ,ho,Array.any_eq_true]
       exact⟨k,hk,by simp[hb]⟩
      have hnot:(ops[x.1].after[k]).on∉(bV l).map (·.1):=by
       intro hm
       rw[hfl] at hm
       simp only[List.map_cons,List.mem_cons,List.mem_map] at hm
       rcases hm with hm|⟨y,hy,hm⟩
       ·have:=hI.self x (by rw[hfl];simp)
        rw[hm] at AX
        rw[AX] at this;cases this
       ·have hd:=hI.dep
        rw[hfl] at hd
        have:=(List.pairwise_cons.1 hd).1 y hy
        rw[hm,AX] at this
        cases this
      have h2:¬listed.getD (ops[x.1].after[k]).on true=false:=fun e=>hnot ((hI.mem _).2 ⟨hlt,e⟩)
      have:=(Jq listed _ hI.size hlt).2 h2
      simp[this]
     ·simp[hb]
    rw[hr] at hmem;cases hmem
  ·simp only[Region.ready,List.mem_filter,List.mem_range,Bool.and_eq_true,Bool.not_eq_true'] at hj
   obtain⟨hjs,hjl,hja⟩:=hj
   have hjm:=(hI.mem j).2 ⟨hjs,hjl⟩
   cases hoj:ops[j]? with
   | none=>simp[hoj] at hja
   | some oj=>
    simp only[hoj,Option.map_some,Option.getD_some] at hja
    have yT:∀d,jQ ops j d=true→listed.getD d false=true:=fun d hd=>by
     simp only[jQ,hoj,Array.any_eq_true] at hd
     obtain⟨k,hk,hd⟩:=hd
     simp only[Bool.and_eq_true,beq_iff_eq] at hd
     rw[Array.all_eq_true] at hja
     have:=hja k hk
     rw[hd.1] at this
     simpa[hd.2] using this
    have hbl:∀r,r<ops.size→((Region.before ops).getD j 0).testBit r=true→listed.getD r false=true:=fun r hr hb=>by
     simp only[jU,List.all_eq_true,List.mem_range] at hbf
     have:=hbf j hjs r hr
     simp only[hb,Bool.not_true,Bool.false_or,Bool.or_eq_true,List.any_eq_true,List.mem_range,Bool.and_eq_true] at this
     rcases this with h|⟨d,_,h1,h2⟩
     ·exact yT r h
     ·exact hI.closed d r hr (yT d h1) h2
    have hnotin:∀x∈bV l,((Region.before ops).getD j 0).testBit x.1=false:=fun x hx=>by
     have hxm:=(hI.mem x.1).1 (List.mem_map.2 ⟨x,hx,rfl⟩)
     cases hb:((Region.before ops).getD j 0).testBit x.1 with
     | false=>rfl
     | true=>exact absurd hxm.2 ((Jq listed x.1 hI.size hxm.1).1 (hbl x.1 hxm.1 hb))
    have hclosed:∀d r,r<ops.size→(listed.setIfInBounds j true).getD d false=true→((Region.before ops).getD d 0).testBit r=true→(listed.setIfInBounds j true).getD r false=true:=by
     intro d r hr hd hb
     by_cases e:r=j
     ·subst e;simp[Array.getD,hI.size,hr]
     ·have hg:(listed.setIfInBounds j true).getD r false=listed.getD r false:=getD_set_ne _ _ _ _ _ e
      rw[hg]
      by_cases e2:d=j
      ·subst e2;exact hbl r hr hb
      ·have hg2:(listed.setIfInBounds j true).getD d false=listed.getD d false:=getD_set_ne _ _ _ _ _ e2
       rw[hg2] at hd
       exact hI.closed d r hr hd hb
    have TQ:(listed.setIfInBounds j true).getD j true=true:=by simp[Array.getD,hI.size,hjs]
    have Jt:∀(F:List Nat),(∀i,i∈F↔i∈(bV l).map (·.1)∧i≠j)→∀i,i∈F↔i<ops.size∧(listed.setIfInBounds j true).getD i true=false:=fun F hF i=>by
     rw[hF,hI.mem]
     by_cases e:i=j
     ·subst e;simp[TQ]
     ·have hg:(listed.setIfInBounds j true).getD i true=listed.getD i true:=getD_set_ne _ _ _ _ _ e
      rw[hg];simp[e]
    obtain⟨⟨j',kj⟩,hxf,hje⟩:=List.mem_map.1 hjm
    obtain rfl:j'=j:=hje
    obtain⟨it,hit,hin⟩:=List.mem_flatMap.1 hxf
    obtain⟨l1,l2,rfl⟩:=List.append_of_mem hit
    have hpw:=List.pairwise_append.1 hI.pair
    have hfe:bV (l1++it::l2)=bV l1++(it.fl++bV l2):=by rw[eu,iK]
    have hok:∀x∈bV l1,dH ops (Region.before ops) x (j',kj)=true∧((Region.before ops).getD j' 0).testBit x.1=false:=fun x hx=>by
     obtain⟨y,hy,hxy⟩:=List.mem_flatMap.1 hx
     exact⟨hpw.2.2 y hy it (by simp) x hxy (j',kj) hin,hnotin x (by rw[hfe];exact List.mem_append_left _ hx)⟩
    have hnd:=hI.nodup
    rw[hfe] at hnd
    rw[kG] at h
    cases it with
    | one i k=>
     simp only[iC.fl,List.mem_singleton,Prod.mk.injEq] at hin
     obtain⟨rfl,rfl⟩:=hin
     refine wpOp_mono (fun a' w' ⟨h1,_,_⟩=>ih (l1++l2) (listed.setIfInBounds j' true) ?_ ?_ a' w' (by rw[kG];exact h1)) (ET (kj:=kj) hoj hsel hQ (jT P ops Q S (.one j' kj::l2) (Q .normal)) (jT P ops Q S l2 (Q .normal)) ?_ l1 hok a w h)
     ·rintro a w ⟨o,ho,h⟩
      rcases kj with b|_|_|_
      case inr.none=>obtain⟨v,hy,h⟩:=h;exact (hy w).wpOp ho ⟨h,fun h=>(by cases h),fun _=>rfl⟩
      case inr.some.true=>obtain⟨hS,v,hy,h⟩:=h;exact (hy w hS).wpOp ho ⟨h,fun h=>(by cases h),fun _=>rfl⟩
      case inr.some.false=>obtain⟨v,hy,h⟩:=h;exact hy.wpOp ho ⟨h,fun h=>(by cases h),fun _=>rfl⟩
      case inl=>exact wpOp_mono (fun a' w' ⟨h1,h2⟩=>⟨h2,fun hb=>h1 (by cases hb;rfl),fun hb=>(by simp[Kd.eff] at hb)⟩) h
     ·rw[hfe] at hn;rw[eu];simp[iC.fl] at hn ⊢;omega
     ·have hpf:List.Sublist (l1++l2) (l1++iC.one j' kj::l2):=List.Sublist.append_left (List.sublist_cons_self _ _) _
      have hsf:List.Sublist (bV (l1++l2)) (bV (l1++iC.one j' kj::l2)):=by
       rw[hfe,eu]
       exact List.Sublist.append_left (List.sublist_append_right _ _) _
      refine⟨by simp[hI.size],Jt _ fun i=>?_,?_,hI.pair.sublist hpf,hI.dep.sublist hsf,fun x hx=>hI.self x (hsf.subset hx),fun b E hm=>hI.grp b E (hpf.subset hm),hclosed⟩
      ·rw[hfe,eu]
       simp only[iC.fl,lS,List.map_cons,List.map_nil,List.mem_append,List.mem_cons,List.not_mem_nil,or_false]
       have hn2:=hI.nodup
       rw[hfe] at hn2
       simp only[iC.fl,lS,List.map_cons,List.map_nil,List.nodup_append,List.mem_append,List.mem_cons,List.not_mem_nil,or_false] at hn2
       constructor
       ·rintro (hi|hi)
        ·exact⟨.inl hi,fun e=>hn2.2.2 i hi j' (.inl rfl) e⟩
        ·exact⟨.inr (.inr hi),fun e=>hn2.2.1.2.2 j' rfl i hi e.symm⟩
       ·rintro⟨hi|hi|hi,hne⟩
        ·exact .inl hi
        ·exact absurd hi hne
        ·exact .inr hi
      ·exact hI.nodup.sublist (hsf.map _)
    | grp b E=>
     obtain⟨x,Gy,aat⟩:=List.mem_flatMap.1 (show (j',kj)∈E.flatMap (nK b) from hin)
     have hG:=hI.grp b E (by simp)
     have hxm:(x.1,(.inl b:Kd))∈bV (l1++iC.grp b E::l2):=by
      rw[hfe]
      refine List.mem_append_right _ (List.mem_append_left _ ?_)
      exact List.mem_flatMap.2 ⟨x,Gy,List.mem_cons_self⟩
     have hj':(j',kj)=(x.1,.inl b):=by
      rcases List.mem_cons.1 aat with e|hm
      ·exact e
      ·exfalso
       obtain⟨u,hu,e⟩:=List.mem_map.1 hm
       have e1:u=j':=congrArg Prod.fst e
       have h1:=hG.own x Gy u hu
       have h2:=hnotin _ hxm
       rw[e1] at h1
       rw[h1] at h2
       cases h2
     obtain⟨rfl,rfl⟩:j'=x.1∧kj=.inl b:=Prod.mk.inj hj'
     obtain⟨E1,E2,aau,hEe,hEr⟩:=List.exists_erase_eq Gy
     have hfl:bV (l1++iC.grp b E::l2)=bV l1++(E1.flatMap (nK b)++((x.1,.inl b)::((x.2.map fun j=>(j,(.inr none:Kd)))++E2.flatMap (nK b)))++bV l2):=by
      rw[hfe];show bV l1++(E.flatMap (nK b)++bV l2)=_
      rw[hEe,List.flatMap_append,List.flatMap_cons]
      simp[nK]
     have hfn:bV (l1++(x.2.map (fun j=>iC.one j (.inr none))++iC.grp b (E.erase x)::l2))=bV l1++((x.2.map fun j=>(j,(.inr none:Kd)))++(E1.flatMap (nK b)++E2.flatMap (nK b))++bV l2):=by
      rw[eu,eu,iK]
      show bV l1++(_++((E.erase x).flatMap (nK b)++bV l2))=_
      rw[hEr,List.flatMap_append]
      have:bV (x.2.map fun j=>iC.one j (.inr none))=x.2.map fun j=>(j,(.inr none:Kd)):=by
       unfold bV
       rw[List.flatMap_map]
       induction x.2 with
       | nil=>rfl
       | cons u us ih=>rw[List.flatMap_cons,ih];rfl
      rw[this]
      simp
     have hperm:(bV (l1++iC.grp b E::l2)).Perm ((x.1,.inl b)::bV (l1++(x.2.map (fun j=>iC.one j (.inr none))++iC.grp b (E.erase x)::l2))):=by
      rw[hfl,hfn]
      refine List.Perm.trans ?_ List.perm_middle
      refine List.Perm.append_left _ ?_
      refine List.Perm.append_right (bV l2) (show List.Perm _ ((x.1,(.inl b:Kd))::_) from List.Perm.trans List.perm_middle (List.Perm.cons _ ?_))
      rw[←List.append_assoc,←List.append_assoc]
      exact List.Perm.append_right _ List.perm_append_comm
     have hnd':=(hperm.map (fun y:Nat×Kd=>y.1)).nodup_iff.1 hI.nodup
     rw[List.map_cons] at hnd'
     obtain⟨hxn,aav⟩:=List.nodup_cons.1 hnd'
     have Ql:∀y∈E1,y∈E∧y≠x:=fun y hy=>⟨by rw[hEe];simp[hy],fun e=>aau (by rw[←e];exact hy)⟩
     have Qm:∀y∈E2,y∈E∧y≠x:=fun y hy=>by
      refine⟨by rw[hEe];simp[hy],fun e=>?_⟩
      have hn0:=hI.nodup
      rw[hfl] at hn0
      simp only[lS,List.map_cons] at hn0
      have h3:=(List.nodup_append.1 (List.nodup_append.1 (List.nodup_append.1 hn0).2.1).1).2.1
      refine (List.nodup_cons.1 h3).1 (List.mem_append_right _ (List.mem_map.2 ⟨(x.1,.inl b),List.mem_flatMap.2 ⟨y,hy,by rw[e];exact List.mem_cons_self⟩,rfl⟩))
     have wu:∀u∈x.2,∀v∈E1.flatMap (nK b)++E2.flatMap (nK b),dH ops (Region.before ops) (u,.inr none) v=true:=fun u hu v hv=>by
      rcases List.mem_append.1 hv with hv|hv
      ·obtain⟨y,hy,hvy⟩:=List.mem_flatMap.1 hv
       exact hG.other x Gy y (Ql y hy).1 (fun e=>(Ql y hy).2 e.symm) u hu v hvy
      ·obtain⟨y,hy,hvy⟩:=List.mem_flatMap.1 hv
       exact hG.other x Gy y (Qm y hy).1 (fun e=>(Qm y hy).2 e.symm) u hu v hvy
     have TR:∀{u v:Nat×Kd},dH ops (Region.before ops) u v=true→jQ ops u.1 v.1=false:=fun h=>by
      simp only[dH,Bool.and_eq_true,Bool.not_eq_true'] at h
      exact h.1
     refine wpOp_mono (fun a' w' ⟨h1,_,_⟩=>ih (l1++(x.2.map (fun j=>iC.one j (.inr none))++iC.grp b (E.erase x)::l2)) (listed.setIfInBounds x.1 true) ?_ ?_ a' w' (by rw[kG];exact h1)) (ET (kj:=.inl b) hoj hsel hQ (jT P ops Q S (.grp b E::l2) (Q .normal)) (jT P ops Q S (x.2.map (fun j=>iC.one j (.inr none))++iC.grp b (E.erase x)::l2) (Q .normal)) ?_ l1 hok a w h)
     ·intro a w h
      have xQ:(E.all fun r=>!((Region.before ops).getD x.1 0).testBit r.1)=true:=by
       rw[List.all_eq_true]
       intro r hr
       have h9:((Region.before ops).getD x.1 0).testBit r.1=false:=hnotin (r.1,.inl b) (by rw[hfe];refine List.mem_append_right _ (List.mem_append_left _ ?_);exact List.mem_flatMap.2 ⟨r,hr,List.mem_cons_self⟩)
       rw[h9];rfl
      have hlen:E.length=(E.erase x).length+1:=by
       have hp:0<E.length:=List.length_pos_of_mem Gy
       rw[List.length_erase_of_mem Gy];omega
      simp only[jT] at h
      rw[hlen] at h
      refine wpOp_mono (fun a' w' ⟨h1,h2⟩=>⟨TS (.grp b (E.erase x)::l2) (Q .normal) x.2 a' w' h2,fun hb=>h1 (by cases hb;rfl),fun hb=>(by simp[Kd.eff] at hb)⟩) (h x Gy xQ)
     ·have:=hperm.length_eq
      rw[List.length_cons] at this
      omega
     ·have hc:=List.pairwise_cons.1 hpw.2.1
      have hl1:∀y∈l1,∀u∈y.fl,∀v,v∈(x.2.map fun j=>(j,(.inr none:Kd)))∨v∈E1.flatMap (nK b)++E2.flatMap (nK b)→dH ops (Region.before ops) u v=true:=fun y hy u hu v hv=>by
       refine hpw.2.2 y hy (.grp b E) (by simp) u hu v ?_
       show v∈E.flatMap (nK b)
       rw[hEe,List.flatMap_append,List.flatMap_cons]
       rcases hv with hv|hv
       ·exact List.mem_append_right _ (List.mem_append_left _ (List.mem_cons_of_mem _ hv))
       ·rcases List.mem_append.1 hv with hv|hv
        ·exact List.mem_append_left _ hv
        ·exact List.mem_append_right _ (List.mem_append_right _ hv)
      have hl2:∀y∈l2,∀v∈y.fl,∀u,u∈(x.2.map fun j=>(j,(.inr none:Kd)))∨u∈E1.flatMap (nK b)++E2.flatMap (nK b)→dH ops (Region.before ops) u v=true:=fun y hy v hv u hu=>by
       refine hc.1 y hy u ?_ v hv
       show u∈E.flatMap (nK b)
       rw[hEe,List.flatMap_append,List.flatMap_cons]
       rcases hu with hu|hu
       ·exact List.mem_append_right _ (List.mem_append_left _ (List.mem_cons_of_mem _ hu))
       ·rcases List.mem_append.1 hu with hu|hu
        ·exact List.mem_append_left _ hu
        ·exact List.mem_append_right _ (List.mem_append_right _ hu)
      have hgf:iC.fl (.grp b (E.erase x))=E1.flatMap (nK b)++E2.flatMap (nK b):=by
       show (E.erase x).flatMap (nK b)=_
       rw[hEr,List.flatMap_append]
      have hone:∀y∈x.2.map (fun j=>iC.one j (.inr none)),∀u∈y.fl,u∈(x.2.map fun j=>(j,(.inr none:Kd))):=fun y hy u hu=>by
       obtain⟨j,hj,rfl⟩:=List.mem_map.1 hy
       rw[List.mem_singleton.1 hu]
       exact List.mem_map.2 ⟨j,hj,rfl⟩
      refine⟨by simp[hI.size],Jt _ fun k=>?_,aav,?_,?_,fun y hy=>hI.self y (hperm.symm.subset (List.mem_cons_of_mem _ hy)),?_,hclosed⟩
      ·have hmm:=(hperm.map (fun y:Nat×Kd=>y.1)).mem_iff (a:=k)
       rw[List.map_cons,List.mem_cons] at hmm
       rw[hmm]
       constructor
       ·intro hk
        exact⟨.inr hk,fun e=>hxn (by rw[←e];exact hk)⟩
       ·rintro⟨rfl|hk,hne⟩
        ·exact absurd rfl hne
        ·exact hk
      ·refine List.pairwise_append.2 ⟨hpw.1,List.pairwise_append.2 ⟨?_,List.pairwise_cons.2 ⟨fun y hy u hu v hv=>hl2 y hy v hv u (.inr (by rw[←hgf];exact hu)),hc.2⟩,fun y hy z hz u hu v hv=>?_⟩,fun y hy z hz u hu v hv=>?_⟩
       ·rw[List.pairwise_map]
        refine (hG.seq x Gy).imp fun h u hu v hv=>?_
        rw[List.mem_singleton.1 hu,List.mem_singleton.1 hv]
        exact h
       ·have h1:=hone y hy u hu
        rcases List.mem_cons.1 hz with rfl|hz
        ·obtain⟨j,hj,rfl⟩:=List.mem_map.1 h1
         exact wu j hj v (by rw[←hgf];exact hv)
        ·exact hl2 z hz v hv u (.inl h1)
       ·rcases List.mem_append.1 hz with hz|hz
        ·exact hl1 y hy u hu v (.inl (hone z hz v hv))
        ·rcases List.mem_cons.1 hz with rfl|hz
         ·exact hl1 y hy u hu v (.inr (by rw[←hgf];exact hv))
         ·exact hpw.2.2 y hy z (by simp[hz]) u hu v hv
      ·have hd:=hI.dep
       rw[hfl] at hd
       rw[hfn]
       obtain⟨a1,a2,a3⟩:=List.pairwise_append.1 hd
       obtain⟨b1,b2,b3⟩:=List.pairwise_append.1 a2
       obtain⟨c1,c2,c3⟩:=List.pairwise_append.1 b1
       obtain⟨d1,d2⟩:=List.pairwise_cons.1 c2
       obtain⟨e1,e2,e3⟩:=List.pairwise_append.1 d2
       refine List.pairwise_append.2 ⟨a1,List.pairwise_append.2 ⟨List.pairwise_append.2 ⟨e1,List.pairwise_append.2 ⟨c1,e2,fun y hy z hz=>c3 y hy z (List.mem_cons_of_mem _ (List.mem_append_right _ hz))⟩,fun y hy z hz=>?_⟩,b2,fun y hy z hz=>b3 y ?_ z hz⟩,fun y hy z hz=>a3 y hy z ?_⟩
       ·obtain⟨j,hj,rfl⟩:=List.mem_map.1 hy
        exact TR (wu j hj z hz)
       ·rcases List.mem_append.1 hy with hy|hy
        ·exact List.mem_append_right _ (List.mem_cons_of_mem _ (List.mem_append_left _ hy))
        ·rcases List.mem_append.1 hy with hy|hy
         ·exact List.mem_append_left _ hy
         ·exact List.mem_append_right _ (List.mem_cons_of_mem _ (List.mem_append_right _ hy))
       ·rcases List.mem_append.1 hz with hz|hz
        ·rcases List.mem_append.1 hz with hz|hz
         ·exact List.mem_append_left _ (List.mem_append_right _ (List.mem_cons_of_mem _ (List.mem_append_left _ hz)))
         ·rcases List.mem_append.1 hz with hz|hz
          ·exact List.mem_append_left _ (List.mem_append_left _ hz)
          ·exact List.mem_append_left _ (List.mem_append_right _ (List.mem_cons_of_mem _ (List.mem_append_right _ hz)))
        ·exact List.mem_append_right _ hz
      ·intro b' E' hm
       rcases List.mem_append.1 hm with hm|hm
       ·exact hI.grp b' E' (List.mem_append_left _ hm)
       ·rcases List.mem_append.1 hm with hm|hm
        ·obtain⟨j,_,e⟩:=List.mem_map.1 hm
         cases e
        ·rcases List.mem_cons.1 hm with e|hm
         ·cases e
          exact hG.erase x
         ·exact hI.grp b' E' (by simp[hm])
def Ju (ops:Array Oper) (bf:Array Nat):List iC→Bool
 | []=>true
 | x::l=>l.all (fun y=>x.fl.all fun u=>y.fl.all fun v=>dH ops bf u v)&&Ju ops bf l
theorem Bd {bf:Array Nat}:∀(l:List iC),Ju ops bf l=true→l.Pairwise fun x y=>∀u∈x.fl,∀v∈y.fl,dH ops bf u v=true
 | [],_=>.nil
 | x::l,h=>by
  simp only[Ju,Bool.and_eq_true,List.all_eq_true] at h
  exact List.pairwise_cons.2 ⟨fun y hy u hu v hv=>h.1 y hy u hu v hv,Bd l h.2⟩
def Jz (ops:Array Oper) (bf:Array Nat):List iC→Bool
 | []=>true
 | .one _ _::l=>Jz ops bf l
 | .grp b E::l=>okGB ops bf b E&&Jz ops bf l
theorem Bo {bf:Array Nat}:∀(l:List iC),Jz ops bf l=true→∀b E,iC.grp b E∈l→okG ops bf b E
 | [],_,_,_,h=>by cases h
 | .one _ _::l,h,b,E,hm=>by
  rcases List.mem_cons.1 hm with e|hm
  ·cases e
  ·exact Bo l h b E hm
 | .grp b' E'::l,h,b,E,hm=>by
  simp only[Jz,Bool.and_eq_true] at h
  rcases List.mem_cons.1 hm with e|hm
  ·cases e
   exact Xu h.1
  ·exact Bo l h.2 b E hm
def TW (ops:Array Oper) (l:List iC):Bool:=
 Ju ops (Region.before ops) l&&TT ops (bV l)&&ES ops&&jU ops (Region.before ops)&&(bV l).length==ops.size&&nodupB ((bV l).map (·.1))&&((bV l).map (·.1)).all (fun i=>decide (i<ops.size))&&(List.range ops.size).all (fun i=>((bV l).map (·.1)).contains i) &&
 ops.all (fun o=>o.after.all fun e=>!Region.binds .any e||decide (e.on<ops.size))&&Jz ops (Region.before ops) l
theorem ji {id:Nat} {a:Act} {w:World} (hm:P.follows .mixedOrders=true) (S:World→Prop) (l:List iC) (hok:TW ops l=true)
 (h:jT P ops (NoPanic Q) S l (Q .normal) a w.drew):(Code.region id ops true).wp P Q a w:=by
 simp only[TW,Bool.and_eq_true] at hok
 obtain⟨⟨⟨⟨⟨⟨⟨⟨⟨h1,h0⟩,h2⟩,h3⟩,h4⟩,h7⟩,h8⟩,h5⟩,h6⟩,h9⟩:=hok
 have hlen:(bV l).length=ops.size:=by simpa using h4
 have hall:∀i,i<ops.size→i∈(bV l).map (·.1):=fun i hi=>by
  simp only[List.all_eq_true,List.mem_range] at h5
  simpa using h5 i hi
 have hback:∀i,i∈(bV l).map (·.1)→i<ops.size:=fun i hi=>by
  rw[List.all_eq_true] at h8
  simpa using h8 i hi
 have hd:=Gz _ h0
 refine wp_region_noPanic (wp_region_any hm ?_)
 refine TV (S:=S) ?_ ?_ h3 ?_ ops.size l _ hlen ?_ a w.drew h
 ·intro j o cs b ho hsel
  simp only[ES,Array.all_eq_true] at h2
  obtain⟨hj,rfl⟩:=Array.getElem?_eq_some_iff.1 ho
  have:=h2 j hj
  rw[hsel] at this
  cases this
 ·intro c a d v w hh;exact hh
 ·intro j o ho e he hb
  obtain⟨hj,rfl⟩:=Array.getElem?_eq_some_iff.1 ho
  rw[Array.all_eq_true] at h6
  have:=h6 j hj
  rw[Array.all_eq_true] at this
  obtain⟨k,hk,rfl⟩:=Array.mem_iff_getElem.1 he
  have:=this k hk
  simpa[hb] using this
 ·refine⟨by simp,fun i=>⟨fun hi=>?_,fun hi=>hall i hi.1⟩,pO _ h7,Bd l h1,hd.1,hd.2,Bo l h9,fun d r _ hd=>?_⟩
  ·have:=hback i hi
   exact⟨this,by simp[Array.getD,this]⟩
  ·exfalso
   simp only[Array.getD,Array.size_replicate] at hd
   split at hd<;>simp at hd
variable {i:Nat} {l:List iC} {a:Act} {w:World} {o:Oper} {v:Value} {K:Act→World→Prop}
theorem Gq (ho:ops.toList[i]?=some o) (hg:Region.wanted o (yielded ops a.tmps)=true) (hv:∀w',(execOp a.eval o).run P w'=.ok (.value v) w') (h:jT P ops Q S l K (a.put o.dst v) w):jT P ops Q S (.one i .p::l) K a w:=
 have ho':=(Array.getElem?_toList (xs:=ops) (i:=i)).symm.trans ho
 ⟨o,ho',v,fun w'=>.inl ⟨hg,hv w'⟩,h⟩
theorem Gs (ho:ops.toList[i]?=some o) (hg:Region.wanted o (yielded ops a.tmps)=true) (hS:S w) (hv:∀w',S w'→(execOp a.eval o).run P w'=.ok (.value v) w') (h:jT P ops Q S l K (a.put o.dst v) w):jT P ops Q S (.one i .s::l) K a w:=
 have ho':=(Array.getElem?_toList (xs:=ops) (i:=i)).symm.trans ho
 ⟨o,ho',hS,v,fun w' hw=>.inl ⟨hg,hv w' hw⟩,h⟩
theorem Gt (ho:ops.toList[i]?=some o) (hg:Region.wanted o (yielded ops a.tmps)=true) (hv:(execOp a.eval o).run P w=.ok (.value v) w) (h:jT P ops Q S l K (a.put o.dst v) w):jT P ops Q S (.one i .t::l) K a w:=
 have ho':=(Array.getElem?_toList (xs:=ops) (i:=i)).symm.trans ho
 ⟨o,ho',v,.inl ⟨hg,hv⟩,h⟩
theorem pG (ho:ops.toList[i]?=some o) (hg:Region.wanted o (yielded ops a.tmps)=false) (h:jT P ops Q S l K (a.put o.dst undef) w):jT P ops Q S (.one i .p::l) K a w:=
 have ho':=(Array.getElem?_toList (xs:=ops) (i:=i)).symm.trans ho
 ⟨o,ho',undef,fun _=>.inr ⟨hg,rfl⟩,h⟩
theorem pI (ho:ops.toList[i]?=some o) (hg:Region.wanted o (yielded ops a.tmps)=false) (hS:S w) (h:jT P ops Q S l K (a.put o.dst undef) w):jT P ops Q S (.one i .s::l) K a w:=
 have ho':=(Array.getElem?_toList (xs:=ops) (i:=i)).symm.trans ho
 ⟨o,ho',hS,undef,fun _ _=>.inr ⟨hg,rfl⟩,h⟩
theorem pJ (ho:ops.toList[i]?=some o) (hg:Region.wanted o (yielded ops a.tmps)=false) (h:jT P ops Q S l K (a.put o.dst undef) w):jT P ops Q S (.one i .t::l) K a w:=
 have ho':=(Array.getElem?_toList (xs:=ops) (i:=i)).symm.trans ho
 ⟨o,ho',undef,.inr ⟨hg,rfl⟩,h⟩
theorem Y4 {b:Bool} (ho:ops.toList[i]?=some o) (hg:Region.wanted o (yielded ops a.tmps)=true)
 (h:∀K':Act→World→Prop,(∀a w,(b=true→S w)→jT P ops Q S l K a w→K' a w)→o.wp P a w K' Q):jT P ops Q S (.one i (.e b)::l) K a w:=
 have ho':=(Array.getElem?_toList (xs:=ops) (i:=i)).symm.trans ho
 ⟨o,ho',by unfold wpOp;simp only[ho',hg,if_true];exact .inl (h _ fun _ _ h1 h2=>⟨h1,h2⟩)⟩
theorem vY (h:K a w):jT P ops Q S [] K a w:=h
end
end PA
namespace PA
open Go Go.RowKit
section
variable {P:Program} {ops:Array Oper} {Q:Exit→Act→World→Prop} {S:World→Prop} {W:World}
def tailA {Y:Type} (Pre:aG) (ok:Y→Value→Prop) (Post:Y→aG) (F:Value→List Value):List Value→aG
 | []=>Pre
 | v::us=>ex fun y:Y=>sep (fact (ok y v∧us=(F v).take us.length)) (Post y)
def vW (P:Program) (ops:Array Oper):Act→List Nat→List Value→Prop
 | _,[],[]=>True
 | a,j::js,u::us=>(∃o,ops[j]?=some o∧(∀w,(execOp a.eval o).run P w=.ok (.value u) w))∧vW P ops (a.put (aZ ops j) u) js us
 | _,_,_=>False
def mO (ops:Array Oper) (j:Nat):Bool:=match ops[j]? with|some o=>o.guard.isNone&&(match o.op with|.select ..=>false|_=>true)|none=>false
theorem A8:∀{js:List Nat} {us:List Value} {a:Act},vW P ops a js us→us.length=js.length
 | [],[],_,_=>rfl
 | [],_::_,_,h=>h.elim
 | _::_,[],_,h=>h.elim
 | j::js,u::us,a,h=>by rw[List.length_cons,List.length_cons,A8 h.2]
theorem rG {K:Act→World→Prop}:∀(js:List Nat) (us:List Value) (a:Act) (w:World),(∀j∈js,mO ops j=true)→vW P ops a js us→K (puts ops (js.zip us) a) w→wpT P ops K js a w
 | [],us,a,w,_,h,hk=>by
  cases us with
  | nil=>exact hk
  | cons=>exact h.elim
 | j::js,[],_,_,_,h,_=>h.elim
 | j::js,u::us,a,w,hp,h,hk=>by
  obtain⟨⟨o,ho,hr⟩,h2⟩:=h
  have TY:=hp j (by simp)
  unfold mO at TY
  rw[ho] at TY
  simp only[Bool.and_eq_true] at TY
  refine⟨o,ho,u,fun w'=>.inl ⟨?_,hr w'⟩,?_⟩
  ·unfold Region.wanted
   cases hg:o.guard with
   | none=>rfl
   | some x=>rw[hg] at TY;exact absurd TY.1 (by simp)
  ·have hd:aZ ops j=o.dst:=by unfold aZ;rw[ho];rfl
   rw[←hd]
   exact rG js us _ w (fun k hk=>hp k (by simp[hk])) h2 hk
theorem mM {i:Nat} (v:Value):∀(l:List (Nat×Value)),(∀x∈l,apartB ops x.1 i=true∨apartB ops i x.1=true)→∀a:Act,puts ops l (a.put (aZ ops i) v)=(puts ops l a).put (aZ ops i) v
 | [],_,_=>rfl
 | x::l,h,a=>by
  show puts ops l ((a.put (aZ ops i) v).put (aZ ops x.1) x.2)=(puts ops l (a.put (aZ ops x.1) x.2)).put (aZ ops i) v
  have hd:∀d,aZ ops i=some d→aZ ops x.1≠some d:=by
   rcases h x (by simp) with h1|h1
   ·exact (mQ h1).2
   ·exact (mQ h1).1
  rw[Act.put_comm a v x.2 hd,mM v l (fun y hy=>h y (by simp[hy]))]
theorem Ua {js:List Nat} {k:Nat} {v:Value}:∀{us:List Value} {a:Act},(∀j∈js,mO ops j=true)→(∀j∈js,apartB ops k j=true∨apartB ops j k=true)→vW P ops a js us→vW P ops (a.put (aZ ops k) v) js us:=by
 induction js with
 | nil=>intro us a _ _ h;cases us with
  | nil=>trivial
  | cons=>exact h.elim
 | cons j js ih=>
  intro us a hp hap h
  cases us with
  | nil=>exact h.elim
  | cons u us=>
   obtain⟨⟨o,ho,hr⟩,h2⟩:=h
   have TY:=hp j (by simp)
   unfold mO at TY
   rw[ho] at TY
   simp only[Bool.and_eq_true] at TY
   have hsel:∀cs b,o.op≠.select cs b:=fun cs b hs=>by rw[hs] at TY;exact absurd TY.2 (by simp)
   have hlook:∀d,aZ ops k=some d→d∉o.looksAt ops:=fun d hd=>by
    unfold aZ at hd
    cases hk:ops[k]? with
    | none=>rw[hk] at hd;cases hd
    | some z=>
     rw[hk] at hd
     rcases hap j (by simp) with h1|h1
     ·unfold apartB at h1
      rw[hk,ho] at h1
      exact (Oper.apart_spec h1).1 d hd
     ·unfold apartB at h1
      rw[hk,ho] at h1
      exact (Oper.apart_spec h1).2.2 d hd
   refine⟨⟨o,ho,fun w=>?_⟩,?_⟩
   ·rw[execOp_put o hsel a _ v hlook];exact hr w
   ·have:=ih (fun i hi=>hp i (by simp[hi])) (fun i hi=>hap i (by simp[hi])) h2
    have hd:∀d,aZ ops k=some d→aZ ops j≠some d:=by
     rcases hap j (by simp) with h1|h1
     ·exact (mQ h1).1
     ·exact (mQ h1).2
    rw[Act.put_comm a v u hd]
    exact this
theorem xO {js:List Nat} {us:List Value}:∀(l:List (Nat×Value)),(∀j∈js,mO ops j=true)→(∀x∈l,∀j∈js,apartB ops x.1 j=true∨apartB ops j x.1=true)→∀{a:Act},vW P ops a js us→vW P ops (puts ops l a) js us
 | [],_,_,_,h=>h
 | x::l,hp,hap,a,h=>xO l hp (fun y hy=>hap y (by simp[hy])) (Ua hp (hap x (by simp)) h)
def nums (ids:List (Nat×List Nat)):List Nat:=ids.flatMap fun x=>x.1::x.2
structure WE where
 ids:List (Nat×List Nat)
 A:List Value→aG
structure qN where
 dn:List (Nat×Value)
 td:List (Nat×List Nat)
 A:List Value→aG
def qN.now (s:qN):aG:=s.A (s.dn.map (·.2))
def xM (oK:List qN) (B:aG):aG:=oK.foldl (fun B s=>sep s.now B) B
theorem jV (s:qN) (oK:List qN) (B:aG):xM (s::oK) B=xM oK (sep s.now B):=rfl
theorem mJ (s t:List qN) (B:aG):xM (s++t) B=xM t (xM s B):=by simp[xM]
theorem nP (X:aG):∀(oK:List qN) (B:aG),xM oK (sep X B)=sep X (xM oK B)
 | [],_=>rfl
 | s::oK,B=>by rw[jV,jV,au,nP X oK]
theorem EW:∀(l:List qN) (A:aG),∃X,xM l A=sep X A
 | [],A=>⟨emp,(bU A).symm⟩
 | s::l,A=>by
  obtain⟨X,hX⟩:=EW l A
  exact⟨sep s.now X,by rw[jV,nP,hX,aj]⟩
def uj (P:Program) (ops:Array Oper) (W:World) (a0:Act) (A:List Value→aG):List (Nat×Value)→List (Nat×List Nat)→Prop
 | _,[]=>True
 | dn,x::td=>(∃o,ops[x.1]?=some o∧(∀cs b,o.op≠.select cs b)∧iq P ops W o (puts ops dn a0) (A (dn.map (·.2))) (fun v=>A (dn.map (·.2)++[v])))∧(∀y∈td,((Region.before ops).getD y.1 0).testBit x.1=true)∧(∀j∈x.2,mO ops j=true) ∧
  (∀v w B,Sat W w (sep (A (dn.map (·.2)++[v])) B)→∃us,vW P ops (puts ops (dn++[(x.1,v)]) a0) x.2 us∧Sat W w (sep (A (dn.map (·.2)++v::us)) B)) ∧
  ∀v us,us.length=x.2.length→uj P ops W a0 A (dn++(x.1,v)::x.2.zip us) td
def Qi (ops:Array Oper) (W:World) (a0:Act) (K:Act→World→Prop):List WE→List (Nat×Value)→aG→Prop
 | [],D,B=>∀w,Sat W w B→K (puts ops D a0) w
 | t::ts,D,B=>∀dn:List (Nat×Value),dn.map (·.1)=nums t.ids→Qi ops W a0 K ts (D++dn) (sep (t.A (dn.map (·.2))) B)
def qo (ts:List WE) (oK:List qN):Prop:=oK.map (fun s=>(s.dn.map (·.1)++nums s.td,s.A))=ts.map fun t=>(nums t.ids,t.A)
theorem Ub {l:List (Nat×List Nat)} (h:l=[]):nums l=[]:=by rw[h];rfl
theorem AZ {a0:Act} {K:Act→World→Prop}:∀(oK:List qN) (ts:List WE) (D:List (Nat×Value)) (B:aG),qo ts oK→oK.flatMap (·.td)=[]→Qi ops W a0 K ts D B→∀w,Sat W w (xM oK B)→K (puts ops (D++oK.flatMap (·.dn)) a0) w
 | [],ts,D,B,hL,_,hf,w,hS=>by
  have:ts=[]:=by unfold qo at hL;simp at hL;exact hL
  subst this
  simpa using hf w hS
 | s::oK,ts,D,B,hL,ht,hf,w,hS=>by
  cases ts with
  | nil=>unfold qo at hL;simp at hL
  | cons t ts=>
   unfold qo at hL
   simp only[List.map_cons,List.cons.injEq,Prod.mk.injEq] at hL
   obtain⟨⟨h1,h2⟩,h3⟩:=hL
   simp only[List.flatMap_cons,List.append_eq_nil_iff] at ht
   rw[Ub ht.1,List.append_nil] at h1
   have:=hf s.dn h1
   rw[←h2] at this
   have h4:=AZ oK ts (D++s.dn) _ h3 ht.2 this w (by rw[jV] at hS;exact hS)
   rw[List.flatMap_cons,←List.append_assoc]
   exact h4
def qN.all (s:qN):List Nat:=s.dn.map (·.1)++nums s.td
theorem Qn {a0:Act} {A:aG} {b:Bool} {K:Act→World→Prop} (ts:List WE) (hS:b=true→∀w X,Sat W w (sep X A)→S w) (hfin:Qi ops W a0 K ts [] A):
 ∀(n:Nat) (oK:List qN) (E:List (Nat×List Nat)) (w:World),E.length=n→E.Perm (oK.flatMap (·.td))→qo ts oK→(∀s∈oK,uj P ops W a0 s.A s.dn s.td)→(oK.Pairwise fun s t=>MW ops s.all t.all)→Sat W w (xM oK A) →
  uT P ops Q S b n E K (puts ops (oK.flatMap (·.dn)) a0) w:=by
 intro n
 induction n with
 | zero=>
  intro oK E w hn hp hL _ _ hw
  have hE:=List.eq_nil_of_length_eq_zero hn
  subst hE
  have:=AZ oK ts [] A hL (List.nil_perm.1 hp) hfin w hw
  rw[List.nil_append] at this
  exact this
 | succ n ih=>
  intro oK E w hn hp hL hg hap hw i hi hr
  obtain⟨s,hs,his⟩:=List.mem_flatMap.1 (hp.mem_iff.1 hi)
  obtain⟨S1,S2,rfl⟩:=List.append_of_mem hs
  obtain⟨dn,td,AT⟩:=s
  cases td with
  | nil=>simp at his
  | cons k td=>
   have hgs:=hg _ hs
   obtain⟨⟨o,ho,hsel,hd⟩,hch,hplain,htl,hnext⟩:=hgs
   have hik:i=k:=by
    rcases List.mem_cons.1 his with e|hm
    ·exact e
    ·exfalso
     have h1:=hch i hm
     have h2:k∈E:=hp.mem_iff.2 (List.mem_flatMap.2 ⟨_,hs,by simp⟩)
     have h3:=List.all_eq_true.1 hr k h2
     rw[h1] at h3
     cases h3
   subst hik
   have hall:∀j∈dn.map (·.1)++i.1::i.2,j∈qN.all ⟨dn,i::td,AT⟩:=fun j hj=>by
    unfold qN.all nums
    rw[List.flatMap_cons]
    rcases List.mem_append.1 hj with hj|hj
    ·exact List.mem_append_left _ hj
    ·exact List.mem_append_right _ (List.mem_append_left _ hj)
   have hpw:=List.pairwise_append.1 hap
   have hpc:=List.pairwise_cons.1 hpw.2.1
   have hl1:∀x∈S1.flatMap (·.dn),∀j∈dn.map (·.1)++i.1::i.2,apartB ops x.1 j=true:=fun x hx j hj=>by
    obtain⟨s1,hs1,hx1⟩:=List.mem_flatMap.1 hx
    exact hpw.2.2 s1 hs1 ⟨dn,i::td,AT⟩ (by simp) x.1 (List.mem_append_left _ (List.mem_map.2 ⟨x,hx1,rfl⟩)) j (hall j hj)
   have hl2:∀x∈S2.flatMap (·.dn),∀j∈dn.map (·.1)++i.1::i.2,apartB ops j x.1=true:=fun x hx j hj=>by
    obtain⟨s1,hs1,hx1⟩:=List.mem_flatMap.1 hx
    exact hpc.1 s1 hs1 j (hall j hj) x.1 (List.mem_append_left _ (List.mem_map.2 ⟨x,hx1,rfl⟩))
   have Jr:∀TM:List (Nat×Value),(∀y∈TM,y.1∈dn.map (·.1)++i.1::i.2)→puts ops ((S1++⟨TM,td,AT⟩::S2).flatMap (·.dn)) a0=puts ops (S2.flatMap (·.dn)) (puts ops (S1.flatMap (·.dn)) (puts ops TM a0)):=fun TM aar=>by
    rw[List.flatMap_append,List.flatMap_cons,dK,dK]
    congr 1
    exact uU TM _ (fun x hx y hy=>hl1 x hx y.1 (aar y hy)) a0
   have Js:puts ops ((S1++⟨dn,i::td,AT⟩::S2).flatMap (·.dn)) a0=puts ops (S2.flatMap (·.dn)) (puts ops (S1.flatMap (·.dn)) (puts ops dn a0)):=by
    rw[←Jr dn (fun y hy=>List.mem_append_left _ (List.mem_map.2 ⟨y,hy,rfl⟩)),List.flatMap_append,List.flatMap_append,List.flatMap_cons,List.flatMap_cons]
   have hboth:∀x∈S1.flatMap (·.dn)++S2.flatMap (·.dn),∀j∈dn.map (·.1)++i.1::i.2,apartB ops x.1 j=true∨apartB ops j x.1=true:=fun x hx j hj=>by
    rcases List.mem_append.1 hx with hx|hx
    ·exact .inl (hl1 x hx j hj)
    ·exact .inr (hl2 x hx j hj)
   have hd':iq P ops W o (puts ops ((S1++⟨dn,i::td,AT⟩::S2).flatMap (·.dn)) a0) (AT (dn.map (·.2))) (fun v=>AT (dn.map (·.2)++[v])):=by
    rw[Js,←dK]
    exact iq.puts ho hsel _ (fun x hx=>hboth x hx i.1 (by simp)) hd
   have hw2:Sat W w (sep (AT (dn.map (·.2))) (xM S2 (xM S1 A))):=by
    rw[mJ,jV,nP] at hw
    exact hw
   refine hd'.wpOp ho hw2 (fun v w' hv=>?_)
   refine⟨fun hb=>?_,?_⟩
   ·obtain⟨X,hX⟩:=EW (S1++S2) A
    rw[←mJ,hX,←aj] at hv
    exact hS hb w' _ hv
   ·obtain⟨us,hpu,hv2⟩:=htl v w' _ hv
    have Gx:=A8 hpu
    have hdo:aZ ops i.1=o.dst:=by unfold aZ;rw[ho];rfl
    have e1:(puts ops ((S1++⟨dn,i::td,AT⟩::S2).flatMap (·.dn)) a0).put o.dst v=puts ops (S1.flatMap (·.dn)++S2.flatMap (·.dn)) (puts ops (dn++[(i.1,v)]) a0):=by
     rw[Js,←hdo,←dK,dK dn]
     show _=puts ops _ ((puts ops dn a0).put (aZ ops i.1) v)
     exact (mM v _ (fun x hx=>hboth x hx i.1 (by simp)) _).symm
    rw[e1]
    refine rG i.2 us _ w' hplain (xO _ hplain (fun x hx j hj=>hboth x hx j (by simp[hj])) hpu) ?_
    have e2:puts ops (i.2.zip us) (puts ops (S1.flatMap (·.dn)++S2.flatMap (·.dn)) (puts ops (dn++[(i.1,v)]) a0))=puts ops ((S1++⟨dn++(i.1,v)::i.2.zip us,td,AT⟩::S2).flatMap (·.dn)) a0:=by
     rw[Jr (dn++(i.1,v)::i.2.zip us) (fun y hy=>?_)]
     ·rw[←dK (S1.flatMap (·.dn))]
      have e3:dn++(i.1,v)::i.2.zip us=(dn++[(i.1,v)])++i.2.zip us:=by simp
      rw[e3,dK (dn++[(i.1,v)])]
      have key:∀(z:List (Nat×Value)),(∀y∈z,y.1∈i.2)→∀(L:List (Nat×Value)),(∀x∈L,∀j∈dn.map (·.1)++i.1::i.2,apartB ops x.1 j=true∨apartB ops j x.1=true)→∀a:Act,puts ops z (puts ops L a)=puts ops L (puts ops z a):=by
       intro z
       induction z with
       | nil=>intro _ L _ a;rfl
       | cons y z ihz=>
        intro hz L hL a
        show puts ops z ((puts ops L a).put (aZ ops y.1) y.2)=puts ops L (puts ops z (a.put (aZ ops y.1) y.2))
        rw[←mM y.2 L (fun x hx=>hL x hx y.1 (List.mem_append_right _ (List.mem_cons_of_mem _ (hz y (by simp))))),ihz (fun u hu=>hz u (by simp[hu])) L hL]
      exact key _ (fun y hy=>by obtain⟨y1,y2⟩:=y;exact (List.of_mem_zip hy).1) _ hboth _
     ·rcases List.mem_append.1 hy with hy|hy
      ·exact List.mem_append_left _ (List.mem_map.2 ⟨y,hy,rfl⟩)
      ·rcases List.mem_cons.1 hy with rfl|hy
       ·simp
       ·obtain⟨y1,y2⟩:=y
        exact List.mem_append_right _ (List.mem_cons_of_mem _ (List.of_mem_zip hy).1)
    rw[e2]
    have hzm:((i.1,v)::i.2.zip us).map (·.1)=i.1::i.2:=by rw[List.map_cons,List.map_fst_zip (by omega)]
    have hzs:((i.1,v)::i.2.zip us).map (·.2)=v::us:=by rw[List.map_cons,List.map_snd_zip (by omega)]
    refine ih _ (E.erase i) w' ?_ ?_ ?_ ?_ ?_ ?_
    ·rw[List.length_erase_of_mem hi,hn];rfl
    ·have h1:((S1++⟨dn,i::td,AT⟩::S2).flatMap (·.td)).Perm (i::(S1++⟨dn++(i.1,v)::i.2.zip us,td,AT⟩::S2).flatMap (·.td)):=by
      simp only[List.flatMap_append,List.flatMap_cons]
      exact List.perm_middle
     have h2:=(hp.trans h1).erase i
     rw[List.erase_cons_head] at h2
     exact h2
    ·unfold qo at *
     rw[←hL]
     simp only[lS,List.map_cons]
     rw[show i.1::(i.2.zip us).map (·.1)=i.1::i.2 by rw[←hzm];rfl]
     congr 2
     simp[nums]
    ·intro s hs'
     rcases List.mem_append.1 hs' with h|h
     ·exact hg s (List.mem_append_left _ h)
     ·rcases List.mem_cons.1 h with rfl|h
      ·exact hnext v us Gx
      ·exact hg s (by simp[h])
    ·have hsame:qN.all ⟨dn++(i.1,v)::i.2.zip us,td,AT⟩=qN.all ⟨dn,i::td,AT⟩:=by
      unfold qN.all nums
      rw[lS,hzm,List.flatMap_cons,List.append_assoc]
     refine List.pairwise_append.2 ⟨hpw.1,List.pairwise_cons.2 ⟨fun y hy=>?_,hpc.2⟩,fun x hx y hy=>?_⟩
     ·rw[hsame];exact hpc.1 y hy
     ·rcases List.mem_cons.1 hy with rfl|hy
      ·rw[hsame];exact hpw.2.2 x hx _ (List.mem_cons_self)
      ·exact hpw.2.2 x hx y (by simp[hy])
    ·rw[mJ,jV,nP]
     show Sat W w' (sep (AT ((dn++(i.1,v)::i.2.zip us).map (·.2))) (xM S2 (xM S1 A)))
     rw[lS,hzs]
     exact hv2
theorem uV:∀(ts:List WE),wo ops (ts.map (fun t=>nums t.ids))=true→(ts.map fun t=>(⟨[],t.ids,t.A⟩:qN)).Pairwise fun s t=>MW ops s.all t.all
 | [],_=>.nil
 | t::ts,h=>by
  simp only[List.map_cons,wo,Bool.and_eq_true,List.all_eq_true] at h
  refine List.pairwise_cons.2 ⟨fun s hs=>?_,uV ts h.2⟩
  obtain⟨u,hu,rfl⟩:=List.mem_map.1 hs
  have:=h.1 (nums u.ids) (List.mem_map.2 ⟨u,hu,rfl⟩)
  simp only[O1,List.all_eq_true] at this
  intro i hi j hj
  exact this i (by simpa[qN.all] using hi) j (by simpa[qN.all] using hj)
theorem nS {a:Act} {w:World} {A:aG} {b:Bool} {l:List iC} {K:Act→World→Prop} (ts:List WE) (hS:b=true→∀w X,Sat W w (sep X A)→S w)
 (hap:wo ops (ts.map (fun t=>nums t.ids))=true) (hg:∀t∈ts,uj P ops W a t.A [] t.ids) (hw:Sat W w (ts.foldl (fun B t=>sep (t.A []) B) A)) (hfin:Qi ops W a (jT P ops Q S l K) ts [] A):
 jT P ops Q S (.grp b (ts.flatMap (·.ids))::l) K a w:=by
 have aas:xM (ts.map fun t=>(⟨[],t.ids,t.A⟩:qN)) A=ts.foldl (fun B t=>sep (t.A []) B) A:=by
  rw[xM,List.foldl_map];rfl
 have h:=Qn (P:=P) (Q:=Q) (S:=S) (b:=b) ts hS hfin _ (ts.map fun t=>(⟨[],t.ids,t.A⟩:qN)) (ts.flatMap (·.ids)) w rfl ?_ ?_ ?_ (uV ts hap) (by rw[aas];exact hw)
 ·have e:(ts.map fun t=>(⟨[],t.ids,t.A⟩:qN)).flatMap (·.dn)=[]:=by
   induction ts with
   | nil=>rfl
   | cons t ts ih=>simp
  rw[e] at h
  exact h
 ·rw[List.flatMap_map]
 ·unfold qo;simp
 ·intro s hs
  obtain⟨t,ht,rfl⟩:=List.mem_map.1 hs
  exact hg t ht
theorem iZ {Y:Type} {Pre:aG} {ok:Y→Value→Prop} {Post:Y→aG} {F:Value→List Value} {a0:Act} {i:Nat} {js:List Nat} {o:Oper} (ho:ops[i]?=some o) (hs:∀cs b,o.op≠.select cs b)
 (hd:iq P ops W o a0 Pre (fun v=>ex fun y:Y=>sep (fact (ok y v)) (Post y))) (hpl:js.all (mO ops)=true) (hF:∀y v,ok y v→vW P ops (a0.put (aZ ops i) v) js (F v)):
 uj P ops W a0 (tailA Pre ok Post F) [] [(i,js)]:=by
 refine⟨⟨o,ho,hs,?_⟩,fun y hy=>(by cases hy),fun j hj=>List.all_eq_true.1 hpl j hj,fun v w B h=>?_,fun _ _ _=>trivial⟩
 ·refine⟨hd.1,fun w A hS=>?_⟩
  have conv:∀(v:Value) (w':World),Sat W w' (sep (ex fun y:Y=>sep (fact (ok y v)) (Post y)) A)→Sat W w' (sep (tailA Pre ok Post F ([]++[v])) A):=fun v w' h=>by
   rw[List.nil_append,tailA,dA,Sat.ex]
   rw[dA,Sat.ex] at h
   obtain⟨y,h⟩:=h
   refine⟨y,?_⟩
   rw[aj] at h ⊢
   obtain⟨h1,h2⟩:=Sat.fact.1 h
   exact Sat.fact.2 ⟨⟨h1,rfl⟩,h2⟩
  rcases hd.2 w A hS with ⟨v,w',h1,h2⟩|⟨f,args,w1,h1,h2⟩
  ·exact .inl ⟨v,w',h1,conv v w' h2⟩
  ·refine .inr ⟨f,args,w1,h1,h2.mono ?_⟩
   rintro e w' ⟨v,rfl,h3⟩
   exact⟨v,rfl,conv v w' h3⟩
 ·have h':Sat W w (sep (tailA Pre ok Post F [v]) B):=h
  rw[tailA,dA,Sat.ex] at h'
  obtain⟨y,h'⟩:=h'
  rw[aj] at h'
  obtain⟨⟨hok,-⟩,h2⟩:=Sat.fact.1 h'
  have hp:=hF y v hok
  refine⟨F v,hp,?_⟩
  show Sat W w (sep (tailA Pre ok Post F (v::F v)) B)
  rw[tailA,dA,Sat.ex]
  refine⟨y,?_⟩
  rw[aj]
  exact Sat.fact.2 ⟨⟨hok,by rw[List.take_length]⟩,h2⟩
theorem jc {Y:Type} {Pre:aG} {ok:Y→Value→Prop} {Post:Y→aG} {F:Value→List Value} {A:aG} {w:World} {i:Nat} {js:List Nat} {dn:List (Nat×Value)} (hdn:dn.map (·.1)=i::js) (hl:∀v,(F v).length=js.length)
 (h:Sat W w (sep (tailA Pre ok Post F (dn.map (·.2))) A)):∃(v:Value) (y:Y),dn=(i,v)::js.zip (F v)∧ok y v∧Sat W w (sep (Post y) A):=by
 cases dn with
 | nil=>simp at hdn
 | cons x dn=>
  obtain⟨k,v⟩:=x
  simp only[List.map_cons,List.cons.injEq] at hdn h
  obtain⟨rfl,hj⟩:=hdn
  rw[tailA,dA,Sat.ex] at h
  obtain⟨y,h⟩:=h
  rw[aj] at h
  obtain⟨⟨h1,h2⟩,h3⟩:=Sat.fact.1 h
  refine⟨v,y,?_,h1,h3⟩
  have hlen:(dn.map (·.2)).length=(F v).length:=by rw[hl,←hj];simp
  rw[hlen,List.take_length] at h2
  rw[←h2,←hj]
  congr 1
  clear h2 hlen h h3 hj
  induction dn with
  | nil=>rfl
  | cons z dn ih=>simp[←ih]
end
end PA
namespace PA
open Go Go.RowKit
section
variable {P:Program} {ops:Array Oper} {Q:Exit→Act→World→Prop} {S:World→Prop} {W:World}
theorem iY {o:Oper} {a:Act} {Pre:aG} {Post:Value→aG} (hg:Region.wanted o (yielded ops a.tmps)=true) (f:FuncId) (args:Array Value) (hr:∀w,(execOp a.eval o).run P w=.ok (.enter f args) w)
 (hc:∀(w:World) (A:aG),Sat W w (sep Pre A)→Calls P f args w fun e w'=>∃v,e=.returned v∧Sat W w' (sep (Post v) A)):iq P ops W o a Pre Post:=
 ⟨hg,fun w A h=>.inr ⟨f,args,w,hr w,hc w A h⟩⟩
theorem kE {o:Oper} {a:Act} {ob:Obj} (hg:Region.wanted o (yielded ops a.tmps)=true) (hr:∀w,(execOp a.eval o).run P w=.ok (.value (.pointer (some ⟨w.heap.size,0,none⟩))) (w.alloc ob)):
 iq P ops W o a emp (fun v=>ex fun g:Nat=>sep (fact (v=.pointer (some ⟨g,0,none⟩))) (blk g ob)):=
 ⟨hg,fun w A h=>.inl ⟨_,_,hr w,by
  rw[bU] at h
  rw[dA,Sat.ex]
  exact⟨w.heap.size,by rw[aj];exact Sat.fact.2 ⟨rfl,h.alloc ob⟩⟩⟩⟩
def vV (Pre Mid Post:aG) (v1 v2:Value) (DT:List Value):List Value→aG
 | []=>Pre
 | [u]=>sep (fact (u=v1)) Mid
 | u::x::r=>sep (fact (u=v1∧x=v2∧r=DT.take r.length)) Post
theorem sU {Pre Mid Post:aG} {v1 v2:Value} {DT:List Value} {a0:Act} {i j:Nat} {js:List Nat} {oi oj:Oper} {di:Option Tmp} (hdi:aZ ops i=di) (hoi:ops[i]?=some oi) (hsi:∀cs b,oi.op≠.select cs b) (hoj:ops[j]?=some oj) (hsj:∀cs b,oj.op≠.select cs b)
 (hb:((Region.before ops).getD j 0).testBit i=true) (h1:iq P ops W oi a0 Pre (fun v=>sep (fact (v=v1)) Mid)) (h2:iq P ops W oj (a0.put di v1) Mid (fun v=>sep (fact (v=v2)) Post))
 (hw2:∀v,Region.wanted oj (yielded ops (a0.put di v).tmps)=true) (hpl:js.all (mO ops)=true) (hF:vW P ops ((a0.put di v1).put (aZ ops j) v2) js DT):
 uj P ops W a0 (vV Pre Mid Post v1 v2 DT) [] [(i,[]),(j,js)]:=by
 subst hdi
 refine⟨⟨oi,hoi,hsi,h1⟩,fun y hy=>?_,fun j hj=>(by cases hj),fun v w B h=>⟨[],trivial,h⟩,fun v us hus=>?_⟩
 ·rw[List.mem_singleton.1 hy];exact hb
 ·have aey:us=[]:=List.eq_nil_of_length_eq_zero hus
  subst aey
  refine⟨⟨oj,hoj,hsj,hw2 v,fun w A hS=>?_⟩,fun y hy=>(by cases hy),fun k hk=>List.all_eq_true.1 hpl k hk,fun v' w B h=>?_,fun _ _ _=>trivial⟩
  ·have hS':Sat W w (sep (sep (fact (v=v1)) Mid) A):=hS
   rw[aj] at hS'
   obtain⟨rfl,hS2⟩:=Sat.fact.1 hS'
   have conv:∀(v':Value) (w':World),Sat W w' (sep (sep (fact (v'=v2)) Post) A)→Sat W w' (sep (vV Pre Mid Post v v2 DT ([v]++[v'])) A):=fun v' w' h=>by
    show Sat W w' (sep (sep (fact (v=v∧v'=v2∧[]=DT.take ([]:List Value).length)) Post) A)
    rw[aj] at h ⊢
    obtain⟨h1,h2⟩:=Sat.fact.1 h
    exact Sat.fact.2 ⟨⟨rfl,h1,by simp⟩,h2⟩
   rcases h2.2 w A hS2 with ⟨v',w',h3,h4⟩|⟨f,args,w1,h3,h4⟩
   ·exact .inl ⟨v',w',h3,conv v' w' h4⟩
   ·refine .inr ⟨f,args,w1,h3,h4.mono ?_⟩
    rintro e w' ⟨v',rfl,h5⟩
    exact⟨v',rfl,conv v' w' h5⟩
  ·have h':Sat W w (sep (sep (fact (v=v1∧v'=v2∧[]=DT.take ([]:List Value).length)) Post) B):=h
   rw[aj] at h'
   obtain⟨⟨rfl,rfl,-⟩,h3⟩:=Sat.fact.1 h'
   refine⟨DT,hF,?_⟩
   show Sat W w (sep (sep (fact (v=v∧v'=v'∧DT=DT.take DT.length)) Post) B)
   rw[aj]
   exact Sat.fact.2 ⟨⟨rfl,rfl,by rw[List.take_length]⟩,h3⟩
theorem sS {Pre Mid Post:aG} {v1 v2:Value} {DT:List Value} {A:aG} {w:World} {i j:Nat} {js:List Nat} {dn:List (Nat×Value)} (hdn:dn.map (·.1)=i::j::js) (hl:DT.length=js.length)
 (h:Sat W w (sep (vV Pre Mid Post v1 v2 DT (dn.map (·.2))) A)):dn=(i,v1)::(j,v2)::js.zip DT∧Sat W w (sep Post A):=by
 match dn,hdn with
 | (i',u)::(j',x)::dn,hdn=>
  simp only[List.map_cons,List.cons.injEq] at hdn
  obtain⟨rfl,rfl,hj⟩:=hdn
  have h':Sat W w (sep (sep (fact (u=v1∧x=v2∧dn.map (·.2)=DT.take (dn.map (·.2)).length)) Post) A):=h
  rw[aj] at h'
  obtain⟨⟨rfl,rfl,h2⟩,h3⟩:=Sat.fact.1 h'
  refine⟨?_,h3⟩
  have hlen:(dn.map (·.2)).length=DT.length:=by rw[hl,←hj];simp
  rw[hlen,List.take_length] at h2
  rw[←h2,←hj]
  congr 1
  congr 1
  clear h2 hlen h h' h3 hj hl
  induction dn with
  | nil=>rfl
  | cons z dn ih=>simp[←ih]
end
end PA
namespace PA
section
variable {α:Type}
def tY (f:Nat→α) (i j:Nat):Nat→α:=fun k=>if k=i then f j else if k=j then f i else f k
theorem Jk (f:Nat→α) (i j:Nat):tY f i j=tY f j i:=by
 funext k
 unfold tY
 by_cases h1:k=i
 ·by_cases h2:k=j
  ·rw[if_pos h1,if_pos h2,←h1,←h2]
  ·rw[if_pos h1,if_neg h2,if_pos h1]
 ·rw[if_neg h1]
  by_cases h2:k=j
  ·rw[if_pos h2,if_pos h2]
  ·rw[if_neg h2,if_neg h2,if_neg h1]
inductive Sw (a b:Nat) (f:Nat→α):(Nat→α)→Prop where
 | refl:Sw a b f f
 | step (g:Nat→α) (i j:Nat):Sw a b f g→a≤i→i<b→a≤j→j<b→Sw a b f (tY g i j)
theorem Sw.trans {a b:Nat} {f g h:Nat→α} (h1:Sw a b f g) (h2:Sw a b g h):Sw a b f h:=by
 induction h2 with
 | refl=>exact h1
 | step g' i j _ p1 p2 p3 p4 ih=>exact .step g' i j ih p1 p2 p3 p4
theorem Sw.mono {a b a' b':Nat} {f g:Nat→α} (h1:a'≤a) (h2:b≤b') (h:Sw a b f g):Sw a' b' f g:=by
 induction h with
 | refl=>exact .refl
 | step g' i j _ p1 p2 p3 p4 ih=>exact .step g' i j ih (by omega) (by omega) (by omega) (by omega)
theorem Sw.out {a b:Nat} {f g:Nat→α} (h:Sw a b f g) {k:Nat} (hk:k<a∨b≤k):g k=f k:=by
 induction h with
 | refl=>rfl
 | step g' i j _ p1 p2 p3 p4 ih=>
  unfold tY
  rw[if_neg (by omega),if_neg (by omega)]
  exact ih
theorem Sw.at {a b:Nat} {f g:Nat→α} (h:Sw a b f g):∀k,a≤k→k<b→∃j,a≤j∧j<b∧g k=f j:=by
 induction h with
 | refl=>exact fun k h1 h2=>⟨k,h1,h2,rfl⟩
 | step g' i j _ p1 p2 p3 p4 ih=>
  intro k h1 h2
  unfold tY
  split
  ·exact ih j p3 p4
  ·split
   ·exact ih i p1 p2
   ·exact ih k h1 h2
theorem Ul (n:Nat) (f:Nat→α) (i j:Nat) (hi:i<n) (hj:j<n):((List.range n).map (tY f i j)).Perm ((List.range n).map f):=by
 have e:(List.range n).map (tY f i j)=(((List.range n).map f).set i (((List.range n).map f)[j]'(by simpa using hj))).set j (((List.range n).map f)[i]'(by simpa using hi)):=by
  apply List.ext_getElem
  ·simp
  ·intro k h1 h2
   simp only[List.getElem_map,List.getElem_range,List.getElem_set,tY]
   by_cases e1:k=j
   ·subst e1
    by_cases e2:k=i
    ·subst e2;simp
    ·simp[e2]
   ·by_cases e2:k=i
    ·subst e2;simp[Ne.symm e1]
    ·simp[e1,e2,Ne.symm e1,Ne.symm e2]
 rw[e]
 exact List.set_set_perm _ _
theorem Sw.perm {n:Nat} {f g:Nat→α} (h:Sw 0 n f g):((List.range n).map g).Perm ((List.range n).map f):=by
 induction h with
 | refl=>exact .refl _
 | step g' i j _ p1 p2 p3 p4 ih=>exact (Ul n g' i j p2 p4).trans ih
def MO (f:Nat→α) (a b:Nat):Nat→Nat→α
 | 0=>f
 | n+1=>tY (MO f a b n) (a+n) (b+n)
theorem wC (f:Nat→α) (a b:Nat):∀n,a+n≤b→∀k,MO f a b n k=if a≤k∧k<a+n then f (b+(k-a)) else if b≤k∧k<b+n then f (a+(k-b)) else f k
 | 0,h,k=>by rw[MO,if_neg (by omega),if_neg (by omega)]
 | n+1,h,k=>by
  have ih:=wC f a b n (by omega)
  have e0:MO f a b (n+1) k=if k=a+n then MO f a b n (b+n) else if k=b+n then MO f a b n (a+n) else MO f a b n k:=rfl
  rw[e0,ih k,ih (a+n),ih (b+n)]
  (repeat' split)<;>first|rfl|(exfalso;omega)|(congr 1;omega)
theorem GH (f:Nat→α) (a b lo hi:Nat) (h1:lo≤a) (h2:lo≤b):∀n,a+n≤hi→b+n≤hi→Sw lo hi f (MO f a b n)
 | 0,_,_=>.refl
 | n+1,h3,h4=>.step _ _ _ (GH f a b lo hi h1 h2 n (by omega) (by omega)) (by omega) (by omega) (by omega) (by omega)
def zV (f:Nat→α) (a m b:Nat) (g:Nat→α):Prop:=(∀t,t<b-m→g (a+t)=f (m+t))∧(∀t,t<m-a→g (a+(b-m)+t)=f (a+t))∧∀k,k<a∨b≤k→g k=f k
structure AU (f:Nat→α) (a m b i j:Nat) (g:Nat→α):Prop where
 hi:i≤m-a
 hj:j≤b-m
 ok:∀T:Nat→α,zV f a m b T→(∀k,k<m-i∨m+j≤k→g k=T k)∧(∀t,t<j→T (m-i+t)=g (m+t))∧(∀t,t<i→T (m-i+j+t)=g (m-i+t))
 sw:Sw a b f g
theorem AU.start (f:Nat→α) (a m b:Nat) (h1:a≤m) (h2:m≤b):AU f a m b (m-a) (b-m) f:=by
 refine⟨Nat.le_refl _,Nat.le_refl _,fun T hT=>⟨fun k hk=>(hT.2.2 k (by omega)).symm,fun t ht=>?_,fun t ht=>?_⟩,.refl⟩
 ·rw[←hT.1 t ht];congr 1;omega
 ·rw[show m-(m-a)+(b-m)+t=a+(b-m)+t by omega,hT.2.1 t ht];congr 1;omega
theorem AU.big {f g:Nat→α} {a m b i j:Nat} (h:AU f a m b i j g) (h1:a≤m) (h2:m≤b) (hij:j<i):AU f a m b (i-j) j (MO g (m-i) m j):=by
 have hi:=h.hi
 have hj:=h.hj
 have hs:=wC g (m-i) m j (by omega)
 refine⟨by omega,hj,fun T hT=>?_,h.sw.trans (GH g (m-i) m a b (by omega) (by omega) j (by omega) (by omega))⟩
 obtain⟨o1,o2,o3⟩:=h.ok T hT
 refine⟨fun k hk=>?_,fun t ht=>?_,fun t ht=>?_⟩
 ·rw[hs k]
  by_cases e1:m-i≤k∧k<m-i+j
  ·rw[if_pos e1,←o2 (k-(m-i)) (by omega)];congr 1;omega
  ·rw[if_neg e1,if_neg (by omega)];exact o1 k (by omega)
 ·rw[hs (m+t),if_neg (by omega),if_pos (by omega)]
  have:=o3 t (by omega)
  rw[show m-(i-j)+t=m-i+j+t by omega,this];congr 1;omega
 ·rw[hs,if_neg (by omega),if_neg (by omega)]
  have:=o3 (j+t) (by omega)
  rw[show m-(i-j)+j+t=m-i+j+(j+t) by omega,this];congr 1;omega
theorem AU.small {f g:Nat→α} {a m b i j:Nat} (h:AU f a m b i j g) (h1:a≤m) (h2:m≤b) (hij:i<j):AU f a m b i (j-i) (MO g (m-i) (m+j-i) i):=by
 have hi:=h.hi
 have hj:=h.hj
 have hs:=wC g (m-i) (m+j-i) i (by omega)
 refine⟨hi,by omega,fun T hT=>?_,h.sw.trans (GH g (m-i) (m+j-i) a b (by omega) (by omega) i (by omega) (by omega))⟩
 obtain⟨o1,o2,o3⟩:=h.ok T hT
 refine⟨fun k hk=>?_,fun t ht=>?_,fun t ht=>?_⟩
 ·rw[hs k]
  by_cases e1:m+j-i≤k∧k<m+j-i+i
  ·rw[if_neg (by omega),if_pos e1,←o3 (k-(m+j-i)) (by omega)];congr 1;omega
  ·rw[if_neg (by omega),if_neg e1];exact o1 k (by omega)
 ·rw[hs (m+t),if_neg (by omega),if_neg (by omega)]
  exact o2 t (by omega)
 ·rw[hs,if_pos (by omega)]
  have:=o2 (j-i+t) (by omega)
  rw[show m-i+(j-i)+t=m-i+(j-i+t) by omega,this];congr 1;omega
theorem AU.done {f g:Nat→α} {a m b i:Nat} (h:AU f a m b i i g) (h1:a≤m) (h2:m≤b):zV f a m b (MO g (m-i) m i)∧Sw a b f (MO g (m-i) m i):=by
 have hi:=h.hi
 have hj:=h.hj
 have hs:=wC g (m-i) m i (by omega)
 refine⟨?_,h.sw.trans (GH g (m-i) m a b (by omega) (by omega) i (by omega) (by omega))⟩
 have hex:∃T,zV f a m b T:=⟨fun k=>if k<a∨b≤k then f k else if k<a+(b-m) then f (m+(k-a)) else f (a+(k-(a+(b-m)))),fun t ht=>by
  simp only[];rw[if_neg (by omega),if_pos (by omega)];congr 1;omega,fun t ht=>by
  simp only[];rw[if_neg (by omega),if_neg (by omega)];congr 1;omega,fun k hk=>by simp only[];rw[if_pos hk]⟩
 obtain⟨T,hT⟩:=hex
 obtain⟨o1,o2,o3⟩:=h.ok T hT
 have e:MO g (m-i) m i=T:=by
  funext k
  rw[hs k]
  by_cases e1:m-i≤k∧k<m-i+i
  ·rw[if_pos e1,←o2 (k-(m-i)) (by omega)];congr 1;omega
  ·rw[if_neg e1]
   by_cases e2:m≤k∧k<m+i
   ·rw[if_pos e2]
    have:=o3 (k-m) (by omega)
    rw[←this];congr 1;omega
   ·rw[if_neg e2];exact o1 k (by omega)
 rw[e];exact hT
variable (c:α→α→Int)
def dU (a b:Nat) (f:Nat→α):Prop:=∀i j,a≤i→i<j→j<b→c (f i) (f j)≤0
structure Total (c:α→α→Int):Prop where
 trans:∀x y z,c x y≤0→c y z≤0→c x z≤0
 flip:∀x y,c y x=-c x y
variable {c}
theorem dU.sub {a b a' b':Nat} {f:Nat→α} (h:dU c a b f) (h1:a≤a') (h2:b'≤b):dU c a' b' f:=fun i j p1 p2 p3=>h i j (by omega) p2 (by omega)
theorem dU.congr {a b:Nat} {f g:Nat→α} (h:dU c a b f) (e:∀k,a≤k→k<b→g k=f k):dU c a b g:=fun i j p1 p2 p3=>by rw[e i p1 (by omega),e j (by omega) p3];exact h i j p1 p2 p3
theorem dU.list {n:Nat} {f:Nat→α} (h:dU c 0 n f):((List.range n).map f).Pairwise fun x y=>c x y≤0:=by
 rw[List.pairwise_map]
 refine List.Pairwise.imp_of_mem (R:=fun i j=>i<j) ?_ List.pairwise_lt_range
 intro i j _ hj hij
 exact h i j (by omega) hij (by simpa using hj)
theorem Um {a j b:Nat} {f:Nat→α} (hT:Total c) (h1:dU c a j f) (h2:dU c j b f) (h3:∀p q,a≤p→p<j→j<q→q<b→c (f p) (f q)≤0) (hj:j=a∨0≤c (f j) (f (j-1))) (hab:a≤j) (hjb:j<b):dU c a b f:=by
 intro p q hp hpq hq
 rcases Nat.lt_or_ge q j with e|e
 ·exact h1 p q hp hpq e
 ·rcases Nat.lt_or_ge p j with e2|e2
  ·rcases Nat.lt_or_ge j q with e3|e3
   ·exact h3 p q hp e2 e3 hq
   ·obtain rfl:q=j:=by omega
    rcases hj with e4|e4
    ·omega
    ·have hlast:c (f (q-1)) (f q)≤0:=by have:=hT.flip (f (q-1)) (f q);omega
     rcases Nat.lt_or_ge p (q-1) with e5|e5
     ·exact hT.trans _ _ _ (h1 p (q-1) hp e5 (by omega)) hlast
     ·obtain rfl:p=q-1:=by omega
      exact hlast
  ·exact h2 p q e2 hpq hq
theorem Uo {a m b:Nat} {f:Nat→α} (h1:dU c a m f) (h2:dU c m b f) (h3:∀p q,a≤p→p<m→m≤q→q<b→c (f p) (f q)≤0):dU c a b f:=by
 intro p q hp hpq hq
 rcases Nat.lt_or_ge q m with e|e
 ·exact h1 p q hp hpq e
 ·rcases Nat.lt_or_ge p m with e2|e2
  ·exact h3 p q hp e2 e hq
  ·exact h2 p q e2 hpq hq
theorem MR {a mid b:Nat} {g g1 g2:Nat→α} (hx:∀p q,a≤p→p<mid→mid≤q→q<b→c (g p) (g q)≤0)
 (s1:Sw a mid g g1) (k1:dU c a mid g1) (s2:Sw mid b g1 g2) (k2:dU c mid b g2):dU c a b g2:=by
 refine Uo (m:=mid) (k1.congr fun k p1 p2=>s2.out (.inl p2)) k2 fun p q p1 p2 p3 p4=>?_
 obtain⟨i,i1,i2,e1⟩:=s1.at p p1 p2
 obtain⟨j,j1,j2,e2⟩:=s2.at q p3 p4
 rw[s2.out (.inl p2),e1,e2,s1.out (.inr j1)]
 exact hx i j i1 i2 j1 j2
theorem Qd {a m b mid start en:Nat} {f g:Nat→α} (hT:Total c) (h1:dU c a m f) (h2:dU c m b f) (ha:a≤start) (hs:start≤m) (he:m≤en) (hb:en≤b) (hsm:start≤mid) (hm:en+start=mid+m)
 (hlo:start=a∨en=b∨c (f (start-1)) (f en)≤0) (hup:start=m∨en=m∨c (f (en-1)) (f start)≤0) (hg:zV f start m en g):
 dU c a start g∧dU c start mid g∧dU c mid en g∧dU c en b g∧∀p q,a≤p→p<mid→mid≤q→q<b→c (g p) (g q)≤0:=by
 obtain⟨g1,g2,g3⟩:=hg
 have e1:∀k,k<start→g k=f k:=fun k hk=>g3 k (.inl hk)
 have e2:∀k,start≤k→k<mid→g k=f (m+(k-start)):=fun k p1 p2=>by rw[←g1 (k-start) (by omega)];congr 1;omega
 have e3:∀k,mid≤k→k<en→g k=f (start+(k-mid)):=fun k p1 p2=>by rw[←g2 (k-mid) (by omega)];congr 1;omega
 have e4:∀k,en≤k→g k=f k:=fun k hk=>g3 k (.inr hk)
 have le:∀{x y:α},x=y→c x y≤0:=fun {x y} e=>by subst e;have:=hT.flip x x;omega
 refine⟨fun p q p1 p2 p3=>?_,fun p q p1 p2 p3=>?_,fun p q p1 p2 p3=>?_,fun p q p1 p2 p3=>?_,fun p q p1 p2 p3 p4=>?_⟩
 ·rw[e1 p (by omega),e1 q p3];exact h1 p q p1 p2 (by omega)
 ·rw[e2 p p1 (by omega),e2 q (by omega) p3];exact h2 _ _ (by omega) (by omega) (by omega)
 ·rw[e3 p p1 (by omega),e3 q (by omega) p3];exact h1 _ _ (by omega) (by omega) (by omega)
 ·rw[e4 p p1,e4 q (by omega)];exact h2 _ _ (by omega) p2 p3
 ·have Ur:∀i j,a≤i→i≤j→j<m→c (f i) (f j)≤0:=fun i j q1 q2 q3=>by
   rcases Nat.lt_or_ge i j with e|e
   ·exact h1 i j q1 e q3
   ·exact le (by congr 1;omega)
  have Us:∀i j,m≤i→i≤j→j<b→c (f i) (f j)≤0:=fun i j q1 q2 q3=>by
   rcases Nat.lt_or_ge i j with e|e
   ·exact h2 i j q1 e q3
   ·exact le (by congr 1;omega)
  rcases Nat.lt_or_ge p start with x|x
  ·rw[e1 p x]
   rcases Nat.lt_or_ge q en with y|y
   ·rw[e3 q p3 y];exact Ur _ _ p1 (by omega) (by omega)
   ·rw[e4 q y]
    rcases hlo with z|z|z
    ·omega
    ·omega
    ·exact hT.trans _ _ _ (Ur p (start-1) p1 (by omega) (by omega)) (hT.trans _ _ _ z (Us en q (by omega) y p4))
  ·rw[e2 p x p2]
   rcases Nat.lt_or_ge q en with y|y
   ·rw[e3 q p3 y]
    rcases hup with z|z|z
    ·omega
    ·omega
    ·exact hT.trans _ _ _ (Us _ (en-1) (by omega) (by omega) (by omega)) (hT.trans _ _ _ z (Ur start _ ha (by omega) (by omega)))
   ·rw[e4 q y];exact Us _ _ (by omega) (by omega) p4
theorem TG {a b i:Nat} {f g:Nat→α} (hT:Total c) (h2:dU c (a+1) b f) (ha:a+1≤i) (hi:i≤b) (hlo:∀k,a+1≤k→k<i→c (f k) (f a)≤0) (hup:∀k,i≤k→k<b→0≤c (f k) (f a)) (hg:zV f a (a+1) i g):dU c a b g:=by
 obtain⟨g1,g2,g3⟩:=hg
 have e1:∀k,a≤k→k<i-1→g k=f (k+1):=fun k p1 p2=>by have:=g1 (k-a) (by omega);rw[show a+(k-a)=k by omega] at this;rw[this];congr 1;omega
 have e2:g (i-1)=f a:=by have:=g2 0 (by omega);rw[show a+(i-(a+1))+0=i-1 by omega] at this;rw[this];rfl
 have e3:∀k,i≤k→g k=f k:=fun k hk=>g3 k (.inr hk)
 intro p q p1 p2 p3
 rcases Nat.lt_or_ge q (i-1) with x|x
 ·rw[e1 p p1 (by omega),e1 q (by omega) x];exact h2 _ _ (by omega) (by omega) (by omega)
 ·rcases Nat.lt_or_ge q i with y|y
  ·obtain rfl:q=i-1:=by omega
   rw[e2,e1 p p1 p2];exact hlo _ (by omega) (by omega)
  ·rw[e3 q y]
   rcases Nat.lt_or_ge p (i-1) with z|z
   ·rw[e1 p p1 z];exact h2 _ _ (by omega) (by omega) p3
   ·rcases Nat.lt_or_ge p i with v|v
    ·obtain rfl:p=i-1:=by omega
     rw[e2];have:=hup q y p3;have:=hT.flip (f q) (f a);omega
    ·rw[e3 p v];exact h2 _ _ (by omega) p2 p3
theorem MP {a m i:Nat} {f g:Nat→α} (hT:Total c) (h1:dU c a m f) (ha:a≤i) (hi:i≤m) (hlo:∀k,a≤k→k<i→0≤c (f m) (f k)) (hup:∀k,i≤k→k<m→c (f m) (f k)≤0) (hg:zV f i m (m+1) g):dU c a (m+1) g:=by
 obtain⟨g1,g2,g3⟩:=hg
 have e1:∀k,k<i→g k=f k:=fun k hk=>g3 k (.inl hk)
 have e2:g i=f m:=g1 0 (by omega)
 have e3:∀k,i<k→k<m+1→g k=f (k-1):=fun k p1 p2=>by have:=g2 (k-(i+1)) (by omega);rw[show i+(m+1-m)+(k-(i+1))=k by omega] at this;rw[this];congr 1;omega
 intro p q p1 p2 p3
 rcases Nat.lt_trichotomy q i with x|x|x
 ·rw[e1 p (by omega),e1 q x];exact h1 _ _ p1 p2 (by omega)
 ·subst x;rw[e2,e1 p p2];have:=hlo p p1 p2;have:=hT.flip (f m) (f p);omega
 ·rw[e3 q x p3]
  rcases Nat.lt_trichotomy p i with y|y|y
  ·rw[e1 p y];exact h1 _ _ p1 (by omega) (by omega)
  ·subst y;rw[e2];exact hup _ (by omega) (by omega)
  ·rw[e3 p y (by omega)];exact h1 _ _ (by omega) (by omega) (by omega)
structure Ji (c:α→α→Int) (a i j:Nat) (f:Nat→α):Prop where
 lo:dU c a j f
 hi:dU c j (i+1) f
 ac:∀p q,a≤p→p<j→j<q→q<i+1→c (f p) (f q)≤0
theorem Ji.start {a i:Nat} {f:Nat→α} (h:dU c a i f):Ji c a i i f:=⟨h,fun p q p1 p2 p3=>by omega,fun p q p1 p2 p3 p4=>by omega⟩
theorem Ji.step {a i j:Nat} {f:Nat→α} (h:Ji c a i j f) (h1:a<j) (h2:j≤i) (hlt:c (f j) (f (j-1))<0):Ji c a i (j-1) (tY f j (j-1)):=by
 have e1:∀k,k<j-1→tY f j (j-1) k=f k:=fun k hk=>by unfold tY;rw[if_neg (by omega),if_neg (by omega)]
 have e2:tY f j (j-1) (j-1)=f j:=by unfold tY;rw[if_neg (by omega),if_pos rfl]
 have e3:tY f j (j-1) j=f (j-1):=by unfold tY;rw[if_pos rfl]
 have e4:∀k,j<k→tY f j (j-1) k=f k:=fun k hk=>by unfold tY;rw[if_neg (by omega),if_neg (by omega)]
 refine⟨fun p q p1 p2 p3=>?_,fun p q p1 p2 p3=>?_,fun p q p1 p2 p3 p4=>?_⟩
 ·rw[e1 p (by omega),e1 q (by omega)];exact h.lo p q p1 p2 (by omega)
 ·rcases Nat.lt_trichotomy p j with x|x|x
  ·obtain rfl:p=j-1:=by omega
   rw[e2]
   rcases Nat.lt_trichotomy q j with y|y|y
   ·omega
   ·subst y;rw[e3];omega
   ·rw[e4 q y];exact h.hi j q (Nat.le_refl _) y p3
  ·subst x
   rw[e3,e4 q p2];exact h.ac (p-1) q (by omega) (by omega) p2 p3
  ·rw[e4 p x,e4 q (by omega)];exact h.hi p q (by omega) p2 p3
 ·rw[e1 p (by omega)]
  rcases Nat.lt_trichotomy q j with y|y|y
  ·omega
  ·subst y;rw[e3];exact h.lo p (q-1) p1 (by omega) (by omega)
  ·rw[e4 q y];exact h.ac p q p1 (by omega) y p4
theorem Ji.stop {a i j:Nat} {f:Nat→α} (hT:Total c) (h:Ji c a i j f) (h1:a≤j) (h2:j≤i) (hj:j=a∨0≤c (f j) (f (j-1))):dU c a (i+1) f:=Um hT h.lo h.hi h.ac hj h1 (by omega)
def DF (D:α→α→Prop) (n:Nat) (f:Nat→α):Prop:=∀i j,i<n→j<n→i≠j→D (f i) (f j)
theorem DF.sw1 {D:α→α→Prop} {n:Nat} {f:Nat→α} (h:DF D n f) {i j:Nat} (hi:i<n) (hj:j<n):DF D n (tY f i j):=by
 intro p q hp hq hne
 unfold tY
 (repeat' split)<;>first|(exfalso;omega)|(apply h<;>omega)|skip
 all_goals (subst_vars;first|(exfalso;omega)|(apply h<;>omega))
theorem DF.sw {D:α→α→Prop} {n a b:Nat} {f g:Nat→α} (h:DF D n f) (hs:Sw a b f g) (hb:b≤n):DF D n g:=by
 induction hs with
 | refl=>exact h
 | step g' i j _ p1 p2 p3 p4 ih=>exact ih.sw1 (by omega) (by omega)
theorem DF.W9 {D:α→α→Prop} [Inhabited α] (hD:∀x y,D x y→D y x) {l:List α} (h:l.Pairwise D):DF D l.length fun i=>l.getD i default:=by
 intro i j hi hj hne
 have hp:=List.pairwise_iff_getElem.1 h
 simp only[List.getD_eq_getElem?_getD,List.getElem?_eq_getElem hi,List.getElem?_eq_getElem hj,Option.getD_some]
 rcases Nat.lt_or_ge i j with e|e
 ·exact hp i j hi hj e
 ·exact hD _ _ (hp j i hj hi (by omega))
theorem Ak [Inhabited α] (l:List α):(List.range l.length).map (fun i=>l.getD i default)=l:=by
 apply List.ext_getElem
 ·simp
 ·intro i h1 h2
  simp[List.getElem?_eq_getElem h2]
end
end PA
