/- Part of a proof. -/
import Derived.Test.YtgicfogmdfdjmaaGreatDoorGTitleHolds27
import Derived.Test.YtgicfogmdfdjmaaGreatDoorGTitleHolds5
namespace PA
open Go Go.RowKit
theorem Ip {I:Mem} {a:Option Addr} {n c:Nat} {l:List Ea} (h:(SK.slice 2).rel I [.slice a n c] l) {i:Nat} {x:Ea} (hx:l[i]?=some x):
 ∃b o,a=some ⟨b,o,none⟩∧∀w',Ext I w'→w'.cell? ⟨b,o+i*2,none⟩=some (.int .i64 x.file)∧w'.cell? ⟨b,o+i*2+1,none⟩=some (.int .i64 x.day):=by
 obtain⟨b,o,cs,rfl,hr,-,hc⟩:=lC h hx (by omega)
 have e:cs=[.int .i64 x.file,.int .i64 x.day]:=hr
 subst e
 exact⟨b,o,rfl,fun w' he=>⟨hc w' he 0 _ rfl,hc w' he 1 _ rfl⟩⟩
theorem YI {f:Int} {l:List Ea} {j:Nat} {e:Ea} (h:l[j]?=some e):QU f l j=(bT e.file 0 4095&&(decide (e.file≠f)&&(bT e.day 0 131072&&!((l.take j).any fun g=>decide (g.file=e.file))))):=by
 unfold QU;rw[h]
theorem VE {l:List Ea} {k:Nat} {g:Ea} {p:Ea→Bool} (h:l[k]?=some g):(l.take (k+1)).any p=((l.take k).any p||p g):=by
 rw[List.take_add_one,h,List.any_append];simp
end PA
namespace Go.Proofs.YtgicfogmdfdjmaaGreatDoor
open Go.RowKit PA
theorem iD {W w:World} {A:aG} {q:Nat} {x:Ac} (h:Sat W w (sep (blk q (.cells x.cells.toArray 67 (0,0))) A)):
 Sem.run Tryz.prog (jo (.pointer (some ⟨q,0,none⟩))) w=.ok (.agg x.cells.toArray) w:=
 kF fun i v hv=>(aB h i v hv).1
end Go.Proofs.YtgicfogmdfdjmaaGreatDoor
namespace PA
open Go Go.RowKit
end PA
