/- Part of a proof. -/
import Derived.Test.YthfmaclnccdcbaaGreatDoorGActsOrder4
namespace Go.Proofs.YthfmaclnccdcbaaGreatDoor
open Go.RowKit PA
attribute [local go_sem ↓] aY
structure SymN (a m b lo hi mid n:Nat):Prop where
 e1:mid=(a+b) / 2
 e2:n=mid+m
 e3:lo=if mid<m then n-b else a
 e4:hi=if mid<m then mid else m
theorem SymN.facts {a m b lo hi mid n:Nat} (h:SymN a m b lo hi mid n) (h1:a<m) (h2:m<b):lo≤hi∧a≤lo∧hi≤mid∧hi≤m∧n-lo≤b∧m+hi≤n∧(lo=a∨n-lo=b)∧(hi=m∨n-hi=m):=by
 obtain⟨e1,e2,e3,e4⟩:=h
 by_cases c:mid<m
 ·rw[if_pos c] at e3 e4;omega
 ·rw[if_neg c] at e3 e4;omega
end Go.Proofs.YthfmaclnccdcbaaGreatDoor
