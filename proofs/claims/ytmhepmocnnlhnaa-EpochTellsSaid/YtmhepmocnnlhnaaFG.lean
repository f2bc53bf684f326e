/- The rules for a region that draws its order, by short names. -/
import Derived.Test.YtmhepmocnnlhnaaFF
import Derived.Test.YtmhepmocnnlhnaaFH
namespace Go.Proofs.Ytmhepmocnnlhnaa.Ab
open Go Go.RowKit
section
variable {q : Bool} {n k0 : Nat} {ops : Array Oper} {K : AF → AH → Prop} {F : AF} {H : AH} {listed : Array Bool} {fuel : Nat}
theorem yd (h : K F H) (hr : (Region.ready .any ops listed).isEmpty = true := by kernel_rfl) : AY Try.prog q n k0 ops K 0 listed F H := ay_done hr h
theorem ye (i : Nat) {o : Oper} (h : SQ Try.prog q n k0 ops [o] (AY Try.prog q n k0 ops K fuel (listed.setIfInBounds i true)) F H) (ho : ops[i]? = some o := by exact rfl) (hns : Region.noSelect ops = true := by kernel_rfl) (he : ((Region.ready .any ops listed).contains i && eager Try.prog ops listed i o) = true := by kernel_rfl) : AY Try.prog q n k0 ops K (fuel + 1) listed F H := ay_e i ho hns he h
theorem y1 (i : Nat) {o : Oper} (h : SQ Try.prog q n k0 ops [o] (AY Try.prog q n k0 ops K fuel (listed.setIfInBounds i true)) F H) (ho : ops[i]? = some o := by exact rfl) (hg : o.guard = none := by exact rfl) (hr : (Region.ready .any ops listed == [i]) = true := by kernel_rfl) : AY Try.prog q n k0 ops K (fuel + 1) listed F H := ay_1 i hr ho hg h
theorem y2 (i j : Nat) {o o2 : Oper} (h : SQ Try.prog q n k0 ops [o] (AY Try.prog q n k0 ops K fuel (listed.setIfInBounds i true)) F H) (h2 : SQ Try.prog q n k0 ops [o2] (AY Try.prog q n k0 ops K fuel (listed.setIfInBounds j true)) F H)
    (ho : ops[i]? = some o := by exact rfl) (hg : o.guard = none := by exact rfl) (ho2 : ops[j]? = some o2 := by exact rfl) (hg2 : o2.guard = none := by exact rfl) (hr : (Region.ready .any ops listed == [i, j]) = true := by kernel_rfl) : AY Try.prog q n k0 ops K (fuel + 1) listed F H := ay_2 i j hr ho hg ho2 hg2 h h2
theorem y3 (i j l : Nat) {o o2 o3 : Oper} (h : SQ Try.prog q n k0 ops [o] (AY Try.prog q n k0 ops K fuel (listed.setIfInBounds i true)) F H) (h2 : SQ Try.prog q n k0 ops [o2] (AY Try.prog q n k0 ops K fuel (listed.setIfInBounds j true)) F H) (h3 : SQ Try.prog q n k0 ops [o3] (AY Try.prog q n k0 ops K fuel (listed.setIfInBounds l true)) F H)
    (ho : ops[i]? = some o := by exact rfl) (hg : o.guard = none := by exact rfl) (ho2 : ops[j]? = some o2 := by exact rfl) (hg2 : o2.guard = none := by exact rfl) (ho3 : ops[l]? = some o3 := by exact rfl) (hg3 : o3.guard = none := by exact rfl) (hr : (Region.ready .any ops listed == [i, j, l]) = true := by kernel_rfl) : AY Try.prog q n k0 ops K (fuel + 1) listed F H := ay_3 i j l hr ho hg ho2 hg2 ho3 hg3 h h2 h3
end
theorem yall {q : Bool} {n k0 : Nat} {Q : AQ} {F : AF} {H : AH} {id : Nat} {ops : Array Oper} (m : Nat) (h : AY Try.prog q n k0 ops (Q .normal) m (Array.replicate m false) F H) (hm : Try.prog.follows .mixedOrders = true := by kernel_rfl) (hs : m = ops.size := by exact rfl) : AW Try.prog q n k0 (.region id ops true) Q F H := aw_all hm m hs h
end Go.Proofs.Ytmhepmocnnlhnaa.Ab
