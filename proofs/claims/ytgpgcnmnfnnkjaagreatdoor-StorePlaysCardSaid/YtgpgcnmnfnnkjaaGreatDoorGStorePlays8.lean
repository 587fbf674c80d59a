import Derived.Test.YtgpgcnmnfnnkjaaGreatDoorGStorePlays1
import Derived.Test.YtgpgcnmnfnnkjaaGreatDoorTie
import Derived.Lib.LaidIn
import Derived.Lib.LaidTab
import Derived.Lib.ItoaNum
import Derived.Stop.LaidErr
import Derived.LaidLaws
set_option linter.unusedVariables false
set_option linter.unusedSimpArgs false
set_option maxRecDepth 100000
set_option maxHeartbeats 16000000
namespace Go.Proofs.YtgpgcnmnfnnkjaaGreatDoor
section
open Go Go.RowKit

def laid3 : List (String × DataW Unit) := [("math/bits.deBruijn32tab", Rows.laid_math_bits_deBruijn32tab), ("math/bits.deBruijn64tab", Rows.laid_math_bits_deBruijn64tab), ("internal/strconv.uint64pow10", Rows.laid_internal_strconv_uint64pow10)]

def cellsOf (d:DataW Unit):Array Value:=match d with
 | .agg ps=>(ps.map fun x=>match x with | .lit (.int k n)=>Value.int k n | _=>Value.int .i64 0).toArray
 | _=>#[]
def holdsCells (d:DataW Unit):Obj→Obj
 | .cells _ t frozen=>.cells (cellsOf d) t frozen
 | o=>o

noncomputable def laidWorld (os:Os):World :=
 { World.holding Tryz.prog os ⟨#[],#[],[]⟩ with heap:=(((World.holding Tryz.prog os ⟨#[],#[],[]⟩).heap.modify 0 (holdsCells Rows.laid_internal_strconv_uint64pow10)).modify 1 (holdsCells Rows.laid_math_bits_deBruijn32tab)).modify 2 (holdsCells Rows.laid_math_bits_deBruijn64tab) }

theorem laid_met (os:Os) (args:Array Value):laidMet Tryz.prog laid3 ((laidWorld os).forCall (fun _ _=>0) ⟨#[],args,[]⟩).memory :=
 (LaidIn.of_run [0,1,2] 8 (by kernel_rfl) (by kernel_rfl) (by kernel_rfl) (by kernel_rfl)).met

theorem pow10_tab:(Rows.laid_internal_strconv_uint64pow10:DataW Unit)=Lib.tabData .u64 Lib.pow10Tab:=by kernel_rfl

theorem tab_of_laid {W : World} (h : laidMet Tryz.prog laid3 W) : Lib.TabIs Tryz.prog W "internal/strconv.uint64pow10" .u64 Lib.pow10Tab := by
 have h2:=h.tail.tail;rw [pow10_tab] at h2;exact Lib.tabIs_of_head (g:=0) (by kernel_rfl) (by kernel_rfl) (Tryz.underlying178) Tryz.underlying153 (by kernel_rfl) (by kernel_rfl) h2

end
end Go.Proofs.YtgpgcnmnfnnkjaaGreatDoor
