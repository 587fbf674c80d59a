import Derived.Test.YtgpgcnmnfnnkjaaGreatDoorGStorePlays1
import Derived.Laws.IdiomStrings
set_option linter.unusedVariables false
set_option linter.unusedSimpArgs false
set_option maxRecDepth 100000
set_option maxHeartbeats 16000000
namespace Go.Proofs.YtgpgcnmnfnnkjaaGreatDoor
section
open Go Go.RowKit

theorem str_size (l:List UInt8):({ data:=l.toArray }:ByteArray).size=l.length:=by simp [ByteArray.size]
theorem str_at (l:List UInt8) (i:Nat) (h:i<({ data:=l.toArray }:ByteArray).size):({ data:=l.toArray }:ByteArray)[i]=l[i]'(by rw [←str_size];exact h):=by
 show l.toArray[i]'_=_
 simp
theorem str_extract (l:List UInt8) (a b:Nat):({ data:=l.toArray }:ByteArray).extract a b={ data:=((l.drop a).take (b - a)).toArray }:=by
 apply ByteArray.ext
 simp [ByteArray.data_extract]
end
end Go.Proofs.YtgpgcnmnfnnkjaaGreatDoor
