/- The walks of few and to. -/
import Derived.Test.YtfimaamndcdofaaBook1
import Derived.Test.YtfimaamndcdofaaRds2
namespace Go.Proofs.Ytfimaamndcdofaa
open Go Go.RowKit

set_option maxHeartbeats 400000 in
theorem toCalls (a : ByteArray) (n : Int) (w : World) :
    Calls Try.prog 10 #[.string a, .int .i64 n] w fun e w' => e = .returned (.agg #[.string a, .int .i64 n]) ∧ Below w.heap.size w w' := by
  go_enter Try.func10, Try.ntmps10
  go_wp2_with fail
  refine bodyPost_ret (v := .agg #[.string a, .int .i64 n]) (by simp [results, Try.results10, go_sem]) rfl ⟨rfl, ?_⟩
  exact (Below.refl _ _).alloc (Nat.le_refl _) _

/-- few answers a slice that reads as the first sixty, wherever its argument reads so -/
def FewP (v : Value) (l : List Bal) (e : Ending) : Prop := ∃ u, e = .returned u ∧ ∀ w, Rd balE w v l → Rd balE w u (l.take 60)

set_option maxHeartbeats 400000 in
theorem fewCalls (v : Value) (l : List Bal) (w : World) (hv : Rd balE w v l) :
    Calls Try.prog 13 #[v] w fun e w' => FewP v l e ∧ w = w' := by
  by_cases h : 60 < l.length
  · have hs := run_sub_to tBal (P := Try.prog) hv .i64 60 60 rfl (by omega)
    have hr : ∀ w, Rd balE w v l → Rd balE w (subV v 0 60 2) (l.take 60) := fun w hv => by
      have hr := hv.sub 0 60 (by omega) (by omega)
      rw [show (l.drop 0).take (60 - 0) = l.take 60 from by simp] at hr
      exact hr
    obtain ⟨p, cap, rfl⟩ := hv.shape
    generalize subV (.slice p l.length cap) 0 60 2 = u at *
    have Hr := Lib.hid hr
    clear hr
    have hi : (60 : Int) < (l.length : Int) := by omega
    go_enter Try.func13, Try.ntmps13
    go_wp2_with fail
    go_ret
    exact ⟨⟨_, rfl, Hr.out⟩, rfl⟩
  · obtain ⟨p, cap, rfl⟩ := hv.shape
    have hi : ¬ (60 : Int) < (l.length : Int) := by omega
    have ht : l.take 60 = l := List.take_of_length_le (by omega)
    have Ht := Lib.hid ht
    clear ht
    go_enter Try.func13, Try.ntmps13
    go_wp2_with fail
    go_ret
    exact ⟨⟨_, rfl, fun w h => by rw [Ht.out]; exact h⟩, rfl⟩
end Go.Proofs.Ytfimaamndcdofaa
