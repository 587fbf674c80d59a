/- What the walks of slices.Insert share. -/
import Derived.Test.YtklopbjlpffnbaaCopyK
namespace Go.Proofs.Ytklopbjlpffnbaa
open Go Go.RowKit

theorem run_sl_from {P : Program} {t e : TypeId} {sz bytes : Nat} (T : SlT P t e sz bytes) (g n cap : Nat) (k : IntKind) (I : Int) (i : Nat) (hI : I = (i : Int)) (hi : i ≤ n) (hc : n ≤ cap) (hic : i < cap) (w : World) :
    (Instr.slice t (.slice (some ⟨g, 0, none⟩) n cap) (some (.int k I)) none none).run P w = .ok (.slice (some ⟨g, i * sz, none⟩) (n - i) (cap - i)) w := by
  subst hI
  obtain ⟨j, z, hj, hz, hs, hby, hzs⟩ := T.info
  have hne : ¬ cap = i := by omega
  simp [Instr.slice, run_underlying T.under, Instr.sliceBounds, Instr.sliceBound, asIntOf, hi, hne, sizeOf, typeInfo, hj, hs, Addr.add]
  exact fun h => h.symm
theorem run_sl_to {P : Program} {t e : TypeId} {sz bytes : Nat} (T : SlT P t e sz bytes) (g n cap : Nat) (k : IntKind) (J : Int) (j : Nat) (hJ : J = (j : Int)) (hj : j ≤ cap) (hp : 0 < cap) (w : World) :
    (Instr.slice t (.slice (some ⟨g, 0, none⟩) n cap) none (some (.int k J)) none).run P w = .ok (.slice (some ⟨g, 0, none⟩) j cap) w := by
  subst hJ
  obtain ⟨i, z, hi, hz, hs, hby, hzs⟩ := T.info
  simp [Instr.slice, run_underlying T.under, Instr.sliceBounds, Instr.sliceBound, asIntOf, hj, sizeOf, typeInfo, hi, hs, Addr.add]

theorem run_size {P : Program} {t e : TypeId} {sz bytes : Nat} (T : SlT P t e sz bytes) (w : World) : (Go.sizeOf e).run P w = .ok sz w := by
  obtain ⟨i, z, hi, hz, hs, hby, hzs⟩ := T.info
  simp [sizeOf, typeInfo, hi, hs]
/-- the row behind a shift, put together -/
theorem ins_take {α : Type} (E : Enc α) (cur : List Value) (l : List α) (k : Nat) (hk : k ≤ l.length) (htake : cur.take (l.length * E.sz) = E.all l) : cur.take (k * E.sz) = E.all (l.take k) := by
  rw [← E.all_take, ← htake, List.take_take]; congr 1
  have : k * E.sz ≤ l.length * E.sz := Nat.mul_le_mul_right _ hk
  omega
theorem ins_cells {α : Type} (E : Enc α) (cur : List Value) (l : List α) (x : α) (k : Nat) (hk : k ≤ l.length) (h1 : cur.take (k * E.sz) = E.all (l.take k)) :
    (cur.take (k * E.sz) ++ (E.enc x ++ (E.all (l.drop k) ++ cur.drop ((l.length + 1) * E.sz)))).take ((l.length + 1) * E.sz) = E.all (l.take k ++ x :: l.drop k) := by
  have hlen : (E.all (l.take k ++ x :: l.drop k)).length = (l.length + 1) * E.sz := by
    rw [E.all_length]; congr 1; simp; omega
  rw [h1, ← List.append_assoc, ← List.append_assoc, ← hlen]
  rw [show E.all (l.take k) ++ E.enc x ++ E.all (l.drop k) = E.all (l.take k ++ x :: l.drop k) from by rw [E.all_append, E.all_cons, List.append_assoc]]
  rw [List.take_append_of_le_length (Nat.le_refl _), List.take_of_length_le (Nat.le_refl _)]

theorem grown_setRow (w : World) (g : Nat) (cs : Array Value) : w.grownBy (w.setRow g cs) (some g) := ⟨rfl, rfl, rfl, by simp [World.setRow], fun k _ hk => setRow_other w g k cs (fun e => hk (by rw [e]))⟩

end Go.Proofs.Ytklopbjlpffnbaa
