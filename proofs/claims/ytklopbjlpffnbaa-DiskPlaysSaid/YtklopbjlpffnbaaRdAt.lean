/- What walks over slices of structs share: the cells of one element (Rd.at_, Rd.blk); answers that are a list or an error (TellsL). -/
import Derived.Test.YtklopbjlpffnbaaRds2
import Derived.Test.YtklopbjlpffnbaaAfter
import Derived.Deep.QuietTactic
import Derived.BigQuiet
import Derived.Laws.StructEq
import Derived.Laws.Cover1
import Derived.Shelf.Abstract
namespace Go.Proofs.Ytklopbjlpffnbaa
open Go Go.RowKit
theorem Rd.at_ {α : Type} {E : Enc α} {w : World} {b off n c : Nat} {l : List α} (h : Rd E w (.slice (some ⟨b, off, none⟩) n c) l) {k : Nat} (hk : k < l.length) (j : Nat) (hj : j < E.sz) :
    w.cell? ⟨b, off + (k * E.sz + j), none⟩ = (E.enc l[k])[j]? := by
  obtain ⟨p, cap, e, _, _, _, h4⟩ := h.form
  obtain ⟨b', off', rfl, hc⟩ := h4 (by omega)
  simp only [Value.slice.injEq, Option.some.injEq, Addr.mk.injEq] at e
  obtain ⟨⟨rfl, rfl, _⟩, _, _⟩ := e
  exact hc k hk j hj
theorem Rd.blk {α : Type} {E : Enc α} {w : World} {p : Option Addr} {n c : Nat} {l : List α} (h : Rd E w (.slice p n c) l) (hp : 0 < l.length) : ∃ b off, p = some ⟨b, off, none⟩ := by
  obtain ⟨p', cap, e, _, _, _, h4⟩ := h.form
  obtain ⟨b', off', rfl, hc⟩ := h4 hp
  simp only [Value.slice.injEq] at e
  exact ⟨b', off', e.1⟩
/-- a list, or why there is none: (slice of the call's own, 0), or (nil, why) -/
def TellsL {α : Type} (E : Enc α) (w' : World) (B : Nat) (t : TypeId) (r : Except Int (List α)) (e : Ending) : Prop :=
  match r with
  | .ok l => ∃ v, e = .returned (.tuple #[v, .int .i64 0]) ∧ OwnR E w' B t v l
  | .error n => e = .returned (.tuple #[.slice none 0 0, .int .i64 n])
def resL {α : Type} (r : Except Int (List α)) : List α := match r with | .ok l => l | .error _ => []
def resE {α : Type} (r : Except Int (List α)) : Int := match r with | .ok _ => 0 | .error n => n
theorem TellsL.uni {α : Type} {E : Enc α} {w' : World} {B : Nat} {t : TypeId} {r : Except Int (List α)} {e : Ending} (h : TellsL E w' B t r e) :
    ∃ v, e = .returned (.tuple #[v, .int .i64 (resE r)]) ∧ OwnR E w' B t v (resL r) := by
  cases r with
  | ok l => exact h
  | error n => exact ⟨_, h, OwnR.nil _ _ _⟩
end Go.Proofs.Ytklopbjlpffnbaa
