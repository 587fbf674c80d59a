/- Steps of a region by RegF, guarded operations among them: those that are wanted, those that are not. -/
import Derived.Test.YtgpgcnmnfnnkjaaGreatDoorGWalOpens2
set_option linter.unusedVariables false
set_option linter.unusedSimpArgs false
section
namespace Go.Proofs.YtgpgcnmnfnnkjaaGreatDoor
open Go
section
variable {P : Program} {ops : Array Oper} {Q : Exit → Act → World → Prop} {md : Region.Mode} {S : World → Prop}
def gbare (g : Option (Nat × Bool)) : Oper := ⟨none, .move (.const (.bool true)), 0, "", #[], g⟩
theorem wanted_g {o : Oper} {g : Option (Nat × Bool)} (h : o.guard = g) (y : Nat → Option Bool) : Region.wanted o y = Region.wanted (gbare g) y := by
 unfold Region.wanted gbare; rw [h]
theorem look_atG {i : Nat} {dst : Option Tmp} {op : Op} {ty : TypeId} {g : Option (Nat × Bool)} (h : lookB ops i = some (dst, op, ty, g)) : ∃ oi, ops[i]? = some oi ∧ oi.dst = dst ∧ oi.guard = g ∧ (∀ ρ, execOp ρ oi = execOp ρ (bare dst op ty)) := by
 unfold lookB at h
 cases ho : ops[i]? with
 | none => rw [ho] at h; cases h
 | some oi =>
  rw [ho] at h
  cases oi with
  | mk d o t p af g =>
   simp only [Option.map_some, Option.some.injEq, Prod.mk.injEq] at h
   obtain ⟨rfl, rfl, rfl, rfl⟩ := h
   exact ⟨_, rfl, rfl, rfl, fun ρ => by unfold execOp bare; rfl⟩
theorem wpAnyF_tg {n : Nat} (i : Nat) (dst : Option Tmp) (op : Op) (ty : TypeId) (g : Option (Nat × Bool)) {v : Value} {f : Nat} {listed : Array Bool} {a : Act} {w : World} (hi : lookB ops i = some (dst, op, ty, g))
 (hb : takeB md ops n i listed = true) (hw : Region.wanted (gbare g) (yielded ops a.tmps) = true) (hQ : ∀ c a w, Q (.panic c) (a.put dst v) w → Q (.panic c) a w)
 (hy : ∀ w, S w → (execOp a.eval (bare dst op ty)).run P w = .ok (.value v) w) (hS : S w)
 (h : wpAnyF P md ops Q S n f (listed.setIfInBounds i true) (a.put dst v) w) : wpAnyF P md ops Q S n (f + 1) listed a w := by
 obtain ⟨oi, h0, rfl, hg, hx⟩ := look_atG hi
 unfold takeB at hb
 simp only [Bool.and_eq_true] at hb
 obtain ⟨⟨b1, b2, b3, b4⟩, h2, h3, h4, h5⟩ := hb
 exact wpAnyF_take h0 (by simp only [b1, b2, b3, b4, Bool.and_true]) (by simpa using h2) h3 h4 h5 hQ (.inl ⟨by rw [wanted_g hg]; exact hw, fun w hs => by rw [hx]; exact hy w hs⟩) hS h
theorem wpAnyF_og {n : Nat} (i : Nat) (dst : Option Tmp) (op : Op) (ty : TypeId) (g : Option (Nat × Bool)) {f : Nat} {listed : Array Bool} {a : Act} {w : World} (hi : lookB ops i = some (dst, op, ty, g)) (hr : Region.ready md ops listed = [i]) (hw : Region.wanted (gbare g) (yielded ops a.tmps) = true)
 (h : ∀ K : Act → World → Prop, (∀ a' w', S w' → (S w' → wpAnyF P md ops Q S n f (listed.setIfInBounds i true) a' w') → K a' w') → if Region.wanted (bare dst op ty) (yielded ops a.tmps) = true then Oper.wp P (bare dst op ty) a w K Q else False) : wpAnyF P md ops Q S n (f + 1) listed a w := by
 obtain ⟨oi, h0, hd, hg, hx⟩ := look_atG hi
 exact wpAnyF_all hr (by simp) fun j hj => by
  simp only [List.mem_cons, List.not_mem_nil, or_false] at hj
  subst hj
  exact wpOp_step h0 fun K' hK => by
   have h2 := h K' (fun a w hs hq => hK a w ⟨fun _ => hs, hq hs⟩)
   rw [if_pos (by rw [wanted_g hg]; exact hw)]
   rw [if_pos (by simp [Region.wanted, bare])] at h2
   unfold Oper.wp at *
   rw [hx]
   subst hd
   exact h2
end
end Go.Proofs.YtgpgcnmnfnnkjaaGreatDoor
end
