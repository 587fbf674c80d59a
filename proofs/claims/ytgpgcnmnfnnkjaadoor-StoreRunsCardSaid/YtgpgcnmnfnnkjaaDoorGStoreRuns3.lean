/- Steps of a region by RegF: takes and runs in few words. -/
import Derived.Test.YtgpgcnmnfnnkjaaDoorGStoreRuns2
set_option linter.unusedVariables false
set_option linter.unusedSimpArgs false
section
namespace Go.Proofs.YtgpgcnmnfnnkjaaDoor
open Go
section
variable {P : Program} {ops : Array Oper} {Q : Exit → Act → World → Prop} {md : Region.Mode} {S : World → Prop}
/-- an operation without its place and edges -/
def bare (dst : Option Tmp) (op : Op) (ty : TypeId) : Oper := ⟨dst, op, ty, "", #[], none⟩
def lookB (ops : Array Oper) (i : Nat) : Option (Option Tmp × Op × TypeId × Option (Nat × Bool)) := (ops[i]?).map fun o => (o.dst, o.op, o.type, o.guard)
theorem look_at {i : Nat} {dst : Option Tmp} {op : Op} {ty : TypeId} (h : lookB ops i = some (dst, op, ty, none)) : ∃ oi, ops[i]? = some oi ∧ oi.dst = dst ∧ oi.guard = none ∧ (∀ ρ, execOp ρ oi = execOp ρ (bare dst op ty)) := by
 unfold lookB at h
 cases ho : ops[i]? with
 | none => rw [ho] at h; cases h
 | some oi =>
  rw [ho] at h
  cases oi with
  | mk d o t p af g =>
   simp only [Option.map_some, Option.some.injEq, Prod.mk.injEq] at h
   obtain ⟨rfl, rfl, rfl, rfl⟩ := h
   exact ⟨_, rfl, rfl, rfl, fun ρ => by unfold execOp bare; rfl⟩
def takeB (md : Region.Mode) (ops : Array Oper) (n i : Nat) (listed : Array Bool) : Bool :=
 (Region.noSelect ops && (Region.sinkB md ops n && (Region.chainB md ops n && decide (n < ops.size)))) && (decide (i < n) && (headB md ops n listed && (Region.free md ops listed i && (Region.ready md ops listed).contains i)))
/-- take number i first -/
theorem wpAnyF_tk {n : Nat} (i : Nat) (dst : Option Tmp) (op : Op) (ty : TypeId) {v : Value} {f : Nat} {listed : Array Bool} {a : Act} {w : World} (hi : lookB ops i = some (dst, op, ty, none))
 (hb : takeB md ops n i listed = true) (hQ : ∀ c a w, Q (.panic c) (a.put dst v) w → Q (.panic c) a w)
 (hy : ∀ w, S w → (execOp a.eval (bare dst op ty)).run P w = .ok (.value v) w) (hS : S w)
 (h : wpAnyF P md ops Q S n f (listed.setIfInBounds i true) (a.put dst v) w) : wpAnyF P md ops Q S n (f + 1) listed a w := by
 obtain ⟨oi, h0, rfl, hg, hx⟩ := look_at hi
 unfold takeB at hb
 simp only [Bool.and_eq_true] at hb
 obtain ⟨⟨b1, b2, b3, b4⟩, h2, h3, h4, h5⟩ := hb
 exact wpAnyF_take h0 (by simp only [b1, b2, b3, b4, Bool.and_true]) (by simpa using h2) h3 h4 h5 hQ (.inl ⟨by simp [Region.wanted, hg], fun w hs => by rw [hx]; exact hy w hs⟩) hS h
theorem bare_wp {oi : Oper} {dst : Option Tmp} {op : Op} {ty : TypeId} {a : Act} {w : World} {K : Act → World → Prop} (hd : oi.dst = dst) (hg : oi.guard = none) (hx : ∀ ρ, execOp ρ oi = execOp ρ (bare dst op ty))
 {X : Prop} (h : if Region.wanted (bare dst op ty) (yielded ops a.tmps) = true then Oper.wp P (bare dst op ty) a w K Q else X) : if Region.wanted oi (yielded ops a.tmps) = true then Oper.wp P oi a w K Q else K (a.put oi.dst undef) w := by
 rw [if_pos (by simp [Region.wanted, hg])]
 rw [if_pos (by simp [Region.wanted, bare])] at h
 unfold Oper.wp at *
 rw [hx]
 subst hd
 exact h
/-- number i is carried out next: it alone may come up -/
theorem wpAnyF_one {n : Nat} (i : Nat) (dst : Option Tmp) (op : Op) (ty : TypeId) {f : Nat} {listed : Array Bool} {a : Act} {w : World} (hi : lookB ops i = some (dst, op, ty, none)) (hr : Region.ready md ops listed = [i])
 (h : ∀ K : Act → World → Prop, (∀ a' w', S w' → (S w' → wpAnyF P md ops Q S n f (listed.setIfInBounds i true) a' w') → K a' w') → if Region.wanted (bare dst op ty) (yielded ops a.tmps) = true then Oper.wp P (bare dst op ty) a w K Q else False) : wpAnyF P md ops Q S n (f + 1) listed a w := by
 obtain ⟨oi, h0, hd, hg, hx⟩ := look_at hi
 exact wpAnyF_all hr (by simp) fun j hj => by
  simp only [List.mem_cons, List.not_mem_nil, or_false] at hj
  subst hj
  exact wpOp_step h0 fun K' hK => bare_wp hd hg hx (h K' (fun a w hs hq => hK a w ⟨fun _ => hs, hq hs⟩))
/-- the last one, behind which nothing is asked -/
theorem wpAnyF_end {n : Nat} (dst : Option Tmp) (op : Op) (ty : TypeId) {f : Nat} {listed : Array Bool} {a : Act} {w : World} (hi : lookB ops n = some (dst, op, ty, none)) (hr : Region.ready md ops listed = [n]) (hdn : Region.ready md ops (listed.setIfInBounds n true) = [])
 (h : ∀ K : Act → World → Prop, (∀ a w, Q .normal a w → K a w) → if Region.wanted (bare dst op ty) (yielded ops a.tmps) = true then Oper.wp P (bare dst op ty) a w K Q else False) : wpAnyF P md ops Q S n (f + 1) listed a w := by
 obtain ⟨oi, h0, hd, hg, hx⟩ := look_at hi
 exact wpAnyF_last hr h0 hdn fun K hK => bare_wp hd hg hx (h K hK)
end
theorem lyA {α : Type _} {l : List α} {i : Nat} {a : α} : l.toArray.setIfInBounds i a = (l.set i a).toArray := List.setIfInBounds_toArray ..
theorem lyZ {α : Type _} {x a : α} {l : List α} : (x :: l).set 0 a = a :: l := rfl
theorem lyS {α : Type _} {x a : α} {l : List α} {n : Nat} : (x :: l).set (n + 1) a = x :: l.set n a := rfl
end Go.Proofs.YtgpgcnmnfnnkjaaDoor
end
