/- A region that draws its order, with a condition S on the world that is wanted behind every operation but the last ones (number n and up): after Derived/OrdersHeld.lean's wpAnyH, Derived/StillTail.lean's HeadInv and tail_waits. Steps of a region by RegF: takes and runs in few words. The walk of (*disk.Disk).put. -/
import Derived.Test.YtgpgcnmnfnnkjaaDoorRows
import Derived.Test.YtgpgcnmnfnnkjaaDoorGWalCuts0
import Derived.StillTail
import Derived.Deep.RegionHeld3
import Derived.Test.YtgpgcnmnfnnkjaaDoorGWalCuts4
import Derived.Test.YtgpgcnmnfnnkjaaDoorGWalCuts5
import Derived.Deep.CutBlock
set_option linter.unusedVariables false
set_option linter.unusedSimpArgs false
section
namespace Go.Proofs.YtgpgcnmnfnnkjaaDoor
open Go
section
variable {P : Program} {ops : Array Oper} {Q : Exit → Act → World → Prop} {md : Region.Mode} {S : World → Prop}
def wpAnyF (P : Program) (md : Region.Mode) (ops : Array Oper) (Q : Exit → Act → World → Prop) (S : World → Prop) (n : Nat) : Nat → Array Bool → Act → World → Prop
  | 0, listed, a, w => Region.ready md ops listed = [] ∧ Q .normal a w
  | f + 1, listed, a, w =>
    (Region.ready md ops listed = [] → Q .normal a w) ∧
    ∀ i ∈ Region.ready md ops listed, wpOp P ops Q i (fun a' w' => (i < n → S w') ∧ wpAnyF P md ops Q S n f (listed.setIfInBounds i true) a' w') a w
theorem wpAny_of_F {n : Nat} : ∀ (f : Nat) (listed : Array Bool) (a : Act) (w : World), wpAnyF P md ops Q S n f listed a w → wpAny P md ops Q f listed a w
  | 0, _, _, _, h => h
  | f + 1, _, _, _, h => ⟨h.1, fun i hi => wpOp_mono (fun a' w' h' => wpAny_of_F f _ a' w' h'.2) (h.2 i hi)⟩
theorem wpAnyF_first {n i : Nat} {oi : Oper} {v : Value} (hi : ops[i]? = some oi) (hsel : ∀ (j : Nat) (o : Oper) cs b, ops[j]? = some o → o.op ≠ .select cs b)
    (hs : Region.sinkB md ops n = true) (hc : Region.chainB md ops n = true) (hn : n < ops.size) (hin : i < n)
    (hQ : ∀ c a w, Q (.panic c) (a.put oi.dst v) w → Q (.panic c) a w) :
    ∀ (f : Nat) (listed : Array Bool) (a : Act) (w : World), HeadInv md ops n listed →
      (∀ j oj, ops[j]? = some oj → j ≠ i → listed.getD j true = false → (∀ e ∈ oj.after, Region.binds md e = true → e.on ≠ i) → oi.apart ops oj = true) →
      i ∈ Region.ready md ops listed → YieldsIf P ops S oi v a → S w →
      wpAnyF P md ops Q S n f (listed.setIfInBounds i true) (a.put oi.dst v) w → wpAnyF P md ops Q S n (f + 1) listed a w := by
  intro f
  induction f with
  | zero =>
    intro listed a w inv _ hr hy hS H
    refine ⟨fun h => (by rw [h] at hr; cases hr), fun j hj => ?_⟩
    by_cases hji : j = i
    · subst hji; exact hy.wpOp hi hS ⟨fun _ => hS, H⟩
    · have := ready_mono hj hji
      rw [H.1] at this
      cases this
  | succ f ih =>
    intro listed a w inv hfree hr hy hS H
    have hun := (mem_ready.1 hr).1
    refine ⟨fun h => (by rw [h] at hr; cases hr), fun j hj => ?_⟩
    have hjn : j < n := by
      rcases Nat.lt_or_ge j n with h | h
      · exact h
      · exact absurd hj (tail_waits hs hc hn inv _ i rfl hin hun j h)
    by_cases hji : j = i
    · subst hji; exact hy.wpOp hi hS ⟨fun _ => hS, H⟩
    · have h1 := H.2 j (ready_mono hj hji)
      obtain ⟨hjun, oj, hoj, hall⟩ := mem_ready.1 hj
      have hnot : ∀ e ∈ oj.after, Region.binds md e = true → e.on ≠ i := fun e he hb heq => by
        have h1 := hall e he hb
        rw [heq, getD_both hun] at h1
        cases h1
      have h2 := wpOp_putIf hoj (hfree j oj hoj hji hjun hnot) (fun cs b => hsel i oi cs b hi) (fun cs b => hsel j oj cs b hoj) hQ hy h1
      have hfree' : ∀ k ok, ops[k]? = some ok → k ≠ i → (listed.setIfInBounds j true).getD k true = false →
          (∀ e ∈ ok.after, Region.binds md e = true → e.on ≠ i) → oi.apart ops ok = true := fun k ok hk hki hun hno => by
        refine hfree k ok hk hki ?_ hno
        by_cases hjk : j = k
        · subst hjk; exact hjun
        · rw [getD_set_ne true hjk] at hun; exact hun
      refine wpOp_mono (fun a' w' h3 => ⟨h3.2.1, ih (listed.setIfInBounds j true) a' w' (inv.set hj hjn) hfree' (ready_mono hr (Ne.symm hji)) h3.1 (h3.2.1 hjn) ?_⟩) h2
      rw [Array.setIfInBounds_comm _ _ hji]
      exact h3.2.2
def headB (md : Region.Mode) (ops : Array Oper) (n : Nat) (listed : Array Bool) : Bool :=
  decide (listed.size = ops.size) && ((List.range ops.size).all (fun j => !listed.getD j false || ((ops[j]?).map (·.after.all fun e => !Region.binds md e || listed.getD e.on false)).getD true) && (List.range ops.size).all (fun t => decide (t < n) || !listed.getD t true))
theorem headB_spec {n : Nat} {listed : Array Bool} (h : headB md ops n listed = true) : HeadInv md ops n listed := by
  simp only [headB, Bool.and_eq_true, decide_eq_true_eq, List.all_eq_true, List.mem_range, Bool.or_eq_true, Bool.not_eq_true'] at h
  obtain ⟨h1, h2, h3⟩ := h
  refine ⟨h1, fun j oj hj hl e he hb => ?_, fun t ht ht' => ?_⟩
  · have hjs : j < ops.size := (Array.getElem?_eq_some_iff.1 hj).1
    rcases h2 j hjs with h | h
    · rw [hl] at h; cases h
    · rw [hj] at h
      simp only [Option.map_some, Option.getD_some, Array.all_eq_true, Bool.or_eq_true, Bool.not_eq_true'] at h
      obtain ⟨k, hk, rfl⟩ := Array.getElem_of_mem he
      rcases h k hk with h | h
      · rw [hb] at h; cases h
      · exact h
  · rcases h3 t ht' with h | h
    · omega
    · exact h
/-- take number i first -/
theorem wpAnyF_take {n i : Nat} {oi : Oper} {v : Value} {f : Nat} {listed : Array Bool} {a : Act} {w : World} (hi : ops[i]? = some oi)
    (hl : (Region.noSelect ops && (Region.sinkB md ops n && (Region.chainB md ops n && decide (n < ops.size)))) = true) (hin : i < n) (hh : headB md ops n listed = true)
    (hf : Region.free md ops listed i = true) (hr : (Region.ready md ops listed).contains i = true)
    (hQ : ∀ c a w, Q (.panic c) (a.put oi.dst v) w → Q (.panic c) a w) (hy : YieldsIf P ops S oi v a) (hS : S w)
    (h : wpAnyF P md ops Q S n f (listed.setIfInBounds i true) (a.put oi.dst v) w) : wpAnyF P md ops Q S n (f + 1) listed a w := by
  simp only [Bool.and_eq_true, decide_eq_true_eq] at hl
  exact wpAnyF_first hi (Region.noSelect_spec hl.1) hl.2.1 hl.2.2.1 hl.2.2.2 hin hQ f listed a w (headB_spec hh) (Region.free_spec hi hf) (by simpa using hr) hy hS h
/-- whichever comes up -/
theorem wpAnyF_all {n : Nat} {rs : List Nat} {f : Nat} {listed : Array Bool} {a : Act} {w : World} (hr : Region.ready md ops listed = rs) (hne : rs ≠ [])
    (h : ∀ i ∈ rs, wpOp P ops Q i (fun a' w' => (i < n → S w') ∧ wpAnyF P md ops Q S n f (listed.setIfInBounds i true) a' w') a w) : wpAnyF P md ops Q S n (f + 1) listed a w :=
  ⟨fun h0 => absurd (hr ▸ h0) hne, hr ▸ h⟩
theorem wpAnyF_done {n : Nat} {listed : Array Bool} {a : Act} {w : World} (hr : Region.ready md ops listed = []) (h : Q .normal a w) :
    ∀ f, wpAnyF P md ops Q S n f listed a w
  | 0 => ⟨hr, h⟩
  | _ + 1 => ⟨fun _ => h, by rw [hr]; simp⟩
theorem wp_region_F {id n : Nat} {a : Act} {w : World} (hm : P.follows .mixedOrders = true)
    (h : wpAnyF P .any ops Q S n ops.size (Array.replicate ops.size false) a w.drew) : (Code.region id ops true).wp P Q a w :=
  wp_region_any hm (wpAny_of_F _ _ _ _ h)
/-- .. and once the tail alone is left (it is number n, the last): no condition any more -/
theorem wpAnyF_last {n : Nat} {o : Oper} {f : Nat} {listed : Array Bool} {a : Act} {w : World} (hr : Region.ready md ops listed = [n]) (ho : ops[n]? = some o) (hd : Region.ready md ops (listed.setIfInBounds n true) = [])
    (h : ∀ K : Act → World → Prop, (∀ a w, Q .normal a w → K a w) → if Region.wanted o (yielded ops a.tmps) = true then Oper.wp P o a w K Q else K (a.put o.dst undef) w) : wpAnyF P md ops Q S n (f + 1) listed a w :=
  wpAnyF_all hr (by simp) fun i hi => by
    simp only [List.mem_cons, List.not_mem_nil, or_false] at hi
    subst hi
    exact wpOp_step ho fun K' hK => h K' (fun a w hq => hK a w ⟨fun hh => absurd hh (Nat.lt_irrefl _), wpAnyF_done hd hq f⟩)
end
end Go.Proofs.YtgpgcnmnfnnkjaaDoor
end

section
namespace Go.Proofs.YtgpgcnmnfnnkjaaDoor
open Go
section
variable {P : Program} {ops : Array Oper} {Q : Exit → Act → World → Prop} {md : Region.Mode} {S : World → Prop}
/-- an operation without its place and edges -/
def bare (dst : Option Tmp) (op : Op) (ty : TypeId) : Oper := ⟨dst, op, ty, "", #[], none⟩
def lookB (ops : Array Oper) (i : Nat) : Option (Option Tmp × Op × TypeId × Option (Nat × Bool)) := (ops[i]?).map fun o => (o.dst, o.op, o.type, o.guard)
theorem look_at {i : Nat} {dst : Option Tmp} {op : Op} {ty : TypeId} (h : lookB ops i = some (dst, op, ty, none)) : ∃ oi, ops[i]? = some oi ∧ oi.dst = dst ∧ oi.guard = none ∧ (∀ ρ, execOp ρ oi = execOp ρ (bare dst op ty)) := by
  unfold lookB at h
  cases ho : ops[i]? with
  | none => rw [ho] at h; cases h
  | some oi =>
    rw [ho] at h
    cases oi with
    | mk d o t p af g =>
      simp only [Option.map_some, Option.some.injEq, Prod.mk.injEq] at h
      obtain ⟨rfl, rfl, rfl, rfl⟩ := h
      exact ⟨_, rfl, rfl, rfl, fun ρ => by unfold execOp bare; rfl⟩
def takeB (md : Region.Mode) (ops : Array Oper) (n i : Nat) (listed : Array Bool) : Bool :=
  (Region.noSelect ops && (Region.sinkB md ops n && (Region.chainB md ops n && decide (n < ops.size)))) && (decide (i < n) && (headB md ops n listed && (Region.free md ops listed i && (Region.ready md ops listed).contains i)))
/-- take number i first -/
theorem wpAnyF_tk {n : Nat} (i : Nat) (dst : Option Tmp) (op : Op) (ty : TypeId) {v : Value} {f : Nat} {listed : Array Bool} {a : Act} {w : World} (hi : lookB ops i = some (dst, op, ty, none))
    (hb : takeB md ops n i listed = true) (hQ : ∀ c a w, Q (.panic c) (a.put dst v) w → Q (.panic c) a w)
    (hy : ∀ w, S w → (execOp a.eval (bare dst op ty)).run P w = .ok (.value v) w) (hS : S w)
    (h : wpAnyF P md ops Q S n f (listed.setIfInBounds i true) (a.put dst v) w) : wpAnyF P md ops Q S n (f + 1) listed a w := by
  obtain ⟨oi, h0, rfl, hg, hx⟩ := look_at hi
  unfold takeB at hb
  simp only [Bool.and_eq_true] at hb
  obtain ⟨⟨b1, b2, b3, b4⟩, h2, h3, h4, h5⟩ := hb
  exact wpAnyF_take h0 (by simp only [b1, b2, b3, b4, Bool.and_true]) (by simpa using h2) h3 h4 h5 hQ (.inl ⟨by simp [Region.wanted, hg], fun w hs => by rw [hx]; exact hy w hs⟩) hS h
theorem bare_wp {oi : Oper} {dst : Option Tmp} {op : Op} {ty : TypeId} {a : Act} {w : World} {K : Act → World → Prop} (hd : oi.dst = dst) (hg : oi.guard = none) (hx : ∀ ρ, execOp ρ oi = execOp ρ (bare dst op ty))
    {X : Prop} (h : if Region.wanted (bare dst op ty) (yielded ops a.tmps) = true then Oper.wp P (bare dst op ty) a w K Q else X) : if Region.wanted oi (yielded ops a.tmps) = true then Oper.wp P oi a w K Q else K (a.put oi.dst undef) w := by
  rw [if_pos (by simp [Region.wanted, hg])]
  rw [if_pos (by simp [Region.wanted, bare])] at h
  unfold Oper.wp at *
  rw [hx]
  subst hd
  exact h
/-- number i is carried out next: it alone may come up -/
theorem wpAnyF_one {n : Nat} (i : Nat) (dst : Option Tmp) (op : Op) (ty : TypeId) {f : Nat} {listed : Array Bool} {a : Act} {w : World} (hi : lookB ops i = some (dst, op, ty, none)) (hr : Region.ready md ops listed = [i])
    (h : ∀ K : Act → World → Prop, (∀ a' w', S w' → (S w' → wpAnyF P md ops Q S n f (listed.setIfInBounds i true) a' w') → K a' w') → if Region.wanted (bare dst op ty) (yielded ops a.tmps) = true then Oper.wp P (bare dst op ty) a w K Q else False) : wpAnyF P md ops Q S n (f + 1) listed a w := by
  obtain ⟨oi, h0, hd, hg, hx⟩ := look_at hi
  exact wpAnyF_all hr (by simp) fun j hj => by
    simp only [List.mem_cons, List.not_mem_nil, or_false] at hj
    subst hj
    exact wpOp_step h0 fun K' hK => bare_wp hd hg hx (h K' (fun a w hs hq => hK a w ⟨fun _ => hs, hq hs⟩))
/-- two may come up -/
theorem wpAnyF_two {n : Nat} (i j : Nat) (dst : Option Tmp) (op : Op) (ty : TypeId) (dst' : Option Tmp) (op' : Op) (ty' : TypeId) {f : Nat} {listed : Array Bool} {a : Act} {w : World} (hi : lookB ops i = some (dst, op, ty, none)) (hj : lookB ops j = some (dst', op', ty', none)) (hr : Region.ready md ops listed = [i, j])
    (h : ∀ K : Act → World → Prop, (∀ a' w', S w' → (S w' → wpAnyF P md ops Q S n f (listed.setIfInBounds i true) a' w') → K a' w') → if Region.wanted (bare dst op ty) (yielded ops a.tmps) = true then Oper.wp P (bare dst op ty) a w K Q else False)
    (h' : ∀ K : Act → World → Prop, (∀ a' w', S w' → (S w' → wpAnyF P md ops Q S n f (listed.setIfInBounds j true) a' w') → K a' w') → if Region.wanted (bare dst' op' ty') (yielded ops a.tmps) = true then Oper.wp P (bare dst' op' ty') a w K Q else False) : wpAnyF P md ops Q S n (f + 1) listed a w := by
  obtain ⟨oi, h0, hd, hg, hx⟩ := look_at hi
  obtain ⟨oj, h0', hd', hg', hx'⟩ := look_at hj
  exact wpAnyF_all hr (by simp) fun m hm => by
    simp only [List.mem_cons, List.not_mem_nil, or_false] at hm
    rcases hm with rfl | rfl
    · exact wpOp_step h0 fun K' hK => bare_wp hd hg hx (h K' (fun a w hs hq => hK a w ⟨fun _ => hs, hq hs⟩))
    · exact wpOp_step h0' fun K' hK => bare_wp hd' hg' hx' (h' K' (fun a w hs hq => hK a w ⟨fun _ => hs, hq hs⟩))
/-- the last one, behind which nothing is asked -/
theorem wpAnyF_end {n : Nat} (dst : Option Tmp) (op : Op) (ty : TypeId) {f : Nat} {listed : Array Bool} {a : Act} {w : World} (hi : lookB ops n = some (dst, op, ty, none)) (hr : Region.ready md ops listed = [n]) (hdn : Region.ready md ops (listed.setIfInBounds n true) = [])
    (h : ∀ K : Act → World → Prop, (∀ a w, Q .normal a w → K a w) → if Region.wanted (bare dst op ty) (yielded ops a.tmps) = true then Oper.wp P (bare dst op ty) a w K Q else False) : wpAnyF P md ops Q S n (f + 1) listed a w := by
  obtain ⟨oi, h0, hd, hg, hx⟩ := look_at hi
  exact wpAnyF_last hr h0 hdn fun K hK => bare_wp hd hg hx (h K hK)
/-- of the tail: number i is carried out next -/
theorem wpAnyF_past {n : Nat} (i : Nat) (dst : Option Tmp) (op : Op) (ty : TypeId) {f : Nat} {listed : Array Bool} {a : Act} {w : World} (hi : lookB ops i = some (dst, op, ty, none)) (hin : n ≤ i) (hr : Region.ready md ops listed = [i])
    (h : ∀ K : Act → World → Prop, (∀ a' w', wpAnyF P md ops Q S n f (listed.setIfInBounds i true) a' w' → K a' w') → if Region.wanted (bare dst op ty) (yielded ops a.tmps) = true then Oper.wp P (bare dst op ty) a w K Q else False) : wpAnyF P md ops Q S n (f + 1) listed a w := by
  obtain ⟨oi, h0, hd, hg, hx⟩ := look_at hi
  exact wpAnyF_all hr (by simp) fun j hj => by
    simp only [List.mem_cons, List.not_mem_nil, or_false] at hj
    subst hj
    exact wpOp_step h0 fun K' hK => bare_wp hd hg hx (h K' (fun a w hq => hK a w ⟨fun hh => absurd hh (Nat.not_lt.2 hin), hq⟩))
/-- .. and is the last -/
theorem wpAnyF_fin {n : Nat} (i : Nat) (dst : Option Tmp) (op : Op) (ty : TypeId) {f : Nat} {listed : Array Bool} {a : Act} {w : World} (hi : lookB ops i = some (dst, op, ty, none)) (hin : n ≤ i) (hr : Region.ready md ops listed = [i]) (hdn : Region.ready md ops (listed.setIfInBounds i true) = [])
    (h : ∀ K : Act → World → Prop, (∀ a w, Q .normal a w → K a w) → if Region.wanted (bare dst op ty) (yielded ops a.tmps) = true then Oper.wp P (bare dst op ty) a w K Q else False) : wpAnyF P md ops Q S n (f + 1) listed a w :=
  wpAnyF_past i dst op ty hi hin hr fun K hK => h K (fun a w hq => hK a w (wpAnyF_done hdn hq f))
end
end Go.Proofs.YtgpgcnmnfnnkjaaDoor
end

section
namespace Go.Proofs.YtgpgcnmnfnnkjaaDoor
open Go Go.RowKit BigFrame Go.PlainAid
attribute [local go_sem] After.same
def insE (ys : List Ent) (y : Ent) : List Ent := ys.take (posD (ys.map Ent.fil) y.name) ++ y :: ys.drop (posD (ys.map Ent.fil) y.name)
theorem insE_fil (ys : List Ent) (y : Ent) : (insE ys y).map Ent.fil = putD (ys.map Ent.fil) y.fil := by
  unfold insE putD
  rw [List.map_append, List.map_cons, List.map_take, List.map_drop]; rfl
def DiskX (w : World) (F : Nat → Prop) (g : Nat) (o a l : Value) (ys : List Ent) : Prop := ∃ v, DiskV w F g v o a l ys
theorem DiskV.back {F : Nat → Prop} {w w1 w2 : World} {g : Nat} {v o a l : Value} {ys : List Ent} (h : DiskV w2 (FF F w1 w2) g v o a l ys) (hs : w.heap.size ≤ w1.heap.size) (h0 : ∀ k, F k → k < w.heap.size) (h12 : w1.heap.size ≤ w2.heap.size) : DiskV w2 (FF F w w2) g v o a l ys :=
  h.mono (fun k hk => by
    rcases hk with hk | hk
    · exact .inl hk
    · exact .inr ⟨by omega, hk.2⟩) (FF_lt h0 (by omega))
set_option maxRecDepth 8000 in
set_option maxHeartbeats 4000000 in
theorem dskPut {F : Nat → Prop} {g : Nat} {v o a l : Value} {ys : List Ent} {w : World} {y : Ent} (hd : DiskV w F g v o a l ys) (hlen : ys.length ≤ 1000000) (h1 : OwnB w 0 5 y.v y.data) (h2 : ∀ x ∈ ys, Apart y.v x.v) (h3 : Apart v y.v) (h4 : ∀ k, y.v.ownBlock = some k → F k) (h5 : y.v.ownBlock ≠ some g) :
    Calls Tryd.prog 92 #[.pointer (some ⟨g, 0, none⟩), .agg #[.string y.name, .slice y.p y.data.length y.c, .int .i64 (y.kept : Int)]] w fun e w' => e = .returned (.tuple #[]) ∧ DiskX w' (FF F w w') g o a l (insE ys y) ∧ Chg F w w' := by
  have ca := below_alloc w (.cells #[.string y.name, .slice y.p y.data.length y.c, .int .i64 (y.kept : Int)] 72)
  have kb := Blk.new w #[.string y.name, .slice y.p y.data.length y.c, .int .i64 (y.kept : Int)] 72
  go_enter Tryd.func92, Tryd.ntmps92
  go_upto_block 0 with (fail)
  generalize hw1 : w.alloc (.cells #[.string y.name, .slice y.p y.data.length y.c, .int .i64 (y.kept : Int)] 72) = w1 at *
  clear hw1
  have rv := hd.fil.row.rd
  obtain ⟨p, cap, rfl, q1, q2, q3, q4⟩ := rv.form
  clear q3 q4
  unfold maxLen at q2
  have rv1 := rv.ext ca
  have hd1 := Lib.hid (hd.ext ca)
  clear rv
  go_cut [4] from 4 (fun q wi => ∃ k : Nat, k ≤ ys.length ∧ q = .int .i64 k ∧ Hid (posD (ys.map Ent.fil) y.name = k) ∧ Below w1.heap.size w1 wi)
  case first =>
    go_wp2_with fail
    go_loopw [4] (fun q wi => ∃ k : Nat, k ≤ ys.length ∧ q = .int .i64 k ∧ Hid (∀ i (h : i < (ys.map Ent.fil).length), i < k → ltS (ys.map Ent.fil)[i].name y.name = true) ∧ Below w1.heap.size w1 wi) (fun q _ => ys.length - (intOf q).toNat)
    case atStart => exact ⟨0, by omega, rfl, fun i h hi => absurd hi (Nat.not_lt_zero _), Below.refl _ _⟩
    case round =>
      obtain ⟨j, hj, rfl, hlo, hbi⟩ := hrel
      have kbi := kb.ext hbi
      have c0 := (hd1.out.ext hbi).blk.cell 0 _ rfl
      have g0 := kbi.cell 0 _ rfl
      have hj0 : (0 : Int) ≤ (j : Int) := by omega
      by_cases hjl : j < ys.length
      · have hji : (j : Int) < (ys.length : Int) := by omega
        obtain ⟨gb, go, rfl⟩ := Rd.blk rv1 (by omega)
        obtain ⟨e0, _⟩ := ent3 (rv1.ext hbi) hjl
        have hfl : j < (ys.map Ent.fil).length := by simpa using hjl
        have hfg : (ys.map Ent.fil)[j].name = ys[j].name := by rw [fil_get]; rfl
        cases hlt2 : ltS ys[j].name y.name with
        | true =>
          have hl3 : Op.bytesLess (ys[j]).name.toList y.name.toList = true := hlt2
          have Hlo := Lib.hid (fun i (h : i < (ys.map Ent.fil).length) (hi : i < j + 1) => show ltS (ys.map Ent.fil)[i].name y.name = true from by
            rcases Nat.lt_or_ge i j with h1 | h1
            · exact hlo.out i h h1
            · have e : i = j := by omega
              subst e; rw [hfg]; exact hlt2)
          clear hlt2 hfg hfl
          go_wp2_with fail
          go_quiet (fail)
          go_wp2_with fail
          go_roundw
          case rel => exact ⟨j + 1, by omega, by go_num, Hlo, hbi.trans (below_drawn _ _ _)⟩
          case measure => simp [intOf]; omega
        | false =>
          have hl3 : Op.bytesLess (ys[j]).name.toList y.name.toList = false := hlt2
          have Hp := Lib.hid (posD_at (k := j) (by omega) hlo.out (fun h => by rw [hfg]; exact hlt2))
          clear hlt2 hfg hfl
          go_wp2_with fail
          go_quiet (fail)
          go_wp2_with fail
          go_meet
          exact ⟨j, hj, rfl, Hp, hbi.trans (below_drawn _ _ _)⟩
      · have hji : ¬ (j : Int) < (ys.length : Int) := by omega
        have Hp := Lib.hid (posD_at (k := j) (by simp; omega) hlo.out (fun h => absurd (by simpa using h) hjl))
        go_wp2_with fail
        go_quiet (fail)
        go_wp2_with fail
        go_meet
        exact ⟨j, hj, rfl, Hp, hbi.trans (below_drawn _ _ _)⟩
  case rest =>
    obtain ⟨k, hk, rfl, Hp, hbi⟩ := hcut
    obtain ⟨w2, hw2⟩ : ∃ z, z = wc := ⟨_, rfl⟩
    subst hw2
    have hb2 := ca.trans (hbi.mono ca.size)
    have hd2 := hd.ext hb2
    have kb2 := kb.ext hbi
    have c0 := hd2.blk.cell 0 _ rfl
    have g0 := kb2.cell 0 _ rfl
    have g1 := kb2.cell 1 _ rfl
    have g2 := kb2.cell 2 _ rfl
    have hN := kb2.lt
    have h12 : OwnB w2 0 5 y.v y.data := h1.ext hb2
    have hgl := hd2.lt g hd2.inG
    have hFl : ∀ k, F k → k < w.heap.size := hd.lt
    clear hd hd1 rv1 ca hbi kb2 kb h1
    go_wp2_with fail
    have bD := below_drew w2.heap.size w2
    refine wp_region_F (n := 11) (S := fun w' => w'.cell? ⟨g, 0, none⟩ = some (.slice p ys.length cap) ∧ (w'.cell? ⟨w.heap.size, 0, none⟩ = some (.string y.name) ∧ w'.cell? ⟨w.heap.size, 1, none⟩ = some (.slice y.p y.data.length y.c) ∧ w'.cell? ⟨w.heap.size, 2, none⟩ = some (.int .i64 (y.kept : Int)))) (by kernel_rfl) ?_
    have hHeld : (fun w' : World => w'.cell? ⟨g, 0, none⟩ = some (.slice p ys.length cap) ∧ (w'.cell? ⟨w.heap.size, 0, none⟩ = some (.string y.name) ∧ w'.cell? ⟨w.heap.size, 1, none⟩ = some (.slice y.p y.data.length y.c) ∧ w'.cell? ⟨w.heap.size, 2, none⟩ = some (.int .i64 (y.kept : Int)))) w2.drew := ⟨c0, g0, g1, g2⟩
    refine wpAnyF_tk 0 (some 27) (Op.move (Operand.tmp 0)) 22 (v := ?_) rfl (by kernel_rfl) (fun _ _ _ h => h) ?_ hHeld ?_
    rotate_left
    · intro w hSw
      try dsimp only at hSw
      obtain ⟨_, _, _, _⟩ := hSw
      dsimp only [bare]
      go_simp <;> with_reducible rfl
    try simp only [Act.put, List.setIfInBounds_toArray, List.set_cons_zero, List.set_cons_succ]
    refine wpAnyF_tk 1 (some 28) (Op.move (Operand.tmp 0)) 22 (v := ?_) rfl (by kernel_rfl) (fun _ _ _ h => h) ?_ hHeld ?_
    rotate_left
    · intro w hSw
      try dsimp only at hSw
      obtain ⟨_, _, _, _⟩ := hSw
      dsimp only [bare]
      go_simp <;> with_reducible rfl
    try simp only [Act.put, List.setIfInBounds_toArray, List.set_cons_zero, List.set_cons_succ]
    refine wpAnyF_tk 2 (some 29) (Op.nilCheck (Operand.tmp 28)) 0 (v := ?_) rfl (by kernel_rfl) (fun _ _ _ h => h) ?_ hHeld ?_
    rotate_left
    · intro w hSw
      try dsimp only at hSw
      obtain ⟨_, _, _, _⟩ := hSw
      dsimp only [bare]
      go_simp <;> with_reducible rfl
    try simp only [Act.put, List.setIfInBounds_toArray, List.set_cons_zero, List.set_cons_succ]
    refine wpAnyF_tk 3 (some 30) (Op.fieldAddr 58 (Operand.tmp 29) 0) 0 (v := ?_) rfl (by kernel_rfl) (fun _ _ _ h => h) ?_ hHeld ?_
    rotate_left
    · intro w hSw
      try dsimp only at hSw
      obtain ⟨_, _, _, _⟩ := hSw
      dsimp only [bare]
      go_simp <;> with_reducible rfl
    try simp only [Act.put, List.setIfInBounds_toArray, List.set_cons_zero, List.set_cons_succ]
    refine wpAnyF_tk 4 (some 31) (Op.load 56 (Operand.tmp 30)) 56 (v := ?_) rfl (by kernel_rfl) (fun _ _ _ h => h) ?_ hHeld ?_
    rotate_left
    · intro w hSw
      try dsimp only at hSw
      obtain ⟨_, _, _, _⟩ := hSw
      dsimp only [bare]
      go_simp <;> with_reducible rfl
    try simp only [Act.put, List.setIfInBounds_toArray, List.set_cons_zero, List.set_cons_succ]
    refine wpAnyF_tk 5 (some 32) (Op.move (Operand.tmp 4)) 3 (v := ?_) rfl (by kernel_rfl) (fun _ _ _ h => h) ?_ hHeld ?_
    rotate_left
    · intro w hSw
      try dsimp only at hSw
      obtain ⟨_, _, _, _⟩ := hSw
      dsimp only [bare]
      go_simp <;> with_reducible rfl
    try simp only [Act.put, List.setIfInBounds_toArray, List.set_cons_zero, List.set_cons_succ]
    refine wpAnyF_tk 6 (some 33) (Op.load 72 (Operand.tmp 3)) 72 (v := ?_) rfl (by kernel_rfl) (fun _ _ _ h => h) ?_ hHeld ?_
    rotate_left
    · intro w hSw
      try dsimp only at hSw
      obtain ⟨_, _, _, _⟩ := hSw
      dsimp only [bare]
      go_simp <;> with_reducible rfl
    try simp only [Act.put, List.setIfInBounds_toArray, List.set_cons_zero, List.set_cons_succ]
    refine wpAnyF_one 7 (some 34) (Op.buildSlice 56 1 #[(0, Operand.tmp 33)]) 56 rfl (by kernel_rfl) (fun K hK => ?_)
    dsimp only [bare]; go_simp
    obtain ⟨w3, hw3⟩ : ∃ z, z = (w2.alloc (.cells #[.string y.name, .slice y.p y.data.length y.c, .int .i64 (y.kept : Int)] 72)).drew := ⟨_, rfl⟩
    have bE : Below w2.heap.size w2 w3 := by rw [hw3]; exact (below_alloc w2 _).drew
    have hvb : w3.heap[w2.heap.size]? = some (.cells (entE.enc y).toArray 72 (0, 0)) := by rw [hw3]; exact Blk.new w2 #[.string y.name, .slice y.p y.data.length y.c, .int .i64 (y.kept : Int)] 72
    rw [← hw3]
    have hd3 := hd2.ext bE
    have m0 := (bE.cell (p := ⟨w.heap.size, 0, none⟩) hN).trans g0
    have m1 := (bE.cell (p := ⟨w.heap.size, 1, none⟩) hN).trans g1
    have m2 := (bE.cell (p := ⟨w.heap.size, 2, none⟩) hN).trans g2
    refine hK _ _ ⟨hd3.blk.cell 0 _ rfl, m0, m1, m2⟩ (fun hHeld => ?_)
    clear hK K hHeld
    try simp only [Act.put, List.setIfInBounds_toArray, List.set_cons_zero, List.set_cons_succ]
    refine wpAnyF_one 8 (some 35) (Op.call { callee := Callee.value (Operand.func 97), args := #[Operand.tmp 31, Operand.tmp 32, Operand.tmp 34], argTypes := #[56, 3, 56] }) 56 rfl (by kernel_rfl) (fun K hK => ?_)
    dsimp only [bare]; go_simp
    have hb3 := hb2.trans (bE.mono hb2.size)
    have hwl := fun k hk => hd3.fil.inV k hk
    have hvs : (Value.slice p ys.length cap).ownBlock ≠ some w2.heap.size := fun e => by have h1 := hd2.lt _ (hd2.fil.inV _ e); omega
    have hvN : (Value.slice p ys.length cap).ownBlock ≠ some w.heap.size := fun e => Nat.lt_irrefl _ (hFl _ (hd2.fil.inV _ e))
    have hz : Datas w3 F g (.slice p ys.length cap) (ys.take k ++ y :: ys.drop k) := hd3.datas.ins k (h12.ext bE) h2 h3 h4 h5
    rw [← hw3]
    refine (insFil 0 w2.heap.size k (.slice p ys.length cap) ys y w3 hd3.fil.row hvb hvs hk (by omega) (Nat.zero_le _)).mono ?_
    rintro e w4 ⟨v1, rfl, own1, hgr, _, hwh⟩
    dsimp only
    have hN3 : w.heap.size < w3.heap.size := Nat.lt_of_lt_of_le hN bE.size
    have kg : ∀ i u, w3.cell? ⟨w.heap.size, i, none⟩ = some u → w4.cell? ⟨w.heap.size, i, none⟩ = some u := fun i u h => hgr.cell (a := ⟨w.heap.size, i, none⟩) h (fun e => hvN e.symm)
    have kb4 : Blk w4 g #[.slice p ys.length cap, o, a, l] 58 := hd3.blk.grown hgr hd3.vg
    refine hK _ _ ⟨kb4.cell 0 _ rfl, kg _ _ m0, kg _ _ m1, kg _ _ m2⟩ (fun hHeld => ?_)
    clear hK K kg m0 m1 m2
    try simp only [Act.put, List.setIfInBounds_toArray, List.set_cons_zero, List.set_cons_succ]
    refine wpAnyF_tk 9 (some 36) (Op.nilCheck (Operand.tmp 27)) 0 (v := ?_) rfl (by kernel_rfl) (fun _ _ _ h => h) ?_ hHeld ?_
    rotate_left
    · intro w hSw
      try dsimp only at hSw
      obtain ⟨_, _, _, _⟩ := hSw
      dsimp only [bare]
      go_simp <;> with_reducible rfl
    try simp only [Act.put, List.setIfInBounds_toArray, List.set_cons_zero, List.set_cons_succ]
    refine wpAnyF_tk 10 (some 37) (Op.fieldAddr 58 (Operand.tmp 36) 0) 0 (v := ?_) rfl (by kernel_rfl) (fun _ _ _ h => h) ?_ hHeld ?_
    rotate_left
    · intro w hSw
      try dsimp only at hSw
      obtain ⟨_, _, _, _⟩ := hSw
      dsimp only [bare]
      go_simp <;> with_reducible rfl
    try simp only [Act.put, List.setIfInBounds_toArray, List.set_cons_zero, List.set_cons_succ]
    have fz := kb4.frozen 0
    have c4 := kb4.cell 0 _ rfl
    refine wpAnyF_end (none) (Op.store 56 (Operand.tmp 37) (Operand.tmp 35)) 0 rfl (by kernel_rfl) (by kernel_rfl) (fun K hK => ?_)
    have hres := hd3.putRow hgr own1 hwh hz
    have hend : DiskX (w4.setCell ⟨g, 0, none⟩ v1) (FF F w (w4.setCell ⟨g, 0, none⟩ v1)) g o a l (insE ys y) := by
      unfold insE; rw [Hp.out]
      exact ⟨v1, hres.1.back hb3.size hFl hres.2.size⟩
    have hchg : Chg F w (w4.setCell ⟨g, 0, none⟩ v1) := (Chg.of_below hb3).step hres.2
    generalize ys.take k ++ y :: ys.drop k = zs at *
    obtain ⟨p1, c1, rfl⟩ := own1.rd.shape
    have Hend := Lib.hid hend
    have Hchg := Lib.hid hchg
    clear hend hchg hres hz own1 hwh hgr hw3
    dsimp only [bare]; go_simp
    refine hK _ _ ?_
    clear hK K
    try simp only [Act.put, List.setIfInBounds_toArray, List.set_cons_zero, List.set_cons_succ]
    go_wp2_with fail
    go_end0
    exact ⟨rfl, Hend.out, Hchg.out⟩
end Go.Proofs.YtgpgcnmnfnnkjaaDoor
end
