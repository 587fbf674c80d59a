/- Strings as lists of bytes: what the walk wants to know of them. The write-ahead log: what the document takes of a record is what the program takes. A region in the text's order whose operations only read: walked as a quiet one (each step is cheap). append where what it makes may be a little more than what came in: the bound is growslice's own. impostbook.Within: a number brought into lo .. hi. What arguments that are slices read as, as lists ('Rd'). What an argument that is a slice of anything reads as ('Rd'), element by element; and what the reach says of what lies in it. impostbook.Same[string] of two rows that are the same (out of RfT). Steps of a region by RegF, guarded operations among them: those that are wanted, those that are not. -/
import Derived.Test.YtgpgcnmnfnnkjaaDoorRows
import Derived.Test.YtgpgcnmnfnnkjaaDoorGWalCuts0
import Derived.Laws.IdiomStrings
import Derived.Test.YtgpgcnmnfnnkjaaDoorGWalCuts13
import Derived.Test.YtgpgcnmnfnnkjaaDoorGWalCuts3
import Derived.Test.YtgpgcnmnfnnkjaaDoorGWalCuts2
import Derived.Deep.DeepAppendWide
import Derived.Test.YtgpgcnmnfnnkjaaDoorGWalCuts1
import Derived.Deep.Slices
import Derived.Test.YtgpgcnmnfnnkjaaDoorGWalCuts4
import Derived.Test.YtgpgcnmnfnnkjaaDoorGWalCuts6
set_option linter.unusedVariables false
set_option linter.unusedSimpArgs false
section
namespace Go.Proofs.YtgpgcnmnfnnkjaaDoor
open Go Go.RowKit

theorem str_ex (s : ByteArray) : ∃ l : List UInt8, s = { data := l.toArray } := ⟨s.data.toList, by simp⟩
theorem str_size (l : List UInt8) : ({ data := l.toArray } : ByteArray).size = l.length := by simp [ByteArray.size]
theorem str_at (l : List UInt8) (i : Nat) (h : i < ({ data := l.toArray } : ByteArray).size) : ({ data := l.toArray } : ByteArray)[i] = l[i]'(by rw [← str_size]; exact h) := by
  show l.toArray[i]'_ = _
  simp
theorem str_extract (l : List UInt8) (a b : Nat) : ({ data := l.toArray } : ByteArray).extract a b = { data := ((l.drop a).take (b - a)).toArray } := by
  apply ByteArray.ext
  simp [ByteArray.data_extract]
theorem str_toList (l : List UInt8) : ({ data := l.toArray } : ByteArray).toList = l := by
  simp
end Go.Proofs.YtgpgcnmnfnnkjaaDoor
end

section
namespace Go.Proofs.YtgpgcnmnfnnkjaaDoor
/-- the document's step -/
def docNext (h : Hrd) : Rec → Option Hrd
  | .beg g => some g
  | .ety x => some { h with log := h.log ++ [x] }
  | .rdy => some h
  | .vot t v => if t < h.term ∨ (t = h.term ∧ h.vote ≠ -1) then none else some { h with term := t, vote := v }
  | .cut n => if n < h.base ∨ h.base + h.log.length < n then none else some { h with log := h.log.take (n - h.base).toNat }
def docOk (g : Hrd) (opn : Bool) (k : Int) : Bool := bareH g && (if opn then decide (k = 2) || decide (k = 3) else decide (k ≠ 1) && decide (k ≠ 3))
def docStep (h : Hrd) (opn : Bool) (r : Rec) : Option Hrd := (docNext h r).bind fun g => if docOk g opn r.kind then some g else none
theorem headOk_iff (h : Hrd) : headOk h = true ↔ (0 ≤ h.term ∧ h.term ≤ 1099511627776 ∧ -1 ≤ h.vote ∧ h.vote < 7 ∧ 1 ≤ h.members ∧ h.members ≤ 127 ∧ 0 ≤ h.base ∧ h.base ≤ 1099511627776 ∧ 0 ≤ h.bterm ∧ h.bterm ≤ h.term ∧ (h.bterm = 0 ↔ h.base = 0)) := by
  unfold headOk
  simp only [Bool.and_eq_true, decide_eq_true_eq, beq_iff_eq, and_assoc, decide_eq_decide]
theorem fits_mono {x : Ety} {b t t' : Int} (h : fitsE x b t = true) (ht : t ≤ t') : fitsE x b t' = true := by
  unfold fitsE at *
  simp only [Bool.and_eq_true, decide_eq_true_eq, Bool.or_eq_true] at *
  omega
theorem logOk_mono : ∀ {l : List Ety} {b t t' : Int}, logOk l b t = true → t ≤ t' → logOk l b t' = true
  | [], _, _, _, _, _ => rfl
  | x :: r, b, t, t', h, ht => by
    rw [logOk, Bool.and_eq_true] at *
    exact ⟨fits_mono h.1 ht, logOk_mono h.2 ht⟩
theorem docOk_no {g : Hrd} {o : Bool} {k : Int} (h : bareH g = false) : docOk g o k = false := by unfold docOk; rw [h]; rfl
theorem doc_step {s : Sg} (ok : SgOk s) (hb : s.begun = true) (r : Rec) : docStep s.h (!s.whole) r = (stepS s r).map (·.h) := by
  have hbare := ok.bare hb
  obtain ⟨hh, hl, hli, hlo⟩ := (bareH_iff _).1 hbare
  have hh' := (headOk_iff _).1 hh
  unfold docStep
  cases r with
  | beg h =>
    show (if docOk h (!s.whole) 1 = true then some h else none) = (beganS s h).map (·.h)
    have h1 : docOk h (!s.whole) 1 = false := by unfold docOk; cases s.whole <;> cases bareH h <;> rfl
    have h2 : beganS s h = none := if_neg (by rw [hb]; simp)
    rw [h1, h2]; rfl
  | ety x =>
    show (if docOk { s.h with log := s.h.log ++ [x] } (!s.whole) 2 = true then some _ else none) = (if s.begun = true then grownS s x else none).map (·.h)
    rw [if_pos hb]
    have hiff : bareH { s.h with log := s.h.log ++ [x] } = true ↔ (s.h.log.length < 200 ∧ s.h.base + s.h.log.length < 1099511627776 ∧ fitsE x (lastT s.h.log s.h.bterm) s.h.term = true) := by
      rw [bareH_iff]
      show headOk s.h = true ∧ (s.h.log ++ [x]).length ≤ 200 ∧ ((s.h.log ++ [x]).length : Int) ≤ 1099511627776 - s.h.base ∧ logOk (s.h.log ++ [x]) s.h.bterm s.h.term = true ↔ _
      rw [logOk_app, hlo, Bool.true_and, logOk, logOk, Bool.and_true, List.length_append, List.length_singleton]
      constructor
      · rintro ⟨_, h1, h2, h3⟩; exact ⟨by omega, by omega, h3⟩
      · rintro ⟨h1, h2, h3⟩; exact ⟨hh, by omega, by omega, h3⟩
    unfold grownS
    cases hc : bareH { s.h with log := s.h.log ++ [x] } with
    | true =>
      have h2 : docOk { s.h with log := s.h.log ++ [x] } (!s.whole) 2 = true := by unfold docOk; rw [hc]; cases s.whole <;> rfl
      rw [if_pos (hiff.1 hc), if_pos h2]; rfl
    | false =>
      have h3 : ¬ (s.h.log.length < 200 ∧ s.h.base + s.h.log.length < 1099511627776 ∧ fitsE x (lastT s.h.log s.h.bterm) s.h.term = true) := fun h => by have h4 := hiff.2 h; rw [hc] at h4; cases h4
      rw [docOk_no hc, if_neg h3]; rfl
  | rdy =>
    show (if docOk s.h (!s.whole) 3 = true then some s.h else none) = (doneS s).map (·.h)
    unfold doneS docOk
    rw [hbare, hb]
    cases s.whole <;> rfl
  | vot t v =>
    show (if t < s.h.term ∨ (t = s.h.term ∧ s.h.vote ≠ -1) then none else some _ : Option Hrd).bind (fun g => if docOk g (!s.whole) 4 = true then some g else none) = (votedS s t v).map (·.h)
    unfold votedS
    by_cases hbad : t < s.h.term ∨ (t = s.h.term ∧ s.h.vote ≠ -1)
    · rw [if_pos hbad, if_neg]
      · rfl
      · rintro ⟨_, h1, h2, _⟩
        rcases hbad with h | h
        · omega
        · exact h2 h
    · rw [if_neg hbad]
      have hge : s.h.term ≤ t := by
        rcases Int.lt_or_le t s.h.term with h | h
        · exact absurd (.inl h) hbad
        · exact h
      have hiff : bareH { s.h with term := t, vote := v } = true ↔ (t ≤ 1099511627776 ∧ -1 ≤ v ∧ v < 7) := by
        rw [bareH_iff, headOk_iff]
        dsimp only
        constructor
        · rintro ⟨h1, _⟩; exact ⟨h1.2.1, h1.2.2.1, h1.2.2.2.1⟩
        · rintro ⟨h1, h2, h3⟩; exact ⟨⟨by omega, h1, h2, h3, hh'.2.2.2.2.1, hh'.2.2.2.2.2.1, hh'.2.2.2.2.2.2.1, hh'.2.2.2.2.2.2.2.1, hh'.2.2.2.2.2.2.2.2.1, by omega, hh'.2.2.2.2.2.2.2.2.2.2⟩, hl, hli, logOk_mono hlo hge⟩
      show (if docOk { s.h with term := t, vote := v } (!s.whole) 4 = true then some _ else none) = _
      cases hw : s.whole with
      | false =>
        have h2 : docOk { s.h with term := t, vote := v } (!false) 4 = false := by unfold docOk; cases bareH { s.h with term := t, vote := v } <;> rfl
        rw [h2, if_neg (show ¬ (false = true ∧ s.h.term ≤ t ∧ ¬ (t = s.h.term ∧ s.h.vote ≠ -1) ∧ t ≤ 1099511627776 ∧ -1 ≤ v ∧ v < 7) from fun h => by cases h.1)]; rfl
      | true =>
        cases hc : bareH { s.h with term := t, vote := v } with
        | true =>
          have h2 : docOk { s.h with term := t, vote := v } (!true) 4 = true := by unfold docOk; rw [hc]; rfl
          obtain ⟨h3, h4, h5⟩ := hiff.1 hc
          rw [h2, if_pos (show true = true ∧ s.h.term ≤ t ∧ ¬ (t = s.h.term ∧ s.h.vote ≠ -1) ∧ t ≤ 1099511627776 ∧ -1 ≤ v ∧ v < 7 from ⟨rfl, hge, fun h => hbad (.inr h), h3, h4, h5⟩)]; rfl
        | false =>
          have h3 : ¬ (true = true ∧ s.h.term ≤ t ∧ ¬ (t = s.h.term ∧ s.h.vote ≠ -1) ∧ t ≤ 1099511627776 ∧ -1 ≤ v ∧ v < 7) := fun h => by have h4 := hiff.2 ⟨h.2.2.2.1, h.2.2.2.2.1, h.2.2.2.2.2⟩; rw [hc] at h4; cases h4
          rw [docOk_no hc, if_neg h3]; rfl
  | cut n =>
    show (if n < s.h.base ∨ s.h.base + s.h.log.length < n then none else some _ : Option Hrd).bind (fun g => if docOk g (!s.whole) 5 = true then some g else none) = (shorterS s n).map (·.h)
    unfold shorterS
    by_cases hbad : n < s.h.base ∨ s.h.base + s.h.log.length < n
    · rw [if_pos hbad, if_neg (by rintro ⟨_, h1, h2⟩; omega)]; rfl
    · rw [if_neg hbad]
      have hc : bareH { s.h with log := s.h.log.take (n - s.h.base).toNat } = true := by
        rw [bareH_iff]
        have hl2 : (s.h.log.take (n - s.h.base).toNat).length ≤ s.h.log.length := by rw [List.length_take]; omega
        exact ⟨hh, Nat.le_trans hl2 hl, by show ((s.h.log.take _).length : Int) ≤ 1099511627776 - s.h.base; omega, logOk_take hlo _⟩
      show (if docOk { s.h with log := s.h.log.take (n - s.h.base).toNat } (!s.whole) 5 = true then some _ else none) = _
      unfold docOk
      rw [hc]
      cases hw : s.whole with
      | false => rw [if_neg (show ¬ (false = true ∧ s.h.base ≤ n ∧ n - s.h.base ≤ s.h.log.length) from fun h => by cases h.1)]; rfl
      | true => rw [if_pos (show true = true ∧ s.h.base ≤ n ∧ n - s.h.base ≤ s.h.log.length from ⟨rfl, by omega, by omega⟩)]; rfl
end Go.Proofs.YtgpgcnmnfnnkjaaDoor
end

section
namespace Go.Proofs.YtgpgcnmnfnnkjaaDoor
open Go Go.RowKit
theorem wpList_of_quiet {P : Program} {ops : Array Oper} {C : World → Prop} {K : Act → Prop} {Q : Exit → Act → World → Prop} (hK : ∀ a w, C w → K a → Q .normal a w) : ∀ (rest : List Oper) (a : Act) (w : World), C w → wpQuiet P ops C K rest a → wpList P ops Q rest a w
  | [], a, w, hw, h => hK a w hw h
  | o :: rest, a, w, hw, h => by
    unfold wpQuiet at h
    unfold wpList
    split
    · rename_i hq
      rw [if_pos hq] at h
      exact .inl (Oper.wp_of_quiet hw (fun a' w' hw' h' => wpList_of_quiet hK rest a' w' hw' h') h)
    · rename_i hq
      rw [if_neg hq] at h
      exact wpList_of_quiet hK rest _ w hw h
theorem wp_region_plain {P : Program} {id : Nat} {Q : Exit → Act → World → Prop} {a : Act} {W : World} {l : List Oper}
    (h : wpQuiet P l.toArray (fun w' => w' = W) (fun a' => Q .normal a' W) l a) : (Code.region id l.toArray false).wp P Q a W :=
  wp_region_lit (wpList_of_quiet (C := fun w' => w' = W) (K := fun a' => Q .normal a' W) (fun a w hw h => by subst hw; exact h) l a W rfl h)
theorem wp_region_plain2 {P : Program} {id : Nat} {Q : Exit → Act → World → Prop} {a : Act} {W : World} {l' l : List Oper} (hl : l' = l)
    (h : wpQuiet P l.toArray (fun w' => w' = W) (fun a' => Q .normal a' W) l a) : (Code.region id l'.toArray false).wp P Q a W := by
  subst hl; exact wp_region_plain h
end Go.Proofs.YtgpgcnmnfnnkjaaDoor
end

section
namespace Go.Proofs.YtgpgcnmnfnnkjaaDoor
open Go Go.RowKit
theorem run_appX {P : Program} {t e : TypeId} {sz bytes : Nat} (T : SlT P t e sz bytes) {w : World} (ty : TypeId) {B n : Nat} {v : Value} {xs : List Value} (own : Own w B e sz v n xs)
    {m : Nat} {x : Value} {news : List Value} (src : Cells w sz x m news) (hmax : n + m ≤ maxLen) (hbytes : ((n + m) + (n + m) / 4 + 192) * bytes ≤ 281474976710656) (hB : B ≤ w.heap.size) :
    ∃ v' w', (Builtin.append_ #[t, t] ty #[v, x]).run P w = .ok v' w' ∧ Own w' B e sz v' (n + m) (xs ++ news) ∧ w.grownBy w' v.ownBlock ∧ Below B w w' := by
  obtain ⟨i, z, hi, hz, hs, hby, hzs⟩ := T.info
  obtain ⟨c1, c0, p, cap, rfl, c2, c3, c4, c5⟩ := src
  have hall : ∀ u ∈ xs ++ news, u.oneCell' = true := by
    intro u hu; rcases List.mem_append.1 hu with h | h
    · exact own.2 u h
    · exact c0 u h
  cases p with
  | none =>
    have hc := c4 rfl; subst hc
    have hm : m = 0 := by omega
    subst hm
    have hn : news = [] := List.length_eq_zero_iff.1 (by simpa using c1)
    subst hn
    refine ⟨v, w, run_append_owned_none w B t ty e i sz T.under hi v n xs own.1, ?_, World.grownBy.refl _ _, Below.refl _ _⟩
    simpa using own
  | some a =>
    have hpos : ∀ {j : Nat} {u : Value}, news[j]? = some u → 0 < m := fun {j u} hu => by
      have := (List.getElem?_eq_some_iff.1 hu).1
      rcases Nat.eq_zero_or_pos m with h0 | h0
      · subst h0; omega
      · exact h0
    obtain ⟨v', w', hr, h2, h3, _⟩ := run_append_own_wide (P := P) w B t ty e i z sz bytes T.under hi hz hs hby hzs T.pos v n xs own.1 a m cap news c1
      (fun j u hu => by obtain ⟨c6, c7⟩ := c5 a rfl (hpos hu); rw [addr_add a c6]; exact c7 j u hu) c0 hmax hbytes hB
    exact ⟨v', w', hr, ⟨h2, hall⟩, h3, below_grown h3 hB fun k hk => (own.1.lt k hk).1⟩
section
variable {P : Program} {t e : TypeId} {bytes : Nat} {w : World} {ops : Array Oper} {o : Oper} {rest : List Oper} {a : Act} {Q : Exit → Act → World → Prop} {α : Type} {E : Enc α}
theorem wpList_appX (T : SlT P t e E.sz bytes) (hgd : o.guard = none) {s y : Operand} (ho : o.op = .call { callee := .builtin .append, args := #[s, y], argTypes := #[t, t] })
    {B : Nat} {v : Value} {l : List α} (own : OwnR E w B e v l) (hs : a.eval s = v)
    {x : Value} {m : List α} (src : Rd E w x m) (hx : a.eval y = x) (hmax : l.length + m.length ≤ maxLen) (hbytes : ((l.length + m.length) + (l.length + m.length) / 4 + 192) * bytes ≤ 281474976710656) (hB : B ≤ w.heap.size)
    (h : ∀ v' w', OwnR E w' B e v' (l ++ m) → w.grownBy w' v.ownBlock → Below B w w' → wpList P ops Q rest (a.put o.dst v') w') : wpList P ops Q (o :: rest) a w := by
  obtain ⟨v', w', hr, h2, h3, h4⟩ := run_appX T o.type own src hmax hbytes hB
  refine wpList_plain hgd fun K hK => ?_
  unfold Oper.wp execOp
  simp only [ho, resolve, invoke, builtin, Sem.run_bind, Sem.run_pure, Result.andThen_ok, List.map_toArray, List.map_cons, List.map_nil, hs, hx, hr]
  exact hK _ _ (h v' w' (OwnR.snoc h2) h3 h4)
theorem step_appX {K : Act → World → Prop} {X : Prop} (T : SlT P t e E.sz bytes) (hgd : o.guard = none) {s y : Operand} (ho : o.op = .call { callee := .builtin .append, args := #[s, y], argTypes := #[t, t] })
    {B : Nat} {v : Value} {l : List α} (own : OwnR E w B e v l) (hs : a.eval s = v)
    {x : Value} {m : List α} (src : Rd E w x m) (hx : a.eval y = x) (hmax : l.length + m.length ≤ maxLen) (hbytes : ((l.length + m.length) + (l.length + m.length) / 4 + 192) * bytes ≤ 281474976710656) (hB : B ≤ w.heap.size)
    (h : ∀ v' w', OwnR E w' B e v' (l ++ m) → w.grownBy w' v.ownBlock → Below B w w' → K (a.put o.dst v') w') : if Region.wanted o (yielded ops a.tmps) = true then Oper.wp P o a w K Q else X := by
  have hw : Region.wanted o (yielded ops a.tmps) = true := by simp [Region.wanted, hgd]
  rw [if_pos hw]
  obtain ⟨v', w', hr, h2, h3, h4⟩ := run_appX T o.type own src hmax hbytes hB
  unfold Oper.wp execOp
  simp only [ho, resolve, invoke, builtin, Sem.run_bind, Sem.run_pure, Result.andThen_ok, List.map_toArray, List.map_cons, List.map_nil, hs, hx, hr]
  exact h v' w' (OwnR.snoc h2) h3 h4
end
end Go.Proofs.YtgpgcnmnfnnkjaaDoor
end

section
namespace Go.Proofs.YtgpgcnmnfnnkjaaDoor
open Go Go.RowKit

/-- a number brought into lo .. hi -/
def within (n lo hi : Int) : Int := lo + n % (hi - lo + 1)
theorem within_bounds (n lo hi : Int) (h : lo ≤ hi) : lo ≤ within n lo hi ∧ within n lo hi ≤ hi := by
  unfold within
  have h1 := Int.emod_nonneg n (show hi - lo + 1 ≠ 0 by omega)
  have h2 := Int.emod_lt_of_pos n (show 0 < hi - lo + 1 by omega)
  omega

theorem tmod_mod (n d : Int) (hd : 0 < d) : -d < n.tmod d ∧ n.tmod d < d ∧ (0 ≤ n.tmod d → n % d = n.tmod d) ∧ (n.tmod d < 0 → n % d = n.tmod d + d) := by
  rcases Int.lt_or_le n 0 with hn | hn
  · have e : n.tmod d = -((-n).tmod d) := by rw [Int.neg_tmod]; omega
    have e2 : (-n).tmod d = (-n) % d := Int.tmod_eq_emod_of_nonneg (by omega)
    have h1 := Int.emod_nonneg (-n) (show d ≠ 0 by omega)
    have h2 := Int.emod_lt_of_pos (-n) hd
    have h3 := Int.emod_nonneg n (show d ≠ 0 by omega)
    have h4 := Int.emod_lt_of_pos n hd
    have h5 := Int.emod_add_mul_ediv n d
    have h6 := Int.emod_add_mul_ediv (-n) d
    generalize n.tmod d = t at *
    generalize (-n) % d = s at *
    generalize n % d = r at *
    have h7 : d * (n / d + -n / d) = - (r + s) := by rw [Int.mul_add]; omega
    generalize n / d + -n / d = q at h7
    have h8 : q = 0 ∨ q = -1 := by
      rcases Int.lt_trichotomy q 0 with h | h | h
      · by_cases hq : q = -1
        · exact .inr hq
        · have : d * q ≤ d * (-2) := Int.mul_le_mul_of_nonneg_left (by omega) (by omega)
          omega
      · exact .inl h
      · have : d * 1 ≤ d * q := Int.mul_le_mul_of_nonneg_left (by omega) (by omega)
        omega
    rcases h8 with rfl | rfl <;> omega
  · have e2 : n.tmod d = n % d := Int.tmod_eq_emod_of_nonneg hn
    have h3 := Int.emod_nonneg n (show d ≠ 0 by omega)
    have h4 := Int.emod_lt_of_pos n hd
    omega

set_option maxHeartbeats 400000 in
theorem withinCalls (n lo hi : Int) (w : World) (h0 : -2305843009213693952 ≤ lo) (h1 : lo ≤ hi) (h2 : hi ≤ 2305843009213693952) :
    Calls Tryd.prog 18 #[.int .i64 n, .int .i64 lo, .int .i64 hi] w fun e w' => e = .returned (.int .i64 (within n lo hi)) ∧ w = w' := by
  obtain ⟨t1, t2, t3, t4⟩ := tmod_mod n (hi - lo + 1) (by omega)
  go_enter Tryd.func18, Tryd.ntmps18
  go_wp2
  · go_ret
    exact ⟨ret_int (by unfold within; rw [t4 (by assumption)]; omega), rfl⟩
  · go_ret
    exact ⟨ret_int (by unfold within; rw [t3 (by assumption)]), rfl⟩

end Go.Proofs.YtgpgcnmnfnnkjaaDoor
end

section
namespace Go.Proofs.YtgpgcnmnfnnkjaaDoor
open Go Go.RowKit Go.ChangeShapes Go.WideShapes Go.ChangeAt

theorem spot_none {W : World} {x : Addr} {v : Value} (h : W.cell? (x.add 0) = some v) : x.spot = none := by
  rw [show x.add 0 = x from by simp [Addr.add]] at h
  unfold World.cell? at h
  split at h
  · by_cases hsp : x.spot.isSome = true
    · rw [if_pos hsp] at h; cases h
    · simpa using hsp
  · cases h

theorem open_ints1 {H : Type} {enc : TypeId × Value → H} {P : Program} {W : World} {t e : TypeId} {base : Nat} {v : Value} {d : DataW H} {p : List MemPlace}
    (hu : P.underlying t = some (.slice e)) (he : P.underlying e = some (.int .i64)) (hc : P.cellsOf e = 1) (hok : Value.okWide P W .any base t v)
    (h : DataW.Trod enc P W 0 (fun _ => true) true t v d p) : ∃ l : List Int, Rd intsE W v l ∧ (∀ x ∈ l, -9223372036854775808 ≤ x ∧ x ≤ 9223372036854775807) ∧ DLen d l.length := by
  obtain ⟨a, len, cap, rfl⟩ := okWide_slice hu hok
  obtain ⟨fuel, hf⟩ := h
  rcases open_ints hu he hc hf with ⟨hcs, hx⟩ | ⟨x, l, c, zs, hcs, _, hl, hm, hz, hx, hcell, hwz⟩
  · simp [Value.cells] at hcs
    obtain ⟨rfl, rfl, rfl⟩ := hcs
    simp only [Prod.mk.injEq] at hx
    exact ⟨[], Rd.nil W, by simp, .inl ⟨hx.1, rfl⟩⟩
  · simp [Value.cells] at hcs
    obtain ⟨rfl, rfl, rfl⟩ := hcs
    simp only [Prod.mk.injEq] at hx
    simp at hz
    have hlen : (zs.take len).length = len := by rw [List.length_take]; omega
    refine ⟨zs.take len, ?_, fun y hy => ?_, .inr ⟨_, _, hx.1, ?_⟩⟩
    · unfold Rd
      rw [hlen]
      refine ⟨by rw [intsE.all_length, hlen], intsE.all_oneCell _, some x, cap, rfl, hl, hm, fun h => (by cases h), fun a ha hn => ?_⟩
      cases ha
      have hs := spot_none (hcell 0 (by omega))
      refine ⟨hs, fun i u hu => ?_⟩
      have hi : i < len := by
        have := (List.getElem?_eq_some_iff.1 hu).1
        rw [intsE.all_length, hlen] at this; simpa [intsE] using this
      have e1 := intsE.all_get (zs.take len) i (by omega) 0 Nat.one_pos
      simp only [intsE, Nat.mul_one, Nat.add_zero] at e1
      have hu' : (Enc.all intsE (zs.take len))[i]? = some u := hu
      simp only [intsE] at hu'
      rw [e1] at hu'
      simp at hu'
      subst hu'
      have := hcell i (by omega)
      rw [addr_add x hs] at this
      rw [this]
      simp [List.getD, show i < zs.length from by omega]
    · have := hwz y (List.mem_of_mem_take hy)
      simp [Lit.wf, IntKind.min, IntKind.max, IntKind.bits, IntKind.signed] at this; omega
    · rw [hlen]; simp [lits]; omega
end Go.Proofs.YtgpgcnmnfnnkjaaDoor
end

section
namespace Go.Proofs.YtgpgcnmnfnnkjaaDoor
open Go Go.RowKit Go.ChangeShapes Go.WideShapes Go.ChangeAt Go.Deep

/-- an element's data is among the slice's -/
def InSlice {H : Type} (P : Program) (t e : TypeId) (d dx : DataW H) : Prop := ∀ n ∈ dx.weights P e, n ∈ d.weights P t
theorem weightsAll_mem {H : Type} {P : Program} {e : TypeId} {l : List (DataW H)} {d : DataW H} (hd : d ∈ l) : ∀ n ∈ d.weights P e, n ∈ DataW.weightsAll P e l := by
  intro n hn
  induction l with
  | nil => cases hd
  | cons x l ih =>
    simp only [DataW.weightsAll, List.mem_append]
    rcases List.mem_cons.1 hd with rfl | h
    · exact .inl hn
    · exact .inr (ih h)

theorem open_rd_core {α : Type} (E : Enc α) {H : Type} {enc : TypeId × Value → H} {P : Program} {W : World} {t e : TypeId} {fuel0 : Nat} {cs0 : List Value} {y0 : DataW H × List MemPlace}
    (hu : P.underlying t = some (.slice e)) (hC : P.cellsOf e = E.sz) (G : α → DataW H → Prop)
    (elem : ∀ fuel cs y, DataW.trod enc P W 0 (fun _ => true) true fuel e cs = some y → ∃ x, cs = E.enc x ∧ G x y.1)
    (hf : DataW.trod enc P W 0 (fun _ => true) true fuel0 t cs0 = some y0) :
    ∃ (v : Value) (l : List α), cs0 = [v] ∧ Rd E W v l ∧ DLen y0.1 l.length ∧ ∀ x ∈ l, ∃ dx, G x dx ∧ InSlice P t e y0.1 dx := by
  rcases open_slice hu hf with ⟨hcs, hx⟩ | ⟨a, len0, cap0, m, n, D, Pl, hcs, _, hl, hm, hmm, hx, hi⟩
  · subst hx
    exact ⟨_, [], hcs, Rd.nil W, .inl ⟨rfl, rfl⟩, by simp⟩
  · subst hx
    simp at hmm
    have hlm : len0 ≤ m := by omega
    have hel : ∀ i, i < len0 → ∃ x, G x (D i) ∧ ∀ j, j < E.sz → W.cell? (a.add (i * E.sz + j)) = (E.enc x)[j]? := fun i hlt => by
      obtain ⟨cs', hc, ht⟩ := hi i (by omega)
      obtain ⟨x, rfl, hg⟩ := elem _ _ _ ht
      rw [hC] at hc
      obtain ⟨_, _, hat⟩ := World.cells?_some hc
      exact ⟨x, hg, fun j hj => by rw [← Go.Deep.add_add]; exact hat j hj⟩
    have hex : ∃ l : List α, l.length = len0 ∧ ∀ i (h : i < l.length), G l[i] (D i) ∧ ∀ j, j < E.sz → W.cell? (a.add (i * E.sz + j)) = (E.enc l[i])[j]? := by
      clear hi hmm hl hm hlm hf hcs
      induction len0 with
      | zero => exact ⟨[], rfl, fun i h => by simp at h⟩
      | succ k ih =>
        obtain ⟨l, h1, h2⟩ := ih (fun i hlt => hel i (by omega))
        obtain ⟨x, h3, h4⟩ := hel k (by omega)
        refine ⟨l ++ [x], by simp [h1], fun i hlt => ?_⟩
        by_cases hik : i < l.length
        · rw [List.getElem_append_left hik]; exact h2 i hik
        · obtain rfl : i = k := by simp at hlt; omega
          rw [List.getElem_append_right (by omega)]
          simp only [h1, Nat.sub_self, List.getElem_cons_zero]
          exact ⟨h3, h4⟩
    obtain ⟨l, h1, h2⟩ := hex
    refine ⟨_, l, hcs, ?_, .inr ⟨_, _, rfl, by simp [h1]⟩, fun x hx' => ?_⟩
    · unfold Rd
      rw [h1]
      refine ⟨by rw [E.all_length, h1], E.all_oneCell _, some a, cap0, rfl, hl, hm, fun h => (by cases h), fun a' ha hn => ?_⟩
      cases ha
      have hpos := E.pos
      have h0 : 0 < l.length := by omega
      have hs : a.spot = none := by
        have h3 := (h2 0 h0).2 0 hpos
        have hj : 0 < (E.enc l[0]).length := by rw [E.len]; exact hpos
        rw [List.getElem?_eq_getElem hj, Nat.zero_mul, Nat.zero_add] at h3
        exact spot_none h3
      refine ⟨hs, fun i u hu' => ?_⟩
      have hlt := (List.getElem?_eq_some_iff.1 hu').1
      rw [E.all_length] at hlt
      have hdm := Nat.div_add_mod i E.sz
      have hq : i / E.sz < l.length := by rw [Nat.div_lt_iff_lt_mul hpos]; exact hlt
      have hr := Nat.mod_lt i hpos
      have h3 := (h2 (i / E.sz) hq).2 (i % E.sz) hr
      have h4 := E.all_get l (i / E.sz) hq (i % E.sz) hr
      rw [Nat.mul_comm, hdm] at h4
      rw [Nat.mul_comm, hdm, ← h4, hu', addr_add a hs] at h3
      exact h3
    · obtain ⟨i, hlt, rfl⟩ := List.getElem_of_mem hx'
      refine ⟨D i, (h2 i hlt).1, fun n hn => ?_⟩
      simp only [DataW.weights, hu, List.mem_cons, List.mem_append]
      exact .inr (.inl (weightsAll_mem (List.mem_map.2 ⟨i, by simp; omega, rfl⟩) n hn))

theorem open_rd {α : Type} (E : Enc α) {H : Type} {enc : TypeId × Value → H} {P : Program} {W : World} {t e : TypeId} {base : Nat} {v : Value} {d : DataW H} {p : List MemPlace}
    (hu : P.underlying t = some (.slice e)) (hC : P.cellsOf e = E.sz) (G : α → DataW H → Prop)
    (elem : ∀ fuel cs y, DataW.trod enc P W 0 (fun _ => true) true fuel e cs = some y → ∃ x, cs = E.enc x ∧ G x y.1)
    (hok : Value.okWide P W .any base t v) (h : DataW.Trod enc P W 0 (fun _ => true) true t v d p) :
    ∃ l : List α, Rd E W v l ∧ DLen d l.length ∧ ∀ x ∈ l, ∃ dx, G x dx ∧ InSlice P t e d dx := by
  obtain ⟨a0, len0, cap0, rfl⟩ := okWide_slice hu hok
  obtain ⟨fuel, hf⟩ := h
  obtain ⟨v', l, hcs, h1, h2, h3⟩ := open_rd_core E hu hC G elem hf
  have e1 : v' = .slice a0 len0 cap0 := by simpa [Value.cells] using hcs.symm
  subst e1
  exact ⟨l, h1, h2, h3⟩

/-- what a string's length is bound by -/
theorem weigh_string {H : Type} {P : Program} {t : TypeId} {s : ByteArray} : s.size ∈ (DataW.lit (.string s.data.toList) : DataW H).weights P t := by
  simp only [DataW.weights, List.mem_singleton]
  exact (Array.length_toList (xs := s.data)).symm
theorem weigh_field {H : Type} {P : Program} {t : TypeId} {fs : Array Field} {parts : List (DataW H)} (hs : P.underlying t = some (.struct fs)) {j : Nat} {f : Field} {d : DataW H} (hf : fs[j]? = some f) (hd : parts[j]? = some d) : ∀ n ∈ d.weights P f.type, n ∈ (DataW.agg parts).weights P t := by
  intro n hn
  simp only [DataW.weights, hs]
  exact DataW.weights_mem_each (j := j) (by rw [List.getElem?_map, ← Array.getElem?_toList] at *; simp [hf]) hd n hn
theorem reach_of {H : Type} {P : Program} {ts : List TypeId} {ds : List (DataW H)} (h : (DataW.weightsEach P ts ds).all (· ≤ reachBytes) = true) {j : Nat} {t : TypeId} {d : DataW H} (ht : ts[j]? = some t) (hd : ds[j]? = some d) {n : Nat} (hn : n ∈ d.weights P t) : n ≤ 140737488351232 := by
  have := List.all_eq_true.1 h _ (DataW.weights_mem_each ht hd n hn)
  have h2 := of_decide_eq_true this
  exact h2
end Go.Proofs.YtgpgcnmnfnnkjaaDoor
end

section
namespace Go.Proofs.YtgpgcnmnfnnkjaaDoor
open Go Go.RowKit BigFrame Go.PlainAid
attribute [local go_sem] After.same
set_option maxHeartbeats 400000 in
theorem sameStrs (v u : Value) (l : List ByteArray) (w : World) (hv : Rd strE w v l) (hu : Rd strE w u l) :
    Calls Tryd.prog 10 #[v, u] w fun e w' => e = .returned (.bool true) ∧ ∃ n, w' = w.drewN n := by
  obtain ⟨p, cap, rfl, h1, h2, h3, h4⟩ := hv.form
  obtain ⟨q, dap, rfl, g1, g2, g3, g4⟩ := hu.form
  clear hv hu h3 g3
  unfold maxLen at h2 g2
  go_enter Tryd.func10, Tryd.ntmps10
  go_wp2
  go_loopw [5] (fun i wr => ∃ k : Nat, k ≤ l.length ∧ i = .int .i64 k ∧ ∃ n, wr = w.drewN n) (fun i _ => l.length - (intOf i).toNat)
  case atStart => exact ⟨0, by omega, rfl, 0, rfl⟩
  case round =>
    obtain ⟨k, hk, rfl, n, rfl⟩ := hrel
    by_cases hlt : k < l.length
    · obtain ⟨b, off, rfl, hc⟩ := h4 (by omega)
      obtain ⟨b', off', rfl, hc'⟩ := g4 (by omega)
      have c1 : w.cell? ⟨b, off + k, none⟩ = some (.string l[k]) := by
        have h := hc k hlt 0 (by decide)
        rw [show off + (k * strE.sz + 0) = off + k from by show off + (k * 1 + 0) = _; omega] at h; exact h
      have c2 : w.cell? ⟨b', off' + k, none⟩ = some (.string l[k]) := by
        have h := hc' k hlt 0 (by decide)
        rw [show off' + (k * strE.sz + 0) = off' + k from by show off' + (k * 1 + 0) = _; omega] at h; exact h
      clear h4 g4 hc hc'
      have hi1 : (k : Int) < (l.length : Int) := by omega
      go_wp2
      go_quiet (fail)
      go_wp2
      go_roundw
      case rel => exact ⟨k + 1, by omega, by go_num, _, by first | rfl | exact World.drewN_drewN _ _ _⟩
      case measure => simp [intOf]; omega
    · go_wp2
      go_ret
      exact ⟨rfl, n, rfl⟩
end Go.Proofs.YtgpgcnmnfnnkjaaDoor
end

section
namespace Go.Proofs.YtgpgcnmnfnnkjaaDoor
open Go
section
variable {P : Program} {ops : Array Oper} {Q : Exit → Act → World → Prop} {md : Region.Mode} {S : World → Prop}
def gbare (g : Option (Nat × Bool)) : Oper := ⟨none, .move (.const (.bool true)), 0, "", #[], g⟩
theorem wanted_g {o : Oper} {g : Option (Nat × Bool)} (h : o.guard = g) (y : Nat → Option Bool) : Region.wanted o y = Region.wanted (gbare g) y := by
  unfold Region.wanted gbare; rw [h]
theorem look_atG {i : Nat} {dst : Option Tmp} {op : Op} {ty : TypeId} {g : Option (Nat × Bool)} (h : lookB ops i = some (dst, op, ty, g)) : ∃ oi, ops[i]? = some oi ∧ oi.dst = dst ∧ oi.guard = g ∧ (∀ ρ, execOp ρ oi = execOp ρ (bare dst op ty)) := by
  unfold lookB at h
  cases ho : ops[i]? with
  | none => rw [ho] at h; cases h
  | some oi =>
    rw [ho] at h
    cases oi with
    | mk d o t p af g =>
      simp only [Option.map_some, Option.some.injEq, Prod.mk.injEq] at h
      obtain ⟨rfl, rfl, rfl, rfl⟩ := h
      exact ⟨_, rfl, rfl, rfl, fun ρ => by unfold execOp bare; rfl⟩
/-- take number i first: it is wanted -/
theorem wpAnyF_tg {n : Nat} (i : Nat) (dst : Option Tmp) (op : Op) (ty : TypeId) (g : Option (Nat × Bool)) {v : Value} {f : Nat} {listed : Array Bool} {a : Act} {w : World} (hi : lookB ops i = some (dst, op, ty, g))
    (hb : takeB md ops n i listed = true) (hw : Region.wanted (gbare g) (yielded ops a.tmps) = true) (hQ : ∀ c a w, Q (.panic c) (a.put dst v) w → Q (.panic c) a w)
    (hy : ∀ w, S w → (execOp a.eval (bare dst op ty)).run P w = .ok (.value v) w) (hS : S w)
    (h : wpAnyF P md ops Q S n f (listed.setIfInBounds i true) (a.put dst v) w) : wpAnyF P md ops Q S n (f + 1) listed a w := by
  obtain ⟨oi, h0, rfl, hg, hx⟩ := look_atG hi
  unfold takeB at hb
  simp only [Bool.and_eq_true] at hb
  obtain ⟨⟨b1, b2, b3, b4⟩, h2, h3, h4, h5⟩ := hb
  exact wpAnyF_take h0 (by simp only [b1, b2, b3, b4, Bool.and_true]) (by simpa using h2) h3 h4 h5 hQ (.inl ⟨by rw [wanted_g hg]; exact hw, fun w hs => by rw [hx]; exact hy w hs⟩) hS h
/-- take number i first: it is not wanted -/
theorem wpAnyF_sk {n : Nat} (i : Nat) (dst : Option Tmp) (op : Op) (ty : TypeId) (g : Option (Nat × Bool)) {f : Nat} {listed : Array Bool} {a : Act} {w : World} (hi : lookB ops i = some (dst, op, ty, g))
    (hb : takeB md ops n i listed = true) (hw : Region.wanted (gbare g) (yielded ops a.tmps) = false) (hQ : ∀ c a w, Q (.panic c) (a.put dst undef) w → Q (.panic c) a w) (hS : S w)
    (h : wpAnyF P md ops Q S n f (listed.setIfInBounds i true) (a.put dst undef) w) : wpAnyF P md ops Q S n (f + 1) listed a w := by
  obtain ⟨oi, h0, rfl, hg, hx⟩ := look_atG hi
  unfold takeB at hb
  simp only [Bool.and_eq_true] at hb
  obtain ⟨⟨b1, b2, b3, b4⟩, h2, h3, h4, h5⟩ := hb
  exact wpAnyF_take h0 (by simp only [b1, b2, b3, b4, Bool.and_true]) (by simpa using h2) h3 h4 h5 hQ (.inr ⟨by rw [wanted_g hg]; exact hw, rfl⟩) hS h
/-- number i is carried out next: it alone may come up, and is wanted -/
theorem wpAnyF_og {n : Nat} (i : Nat) (dst : Option Tmp) (op : Op) (ty : TypeId) (g : Option (Nat × Bool)) {f : Nat} {listed : Array Bool} {a : Act} {w : World} (hi : lookB ops i = some (dst, op, ty, g)) (hr : Region.ready md ops listed = [i]) (hw : Region.wanted (gbare g) (yielded ops a.tmps) = true)
    (h : ∀ K : Act → World → Prop, (∀ a' w', S w' → (S w' → wpAnyF P md ops Q S n f (listed.setIfInBounds i true) a' w') → K a' w') → if Region.wanted (bare dst op ty) (yielded ops a.tmps) = true then Oper.wp P (bare dst op ty) a w K Q else False) : wpAnyF P md ops Q S n (f + 1) listed a w := by
  obtain ⟨oi, h0, hd, hg, hx⟩ := look_atG hi
  exact wpAnyF_all hr (by simp) fun j hj => by
    simp only [List.mem_cons, List.not_mem_nil, or_false] at hj
    subst hj
    exact wpOp_step h0 fun K' hK => by
      have h2 := h K' (fun a w hs hq => hK a w ⟨fun _ => hs, hq hs⟩)
      rw [if_pos (by rw [wanted_g hg]; exact hw)]
      rw [if_pos (by simp [Region.wanted, bare])] at h2
      unfold Oper.wp at *
      rw [hx]
      subst hd
      exact h2
end
end Go.Proofs.YtgpgcnmnfnnkjaaDoor
end
