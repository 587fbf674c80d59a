/- Tables of rates that rows are put into one by one. -/
import Derived.Test.YtpobhlnlnplbdaaVatLaw
namespace Go.Proofs.Ytpobhlnlnplbdaa
open Go Go.RowKit

def stepT (t : List Rate) (r : Rate) : List Rate := match putT t r with | .ok m => m | .error _ => t
theorem stepT_right {t : List Rate} (ht : RightV t) (r : Rate) : RightV (stepT t r) := by
  unfold stepT
  rcases put_cases r ht with ⟨e, he, _⟩ | ⟨h1, h2, h3⟩
  · rw [he]; exact ht
  · obtain ⟨h4, h5, _⟩ := put_ok ht h1 h2 h3
    rw [h4]; exact h5
theorem stepT_mem {t : List Rate} (ht : RightV t) (r : Rate) : (stepT t r).length = t.length ∨ ((stepT t r).length = t.length + 1 ∧ ∀ x, x ∈ stepT t r ↔ x = r ∨ x ∈ t) := by
  unfold stepT
  rcases put_cases r ht with ⟨e, he, _⟩ | ⟨h1, h2, h3⟩
  · rw [he]; exact .inl rfl
  · obtain ⟨h4, h5, h6, h7⟩ := put_ok ht h1 h2 h3
    rw [h4]; exact .inr ⟨h6, h7⟩
theorem tab_fold (l : List Rate) : ∀ {t : List Rate}, RightV t → RightV (l.foldl stepT t) ∧ (l.foldl stepT t).length ≤ t.length + l.length ∧ ((l.foldl stepT t).length = t.length + l.length → ∀ x, x ∈ l.foldl stepT t ↔ x ∈ t ∨ x ∈ l) := by
  induction l with
  | nil => intro t ht; exact ⟨ht, by simp, fun _ x => by simp⟩
  | cons r l ih =>
    intro t ht
    obtain ⟨h1, h2, h3⟩ := ih (stepT_right ht r)
    rw [List.foldl_cons, List.length_cons]
    rcases stepT_mem ht r with h | ⟨h, hm⟩
    · exact ⟨h1, by omega, fun e => by omega⟩
    · refine ⟨h1, by omega, fun e x => ?_⟩
      rw [h3 (by omega) x, hm x, List.mem_cons]
      constructor
      · rintro ((a | a) | a)
        · exact .inr (.inl a)
        · exact .inl a
        · exact .inr (.inr a)
      · rintro (a | a | a)
        · exact .inl (.inr a)
        · exact .inl (.inl a)
        · exact .inr a
theorem tab_same {l m : List Rate} (hp : ∀ x, x ∈ l ↔ x ∈ m) (h1 : (l.foldl stepT []).length = l.length) (h2 : (m.foldl stepT []).length = m.length) : l.foldl stepT [] = m.foldl stepT [] := by
  obtain ⟨a1, _, a3⟩ := tab_fold l RightV.nil
  obtain ⟨b1, _, b3⟩ := tab_fold m RightV.nil
  refine table_one a1.up b1.up (fun x => ?_)
  rw [a3 (by simpa using h1) x, b3 (by simpa using h2) x, hp x]
/-- the last row that counts: by its place -/
theorem lastT_take {c : ByteArray} {d : Day} {s : Int × Bool} {l : List Rate} {k : Nat} (hk : k < l.length) : lastT c d s (l.take (k + 1)) = if hitT c d l[k] = true then (l[k].bp, true) else lastT c d s (l.take k) := by
  rw [List.take_succ_eq_append_getElem hk, lastT_append]
  show (if hitT c d l[k] = true then (l[k].bp, true) else _) = _
  rfl
theorem hit_later {l : List Rate} {c : ByteArray} {d : Day} (hl : RightV l) {i j : Nat} (hi : i < l.length) (hj : j < l.length) (hij : i < j) (h1 : hitT c d l[i] = true) (h2 : hitT c d l[j] = true) : daysD l[i].day < daysD l[j].day := by
  have h := List.pairwise_iff_getElem.1 hl.up i j hi hj hij
  unfold hitT at h1 h2
  rw [Bool.and_eq_true, eqS_iff] at h1 h2
  unfold aheadT at h
  rw [h1.1, h2.1, ltS_irrefl, eqS_refl] at h
  simp only [Bool.false_or, Bool.true_and] at h
  unfold beforeD at h
  simp only [Bool.and_eq_true, decide_eq_true_eq] at h
  exact h.2.2
end Go.Proofs.Ytpobhlnlnplbdaa
