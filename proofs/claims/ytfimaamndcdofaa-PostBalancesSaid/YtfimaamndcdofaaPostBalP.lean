/- PostBalances: the plain law. -/
import Derived.Test.YtfimaamndcdofaaPostEachP
namespace Go.Proofs.Ytfimaamndcdofaa
open Go Go.RowKit

def nmB (i : Nat) : ByteArray := { data := #[UInt8.ofNat (97 + i)] }
def bpart (i : Nat) (x : Part) : Part := ⟨nmB i, 0, within x.net (-1099511627776) 1099511627776, within x.tax (-1099511627776) 1099511627776⟩
def bparts (l : List Part) : List Part := l.mapIdx bpart
theorem bparts_length (l : List Part) : (bparts l).length = l.length := by simp [bparts]
theorem bparts_take_succ {l : List Part} {k : Nat} (h : k < l.length) : bparts (l.take (k + 1)) = bparts (l.take k) ++ [bpart k l[k]] := by
  have e : (l.take k).length = k := by rw [List.length_take]; omega
  unfold bparts
  rw [List.take_succ_eq_append_getElem h, List.mapIdx_concat, e]
theorem bparts_bound {l : List Part} {p : Part} (h : p ∈ bparts l) : (-1099511627776 ≤ p.net ∧ p.net ≤ 1099511627776) ∧ (-1099511627776 ≤ p.tax ∧ p.tax ≤ 1099511627776) := by
  unfold bparts at h
  obtain ⟨i, hi, rfl⟩ := List.mem_mapIdx.1 h
  exact ⟨within_bounds _ _ _ (by omega), within_bounds _ _ _ (by omega)⟩
theorem bparts_cat {l : List Part} {p : Part} (h : p ∈ bparts l) : p.cat.size = 1 := by
  unfold bparts at h
  obtain ⟨i, hi, rfl⟩ := List.mem_mapIdx.1 h
  rfl
/-- the sums -/
def nets (ps : List Part) : Int := (ps.map (·.net)).sum
def taxes (ps : List Part) : Int := (ps.map (·.tax)).sum
theorem nets_append (a b : List Part) : nets (a ++ b) = nets a + nets b := by unfold nets; rw [List.map_append, List.sum_append]
theorem taxes_append (a b : List Part) : taxes (a ++ b) = taxes a + taxes b := by unfold taxes; rw [List.map_append, List.sum_append]
theorem nets_one (p : Part) : nets [p] = p.net := by simp [nets]
theorem taxes_one (p : Part) : taxes [p] = p.tax := by simp [taxes]
theorem nets_bound {ps : List Part} (h : ∀ p ∈ ps, -1099511627776 ≤ p.net ∧ p.net ≤ 1099511627776) : -(ps.length * 1099511627776) ≤ nets ps ∧ nets ps ≤ ps.length * 1099511627776 := by
  induction ps with
  | nil => simp [nets]
  | cons p ps ih =>
    have h1 := ih fun q hq => h q (by simp [hq])
    have h2 := h p (by simp)
    have e : nets (p :: ps) = p.net + nets ps := by simp [nets]
    rw [e, List.length_cons]; omega
theorem taxes_bound {ps : List Part} (h : ∀ p ∈ ps, -1099511627776 ≤ p.tax ∧ p.tax ≤ 1099511627776) : -(ps.length * 1099511627776) ≤ taxes ps ∧ taxes ps ≤ ps.length * 1099511627776 := by
  induction ps with
  | nil => simp [taxes]
  | cons p ps ih =>
    have h1 := ih fun q hq => h q (by simp [hq])
    have h2 := h p (by simp)
    have e : taxes (p :: ps) = p.tax + taxes ps := by simp [taxes]
    rw [e, List.length_cons]; omega

/-- the rows -/
def rowsOf (g : Int) (ps : List Part) : List Bal := (sOwed, g) :: ps.flatMap pairOf
theorem entTo_ok {ps : List Part} (acc : List Bal) (h : ∀ p ∈ ps, Mon.fits (0 - p.net) ∧ Mon.fits (0 - p.tax)) : entTo acc ps = .ok (acc ++ ps.flatMap pairOf) := by
  induction ps generalizing acc with
  | nil => simp [entTo]
  | cons p ps ih =>
    unfold entTo
    rw [if_pos (h p (by simp)), ih _ (fun q hq => h q (by simp [hq]))]
    simp
theorem entries_ok {g : Int} {ps : List Part} (h : ∀ p ∈ ps, Mon.fits (0 - p.net) ∧ Mon.fits (0 - p.tax)) : entries g ps = .ok (rowsOf g ps) := entTo_ok _ h
theorem rowsOf_length (g : Int) (ps : List Part) : (rowsOf g ps).length = 2 * ps.length + 1 := by
  unfold rowsOf
  rw [List.length_cons]
  congr 1
  induction ps with
  | nil => rfl
  | cons p ps ih => rw [List.flatMap_cons, List.length_append, ih, List.length_cons]; simp [pairOf]; omega
theorem rowsOf_sum (g : Int) (ps : List Part) : ((rowsOf g ps).map (·.2)).sum = g - nets ps - taxes ps := by
  have : ((ps.flatMap pairOf).map (·.2)).sum = - nets ps - taxes ps := by
    induction ps with
    | nil => simp [nets, taxes]
    | cons p ps ih =>
      have e1 : nets (p :: ps) = p.net + nets ps := by simp [nets]
      have e2 : taxes (p :: ps) = p.tax + taxes ps := by simp [taxes]
      rw [List.flatMap_cons, List.map_append, List.sum_append, ih, e1, e2]
      simp [pairOf]; omega
  unfold rowsOf
  rw [List.map_cons, List.sum_cons, this]; simp only; omega
theorem rowsOf_bound {g : Int} {ps : List Part} (hg : -26388279066624 ≤ g ∧ g ≤ 26388279066624) (h : ∀ p ∈ ps, (-1099511627776 ≤ p.net ∧ p.net ≤ 1099511627776) ∧ (-1099511627776 ≤ p.tax ∧ p.tax ≤ 1099511627776)) : ∀ x ∈ rowsOf g ps, -26388279066624 ≤ x.2 ∧ x.2 ≤ 26388279066624 := by
  intro x hx
  unfold rowsOf at hx
  rcases List.mem_cons.1 hx with rfl | hx
  · exact hg
  · obtain ⟨p, hp, hx⟩ := List.mem_flatMap.1 hx
    have := h p hp
    simp only [pairOf, List.mem_cons, List.not_mem_nil, or_false] at hx
    rcases hx with rfl | rfl <;> simp only <;> omega
/-- the names -/
def nmsB : Nat → List ByteArray
  | 0 => []
  | k + 1 => nmsB k ++ [sNet ++ nmB k, sTax ++ nmB k]
theorem names_take {l : List Part} {k : Nat} (h : k ≤ l.length) (g : Int) : (rowsOf g (bparts (l.take k))).map (·.1) = sOwed :: nmsB k := by
  unfold rowsOf
  rw [List.map_cons]
  congr 1
  induction k with
  | zero => rfl
  | succ k ih =>
    rw [bparts_take_succ (by omega), List.flatMap_append, List.map_append, ih (by omega)]
    rfl
theorem nms_nodup : ∀ k, k < 13 → (sOwed :: nmsB k).Nodup := by decide +kernel
theorem names_nodup {l : List Part} (h : l.length ≤ 12) (g : Int) : ((rowsOf g (bparts l)).map (·.1)).Nodup := by
  have e := names_take (l := l) (Nat.le_refl _) g
  rw [List.take_of_length_le (Nat.le_refl _)] at e
  rw [e]; exact nms_nodup _ (by omega)

/-- how a book grows -/
theorem has_mem {l : List Bal} {k : Nat} (h : k < l.length) : has l l[k].1 = true := by
  unfold has
  rw [List.any_eq_true]
  exact ⟨_, List.getElem_mem h, (eqB_eq _ _).2 rfl⟩
theorem putB_lenX {acc m : List Bal} {x : Bal} (hu : Up acc) (h : putB acc x = .ok m) : m.length = acc.length + (if has acc x.1 then 0 else 1) := by
  unfold putB at h
  simp only at h
  split at h
  · simp only [Except.ok.injEq] at h
    subst h
    rw [List.length_set]
    rcases withB_split acc x.1 with h | ⟨h, hl, he⟩
    · have hn : has acc x.1 = false := by
        rw [Bool.eq_false_iff]; intro ht
        have hup := withB_up x.1 hu
        rw [h] at hup
        obtain ⟨p1, p2, p3⟩ := List.pairwise_append.1 hup
        unfold has at ht
        rw [List.any_eq_true] at ht
        obtain ⟨y, hy, hyx⟩ := ht
        have hyx := (eqB_eq _ _).1 hyx
        rw [← List.take_append_drop (findB acc x.1) acc] at hy
        rcases List.mem_append.1 hy with hy | hy
        · have := p3 y hy _ List.mem_cons_self
          simp only [hyx, ltB_irrefl] at this; cases this
        · have := (List.pairwise_cons.1 p2).1 y hy
          simp only [hyx, ltB_irrefl] at this; cases this
      rw [h, hn]
      have := findB_le acc x.1
      simp; omega
    · have := has_mem hl
      rw [he] at this
      rw [h, this]; simp
  · cases h
theorem enterTo_same {acc l m : List Bal} (hu : Up acc) (h : enterTo acc l = .ok m) (hin : ∀ x ∈ l, has acc x.1 = true) : m.length = acc.length := by
  induction l generalizing acc with
  | nil => simp only [enterTo, Except.ok.injEq] at h; subst h; rfl
  | cons x l ih =>
    unfold enterTo at h
    cases hp : putB acc x with
    | error n => rw [hp] at h; cases h
    | ok m' =>
      rw [hp] at h
      obtain ⟨_, a2, a3, _, _⟩ := putB_spec hp
      have e := putB_lenX hu hp
      rw [hin x (by simp)] at e
      rw [ih (a3 hu) h (fun y hy => by rw [a2, hin y (by simp [hy])]; rfl), e]; simp
theorem enterTo_new {acc l m : List Bal} (hu : Up acc) (h : enterTo acc l = .ok m) (hnd : (l.map (·.1)).Nodup) (hin : ∀ x ∈ l, has acc x.1 = false) : m.length = acc.length + l.length := by
  induction l generalizing acc with
  | nil => simp only [enterTo, Except.ok.injEq] at h; subst h; rfl
  | cons x l ih =>
    unfold enterTo at h
    cases hp : putB acc x with
    | error n => rw [hp] at h; cases h
    | ok m' =>
      rw [hp] at h
      obtain ⟨_, a2, a3, _, _⟩ := putB_spec hp
      have e := putB_lenX hu hp
      rw [hin x (by simp)] at e
      rw [List.map_cons, List.nodup_cons] at hnd
      rw [ih (a3 hu) h hnd.2 (fun y hy => by
        rw [a2, hin y (by simp [hy]), Bool.false_or, Bool.eq_false_iff]
        intro hxy
        exact hnd.1 (List.mem_map.2 ⟨y, hy, ((eqB_eq _ _).1 hxy).symm⟩)), e]
      simp; omega

/-- the book after so many times -/
structure BkAt (rows : List Bal) (j : Nat) (bk : List Bal) : Prop where
  up : Up bk
  amt : ∀ c, amtOf bk c = j * amtOf rows c
  sum : (bk.map (·.2)).sum = 0
  fits : ∀ x ∈ bk, Mon.fits x.2
  len : (j = 0 ∧ bk = []) ∨ (bk.length = rows.length ∧ ∀ c, has bk c = has rows c)
theorem BkAt.zero (rows : List Bal) : BkAt rows 0 [] := ⟨up_nil, fun c => by rw [amtOf_nil]; simp, rfl, fun x hx => absurd hx List.not_mem_nil, .inl ⟨rfl, rfl⟩⟩
theorem BkAt.small {rows bk : List Bal} {j : Nat} (h : BkAt rows j bk) : bk.length ≤ rows.length := by
  rcases h.len with ⟨_, rfl⟩ | ⟨e, _⟩
  · simp
  · omega
theorem BkAt.next {rows bk : List Bal} {j : Nat} (h : BkAt rows j bk) (hj : j < 20) (hl : rows.length ≤ 25) (hs : (rows.map (·.2)).sum = 0) (hnd : (rows.map (·.1)).Nodup) (hb : ∀ x ∈ rows, -26388279066624 ≤ x.2 ∧ x.2 ≤ 26388279066624) :
    ∃ m, enter bk rows = .ok m ∧ BkAt rows (j + 1) m ∧ m.length = rows.length := by
  have hA : ∀ c, -13194139533312000 ≤ amtOf bk c ∧ amtOf bk c ≤ 13194139533312000 := by
    intro c
    have b := amtOf_bound (X := 26388279066624) (by omega) hb c
    have b1 : -659706976665600 ≤ amtOf rows c := by omega
    have b2 : amtOf rows c ≤ 659706976665600 := by omega
    rw [h.amt c]
    generalize amtOf rows c = a at *
    have j0 : (0 : Int) ≤ j := by omega
    have j1 : (j : Int) ≤ 20 := by omega
    have m1 := Int.mul_le_mul_of_nonneg_left b1 j0
    have m2 := Int.mul_le_mul_of_nonneg_left b2 j0
    omega
  obtain ⟨m, hm⟩ := enterTo_ok (acc := bk) (l := rows) 13194139533312000 26388279066624 h.up (by omega) hA hb (by omega)
  obtain ⟨a1, a2, a3, a4, a5⟩ := enterTo_spec hm
  have hmem : ∀ x ∈ rows, has rows x.1 = true := fun x hx => by unfold has; rw [List.any_eq_true]; exact ⟨x, hx, (eqB_eq _ _).2 rfl⟩
  have hlen : m.length = rows.length := by
    rcases h.len with ⟨_, rfl⟩ | ⟨e, hh⟩
    · have := enterTo_new h.up hm hnd (fun x _ => rfl)
      simpa using this
    · rw [enterTo_same h.up hm (fun x hx => by rw [hh]; exact hmem x hx), e]
  have hhas : ∀ c, has m c = has rows c := by
    intro c
    rw [a2]
    rcases h.len with ⟨_, rfl⟩ | ⟨_, hh⟩
    · rfl
    · rw [hh, Bool.or_self]
  refine ⟨m, by unfold enter; rw [if_pos ((right_up _).2 h.up)]; exact hm, ⟨a3 h.up, fun c => ?_, by rw [a4, h.sum, hs]; rfl, enterTo_fits hm h.fits, .inr ⟨hlen, hhas⟩⟩, hlen⟩
  rw [a1, h.amt c, Int.natCast_add, Int.add_mul]; simp
end Go.Proofs.Ytfimaamndcdofaa
