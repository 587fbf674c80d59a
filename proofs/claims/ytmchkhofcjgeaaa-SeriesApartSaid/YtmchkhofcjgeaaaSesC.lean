/- Walks: session.Join, Leave. -/
import Derived.Test.YtmchkhofcjgeaaaSesB
import Derived.Test.YtmchkhofcjgeaaaInsSes
import Derived.Test.YtmchkhofcjgeaaaDelSes
namespace Go.Proofs.Ytmchkhofcjgeaaa
open Go Go.RowKit

theorem placeS_lt {l : List Ses} {id : Int} (h : 0 ≤ placeS l id) : ∃ k, ∃ _ : k < l.length, placeS l id = (k : Int) ∧ l[k].id = id := by
  rcases placeS_spec l id with ⟨h1, _⟩ | ⟨j, hj, h1, h2, _⟩
  · omega
  · exact ⟨j, hj, h1, h2⟩
theorem right_len {l : List Ses} (h : rightS l = true) : l.length ≤ 8 := by
  unfold rightS at h; rw [Bool.and_eq_true, decide_eq_true_iff] at h; exact h.1

set_option maxHeartbeats 2000000 in
theorem sesJoin (v : Value) (l : List Ses) (id : Int) (w : World) (hv : Rd sesE w v l) :
    Calls Try.prog 12 #[v, .int .i64 id] w fun e w' => TellsL sesE w' w.heap.size 33 (joinS l id) e ∧ Below w.heap.size w w' := by
  obtain ⟨p, cap, rfl, h1, h2, h3, h4⟩ := hv.form
  clear h3 h4
  unfold maxLen at h2
  cases hr : rightS l with
  | false =>
    have he : Hid (joinS l id = .error 1) := by show _ = _; unfold joinS; rw [if_pos (.inl hr)]
    have Hr := Lib.hid hr
    clear hr
    go_enter Try.func12, Try.ntmps12
    go_wp2_with fail
    with_reducible refine (sesRight _ l _ hv).mono ?_
    rintro e w1 ⟨rfl, b1⟩
    rw [Hr.out]
    go_wp2_with fail
    go_ret2
    exact ⟨by rw [he.out]; rfl, b1⟩
  | true =>
    have hl8 := right_len hr
    have Hr := Lib.hid hr
    clear hr
    by_cases hid : id < 1
    · have he : Hid (joinS l id = .error 1) := by show _ = _; unfold joinS; rw [if_pos (.inr hid)]
      go_enter Try.func12, Try.ntmps12
      go_wp2_with fail
      with_reducible refine (sesRight _ l _ hv).mono ?_
      rintro e w1 ⟨rfl, b1⟩
      rw [Hr.out]
      go_wp2_with fail
      go_ret2
      exact ⟨by rw [he.out]; rfl, b1⟩
    · have hj0 : Hid (joinS l id = if 0 ≤ placeS l id then .error 12 else if 8 ≤ l.length then .error 14 else .ok (l.take (findS l id) ++ ⟨id, 0, rep0⟩ :: l.drop (findS l id))) := by
        show _ = _; unfold joinS; rw [if_neg (by rw [Hr.out]; simp; omega)]
      go_enter Try.func12, Try.ntmps12
      go_wp2_with fail
      with_reducible refine (sesRight _ l _ hv).mono ?_
      rintro e w1 ⟨rfl, b1⟩
      rw [Hr.out]
      have hv1 := hv.ext b1
      go_wp2_with fail
      with_reducible refine (sesPlace _ l id _ hv1).mono ?_
      rintro e w2 ⟨rfl, b2⟩
      have hv2 := hv1.ext b2
      have b12 := b1.trans (b2.mono b1.size)
      clear hv1 b1 b2
      by_cases hp : 0 ≤ placeS l id
      · have he : Hid (joinS l id = .error 12) := by show _ = _; rw [hj0.out, if_pos hp]
        go_wp2_with fail
        go_ret2
        exact ⟨by rw [he.out]; rfl, b12⟩
      · by_cases h8 : 8 ≤ l.length
        · have he : Hid (joinS l id = .error 14) := by show _ = _; rw [hj0.out, if_neg hp, if_pos h8]
          have h8' : (8 : Int) ≤ (l.length : Int) := by omega
          go_wp2_with fail
          go_ret2
          exact ⟨by rw [he.out]; rfl, b12⟩
        · have he : Hid (joinS l id = .ok (l.take (findS l id) ++ ⟨id, 0, rep0⟩ :: l.drop (findS l id))) := by show _ = _; rw [hj0.out, if_neg hp, if_neg h8]
          have h8' : ¬ (8 : Int) ≤ (l.length : Int) := by omega
          clear hj0
          go_wp2_with fail
          go_loop [6] (fun i => ∃ k : Nat, k ≤ l.length ∧ i = .int .i64 k ∧ Hid (∀ j (h : j < l.length), j < k → l[j].id < id)) (fun i => l.length - (intOf i).toNat)
          case atStart => exact ⟨0, by omega, rfl, fun j h hj => by omega⟩
          case round =>
            obtain ⟨k, hk, rfl, hall⟩ := hrel
            by_cases hgo : ∃ h : k < l.length, l[k].id < id
            · obtain ⟨hlt, hgo⟩ := hgo
              obtain ⟨b, off, rfl⟩ := Rd.blk hv2 (by omega)
              obtain ⟨c0, _⟩ := ses5 hv2 hlt
              have hi : (k : Int) < (l.length : Int) := by omega
              have hall' : Hid (∀ j (h : j < l.length), j < k + 1 → l[j].id < id) := fun j h hj => by
                by_cases e : j = k
                · subst e; exact hgo
                · exact hall.out j h (by omega)
              generalize l[k] = s at c0 hgo
              go_wp2_with fail
              go_round
              case rel => exact ⟨k + 1, by omega, by go_num, hall'⟩
              case measure => simp [intOf]; omega
            · have hf : findS l id = k := findS_is hk hall.out (fun h hx => hgo ⟨h, hx⟩)
              have He := he.out
              rw [hf] at He
              have He' := Lib.hid He
              have hcase : (¬ (k : Int) < (l.length : Int)) ∨ ((k : Int) < (l.length : Int) ∧ ∃ h : k < l.length, ¬ l[k].id < id) := by
                by_cases h : k < l.length
                · exact .inr ⟨by omega, h, fun hx => hgo ⟨h, hx⟩⟩
                · exact .inl (by omega)
              clear hf He he hall
              have hsz := b12.size
              rcases hcase with hi | ⟨hi, hlt, hge⟩
              all_goals
                first
                | (obtain ⟨b, off, rfl⟩ := Rd.blk hv2 (by omega)
                   obtain ⟨c0, _⟩ := ses5 hv2 hlt
                   generalize l[k] = s at c0 hge)
                | skip
                clear hgo
                go_wp2_with (first
                  | (at_builtin; refine wpList_appR (E := sesE) tSes rfl rfl (OwnR.nil w2 w2.heap.size _) rfl hv2 rfl (by simp; omega) (Nat.le_refl _) ?_; intro v3 w3 own3 g3 b3; rw [List.nil_append] at own3; clear g3)
                  | fail)
                have hsz3 := b3.size
                have b3' : Below w2.heap.size w2 (w3.alloc (.cells #[.int .i64 id, .int .i64 0, .int .i64 0, .int .i64 0, .int .i64 0] 33)) := b3.trans ((below_alloc w3 _).mono hsz3)
                have own3' := own3.ext (below_alloc w3 (.cells #[.int .i64 id, .int .i64 0, .int .i64 0, .int .i64 0, .int .i64 0] 33))
                have hne : v3.ownBlock ≠ some w3.heap.size := fun e => by have := (own3.lt _ e).2; omega
                have hvb : (w3.alloc (.cells #[.int .i64 id, .int .i64 0, .int .i64 0, .int .i64 0, .int .i64 0] 33)).heap[w3.heap.size]? = some (.cells (sesE.enc ⟨id, 0, rep0⟩).toArray 33 (0, 0)) := Blk.new _ _ _
                have hb1 : (l.length + 1) * 40 ≤ 140737488355328 := by omega
                with_reducible refine (insSes w2.heap.size w3.heap.size k v3 l ⟨id, 0, rep0⟩ _ own3' hvb hne hk hb1 b3'.size).mono ?_
                rintro e w4 ⟨v4, rfl, own4, g4, b4⟩
                go_wp2_with fail
                go_ret2
                exact ⟨by rw [He'.out]; exact ⟨_, rfl, own4.base hsz⟩, b12.trans ((b3'.trans b4).mono hsz)⟩

set_option maxHeartbeats 2000000 in
theorem sesLeave (v : Value) (l : List Ses) (id : Int) (w : World) (hv : Rd sesE w v l) :
    Calls Try.prog 15 #[v, .int .i64 id] w fun e w' => TellsL sesE w' w.heap.size 33 (leaveS l id) e ∧ Below w.heap.size w w' := by
  obtain ⟨p, cap, rfl, h1, h2, h3, h4⟩ := hv.form
  clear h3 h4
  unfold maxLen at h2
  cases hr : rightS l with
  | false =>
    have he : Hid (leaveS l id = .error 1) := by show _ = _; unfold leaveS; rw [if_pos hr]
    have Hr := Lib.hid hr
    clear hr
    go_enter Try.func15, Try.ntmps15
    go_wp2_with fail
    with_reducible refine (sesRight _ l _ hv).mono ?_
    rintro e w1 ⟨rfl, b1⟩
    rw [Hr.out]
    go_wp2_with fail
    go_ret2
    exact ⟨by rw [he.out]; rfl, b1⟩
  | true =>
    have hl8 := right_len hr
    have Hr := Lib.hid hr
    clear hr
    have hj0 : Hid (leaveS l id = if placeS l id < 0 then .error 11 else .ok (l.take (placeS l id).toNat ++ l.drop ((placeS l id).toNat + 1))) := by
      show _ = _; unfold leaveS; rw [if_neg (by rw [Hr.out]; simp)]
    go_enter Try.func15, Try.ntmps15
    go_wp2_with fail
    with_reducible refine (sesRight _ l _ hv).mono ?_
    rintro e w1 ⟨rfl, b1⟩
    rw [Hr.out]
    have hv1 := hv.ext b1
    go_wp2_with fail
    with_reducible refine (sesPlace _ l id _ hv1).mono ?_
    rintro e w2 ⟨rfl, b2⟩
    have hv2 := hv1.ext b2
    have b12 := b1.trans (b2.mono b1.size)
    clear hv1 b1 b2
    by_cases hp : placeS l id < 0
    · have he : Hid (leaveS l id = .error 11) := by show _ = _; rw [hj0.out, if_pos hp]
      go_wp2_with fail
      go_ret2
      exact ⟨by rw [he.out]; rfl, b12⟩
    · obtain ⟨k, hk, hpk, _⟩ := placeS_lt (l := l) (id := id) (by omega)
      have he : Hid (leaveS l id = .ok (l.take k ++ l.drop (k + 1))) := by show _ = _; rw [hj0.out, if_neg hp, hpk]; rfl
      rw [hpk]
      clear hp hpk hj0
      have hk0 : ¬ (k : Int) < 0 := by omega
      have hsz := b12.size
      go_wp2_with (first
        | (at_builtin; refine wpList_appR (E := sesE) tSes rfl rfl (OwnR.nil w2 w2.heap.size _) rfl hv2 rfl (by simp; omega) (Nat.le_refl _) ?_; intro v3 w3 own3 g3 b3; rw [List.nil_append] at own3; clear g3)
        | fail)
      have hsz3 := b3.size
      with_reducible refine (delSes w2.heap.size k v3 l _ own3 hk hsz3).mono ?_
      rintro e w4 ⟨v4, rfl, own4, g4, b4⟩
      go_wp2_with fail
      go_ret2
      exact ⟨by rw [he.out]; exact ⟨_, rfl, own4.base hsz⟩, b12.trans ((b3.trans b4).mono hsz)⟩
end Go.Proofs.Ytmchkhofcjgeaaa
