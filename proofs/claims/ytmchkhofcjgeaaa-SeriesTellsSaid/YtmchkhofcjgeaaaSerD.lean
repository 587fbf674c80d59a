/- Walk: the document's Take. -/
import Derived.Test.YtmchkhofcjgeaaaSerC
import Derived.RegionTactic
namespace Go.Proofs.Ytmchkhofcjgeaaa
open Go Go.RowKit

set_option maxHeartbeats 4000000 in
set_option maxRecDepth 100000 in
theorem srsRefTake (v : Value) (l : List Srs) (id : ByteArray) (w : World) (hv : Rd srsE w v l) :
    Calls Try.prog 35 #[v, .string id] w fun e w' => TellsN srsE w' w.heap.size 66 (takeR l id) e ∧ Below w.heap.size w w' := by
  obtain ⟨p, cap, rfl, h1, h2, h3, h4⟩ := hv.form
  clear h3 h4
  unfold maxLen at h2
  have hno := Lib.hid (fun h => takeR_no (l := l) (n := id) h)
  cases hr : rightR l with
  | false =>
    have ha : atR l id = (0, 1) := by unfold atR; rw [if_pos hr]
    have he : Hid (takeR l id = .error 1) := by show _ = _; rw [hno.out (by rw [ha]; simp), ha]
    have Hr := Lib.hid hr
    clear hr ha
    go_enter Try.func35, Try.ntmps35
    go_wp2_with fail
    with_reducible refine (srsRefRight _ l _ hv).mono ?_
    rintro e w1 ⟨rfl, b1⟩
    rw [Hr.out]
    go_wp2_with fail
    go_ret3
    exact ⟨by rw [he.out]; rfl, b1⟩
  | true =>
    have hl8 := rightR_len hr
    have Hr := Lib.hid hr
    have hg := Lib.hid (fun h => atR_gone (n := id) hr h)
    have ha := Lib.hid (fun k h h2 => atR_at (n := id) (k := k) hr h h2)
    clear hr
    go_enter Try.func35, Try.ntmps35
    go_wp2_with fail
    with_reducible refine (srsRefRight _ l _ hv).mono ?_
    rintro e w1 ⟨rfl, b1⟩
    rw [Hr.out]
    have hv1 := hv.ext b1
    have hsz := b1.size
    go_wp2_with fail
    with_reducible refine (srsFind0 _ l id _ hv1).mono ?_
    rintro e w' ⟨rfl, rfl⟩
    by_cases hp : placeR l id < 0
    · have he : Hid (takeR l id = .error 11) := by show _ = _; rw [hno.out (by rw [hg.out hp]; simp), hg.out hp]
      go_wp2_with fail
      go_ret3
      exact ⟨by rw [he.out]; rfl, b1⟩
    · obtain ⟨k, hk, hpk, hnm⟩ := placeR_lt (l := l) (n := id) (by omega)
      have ha2 := Lib.hid (ha.out k hk hpk)
      rw [hpk]
      clear hp hpk ha hg hnm
      have hk0 : ¬ (k : Int) < 0 := by omega
      have hk0' : (0 : Int) ≤ (k : Int) := by omega
      have hki : (k : Int) < (l.length : Int) := by omega
      obtain ⟨b, off, rfl⟩ := Rd.blk hv1 (by omega)
      obtain ⟨c0, c1, c2, c3⟩ := srs4 hv1 hk
      cases hs : l[k].shut with
      | true =>
        have he : Hid (takeR l id = .error 13) := by show _ = _; rw [hno.out (by rw [ha2.out, if_pos hs]; simp), ha2.out, if_pos hs]
        rw [hs] at c3
        clear hs
        go_wp2_with fail
        go_ret3
        exact ⟨by rw [he.out]; rfl, b1⟩
      | false =>
        have hat : atR l id = ((k : Int), 0) := by rw [ha2.out, if_neg (by rw [hs]; simp)]
        rw [hs] at c3
        have he0 := Lib.hid (takeR_at hk (by rw [hat]) (by rw [hat]))
        obtain ⟨n1, n2, n3, n4⟩ := numR_parts (rightR_all Hr.out l[k] (List.getElem_mem hk)).2
        clear hs hat
        by_cases hlt : l[k].limit < l[k].next
        · have he : Hid (takeR l id = .error 14) := by show _ = _; rw [he0.out, if_pos hlt]
          have hdl : decide (l[k].limit < l[k].next) = true := by simpa using hlt
          go_wp2_with fail
          go_quiet (fail)
          go_wp2_with fail
          go_ret3
          exact ⟨by rw [he.out]; rfl, b1.trans (below_drawn _ _ _)⟩
        · have he : Hid (takeR l id = .ok (l.set k ⟨l[k].name, l[k].next + 1, l[k].limit, l[k].shut⟩, l[k].next)) := by show _ = _; rw [he0.out, if_neg hlt]
          have hdl : decide (l[k].limit < l[k].next) = false := by simpa using hlt
          go_wp2_with fail
          go_quiet (fail)
          have b2 := below_drawn w1.heap.size w1 nq
          have hv2 := hv1.ext b2
          have c1' := (srs4 hv2 hk).2.1
          have hb2 := b1.trans (b2.mono b1.size)
          have hsz2 := hb2.size
          generalize hw2 : w1.drewN nq = w2 at *
          have hbl := below_alloc w2 (.cells #[] 66)
          have hvl := hv2.ext hbl
          have ownl := OwnR.litAt srsE w2 #[] 66 [] 0 w2.heap.size w2.heap.size rfl rfl rfl (Nat.zero_le _) (Nat.le_refl _)
          have hsl := hbl.size
          clear hw2
          go_wp2_with (first
            | (at_builtin; refine wpList_appR (E := srsE) tSrs rfl rfl ownl rfl hvl rfl (by simp; omega) hsl ?_; intro v3 w3 own3 g3 b3; rw [List.nil_append] at own3; clear g3; have b13 := hbl.trans b3; obtain ⟨g, cg, rfl, e1, e2, e3, e4⟩ := own3.head (by omega); unfold maxLen at e4; have s1 := own3.cellAt rfl k hk 1 (by decide); have f1 := own3.frozenAt rfl (k * 4 + 1); simp only [srsE, List.getElem?_cons_zero, List.getElem?_cons_succ] at s1)
            | fail)
          obtain ⟨own5, gr5⟩ := OwnR.stored own3 rfl k hk 1 (by decide) (.int .i64 (l[k].next + 1)) rfl ⟨l[k].name, l[k].next + 1, l[k].limit, l[k].shut⟩ rfl
          have own5 : OwnR srsE (w3.setCell ⟨g, k * 4 + 1, none⟩ (.int .i64 (l[k].next + 1))) w2.heap.size 66 _ _ := own5
          have b5 : Below w2.heap.size w2 (w3.setCell ⟨g, k * 4 + 1, none⟩ (.int .i64 (l[k].next + 1))) := b13.trans (below_grown gr5 (by omega) (fun b hb => by cases hb; exact e1))
          have hv5 := hv2.ext b5
          have c1'' := (srs4 hv5 hk).2.1
          generalize hw5 : w3.setCell ⟨g, k * 4 + 1, none⟩ (.int .i64 (l[k].next + 1)) = w5 at *
          clear hw5
          go_quiet (fail)
          have b6 := below_drawn w5.heap.size w5 nq
          go_wp2_with fail
          go_ret3
          exact ⟨by rw [he.out]; exact ⟨_, rfl, (OwnR.of (own5.ext b6) (by simp) rfl).base hsz2⟩, hb2.trans ((b5.trans (b6.mono b5.size)).mono hsz2)⟩
end Go.Proofs.Ytmchkhofcjgeaaa
