/- The walk of slices.Delete at api.Session: one element out of a row of the call's own. -/
import Derived.Test.YtmchkhofcjgeaaaSesP
import Derived.Test.YtmchkhofcjgeaaaDel0
namespace Go.Proofs.Ytmchkhofcjgeaaa
open Go Go.RowKit

set_option maxHeartbeats 4000000 in
set_option maxRecDepth 100000 in
theorem delSes_core (B g cap k m : Nat) (l : List Ses) (w : World) (hl : l.length = k + 1 + m) (own : OwnR sesE w B 33 (.slice (some ⟨g, 0, none⟩) (k + 1 + m) cap) l) (hcap : k + 1 + m ≤ cap) (hmax : cap ≤ maxLen) (hB : B ≤ g) :
    Calls Try.prog 42 #[.slice (some ⟨g, 0, none⟩) (k + 1 + m) cap, .int .i64 (k : Int), .int .i64 ((k : Int) + 1)] w fun e w' =>
      e = .returned (.slice (some ⟨g, 0, none⟩) (k + m) cap) ∧ OwnR sesE w' B 33 (.slice (some ⟨g, 0, none⟩) (k + m) cap) (l.take k ++ l.drop (k + 1)) ∧ w.grownBy w' (some g) := by
  have own' : Own w B 33 5 (.slice (some ⟨g, 0, none⟩) (k + 1 + m) cap) (k + 1 + m) (sesE.all l) := by
    have h : OwnR sesE w B 33 (.slice (some ⟨g, 0, none⟩) l.length cap) l := by rw [hl]; exact own
    have h2 : Own w B 33 5 (.slice (some ⟨g, 0, none⟩) l.length cap) l.length (sesE.all l) := h
    rw [hl] at h2; exact h2
  unfold maxLen at hmax
  obtain ⟨i0, z0, hi0, hz0, hs0, hb0, hzs0⟩ := tSes.info
  obtain ⟨news, hnews⟩ : ∃ news, news = sesE.all (l.drop (k + 1)) := ⟨_, rfl⟩
  have hlen : news.length = m * 5 := by rw [hnews, sesE.all_length, List.length_drop, hl]; congr 1; omega
  have hall : ∀ j u, (sesE.all l)[j]? = some u → w.cell? ⟨g, j, none⟩ = some u := fun j u hu => by have h := own'.1.cells (g := g) rfl j u hu; rw [addr_add _ rfl, Nat.zero_add] at h; exact h
  have hlall : (sesE.all l).length = (k + 1 + m) * 5 := by rw [sesE.all_length, hl]; rfl
  have hfz : ∀ j, w.frozen? ⟨g, j, none⟩ = false := fun j => own'.frozenAt j
  obtain ⟨A, hA, hsrc⟩ : ∃ A : Addr, (∀ w', (Instr.slice 25 (.slice (some ⟨g, 0, none⟩) (k + 1 + m) cap) (some (.int .i64 ((k : Int) + 1))) none none).run Try.prog w' = .ok (.slice (some A) m (cap - (k + 1))) w') ∧ Hid (∀ j u, news[j]? = some u → w.drew.cell? (A.add j) = some u) := by
    by_cases hc : cap = k + 1
    · have hm0 : m = 0 := by omega
      subst hm0
      refine ⟨⟨g, 0, none⟩, fun w' => ?_, fun j u hu => ?_⟩
      · have h := run_sub_from tSes own'.cells .i64 ((k : Int) + 1) (k + 1) (by omega) (by omega) w'
        rw [h]; simp [subV, subP, hc]
      · have : news = [] := List.length_eq_zero_iff.1 (by omega)
        rw [this] at hu; simp at hu
    · refine ⟨⟨g, (k + 1) * 5, none⟩, fun w' => ?_, fun j u hu => ?_⟩
      · have h := run_sl_from tSes (P := Try.prog) g (k + 1 + m) cap .i64 ((k : Int) + 1) (k + 1) (by omega) (by omega) (by omega) (by omega) w'
        rw [h]; rw [show k + 1 + m - (k + 1) = m from by omega]
      · rw [hnews, ← sesE.all_drop, List.getElem?_drop] at hu
        show w.cell? _ = _
        rw [addr_add _ rfl]; exact hall _ _ hu
  have hs2 := run_sl_to tSes (P := Try.prog) g (k + 1 + m) cap .i64 (k : Int) k rfl (by omega) (by omega)
  have s2 : Hid (∀ u ∈ news, u.oneCell' = true) := by show ∀ _, _; rw [hnews]; exact sesE.all_oneCell _
  have s3 : Hid (∀ t, t < news.length → (w.drew.cell? ⟨g, 0 + k * 5 + t, none⟩).isSome = true ∧ w.drew.frozen? ⟨g, 0 + k * 5 + t, none⟩ = false) := by
    intro t ht
    rw [hlen] at ht
    refine ⟨?_, hfz _⟩
    have hlt : 0 + k * 5 + t < (sesE.all l).length := by rw [hlall]; omega
    show (w.cell? _).isSome = true
    rw [hall _ _ (List.getElem?_eq_getElem hlt)]; rfl
  obtain ⟨W1, hW1⟩ : ∃ W1, W1 = w.drew.setCells g (0 + k * 5) news := ⟨_, rfl⟩
  have hst := Own.storedAll own'.drew (k * 5) news s2.out
  rw [Nat.zero_add] at hW1
  rw [← hW1] at hst
  obtain ⟨own1, gr1⟩ := hst
  have hs6 := run_sl_btw tSes (P := Try.prog) g (k + m) cap .i64 .i64 ((k : Int) + (m : Int)) ((k : Int) + 1 + (m : Int)) (k + m) (k + 1 + m) (by omega) (by omega) (by omega) (by omega) (by omega)
  rw [show k + 1 + m - (k + m) = 1 from by omega] at hs6
  have hpl : (putAt (sesE.all l) (k * 5) news).length = (k + 1 + m) * 5 := by rw [putAt_length, hlall]
  have hcl : ∀ ty, (Builtin.clear_ #[25] ty #[.slice (some ⟨g, (k + m) * 5, none⟩) 1 (cap - (k + m))]).run Try.prog W1 = .ok (.tuple #[]) (W1.setCells g ((k + m) * 5) (sesE.enc ses0)) := fun ty =>
    run_clearR tSes ses0 (.agg #[.int .i64 0, .int .i64 0, .int .i64 0, .int .i64 0, .int .i64 0]) Try.zeroValue33 rfl ty g ((k + m) * 5) _ W1 (fun j hj => by
      have hj5 : j < 5 := hj
      have hlt : (k + m) * 5 + j < (putAt (sesE.all l) (k * 5) news).length := by rw [hpl]; omega
      rw [own1.cellAt _ hlt]; rfl) (fun j _ => own1.frozenAt _)
  obtain ⟨own2, gr2⟩ := Own.storedAll own1 ((k + m) * 5) (sesE.enc ses0) (sesE.one _)
  have own3 := Own.cut own2 (k + m) (by omega)
  have hfin := del_cells sesE l k m hl (sesE.enc ses0)
  have hfin' : (putAt (putAt (sesE.all l) (k * 5) news) ((k + m) * 5) (sesE.enc ses0)).take ((k + m) * 5) = sesE.all (l.take k ++ l.drop (k + 1)) := by rw [hnews]; exact hfin
  rw [hfin'] at own3
  have hll : (l.take k ++ l.drop (k + 1)).length = k + m := by simp; omega
  have own4 : OwnR sesE (W1.setCells g ((k + m) * 5) (sesE.enc ses0)) B 33 (.slice (some ⟨g, 0, none⟩) (k + m) cap) (l.take k ++ l.drop (k + 1)) := OwnR.of own3 hll.symm rfl
  have gr4 : w.grownBy (W1.setCells g ((k + m) * 5) (sesE.enc ses0)) (some g) := grown_tr (grown_tr (grown_drew (World.grownBy.refl w (some g))) gr1) gr2
  generalize W1.setCells g ((k + m) * 5) (sesE.enc ses0) = W2 at *
  have HW1 : Hid (w.drew.setCells g (0 + k * 5) news = W1) := by show _ = _; rw [Nat.zero_add, hW1]
  have Hlen := Lib.hid hlen
  clear own1 gr1 own2 gr2 own3 hfin hfin' hW1 hall hfz hpl hnews hlen hlall hll own' own hl
  have hk1 : (k : Int) ≤ (k : Int) + 1 := by omega
  have hk2 : (k : Int) + 1 ≤ (k : Int) + 1 + (m : Int) := by omega
  have hk3 : (k : Int) + 1 + (m : Int) ≤ (cap : Int) := by omega
  have hne : ¬ (k : Int) = (k : Int) + 1 := by omega
  go_enter Try.func42, Try.ntmps42
  go_wp2_with fail
  go_region_law (refine step_append_room rfl (.tmp 22) (.tmp 25) 25 rfl 33 i0 5 tSes.under hi0 hs0 g 0 k cap (by simp [Act.eval, Act.put]) A m (cap - (k + 1)) news (by simp [Act.eval, Act.put]) Hlen.out hsrc.out s2.out (by omega) s3.out ?_; rw [HW1.out])
  go_wp2
  go_ret
  exact ⟨rfl, own4, gr4⟩

theorem delSes (B k : Nat) (v : Value) (l : List Ses) (w : World) (own : OwnR sesE w B 33 v l) (hk : k < l.length) (hB : B ≤ w.heap.size) :
    Calls Try.prog 42 #[v, .int .i64 (k : Int), .int .i64 ((k : Int) + 1)] w fun e w' =>
      ∃ v', e = .returned v' ∧ OwnR sesE w' B 33 v' (l.take k ++ l.drop (k + 1)) ∧ w.grownBy w' v.ownBlock ∧ Below B w w' := by
  obtain ⟨g, cap, rfl, h1, h2, h3, h4⟩ := own.head (by omega)
  obtain ⟨m, hm⟩ : ∃ m, l.length = k + 1 + m := ⟨l.length - (k + 1), by omega⟩
  have own' : OwnR sesE w B 33 (.slice (some ⟨g, 0, none⟩) (k + 1 + m) cap) l := by rw [← hm]; exact own
  rw [hm]
  refine (delSes_core B g cap k m l w hm own' (by omega) h4 h1).mono ?_
  rintro e w' ⟨he, own2, gr⟩
  exact ⟨_, he, own2, gr, below_grown gr hB (fun b hb => by cases hb; exact h1)⟩
end Go.Proofs.Ytmchkhofcjgeaaa
