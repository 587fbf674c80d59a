/- The walk of slices.Delete at disk.file: one element out of a row of the call's own. -/
import Derived.Test.YtklopbjlpffnbaaDskP
import Derived.Test.YtklopbjlpffnbaaDel0
namespace Go.Proofs.Ytklopbjlpffnbaa
open Go Go.RowKit

def ent0 : Ent := ⟨⟨#[]⟩, none, 0, [], 0⟩
set_option maxHeartbeats 4000000 in
set_option maxRecDepth 100000 in
theorem delFil_core (B g cap k m : Nat) (l : List Ent) (w : World) (hl : l.length = k + 1 + m) (own : OwnR entE w B 64 (.slice (some ⟨g, 0, none⟩) (k + 1 + m) cap) l) (hcap : k + 1 + m ≤ cap) (hmax : cap ≤ maxLen) (hB : B ≤ g) :
    Calls Try.prog 34 #[.slice (some ⟨g, 0, none⟩) (k + 1 + m) cap, .int .i64 (k : Int), .int .i64 ((k : Int) + 1)] w fun e w' =>
      e = .returned (.slice (some ⟨g, 0, none⟩) (k + m) cap) ∧ OwnR entE w' B 64 (.slice (some ⟨g, 0, none⟩) (k + m) cap) (l.take k ++ l.drop (k + 1)) ∧ w.grownBy w' (some g) := by
  have own' : Own w B 64 3 (.slice (some ⟨g, 0, none⟩) (k + 1 + m) cap) (k + 1 + m) (entE.all l) := by
    have h : OwnR entE w B 64 (.slice (some ⟨g, 0, none⟩) l.length cap) l := by rw [hl]; exact own
    have h2 : Own w B 64 3 (.slice (some ⟨g, 0, none⟩) l.length cap) l.length (entE.all l) := h
    rw [hl] at h2; exact h2
  unfold maxLen at hmax
  obtain ⟨i0, z0, hi0, hz0, hs0, hb0, hzs0⟩ := tFil.info
  obtain ⟨news, hnews⟩ : ∃ news, news = entE.all (l.drop (k + 1)) := ⟨_, rfl⟩
  have hlen : news.length = m * 3 := by rw [hnews, entE.all_length, List.length_drop, hl]; congr 1; omega
  have hall : ∀ j u, (entE.all l)[j]? = some u → w.cell? ⟨g, j, none⟩ = some u := fun j u hu => by have h := own'.1.cells (g := g) rfl j u hu; rw [addr_add _ rfl, Nat.zero_add] at h; exact h
  have hlall : (entE.all l).length = (k + 1 + m) * 3 := by rw [entE.all_length, hl]; rfl
  have hfz : ∀ j, w.frozen? ⟨g, j, none⟩ = false := fun j => own'.frozenAt j
  obtain ⟨A, hA, hsrc⟩ : ∃ A : Addr, (∀ w', (Instr.slice 56 (.slice (some ⟨g, 0, none⟩) (k + 1 + m) cap) (some (.int .i64 ((k : Int) + 1))) none none).run Try.prog w' = .ok (.slice (some A) m (cap - (k + 1))) w') ∧ Hid (∀ j u, news[j]? = some u → w.drew.cell? (A.add j) = some u) := by
    by_cases hc : cap = k + 1
    · have hm0 : m = 0 := by omega
      subst hm0
      refine ⟨⟨g, 0, none⟩, fun w' => ?_, fun j u hu => ?_⟩
      · have h := run_sub_from tFil own'.cells .i64 ((k : Int) + 1) (k + 1) (by omega) (by omega) w'
        rw [h]; simp [subV, subP, hc]
      · have : news = [] := List.length_eq_zero_iff.1 (by omega)
        rw [this] at hu; simp at hu
    · refine ⟨⟨g, (k + 1) * 3, none⟩, fun w' => ?_, fun j u hu => ?_⟩
      · have h := run_sl_from tFil (P := Try.prog) g (k + 1 + m) cap .i64 ((k : Int) + 1) (k + 1) (by omega) (by omega) (by omega) (by omega) w'
        rw [h]; rw [show k + 1 + m - (k + 1) = m from by omega]
      · rw [hnews, ← entE.all_drop, List.getElem?_drop] at hu
        show w.cell? _ = _
        rw [addr_add _ rfl]; exact hall _ _ hu
  have hs2 := run_sl_to tFil (P := Try.prog) g (k + 1 + m) cap .i64 (k : Int) k rfl (by omega) (by omega)
  have s2 : Hid (∀ u ∈ news, u.oneCell' = true) := by show ∀ _, _; rw [hnews]; exact entE.all_oneCell _
  have s3 : Hid (∀ t, t < news.length → (w.drew.cell? ⟨g, 0 + k * 3 + t, none⟩).isSome = true ∧ w.drew.frozen? ⟨g, 0 + k * 3 + t, none⟩ = false) := by
    intro t ht
    rw [hlen] at ht
    refine ⟨?_, hfz _⟩
    have hlt : 0 + k * 3 + t < (entE.all l).length := by rw [hlall]; omega
    show (w.cell? _).isSome = true
    rw [hall _ _ (List.getElem?_eq_getElem hlt)]; rfl
  obtain ⟨W1, hW1⟩ : ∃ W1, W1 = w.drew.setCells g (0 + k * 3) news := ⟨_, rfl⟩
  have hst := Own.storedAll own'.drew (k * 3) news s2.out
  rw [Nat.zero_add] at hW1
  rw [← hW1] at hst
  obtain ⟨own1, gr1⟩ := hst
  have hs6 := run_sl_btw tFil (P := Try.prog) g (k + m) cap .i64 .i64 ((k : Int) + (m : Int)) ((k : Int) + 1 + (m : Int)) (k + m) (k + 1 + m) (by omega) (by omega) (by omega) (by omega) (by omega)
  rw [show k + 1 + m - (k + m) = 1 from by omega] at hs6
  have hpl : (putAt (entE.all l) (k * 3) news).length = (k + 1 + m) * 3 := by rw [putAt_length, hlall]
  have hcl : ∀ ty, (Builtin.clear_ #[56] ty #[.slice (some ⟨g, (k + m) * 3, none⟩) 1 (cap - (k + m))]).run Try.prog W1 = .ok (.tuple #[]) (W1.setCells g ((k + m) * 3) (entE.enc ent0)) := fun ty =>
    run_clearR tFil ent0 (.agg #[.string ⟨#[]⟩, .slice none 0 0, .int .i64 0]) Try.zeroValue64 rfl ty g ((k + m) * 3) _ W1 (fun j hj => by
      have hj5 : j < 3 := hj
      have hlt : (k + m) * 3 + j < (putAt (entE.all l) (k * 3) news).length := by rw [hpl]; omega
      rw [own1.cellAt _ hlt]; rfl) (fun j _ => own1.frozenAt _)
  obtain ⟨own2, gr2⟩ := Own.storedAll own1 ((k + m) * 3) (entE.enc ent0) (entE.one _)
  have own3 := Own.cut own2 (k + m) (by omega)
  have hfin := del_cells entE l k m hl (entE.enc ent0)
  have hfin' : (putAt (putAt (entE.all l) (k * 3) news) ((k + m) * 3) (entE.enc ent0)).take ((k + m) * 3) = entE.all (l.take k ++ l.drop (k + 1)) := by rw [hnews]; exact hfin
  rw [hfin'] at own3
  have hll : (l.take k ++ l.drop (k + 1)).length = k + m := by simp; omega
  have own4 : OwnR entE (W1.setCells g ((k + m) * 3) (entE.enc ent0)) B 64 (.slice (some ⟨g, 0, none⟩) (k + m) cap) (l.take k ++ l.drop (k + 1)) := OwnR.of own3 hll.symm rfl
  have gr4 : w.grownBy (W1.setCells g ((k + m) * 3) (entE.enc ent0)) (some g) := grown_tr (grown_tr (grown_drew (World.grownBy.refl w (some g))) gr1) gr2
  generalize W1.setCells g ((k + m) * 3) (entE.enc ent0) = W2 at *
  have HW1 : Hid (w.drew.setCells g (0 + k * 3) news = W1) := by show _ = _; rw [Nat.zero_add, hW1]
  have Hlen := Lib.hid hlen
  clear own1 gr1 own2 gr2 own3 hfin hfin' hW1 hall hfz hpl hnews hlen hlall hll own' own hl
  have hk1 : (k : Int) ≤ (k : Int) + 1 := by omega
  have hk2 : (k : Int) + 1 ≤ (k : Int) + 1 + (m : Int) := by omega
  have hk3 : (k : Int) + 1 + (m : Int) ≤ (cap : Int) := by omega
  have hne : ¬ (k : Int) = (k : Int) + 1 := by omega
  go_enter Try.func34, Try.ntmps34
  go_wp2_with fail
  go_region_law (refine step_append_room rfl (.tmp 22) (.tmp 25) 56 rfl 64 i0 3 tFil.under hi0 hs0 g 0 k cap (by simp [Act.eval, Act.put]) A m (cap - (k + 1)) news (by simp [Act.eval, Act.put]) Hlen.out hsrc.out s2.out (by omega) s3.out ?_; rw [HW1.out])
  go_wp2
  go_ret
  exact ⟨rfl, own4, gr4⟩

theorem delFil (B k : Nat) (v : Value) (l : List Ent) (w : World) (own : OwnR entE w B 64 v l) (hk : k < l.length) (hB : B ≤ w.heap.size) :
    Calls Try.prog 34 #[v, .int .i64 (k : Int), .int .i64 ((k : Int) + 1)] w fun e w' =>
      ∃ v', e = .returned v' ∧ OwnR entE w' B 64 v' (l.take k ++ l.drop (k + 1)) ∧ w.grownBy w' v.ownBlock ∧ Below B w w' ∧ v'.ownBlock = v.ownBlock := by
  obtain ⟨g, cap, rfl, h1, h2, h3, h4⟩ := own.head (by omega)
  obtain ⟨m, hm⟩ : ∃ m, l.length = k + 1 + m := ⟨l.length - (k + 1), by omega⟩
  have own' : OwnR entE w B 64 (.slice (some ⟨g, 0, none⟩) (k + 1 + m) cap) l := by rw [← hm]; exact own
  rw [hm]
  refine (delFil_core B g cap k m l w hm own' (by omega) h4 h1).mono ?_
  rintro e w' ⟨he, own2, gr⟩
  exact ⟨_, he, own2, gr, below_grown gr hB (fun b hb => by cases hb; exact h1), rfl⟩
end Go.Proofs.Ytklopbjlpffnbaa
