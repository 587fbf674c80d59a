/- Walks: session.Keep, the document's Keep and Fresh. -/
import Derived.Test.YtmchkhofcjgeaaaSesD
import Derived.RegionTactic
namespace Go.Proofs.Ytmchkhofcjgeaaa
open Go Go.RowKit

theorem lookS_ok {l : List Ses} {id seq : Int} (h : (lookS l id seq).2.2 = 0) : ∃ k, ∃ _ : k < l.length, placeS l id = (k : Int) ∧ l[k].id = id ∧ rightS l = true := by
  cases hr : rightS l with
  | false =>
    have : lookS l id seq = (rep0, false, 1) := by unfold lookS; rw [if_pos hr]
    rw [this] at h; simp at h
  | true =>
    by_cases hp : placeS l id < 0
    · rw [lookS_gone hr hp] at h; simp at h
    · obtain ⟨k, hk, h1, h2⟩ := placeS_lt (l := l) (id := id) (by omega)
      exact ⟨k, hk, h1, h2, rfl⟩

theorem ses_put {w : World} {B g cap : Nat} {l : List Ses} (own : OwnR sesE w B 33 (.slice (some ⟨g, 0, none⟩) l.length cap) l) (k : Nat) (hk : k < l.length) (seq : Int) (r : Rep) :
    OwnR sesE ((((w.setCell ⟨g, k * 5 + 1, none⟩ (.int .i64 seq)).setCell ⟨g, k * 5 + 2, none⟩ (.int .i64 r.why)).setCell ⟨g, k * 5 + 3, none⟩ (.int .i64 r.num)).setCell ⟨g, k * 5 + 4, none⟩ (.int .i64 r.gross)) B 33 (.slice (some ⟨g, 0, none⟩) l.length cap) (l.set k ⟨l[k].id, seq, r⟩) ∧
      w.grownBy ((((w.setCell ⟨g, k * 5 + 1, none⟩ (.int .i64 seq)).setCell ⟨g, k * 5 + 2, none⟩ (.int .i64 r.why)).setCell ⟨g, k * 5 + 3, none⟩ (.int .i64 r.num)).setCell ⟨g, k * 5 + 4, none⟩ (.int .i64 r.gross)) (some g) := by
  obtain ⟨o1, g1⟩ := OwnR.stored own rfl k hk 1 (by decide) (.int .i64 seq) rfl ⟨l[k].id, seq, l[k].rep⟩ rfl
  obtain ⟨o2, g2⟩ := OwnR.stored o1 (by simp) k (by simpa using hk) 2 (by decide) (.int .i64 r.why) rfl ⟨l[k].id, seq, ⟨r.why, l[k].rep.num, l[k].rep.gross⟩⟩ (by rw [List.getElem_set_self]; rfl)
  obtain ⟨o3, g3⟩ := OwnR.stored o2 (by simp) k (by simpa using hk) 3 (by decide) (.int .i64 r.num) rfl ⟨l[k].id, seq, ⟨r.why, r.num, l[k].rep.gross⟩⟩ (by rw [List.getElem_set_self]; rfl)
  obtain ⟨o4, g4⟩ := OwnR.stored o3 (by simp) k (by simpa using hk) 4 (by decide) (.int .i64 r.gross) rfl ⟨l[k].id, seq, r⟩ (by rw [List.getElem_set_self]; rfl)
  simp only [List.set_set] at o4
  exact ⟨o4, grown_tr (grown_tr (grown_tr g1 g2) g3) g4⟩

set_option maxHeartbeats 2000000 in
set_option maxRecDepth 100000 in
theorem sesKeep (v : Value) (l : List Ses) (id seq : Int) (r : Rep) (w : World) (hv : Rd sesE w v l) :
    Calls Try.prog 13 #[v, .int .i64 id, .int .i64 seq, .agg #[.int .i64 r.why, .int .i64 r.num, .int .i64 r.gross]] w fun e w' => TellsL sesE w' w.heap.size 33 (keepS l id seq r) e ∧ Below w.heap.size w w' := by
  obtain ⟨p, cap, rfl, h1, h2, h3, h4⟩ := hv.form
  clear h3 h4
  unfold maxLen at h2
  have hb0 := below_alloc w (.cells #[.int .i64 r.why, .int .i64 r.num, .int .i64 r.gross] 24)
  have hk0 := Blk.new w #[.int .i64 r.why, .int .i64 r.num, .int .i64 r.gross] 24
  have hv0 := hv.ext hb0
  have hd := Lib.hid (show keepS l id seq r = if (lookS l id seq).2.2 ≠ 0 then .error (lookS l id seq).2.2 else if (lookS l id seq).2.1 = true then .error 12 else .ok (l.set (placeS l id).toNat ⟨id, seq, r⟩) from rfl)
  have hok := Lib.hid (fun h => lookS_ok (l := l) (id := id) (seq := seq) h)
  go_enter Try.func13, Try.ntmps13
  generalize hw0 : w.alloc (.cells #[.int .i64 r.why, .int .i64 r.num, .int .i64 r.gross] 24) = w0 at *
  go_wp2_with fail
  with_reducible refine (sesLook _ l id seq _ hv0).mono ?_
  rintro e w1 ⟨rfl, b1⟩
  have hk1 := hk0.ext b1
  have hv1 := hv0.ext b1
  have hb1 := hb0.trans (b1.mono hb0.size)
  clear hk0 hv0 b1 hb0 hw0
  generalize lookS l id seq = lk at *
  have hb2 := below_alloc w1 (.cells #[.int .i64 lk.1.why, .int .i64 lk.1.num, .int .i64 lk.1.gross] 24)
  have hk2 := hk1.ext hb2
  have hv2 := hv1.ext hb2
  have hbe := hb1.trans (hb2.mono hb1.size)
  clear hk1 hv1 hb1 hb2
  by_cases hz : lk.2.2 = 0
  · have hzb : (lk.2.2 != 0) = false := by simpa using hz
    obtain ⟨k, hk, hpk, hlid, hrt⟩ := hok.out hz
    have hl8 := right_len hrt
    rw [hpk] at hd
    clear hrt hok
    cases hg : lk.2.1 with
    | true =>
      have he : Hid (keepS l id seq r = .error 12) := by show _ = _; rw [hd.out, if_neg (by simpa using hz), if_pos hg]
      have Hz := Lib.hid hz
      clear hz hd
      go_wp2_with fail
      go_ret2
      exact ⟨by rw [he.out]; rfl, hbe⟩
    | false =>
      have he : Hid (keepS l id seq r = .ok (l.set k ⟨id, seq, r⟩)) := by show _ = _; rw [hd.out, if_neg (by simpa using hz), if_neg (by simp [hg])]; rfl
      have Hz := Lib.hid hz
      clear hz hd
      have hsz := hbe.size
      generalize hw2 : w1.alloc (.cells #[.int .i64 lk.1.why, .int .i64 lk.1.num, .int .i64 lk.1.gross] 24) = w2 at *
      go_wp2_with (first
        | (at_builtin; refine wpList_appR (E := sesE) tSes rfl rfl (OwnR.nil w2 w2.heap.size _) rfl hv2 rfl (by simp; omega) (Nat.le_refl _) ?_; intro v3 w3 own3 g3 b3; rw [List.nil_append] at own3; clear g3)
        | fail)
      have hvk := own3.rd
      have hlt2 := hk2.lt
      have hk3 := hk2.ext b3
      have hb3 := hbe.trans (b3.mono hsz)
      with_reducible refine (sesPlace _ l id _ hvk).mono ?_
      rintro e w4 ⟨rfl, b4⟩
      rw [hpk]
      have own4 := own3.ext b4
      have hk4 := hk3.ext b4
      have hb4 := hb3.trans (b4.mono hb3.size)
      obtain ⟨g, cg, rfl, e1, e2, e3, e4⟩ := own4.head (by omega)
      unfold maxLen at e4
      obtain ⟨m0, m1, m2, f0, f1, f2⟩ := rep_cells hk4
      clear own3 hk3 hb3 hvk hpk b3 b4 hk2 hv2
      go_wp2_with fail
      have s1 := own4.cellAt rfl k hk 1 (by decide)
      have s2 := own4.cellAt rfl k hk 2 (by decide)
      have s3 := own4.cellAt rfl k hk 3 (by decide)
      have s4 := own4.cellAt rfl k hk 4 (by decide)
      have t1 := own4.frozenAt rfl (k * 5 + 1)
      have t2 := own4.frozenAt rfl (k * 5 + 2)
      have t3 := own4.frozenAt rfl (k * 5 + 3)
      have t4 := own4.frozenAt rfl (k * 5 + 4)
      simp only [sesE, List.getElem?_cons_zero, List.getElem?_cons_succ] at s1 s2 s3 s4
      have hne : ¬ w.heap.size = g := by omega
      have hki : (k : Int) < (l.length : Int) := by omega
      have hk0 : (0 : Int) ≤ (k : Int) := by omega
      obtain ⟨own5, gr5⟩ := ses_put own4 k hk seq r
      rw [hlid] at own5
      clear hlid
      go_region
      all_goals
        go_wp2_with fail
        go_ret2
        exact ⟨by rw [he.out]; exact ⟨_, rfl, (OwnR.of own5 (by simp) rfl).base hsz⟩, hb4.trans ((below_grown gr5 (by omega) (fun b hb => by cases hb; omega)).trans (below_drew _ _))⟩
  · have hzb : (lk.2.2 != 0) = true := by simpa using hz
    have he : Hid (keepS l id seq r = .error lk.2.2) := by show _ = _; rw [hd.out, if_pos hz]
    have Hz := Lib.hid hz
    clear hz hd hok
    go_wp2_with fail
    go_ret2
    exact ⟨by rw [he.out]; rfl, hbe⟩

/-- .. the document's Keep, where the number is new -/
def refKeepS (l : List Ses) (id seq : Int) (r : Rep) : List Ses := if placeS l id < 0 then l else l.set (placeS l id).toNat ⟨id, seq, r⟩
set_option maxHeartbeats 2000000 in
set_option maxRecDepth 100000 in
theorem sesRefKeep (v : Value) (l : List Ses) (id seq : Int) (r : Rep) (w : World) (hv : Rd sesE w v l) (hl : l.length * 40 ≤ 140737488355328) :
    Calls Try.prog 23 #[v, .int .i64 id, .int .i64 seq, .agg #[.int .i64 r.why, .int .i64 r.num, .int .i64 r.gross]] w fun e w' => (∃ u, e = .returned u ∧ OwnR sesE w' w.heap.size 33 u (refKeepS l id seq r)) ∧ Below w.heap.size w w' := by
  obtain ⟨p, cap, rfl, h1, h2, h3, h4⟩ := hv.form
  clear h3 h4
  unfold maxLen at h2
  have hb0 := below_alloc w (.cells #[.int .i64 r.why, .int .i64 r.num, .int .i64 r.gross] 24)
  have hk0 := Blk.new w #[.int .i64 r.why, .int .i64 r.num, .int .i64 r.gross] 24
  have hv0 := hv.ext hb0
  have hs0 := hb0.size
  have hwl := hk0.lt
  go_enter Try.func23, Try.ntmps23
  generalize hw0 : w.alloc (.cells #[.int .i64 r.why, .int .i64 r.num, .int .i64 r.gross] 24) = w0 at *
  have hbl := below_alloc w0 (.cells #[] 33)
  have hvl := hv0.ext hbl
  have hkl := hk0.ext hbl
  have ownl := OwnR.litAt sesE w0 #[] 33 [] 0 w0.heap.size w0.heap.size rfl rfl rfl (Nat.zero_le _) (Nat.le_refl _)
  have hsl := hbl.size
  go_wp2_with (first
    | (at_builtin; refine wpList_appR (E := sesE) tSes rfl rfl ownl rfl hvl rfl (by simp; omega) hsl ?_; intro v3 w3 own3 g3 b3; rw [List.nil_append] at own3; clear g3)
    | fail)
  have hb3 := hb0.trans ((hbl.trans b3).mono hs0)
  have hk3 := hkl.below b3 hwl
  have hvk := own3.rd
  clear hkl hvl ownl hbl b3 hw0
  with_reducible refine (sesSeat _ l id _ hvk).mono ?_
  rintro e w' ⟨rfl, rfl⟩
  by_cases hp : placeS l id < 0
  · have he : Hid (refKeepS l id seq r = l) := by show _ = _; unfold refKeepS; rw [if_pos hp]
    go_wp2_with fail
    go_ret
    exact ⟨⟨_, rfl, by rw [he.out]; exact own3.base hs0⟩, hb3⟩
  · obtain ⟨k, hk, hpk, hlid⟩ := placeS_lt (l := l) (id := id) (by omega)
    have he : Hid (refKeepS l id seq r = l.set k ⟨id, seq, r⟩) := by show _ = _; unfold refKeepS; rw [if_neg hp, hpk]; rfl
    rw [hpk]
    clear hp hpk
    have hk0' : (0 : Int) ≤ (k : Int) := by omega
    obtain ⟨g, cg, rfl, e1, e2, e3, e4⟩ := own3.head (by omega)
    unfold maxLen at e4
    obtain ⟨m0, m1, m2, f0, f1, f2⟩ := rep_cells hk3
    clear hvk
    go_wp2_with fail
    have s1 := own3.cellAt rfl k hk 1 (by decide)
    have s2 := own3.cellAt rfl k hk 2 (by decide)
    have s3 := own3.cellAt rfl k hk 3 (by decide)
    have s4 := own3.cellAt rfl k hk 4 (by decide)
    have t1 := own3.frozenAt rfl (k * 5 + 1)
    have t2 := own3.frozenAt rfl (k * 5 + 2)
    have t3 := own3.frozenAt rfl (k * 5 + 3)
    have t4 := own3.frozenAt rfl (k * 5 + 4)
    simp only [sesE, List.getElem?_cons_zero, List.getElem?_cons_succ] at s1 s2 s3 s4
    have hne : ¬ w.heap.size = g := by omega
    have hki : (k : Int) < (l.length : Int) := by omega
    obtain ⟨own5, gr5⟩ := ses_put own3 k hk seq r
    rw [hlid] at own5
    clear hlid
    go_region
    all_goals
      go_wp2_with fail
      go_ret
      exact ⟨⟨_, rfl, by rw [he.out]; exact (OwnR.of own5 (by simp) rfl).base hs0⟩, hb3.trans ((below_grown gr5 (by omega) (fun b hb => by cases hb; omega)).trans (below_drew _ _))⟩
end Go.Proofs.Ytmchkhofcjgeaaa
