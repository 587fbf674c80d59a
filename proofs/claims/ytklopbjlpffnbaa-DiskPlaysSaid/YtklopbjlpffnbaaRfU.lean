/- The walk of impostlaw16.alike. -/
import Derived.Test.YtklopbjlpffnbaaRfT
namespace Go.Proofs.Ytklopbjlpffnbaa
open Go Go.RowKit BigFrame Go.PlainAid
attribute [local go_sem] After.same
set_option maxHeartbeats 8000000 in
set_option maxRecDepth 100000 in
theorem alikeT {w0 w : World} {X : Nat → Prop} {gD gR : Nat} {d : Dk} {k : Nat} (hk : k ≤ 900) (hp : PInv k d) (h : Two w0 X gD gR d d w) :
    Calls Try.prog 26 #[.pointer (some ⟨gD, 0, none⟩), .pointer (some ⟨gR, 0, none⟩)] w fun e w' => e = .returned (.bool true) ∧ Below w.heap.size w w' := by
  have Hp := Lib.hid hp
  have hok := Lib.hid (hp.ok (by omega))
  have hnam := tNamesR h hok.out
  have hlen : (d.fs.map (·.name)).length ≤ 900 := by rw [List.length_map]; have := hp.l.len; omega
  clear hp
  go_enter Try.func26, Try.ntmps26
  go_wp2_with fail
  refine hnam.mono ?_
  rintro e w1 ⟨⟨r1, rfl, own1⟩, b1⟩
  have h1 := h.ext b1
  have rd1 := own1.rd
  have coff := h1.offR
  clear hnam own1 h
  obtain ⟨N, hN⟩ : ∃ N, d.fs.map (·.name) = N := ⟨_, rfl⟩
  have HN := Lib.hid hN
  rw [hN] at rd1 hlen
  clear hN
  obtain ⟨p1, c1, rfl, hp1, hp2, _, _⟩ := rd1.form
  unfold maxLen at hp2
  obtain ⟨T, hT⟩ : ∃ T, totD d.fs = T := ⟨_, rfl⟩
  have HT := Lib.hid hT
  clear hT
  have htd := fun (W : World) (hW : Two w0 X gD gR d d W) => tTotalD hW hok.out
  have htr := fun (W : World) (hW : Two w0 X gD gR d d W) => tTotalR hW hok.out
  rw [HT.out] at htd htr
  have hnd := tNamesD (h1.ext (below_drew _ _)) hok.out
  rw [HN.out] at hnd
  obtain ⟨o, ho⟩ : ∃ o, d.off = o := ⟨_, rfl⟩
  have hoff := fun (W : World) (hW : Two w0 X gD gR d d W) => tOffD hW
  rw [ho] at hoff coff
  have hTT : ((T : Int) != (T : Int)) = false := by simp
  have hOO : (o != o) = false := by simp
  go_wp2_with fail
  go_region_held3 (fun w' => w'.cell? ⟨gR, 2, none⟩ = some (.bool o)) (go_keep)
    (first
      | (go_at_call 27; refine hnd.mono ?_; rintro e w2 ⟨⟨r2, rfl, own2⟩, b2⟩; (have h2 := (h1.ext (below_drew _ _)).ext b2); (have m2 := h2.offR); rw [ho] at m2; (have s2 := (below_drew _ _).trans b2))
      | (go_at_call 44; refine (sameStrs _ _ _ _ own2.rd (rd1.ext s2)).mono ?_; rintro e w3 ⟨rfl, n3, hw3⟩; (have s3 : Below w2.heap.size w2 w3 := by rw [hw3]; exact below_drawn _ _ _); clear hw3; (have h3 := h2.ext s3); (have m3 := h3.offR); rw [ho] at m3)
      | (go_at_call 28; refine (htd _ h3).mono ?_; rintro e w4 ⟨rfl, b4⟩; (have h4 := h3.ext b4); (have m4 := h4.offR); rw [ho] at m4)
      | (go_at_call 45; refine (htr _ h4).mono ?_; rintro e w5 ⟨rfl, rfl⟩)
      | (go_at_call 17; refine (hoff _ h4).mono ?_; rintro e w6 ⟨rfl, rfl⟩))
  all_goals
    have bA := (b1.trans (s2.mono b1.size)).trans (s3.mono (b1.trans (s2.mono b1.size)).size)
    have bB := bA.trans (b4.mono bA.size)
    have rdB := ((rd1.ext s2).ext s3).ext b4
    clear hnd htd htr hoff own2 h2 h3 m2 m3 m4 s2 s3 b4 b2 coff rd1 h1 hTT hOO bA b1
    go_wp2_with fail
    go_loopw [6] (fun i wr => ∃ m : Nat, m ≤ N.length ∧ i = .int .i64 m ∧ Two w0 X gD gR d d wr ∧ Rd strE wr (.slice p1 N.length c1) N ∧ Below w.heap.size w wr) (fun i _ => N.length - (intOf i).toNat)
    case atStart => exact ⟨0, by omega, rfl, h4, rdB, bB⟩
    case round =>
      clear h4 rdB bB
      obtain ⟨m, hm, rfl, ht, rd, hb⟩ := hrel
      have hm0 : (0 : Int) ≤ (m : Int) := by omega
      by_cases hlt : m < N.length
      · have hi : (m : Int) < (N.length : Int) := by omega
        obtain ⟨gb, go, rfl⟩ := Rd.blk rd (by omega)
        have cm : wr.cell? ⟨gb, go + m, none⟩ = some (.string N[m]) := by
          have h2 := rd.at_ hlt 0 (by decide)
          rw [show go + (m * strE.sz + 0) = go + m from by show go + (m * 1 + 0) = _; omega] at h2; exact h2
        have hmd : m < d.fs.length := by have := hlt; rw [← HN.out, List.length_map] at this; exact this
        have hrv : readD d N[m] = some d.fs[m].data := by
          have e : N[m] = d.fs[m].name := by simp only [← HN.out, List.getElem_map]
          rw [e]; exact Hp.out.at_ hmd
        have hgl : gb < wr.heap.size := by
          have h2 := Cells.lt rd (by rw [strE.all_length]; show 0 < N.length * 1; omega) gb rfl
          exact h2
        generalize N[m] = s at *
        generalize d.fs[m].data = B at *
        have hrd := tReadD ht hok.out s hrv
        have Hrv := Lib.hid hrv
        clear hrv hmd
        go_wp2_with fail
        refine hrd.mono ?_
        rintro e w5 ⟨⟨rA, rfl, bytA⟩, b5⟩
        have t5 := ht.ext b5
        have rd5 := rd.ext b5
        have cm5 := (b5.cell (p := ⟨gb, go + m, none⟩) hgl).trans cm
        have hb5 := hb.trans (b5.mono hb.size)
        have hrr := tReadR t5 s Hrv.out
        have e1 : (some B : Option (List UInt8)).getD [] = B := rfl
        have e2 : (some B : Option (List UInt8)).isSome = true := rfl
        rw [e1] at bytA hrr
        rw [e2] at hrr ⊢
        clear hrd ht rd cm b5 hb e1 e2
        go_wp2_with fail
        refine hrr.mono ?_
        rintro e w' ⟨⟨rB, rfl, bytB⟩, rfl⟩
        have hsm := sameBytes rA rB B B w5 bytA bytB
        rw [decide_eq_true rfl] at hsm
        clear hrr bytA bytB cm5
        go_wp2_with fail
        refine hsm.mono ?_
        rintro e w6 ⟨rfl, n6, hw6⟩
        have s6 : Below w5.heap.size w5 w6 := by rw [hw6]; exact below_drawn _ _ _
        have t6 := t5.ext s6
        have rd6 := rd5.ext s6
        have b6 := hb5.trans (s6.mono hb5.size)
        clear hw6 hsm t5 rd5 hb5 s6
        go_wp2_with fail
        go_roundw
        case rel => first | exact ⟨m + 1, by omega, by go_num, t6, rd6, b6⟩ | ((repeat apply Exists.intro); exact ⟨⟨m + 1, by omega, by go_num, t6, rd6, b6⟩, rfl⟩)
        case measure => simp [intOf]; omega
      · have hi : ¬ (m : Int) < (N.length : Int) := by omega
        have hrd := tReadD ht hok.out sNo Hp.out.no
        go_wp2_with fail
        refine hrd.mono ?_
        rintro e w5 ⟨⟨rA, rfl, bytA⟩, b5⟩
        have hb5 := hb.trans (b5.mono hb.size)
        have e2 : (none : Option (List UInt8)).isSome = false := rfl
        rw [e2]
        clear hrd bytA ht rd b5 hb
        go_wp2_with fail
        go_ret
        exact ⟨rfl, hb5⟩
end Go.Proofs.Ytklopbjlpffnbaa
