/- Walks of package store: named, numbered. -/
import Derived.Test.YtgpgcnmnfnnkjaaGreatDoorGStoreKeeps27
import Derived.Test.YtgpgcnmnfnnkjaaGreatDoorGStoreKeeps12
set_option linter.unusedVariables false
set_option linter.unusedSimpArgs false
section
namespace Go.Proofs.YtgpgcnmnfnnkjaaGreatDoor
open Go Go.RowKit Go.PlainAid
set_option maxHeartbeats 1000000 in
theorem stoNamed (n : Nat) (N : Int) (hN : N = (n : Int)) (hn : n ≤ 9223372036854775807) (w : World) (htab : Lib.TabIs Tryz.prog w "internal/strconv.uint64pow10" .u64 Lib.pow10Tab) :
 Calls Tryz.prog 75 #[.int .i64 N] w fun e w' => e = .returned (.string (nameP n)) ∧ Below w.heap.size w w' := by
 subst hN
 go_enter Tryz.func75, Tryz.ntmps75
 go_wp2_with fail
 refine (Tryz.strconv_Itoa (n : Int) (by omega) (by omega) w htab).mono ?_
 rintro e w1 ⟨rfl, k, os, rfl⟩
 rw [itoa_nat]
 have hlen := digits_le 18 n (by omega)
 go_wp2_with fail
 go_ret
 exact ⟨by unfold nameP hdP; congr 2, Lib.below_grow _ w (Nat.le_refl _) k os⟩
theorem nameP_few {n : Nat} (h : n ≤ 9223372036854775807) : (nameP n).size ≤ 24 := by
 have := digits_le 18 n (by omega)
 show ((hdP ++ Lib.decDigits n).toArray).size ≤ 24
 simp [hdP]; omega
theorem all_cons {c : UInt8} (r : List UInt8) (h : digB c = true) : (c :: r).all digB = r.all digB := by rw [List.all_cons, h, Bool.true_and]
theorem all_bad {c : UInt8} (r : List UInt8) (h : ¬ digB c = true) : (c :: r).all digB = false := by
 cases hc : digB c
 · rw [List.all_cons, hc, Bool.false_and]
 · exact absurd hc h
theorem ret_boolP {a b : Bool} (h : a = b) : Ending.returned (.bool a) = .returned (.bool b) := by rw [h]
set_option maxRecDepth 4000 in
set_option maxHeartbeats 4000000 in
theorem stoNumbered (l : List UInt8) (w : World) :
 Calls Tryz.prog 112 #[.string ⟨l.toArray⟩] w fun e w' => e = .returned (.bool (numbB l)) ∧ Below w.heap.size w w' := by
 have hsz := str_size l
 have hn : numbB l = if l.length ≤ 5 ∨ l.take 5 ≠ hdP ∨ 19 < l.length ∨ l[5]? = some 48 then false else (l.drop 5).all digB := by
  unfold numbB
  split
  · rename_i h
    rcases h with h | h | h | h <;> rw [decide_eq_true h] <;> simp
  · rename_i h
    rw [decide_eq_false (fun q => h (.inl q)), decide_eq_false (fun q => h (.inr (.inl q))), decide_eq_false (fun q => h (.inr (.inr (.inl q)))), decide_eq_false (fun q => h (.inr (.inr (.inr q))))]; simp
 have Hn := Lib.hid hn
 clear hn
 generalize numbB l = R at *
 by_cases h1 : l.length ≤ 5
 · have Hr := Lib.hid (show R = false from Hn.out.trans (if_pos (.inl h1)))
   have hi : (l.length : Int) ≤ 5 := by omega
   go_enter Tryz.func112, Tryz.ntmps112
   go_wp2
   go_ret
   exact ⟨ret_boolP Hr.out.symm, Below.refl _ _⟩
 · have hi : ¬ (l.length : Int) ≤ 5 := by omega
   have hto := run_strTo (P := Tryz.prog) Tryz.underlying9 l 5 5 rfl (by omega)
   have hfr := run_strFrom (P := Tryz.prog) Tryz.underlying9 l 5 5 rfl (by omega)
   have h4s : 5 < (⟨l.toArray⟩ : ByteArray).size := by rw [hsz]; omega
   have h4e : (⟨l.toArray⟩ : ByteArray)[5]'h4s = l[5]'(by omega) := str_at l 5 h4s
   have h4g : l[5]? = some (l[5]'(by omega)) := List.getElem?_eq_getElem _
   by_cases hall : l.take 5 = hdP ∧ ¬ 19 < l.length ∧ (l[5]'(by omega)).toNat ≠ 48
   · obtain ⟨e2, e3, e4⟩ := hall
     have hr : R = (l.drop 5).all digB := Hn.out.trans (if_neg (by
      rintro (h | h | h | h)
      · exact h1 h
      · exact h e2
      · exact e3 h
      · rw [h4g] at h; exact e4 (by rw [Option.some.inj h]; rfl)))
     have Hr := Lib.hid hr
     have e2' : l.take 5 = [115, 110, 97, 112, 46] := e2
     have e3' : ¬ (19 : Int) < (l.length : Int) := by omega
     have e4' : ((((⟨l.toArray⟩ : ByteArray)[5]'h4s).toNat : Int) == 48) = false := by rw [h4e]; simp; omega
     clear hr e2 e4 Hn h4g h4e
     generalize l.drop 5 = d at *
     have hds := str_size d
     have hat := fun i h => str_at d i h
     go_enter Tryz.func112, Tryz.ntmps112
     go_wp2
     go_loopw [4] (fun r w' => ∃ (pos : Nat), w' = w.iter ⟨d.toArray⟩ pos ∧ pos ≤ d.length ∧ Hid ((d.drop pos).all digB = d.all digB)) (fun _ w' => d.length - w'.iterPos w.heap.size)
     case atStart => exact ⟨0, rfl, by omega, rfl⟩
     case round =>
      obtain ⟨pos, rfl, hpl, hdg⟩ := hrel
      by_cases hp : pos < d.length
      · have hps : pos < (⟨d.toArray⟩ : ByteArray).size := by rw [hds]; exact hp
        have hdc := List.drop_eq_getElem_cons hp
        have hge : (⟨d.toArray⟩ : ByteArray)[pos]'hps = d[pos] := hat pos hps
        have hdg2 := hdg.out
        rw [hdc] at hdg2
        have hnx : ∀ ty, (Instr.next (.pointer (some ⟨w.heap.size, 0, none⟩)) true ty).run Tryz.prog (w.iter ⟨d.toArray⟩ pos) = .ok (.tuple #[.bool true, .int .i64 pos, .int .i32 (Utf8.decode ⟨d.toArray⟩ pos).1]) (w.iter ⟨d.toArray⟩ (pos + (Utf8.decode ⟨d.toArray⟩ pos).2)) := fun ty => run_next_any w ⟨d.toArray⟩ pos ty hps
        by_cases hb : digB d[pos] = true
        · rw [all_cons _ hb] at hdg2
          obtain ⟨q1, q2⟩ := (digB_iff _).1 hb
          rw [decode_ascii _ pos hps (by rw [hge]; omega), hge] at hnx
          have Hd2 := Lib.hid hdg2
          clear hdg hdg2 hdc hb hge
          generalize d[pos] = c at *
          go_wp2_with fail
          go_roundw
          case rel => exact ⟨pos + 1, rfl, by omega, Hd2.out⟩
          case measure => simp; omega
        · rw [all_bad _ hb] at hdg2
          have hz : R = false := Hr.out.trans hdg2.symm
          have hbad : ((Utf8.decode ⟨d.toArray⟩ pos).1 : Int) < 48 ∨ (57 : Int) < ((Utf8.decode ⟨d.toArray⟩ pos).1 : Int) := by
           rcases Nat.lt_or_ge d[pos].toNat 128 with h | h
           · rw [decode_ascii _ pos hps (by rw [hge]; exact h), hge]
             show ((d[pos].toNat : Nat) : Int) < 48 ∨ _
             rcases Nat.lt_or_ge d[pos].toNat 48 with h5 | h5
             · left; omega
             · right
               rcases Nat.lt_or_ge 57 d[pos].toNat with h6 | h6
               · show (57 : Int) < ((d[pos].toNat : Nat) : Int); omega
               · exact absurd ((digB_iff d[pos]).2 ⟨h5, h6⟩) hb
           · have := (decode_high _ pos hps (by rw [hge]; exact h)).1
             omega
          have Hz := Lib.hid hz
          clear hdg hdg2 hdc hb hge hz
          generalize Utf8.decode ⟨d.toArray⟩ pos = dc at *
          rcases hbad with hbad | hbad
          · go_wp2_with fail
            go_ret
            exact ⟨ret_boolP Hz.out.symm, below_alloc w _⟩
          · have hb2 : ¬ (dc.1 : Int) < 48 := by omega
            go_wp2_with fail
            go_ret
            exact ⟨ret_boolP Hz.out.symm, below_alloc w _⟩
      · have hpe : pos = d.length := by omega
        have hps : ¬ pos < (⟨d.toArray⟩ : ByteArray).size := by rw [hds]; exact hp
        have hdg2 := hdg.out
        rw [List.drop_of_length_le (by omega)] at hdg2
        have hz : R = true := Hr.out.trans hdg2.symm
        have Hz := Lib.hid hz
        have hne := fun ty => run_next_end (P := Tryz.prog) w ⟨d.toArray⟩ pos ty hps
        clear hdg hdg2 hz hpe
        go_wp2
        go_ret
        exact ⟨ret_boolP Hz.out.symm, below_alloc w _⟩
   · have hr : R = false := Hn.out.trans (if_pos (by
      by_cases a1 : l.take 5 = hdP
      · by_cases a2 : 19 < l.length
        · exact .inr (.inr (.inl a2))
        · refine .inr (.inr (.inr ?_))
          rw [h4g]
          have a3 : (l[5]'(by omega)).toNat = 48 := Decidable.not_not.1 (fun a3 => hall ⟨a1, a2, a3⟩)
          congr 1
          exact UInt8.toNat_inj.1 a3
      · exact .inr (.inl a1)))
     have Hr := Lib.hid hr
     clear hr Hn
     by_cases a1 : l.take 5 = hdP
     · have e2' : l.take 5 = [115, 110, 97, 112, 46] := a1
       by_cases a2 : 19 < l.length
       · have e3' : (19 : Int) < (l.length : Int) := by omega
         go_enter Tryz.func112, Tryz.ntmps112
         go_wp2
         go_ret
         exact ⟨ret_boolP Hr.out.symm, Below.refl _ _⟩
       · have a3 : (l[5]'(by omega)).toNat = 48 := Decidable.not_not.1 (fun a3 => hall ⟨a1, a2, a3⟩)
         have e3' : ¬ (19 : Int) < (l.length : Int) := by omega
         have e4' : ((((⟨l.toArray⟩ : ByteArray)[5]'h4s).toNat : Int) == 48) = true := by rw [h4e]; simp; omega
         clear h4e h4g a3 a1 hall
         go_enter Tryz.func112, Tryz.ntmps112
         go_wp2
         go_ret
         exact ⟨ret_boolP Hr.out.symm, Below.refl _ _⟩
     · have e2' : ¬ l.take 5 = [115, 110, 97, 112, 46] := a1
       go_enter Tryz.func112, Tryz.ntmps112
       go_wp2
       go_ret
       exact ⟨ret_boolP Hr.out.symm, Below.refl _ _⟩
theorem stoNumberedS (s : ByteArray) (w : World) : Calls Tryz.prog 112 #[.string s] w fun e w' => e = .returned (.bool (numbS s)) ∧ Below w.heap.size w w' := stoNumbered s.data.toList w
end Go.Proofs.YtgpgcnmnfnnkjaaGreatDoor
end
