/- Walks of the document's names: digits, numbered. Walks of the document's records: put, putEntry. -/
import Derived.Test.YtgpgcnmnfnnkjaaGreatDoorGWalOpens21
import Derived.Test.YtgpgcnmnfnnkjaaGreatDoorGWalOpens28
import Derived.Test.YtgpgcnmnfnnkjaaGreatDoorGWalOpens6
import Derived.Test.YtgpgcnmnfnnkjaaGreatDoorGWalOpens24
import Derived.Test.YtgpgcnmnfnnkjaaGreatDoorGWalOpens2
set_option linter.unusedVariables false
set_option linter.unusedSimpArgs false
section
namespace Go.Proofs.YtgpgcnmnfnnkjaaGreatDoor
open Go Go.RowKit Go.PlainAid
theorem dec_step (k : Nat) : Lib.decDigits k = (if k < 10 then [] else Lib.decDigits (k / 10)) ++ [UInt8.ofNat (48 + k % 10)] := by
 rw [Lib.decDigits]
 by_cases h : k < 10
 · rw [dif_pos h, if_pos h, Nat.mod_eq_of_lt h]; rfl
 · rw [dif_neg h, if_neg h]
theorem str_cat (a b : List UInt8) : (⟨a.toArray⟩ : ByteArray) ++ (⟨b.toArray⟩ : ByteArray) = ⟨(a ++ b).toArray⟩ := by
 apply ByteArray.ext; simp
theorem str_empty (l : List UInt8) : (⟨l.toArray⟩ : ByteArray).toList = l := by rw [ByteArray.toList_eq]
theorem str_one {w : World} {H : Nat} (hH : w.heap.size = H) (c : UInt8) : ∀ t, (convert 26 9 (.slice (some ⟨H, 0, none⟩) 1 1)).run Tryz.prog (w.alloc (.cells #[.int .u8 (c.toNat : Int)] t)) = Result.ok (Value.string ⟨[c].toArray⟩) (w.alloc (.cells #[.int .u8 (c.toNat : Int)] t)) := fun t =>
 run_bytes_string (P := Tryz.prog) Tryz.underlying26 Tryz.underlying5 Tryz.underlying9 (byte_lit c w t H hH)
def strN : Value → Nat
 | .string b => b.size
 | _ => 0
set_option maxRecDepth 4000 in
set_option maxHeartbeats 1000000 in
theorem rkDigits (n : Nat) (N : Int) (hN : N = (n : Int)) (hn : n ≤ 9223372036854775807) (w : World) :
 Calls Tryz.prog 43 #[.int .i64 N] w fun e w' => e = .returned (.string ⟨(Lib.decDigits n).toArray⟩) ∧ Below w.heap.size w w' := by
 subst hN
 have hDl := digits_le 18 n (by omega)
 generalize hD : Lib.decDigits n = D at *
 have HD := Lib.hid hD
 clear hD
 go_enter Tryz.func43, Tryz.ntmps43
 go_wp2
 go_loopw [3, 0] (fun s k wr => ∃ (m : Nat) (L : List UInt8), k = .int .i64 (m : Int) ∧ s = .string ⟨L.toArray⟩ ∧ m ≤ n ∧ Hid (if m = 0 ∧ L ≠ [] then L = D else Lib.decDigits m ++ L = D) ∧ Below w.heap.size w wr) (fun s k _ => 2 * (intOf k).toNat + (1 - strN s))
 case atStart => exact ⟨n, [], rfl, rfl, Nat.le_refl _, by show if _ then _ else _; rw [if_neg (fun h => h.2 rfl), List.append_nil]; exact HD.out, Below.refl _ _⟩
 case round =>
  obtain ⟨m, L, rfl, rfl, hm, hL, hb⟩ := hrel
  have hsL := str_empty L
  have hsz := str_size L
  by_cases hgo : m = 0 ∧ L ≠ []
  · have hl := hL.out
    rw [if_pos hgo] at hl
    obtain ⟨rfl, h2⟩ := hgo
    subst hl
    have e1 : L.isEmpty = false := by cases L; exact absurd rfl h2; rfl
    clear hL h2
    go_wp2
    go_ret
    exact ⟨rfl, hb⟩
  · have hl := hL.out
    rw [if_neg hgo, dec_step m] at hl
    have hs2 := hb.size
    have hlit := str_one (w := wr) rfl (UInt8.ofNat (48 + m % 10))
    have hdg : (UInt8.ofNat (48 + m % 10)).toNat = 48 + m % 10 := by rw [UInt8.toNat_ofNat']; have := Nat.mod_lt m (show 0 < 10 by decide); omega
    have hnx : Hid (if m / 10 = 0 ∧ (UInt8.ofNat (48 + m % 10) :: L) ≠ [] then (UInt8.ofNat (48 + m % 10) :: L) = D else Lib.decDigits (m / 10) ++ (UInt8.ofNat (48 + m % 10) :: L) = D) := by
     show if _ then _ else _
     by_cases h10 : m < 10
     · rw [if_pos ⟨by omega, by simp⟩]
       rw [if_pos h10] at hl; exact hl
     · rw [if_neg (fun h => h10 (by omega))]
       rw [if_neg h10, List.append_assoc] at hl; exact hl
    have hms : (if m / 10 = 0 then 0 else 0) = 0 := by simp
    have hgo2 : 0 < m ∨ L = [] := by
     rcases Nat.eq_zero_or_pos m with h | h
     · right; cases L with
       | nil => rfl
       | cons a b => exact absurd ⟨h, by simp⟩ hgo
     · exact .inl h
    have hLl : L.length ≤ 19 := by
     have h1 := congrArg List.length hl
     rw [List.length_append] at h1
     omega
    clear hl hL HD
    have hcat := str_cat [UInt8.ofNat (48 + m % 10)] L
    rw [List.singleton_append] at hcat
    have Hcat := Lib.hid hcat
    clear hcat
    have hlt10 := Nat.mod_lt m (show 0 < 10 by decide)
    rw [hdg, show ((48 + m % 10 : Nat) : Int) = 48 + (m : Int) % 10 from by omega] at hlit
    clear hdg
    generalize UInt8.ofNat (48 + m % 10) = c at *
    rcases hgo2 with hpos | hnil
    · have hpi : (0 : Int) < (m : Int) := by omega
      go_wp2
      go_roundw
      case rel => exact ⟨m / 10, c :: L, by go_num, congrArg Value.string Hcat.out, by omega, hnx, hb.trans (below_alloc _ _ |>.mono hs2)⟩
      case measure => simp only [intOf, strN, Hcat.out, str_size]; simp; omega
    · subst hnil
      by_cases hpos : 0 < m
      · have hpi : (0 : Int) < (m : Int) := by omega
        go_wp2
        go_roundw
        case rel => exact ⟨m / 10, [c], by go_num, congrArg Value.string Hcat.out, by omega, hnx, hb.trans (below_alloc _ _ |>.mono hs2)⟩
        case measure => simp only [intOf, strN, Hcat.out, str_size]; simp; omega
      · have hpi : ¬ (0 : Int) < (m : Int) := by omega
        go_wp2
        go_roundw
        case rel => exact ⟨m / 10, [c], by go_num, congrArg Value.string Hcat.out, by omega, hnx, hb.trans (below_alloc _ _ |>.mono hs2)⟩
        case measure => simp only [intOf, strN, Hcat.out, str_size]; simp; omega

def digsR : List UInt8 → Nat → Int
 | [], n => (n : Int)
 | c :: r, n => if digB c then digsR r (10 * n + (c.toNat - 48)) else -1
def numR (hd l : List UInt8) : Int := if l.length ≤ hd.length ∨ l.take hd.length ≠ hd ∨ 14 < l.length - hd.length ∨ l[hd.length]? = some 48 then -1 else digsR (l.drop hd.length) 0
theorem digsR_cons {c : UInt8} (r : List UInt8) (n : Nat) (h : digB c = true) : digsR (c :: r) n = digsR r (10 * n + (c.toNat - 48)) := by rw [digsR, if_pos h]
theorem digsR_bad {c : UInt8} (r : List UInt8) (n : Nat) (h : ¬ digB c = true) : digsR (c :: r) n = -1 := by rw [digsR, if_neg h]

set_option maxRecDepth 4000 in
set_option maxHeartbeats 4000000 in
theorem rkNumberedW (l : List UInt8) (hlmax : l.length ≤ 4611686018427387904) (w : World) :
 Calls Tryz.prog 84 #[.string ⟨l.toArray⟩, .string ⟨#[119, 97, 108, 46]⟩] w fun e w' => e = .returned (.int .i64 (numR hdW l)) ∧ w = w' := by
 have hsz := str_size l
 have hsH : (⟨#[119, 97, 108, 46]⟩ : ByteArray).size = 4 := rfl
 have hn : numR hdW l = if l.length ≤ 4 ∨ l.take 4 ≠ hdW ∨ 14 < l.length - 4 ∨ l[4]? = some 48 then -1 else digsR (l.drop 4) 0 := rfl
 have Hn := Lib.hid hn
 clear hn
 generalize numR hdW l = R at *
 by_cases h1 : l.length ≤ 4
 · have Hr := Lib.hid (show R = -1 from Hn.out.trans (if_pos (.inl h1)))
   have hi : (l.length : Int) ≤ 4 := by omega
   go_enter Tryz.func84, Tryz.ntmps84
   go_wp2
   go_ret
   exact ⟨by rw [Hr.out]; rfl, rfl⟩
 · have hi : ¬ (l.length : Int) ≤ 4 := by omega
   have hto := run_strTo (P := Tryz.prog) Tryz.underlying9 l 4 4 rfl (by omega)
   have h4s : 4 < (⟨l.toArray⟩ : ByteArray).size := by rw [hsz]; omega
   have h4e : (⟨l.toArray⟩ : ByteArray)[4]'h4s = l[4]'(by omega) := str_at l 4 h4s
   have h4g : l[4]? = some (l[4]'(by omega)) := List.getElem?_eq_getElem _
   by_cases hall : l.take 4 = hdW ∧ ¬ 14 < l.length - 4 ∧ (l[4]'(by omega)).toNat ≠ 48
   · obtain ⟨e2, e3, e4⟩ := hall
     have hr : R = digsR (l.drop 4) 0 := Hn.out.trans (if_neg (by
      rintro (h | h | h | h)
      · exact h1 h
      · exact h e2
      · exact e3 h
      · rw [h4g] at h; exact e4 (by rw [Option.some.inj h]; rfl)))
     have Hr := Lib.hid hr
     have e2' : l.take 4 = [119, 97, 108, 46] := e2
     have e3' : ¬ (14 : Int) < (l.length : Int) - 4 := by omega
     have e4' : ((((⟨l.toArray⟩ : ByteArray)[4]'h4s).toNat : Int) == 48) = false := by rw [h4e]; simp; omega
     have hdl : (l.drop 4).length ≤ 14 := by rw [List.length_drop]; omega
     have hat := Lib.hid (fun i h => str_at l i h)
     clear hr e2 e4 Hn h4g h4e
     go_enter Tryz.func84, Tryz.ntmps84
     go_wp2
     clear e2' e3' e4' hto
     go_loopw [5, 6] (fun n i w' => ∃ (pos acc : Nat), w' = w ∧ n = .int .i64 (acc : Int) ∧ i = .int .i64 (((pos + 4 : Nat)) : Int) ∧ pos + 4 ≤ l.length ∧ acc < 10 ^ pos ∧ Hid (digsR (l.drop (pos + 4)) acc = R)) (fun _ i _ => l.length - (intOf i).toNat)
     case atStart => exact ⟨0, 0, rfl, rfl, rfl, by omega, by decide, Hr.out.symm⟩
     case round =>
      obtain ⟨pos, acc, rfl, rfl, rfl, hpl, hacc, hdg⟩ := hrel
      by_cases hp : pos + 4 < l.length
      · have hps : pos + 4 < (⟨l.toArray⟩ : ByteArray).size := by rw [hsz]; exact hp
        have hdc := List.drop_eq_getElem_cons hp
        have hge : (⟨l.toArray⟩ : ByteArray)[pos + 4]'hps = l[pos + 4] := hat.out _ hps
        have hdg2 := hdg.out
        rw [hdc] at hdg2
        have hpi : ((pos + 4 : Nat) : Int) < (l.length : Int) := by omega
        have hp0 : (0 : Int) ≤ ((pos + 4 : Nat) : Int) := by omega
        have hcl := (l[pos + 4]).toNat_lt
        generalize hc : l[pos + 4] = c at *
        by_cases hb : digB c = true
        · rw [digsR_cons _ _ hb] at hdg2
          obtain ⟨q1, q2⟩ := (digB_iff _).1 hb
          have hacc2 : 10 * acc + (c.toNat - 48) < 10 ^ (pos + 1) := by rw [Nat.pow_succ]; omega
          have hp14 : 10 ^ (pos + 1) ≤ 10 ^ 14 := Nat.pow_le_pow_right (by decide) (by rw [List.length_drop] at hdl; omega)
          have h14 : (10 : Nat) ^ 14 = 100000000000000 := by decide
          have Hd2 := Lib.hid hdg2
          have Hacc := Lib.hid hacc2
          have hsmall : 10 * acc + 9 ≤ 1000000000000000 := by rw [h14] at hp14; rw [Nat.pow_succ] at hp14; omega
          have b1 : ¬ (c.toNat : Int) < 48 := by omega
          have b2 : ¬ (57 : Int) < (c.toNat : Int) := by omega
          clear hdg hdg2 hacc hacc2 hp14 h14 hdc hb Hr hc
          go_wp2_with fail
          go_roundw
          case rel => exact ⟨pos + 1, 10 * acc + (c.toNat - 48), by first | rfl | trivial, by go_num, by go_num, by omega, Hacc.out, by show digsR (l.drop (pos + 1 + 4)) _ = _; rw [show pos + 1 + 4 = pos + 4 + 1 from by omega]; exact Hd2.out⟩
          case measure => simp [intOf]; omega
        · rw [digsR_bad _ _ hb] at hdg2
          have Hz := Lib.hid hdg2
          have hbad : (c.toNat : Int) < 48 ∨ (57 : Int) < (c.toNat : Int) := by
           rcases Nat.lt_or_ge c.toNat 48 with h5 | h5
           · left; omega
           · right
             rcases Nat.lt_or_ge 57 c.toNat with h6 | h6
             · omega
             · exact absurd ((digB_iff c).2 ⟨h5, h6⟩) hb
          clear hdg hdg2 hacc hdc hb Hr hc
          rcases hbad with hbad | hbad
          · go_wp2_with fail
            go_ret
            exact ⟨by rw [← Hz.out]; rfl, rfl⟩
          · have hb2 : ¬ (c.toNat : Int) < 48 := by omega
            go_wp2_with fail
            go_ret
            exact ⟨by rw [← Hz.out]; rfl, rfl⟩
      · have hpi : ¬ ((pos + 4 : Nat) : Int) < (l.length : Int) := by omega
        have hdg2 := hdg.out
        rw [List.drop_of_length_le (by omega), digsR] at hdg2
        have Hz := Lib.hid hdg2
        clear hdg hdg2 hacc Hr
        go_wp2
        go_ret
        exact ⟨ret_int Hz.out, rfl⟩
   · have hr : R = -1 := Hn.out.trans (if_pos (by
      by_cases a1 : l.take 4 = hdW
      · by_cases a2 : 14 < l.length - 4
        · exact .inr (.inr (.inl a2))
        · refine .inr (.inr (.inr ?_))
          rw [h4g]
          have a3 : (l[4]'(by omega)).toNat = 48 := Decidable.not_not.1 (fun a3 => hall ⟨a1, a2, a3⟩)
          congr 1
          exact UInt8.toNat_inj.1 a3
      · exact .inr (.inl a1)))
     have Hr := Lib.hid hr
     clear hr Hn
     by_cases a1 : l.take 4 = hdW
     · have e2' : l.take 4 = [119, 97, 108, 46] := a1
       by_cases a2 : 14 < l.length - 4
       · have e3' : (14 : Int) < (l.length : Int) - 4 := by omega
         clear a1 hall
         go_enter Tryz.func84, Tryz.ntmps84
         go_wp2
         go_ret
         exact ⟨by rw [Hr.out]; rfl, rfl⟩
       · have a3 : (l[4]'(by omega)).toNat = 48 := Decidable.not_not.1 (fun a3 => hall ⟨a1, a2, a3⟩)
         have e3' : ¬ (14 : Int) < (l.length : Int) - 4 := by omega
         have e4' : ((((⟨l.toArray⟩ : ByteArray)[4]'h4s).toNat : Int) == 48) = true := by rw [h4e]; simp; omega
         clear h4e h4g a3 a1 hall
         go_enter Tryz.func84, Tryz.ntmps84
         go_wp2
         go_ret
         exact ⟨by rw [Hr.out]; rfl, rfl⟩
     · have e2' : ¬ l.take 4 = [119, 97, 108, 46] := a1
       clear a1 hall
       go_enter Tryz.func84, Tryz.ntmps84
       go_wp2
       go_ret
       exact ⟨by rw [Hr.out]; rfl, rfl⟩

end Go.Proofs.YtgpgcnmnfnnkjaaGreatDoor
end

section
namespace Go.Proofs.YtgpgcnmnfnnkjaaGreatDoor
open Go Go.RowKit Go.PlainAid
set_option maxRecDepth 8000 in
set_option maxHeartbeats 4000000 in
theorem rkPut (v vl : Value) (b : List UInt8) (K : Int) (l : List Int) (w : World) (hv : Bytes w v b) (hl : Rd intsE w vl l) (hb : b.length ≤ 2000000000) (hll : l.length ≤ 1000) (hk : In64 K) (hr : ∀ x ∈ l, In64 x) :
 Calls Tryz.prog 49 #[v, .int .i64 K, vl] w fun e w' => ∃ q, e = .returned q ∧ OwnB w' w.heap.size 5 q (b ++ recB (K :: l)) ∧ Below w.heap.size w w' := by
 obtain ⟨p, cap, rfl⟩ := hl.shape
 obtain ⟨hk1, hk2⟩ := hk
 go_enter Tryz.func49, Tryz.ntmps49
 go_wp2_with fail
 with_reducible refine (rkNum (.slice none 0 0) [] K w (Bytes.nil w) (by simp) hk1 hk2).mono ?_
 rintro e w1 ⟨q1, rfl, own1, b1⟩
 rw [List.nil_append] at own1
 have hs1 := b1.size
 have hK := numB_le K
 go_wp2_with fail
 go_loopw [7, 8] (fun o i wr => ∃ k : Nat, k ≤ l.length ∧ i = .int .i64 k ∧ OwnB wr w.heap.size 5 o (numB K ++ numsB (l.take k)) ∧ Below w.heap.size w wr) (fun _ i _ => l.length - (intOf i).toNat)
 case atStart => exact ⟨0, by omega, rfl, by simpa [numsB] using own1, b1⟩
 case round =>
  obtain ⟨k, hkl, rfl, own, hbw⟩ := hrel
  have hsz := hbw.size
  have hnl := numsB_le (l.take k)
  rw [List.length_take, Nat.min_eq_left hkl] at hnl
  by_cases hlt : k < l.length
  · have hlr := hl.ext hbw
    obtain ⟨bb, off, rfl⟩ := Rd.blk hlr (by omega)
    have c0 : wr.cell? ⟨bb, off + k, none⟩ = some (.int .i64 l[k]) := by have := hlr.at_ hlt 0 (by decide); simpa [intsE] using this
    obtain ⟨hin1, hin2⟩ := hr l[k] (List.getElem_mem hlt)
    have hst : numB K ++ numsB (l.take (k + 1)) = (numB K ++ numsB (l.take k)) ++ numB l[k] := by rw [List.take_succ_eq_append_getElem hlt, numsB_snoc, List.append_assoc]
    have Hst := Lib.hid hst
    have hi : (k : Int) < (l.length : Int) := by omega
    have hi0 : (0 : Int) ≤ (k : Int) := by omega
    have hol : (numB K ++ numsB (l.take k)).length ≤ 35184372088000 := by rw [List.length_append]; omega
    clear hst
    generalize l[k] = y at *
    generalize numB K ++ numsB (l.take k) = O at *
    obtain ⟨po, co, rfl⟩ := own.bytes.shape
    go_wp2_with fail
    refine (rkNum _ O y wr own.bytes hol hin1 hin2).mono ?_
    rintro e w3 ⟨q3, rfl, own3, b3⟩
    go_wp2_with fail
    go_roundw
    case rel => exact ⟨k + 1, by omega, by go_num, by rw [Hst.out]; exact own3.base hsz, hbw.trans (b3.mono hsz)⟩
    case measure => simp [intOf]; omega
  · have hi : ¬ (k : Int) < (l.length : Int) := by omega
    have hke : k = l.length := by omega
    have hfin : numB K ++ numsB (l.take k) = numsB (K :: l) := by rw [hke, List.take_of_length_le (Nat.le_refl _)]; rfl
    rw [hfin] at own
    have hfl := numsB_le (K :: l)
    rw [List.length_cons] at hfl
    clear hfin hke hnl
    obtain ⟨po, co, rfl⟩ := own.bytes.shape
    go_wp2_with fail
    refine (refFrame v _ b (numsB (K :: l)) wr (hv.ext hbw) own.bytes (by omega) (by omega)).mono ?_
    rintro e w3 ⟨q3, rfl, own3, b3⟩
    go_wp2_with fail
    go_ret
    exact ⟨_, rfl, own3.base hsz, hbw.trans (b3.mono hsz)⟩
set_option maxRecDepth 8000 in
set_option maxHeartbeats 4000000 in
theorem rkPutEntry (v : Value) (b : List UInt8) (x : Ety) (w : World) (hv : Bytes w v b) (hb : b.length ≤ 2000000000) (hin : EtyIn x) :
 Calls Tryz.prog 50 #[v, etyV x] w fun e w' => ∃ q, e = .returned q ∧ OwnB w' w.heap.size 5 q (b ++ etyB x) ∧ Below w.heap.size w w' := by
 obtain ⟨⟨i11, i12⟩, ⟨i21, i22⟩, i3⟩ := hin
 obtain ⟨pv, cv, rfl⟩ := hv.shape
 unfold etyV
 have kx := Blk.new w #[.int .i64 x.term, .int .i64 x.members, .string x.data] 73
 have ca := below_alloc w (.cells #[.int .i64 x.term, .int .i64 x.members, .string x.data] 73)
 have hoW := hv.ext ca
 go_enter Tryz.func50, Tryz.ntmps50
 go_wp2_with fail
 generalize w.alloc (.cells #[.int .i64 x.term, .int .i64 x.members, .string x.data] 73) = W at *
 have bD := below_drew W.heap.size W
 refine wp_region_F (n := 12) (S := fun w' : World => w'.cell? ⟨w.heap.size, 0, none⟩ = some (.int .i64 x.term) ∧ (w'.cell? ⟨w.heap.size, 1, none⟩ = some (.int .i64 x.members) ∧ w'.cell? ⟨w.heap.size, 2, none⟩ = some (.string x.data))) (by kernel_rfl) ?_
 have hHeld : (fun w' : World => w'.cell? ⟨w.heap.size, 0, none⟩ = some (.int .i64 x.term) ∧ (w'.cell? ⟨w.heap.size, 1, none⟩ = some (.int .i64 x.members) ∧ w'.cell? ⟨w.heap.size, 2, none⟩ = some (.string x.data))) W.drew := ⟨kx.cell 0 _ rfl, kx.cell 1 _ rfl, kx.cell 2 _ rfl⟩
 refine wpAnyF_tk 0 _ _ _ (v := ?_) rfl (by kernel_rfl) (fun _ _ _ h => h) ?_ hHeld ?_
 rotate_left
 · intro w hSw
   try dsimp only at hSw
   obtain ⟨_, _, _⟩ := hSw
   dsimp only [bare]
   go_simp <;> with_reducible rfl
 try simp only [bare, Act.put, lyA, lyZ, lyS]
 refine wpAnyF_tk 2 _ _ _ (v := ?_) rfl (by kernel_rfl) (fun _ _ _ h => h) ?_ hHeld ?_
 rotate_left
 · intro w hSw
   try dsimp only at hSw
   obtain ⟨_, _, _⟩ := hSw
   dsimp only [bare]
   go_simp <;> with_reducible rfl
 try simp only [bare, Act.put, lyA, lyZ, lyS]
 refine wpAnyF_tk 3 _ _ _ (v := ?_) rfl (by kernel_rfl) (fun _ _ _ h => h) ?_ hHeld ?_
 rotate_left
 · intro w hSw
   try dsimp only at hSw
   obtain ⟨_, _, _⟩ := hSw
   dsimp only [bare]
   go_simp <;> with_reducible rfl
 try simp only [bare, Act.put, lyA, lyZ, lyS]
 refine wpAnyF_tk 5 _ _ _ (v := ?_) rfl (by kernel_rfl) (fun _ _ _ h => h) ?_ hHeld ?_
 rotate_left
 · intro w hSw
   try dsimp only at hSw
   obtain ⟨_, _, _⟩ := hSw
   dsimp only [bare]
   go_simp <;> with_reducible rfl
 try simp only [bare, Act.put, lyA, lyZ, lyS]
 refine wpAnyF_tk 6 _ _ _ (v := ?_) rfl (by kernel_rfl) (fun _ _ _ h => h) ?_ hHeld ?_
 rotate_left
 · intro w hSw
   try dsimp only at hSw
   obtain ⟨_, _, _⟩ := hSw
   dsimp only [bare]
   go_simp <;> with_reducible rfl
 try simp only [bare, Act.put, lyA, lyZ, lyS]
 refine wpAnyF_tk 8 _ _ _ (v := ?_) rfl (by kernel_rfl) (fun _ _ _ h => h) ?_ hHeld ?_
 rotate_left
 · intro w hSw
   try dsimp only at hSw
   obtain ⟨_, _, _⟩ := hSw
   dsimp only [bare]
   go_simp <;> with_reducible rfl
 try simp only [bare, Act.put, lyA, lyZ, lyS]
 refine wpAnyF_tk 9 _ _ _ (v := ?_) rfl (by kernel_rfl) (fun _ _ _ h => h) ?_ hHeld ?_
 rotate_left
 · intro w hSw
   try dsimp only at hSw
   obtain ⟨_, _, _⟩ := hSw
   dsimp only [bare]
   go_simp <;> with_reducible rfl
 try simp only [bare, Act.put, lyA, lyZ, lyS]
 have k0 := kx.drew
 refine wpAnyF_one 1 (some 6) (Op.call { callee := Callee.value (Operand.func 90), args := #[Operand.const (Value.slice none 0 0), Operand.const (Value.int IntKind.i64 2)], argTypes := #[26, 3] }) 26 rfl (by kernel_rfl) (fun K hK => ?_)
 dsimp only [bare]; go_simp
 refine (rkNum (.slice none 0 0) [] 2 W.drew (Bytes.nil _) (by simp) (by decide) (by decide)).mono ?_
 rintro e w1 ⟨r1, rfl, own1, b1⟩
 dsimp only
 rw [List.nil_append] at own1
 have k1 := k0.ext b1
 have bA := bD.trans (b1.mono bD.size)
 have n1 := numB_le 2
 refine hK _ _ ⟨k1.cell 0 _ rfl, k1.cell 1 _ rfl, k1.cell 2 _ rfl⟩ (fun hHeld => ?_)
 clear hK K
 try simp only [bare, Act.put, lyA, lyZ, lyS]
 refine wpAnyF_one 4 (some 9) (Op.call { callee := Callee.value (Operand.func 90), args := #[Operand.tmp 6, Operand.tmp 8], argTypes := #[26, 3] }) 26 rfl (by kernel_rfl) (fun K hK => ?_)
 dsimp only [bare]; go_simp
 refine (rkNum r1 _ x.term w1 own1.bytes (by omega) i11 i12).mono ?_
 rintro e w2 ⟨r2, rfl, own2, b2⟩
 dsimp only
 have k2 := k1.ext b2
 have bB := bA.trans (b2.mono bA.size)
 have n2 := numB_le x.term
 refine hK _ _ ⟨k2.cell 0 _ rfl, k2.cell 1 _ rfl, k2.cell 2 _ rfl⟩ (fun hHeld => ?_)
 clear hK K
 try simp only [bare, Act.put, lyA, lyZ, lyS]
 refine wpAnyF_one 7 (some 12) (Op.call { callee := Callee.value (Operand.func 90), args := #[Operand.tmp 9, Operand.tmp 11], argTypes := #[26, 3] }) 26 rfl (by kernel_rfl) (fun K hK => ?_)
 dsimp only [bare]; go_simp
 refine (rkNum r2 _ x.members w2 own2.bytes (by rw [List.length_append]; omega) i21 i22).mono ?_
 rintro e w3 ⟨r3, rfl, own3, b3⟩
 dsimp only
 have k3 := k2.ext b3
 have bC := bB.trans (b3.mono bB.size)
 have n3 := numB_le x.members
 refine hK _ _ ⟨k3.cell 0 _ rfl, k3.cell 1 _ rfl, k3.cell 2 _ rfl⟩ (fun hHeld => ?_)
 clear hK K
 try simp only [bare, Act.put, lyA, lyZ, lyS]
 refine wpAnyF_one 10 (some 15) (Op.call { callee := Callee.value (Operand.func 92), args := #[Operand.tmp 12, Operand.tmp 14], argTypes := #[26, 9] }) 26 rfl (by kernel_rfl) (fun K hK => ?_)
 dsimp only [bare]; go_simp
 refine (rkText r3 _ x.data w3 own3.bytes (by simp only [List.length_append]; omega)).mono ?_
 rintro e w4 ⟨r4, rfl, own4, b4⟩
 dsimp only
 have k4 := k3.ext b4
 have bE := bC.trans (b4.mono bC.size)
 have n4 : (textB x.data.data.toList).length ≤ 10 + x.data.size := by
  unfold textB; rw [List.length_append]; have := numB_le (x.data.data.toList.length : Int); have h4 : x.data.data.toList.length = x.data.size := by simp
  omega
 refine hK _ _ ⟨k4.cell 0 _ rfl, k4.cell 1 _ rfl, k4.cell 2 _ rfl⟩ (fun hHeld => ?_)
 clear hK K
 try simp only [bare, Act.put, lyA, lyZ, lyS]
 refine wpAnyF_one 11 (some 16) (Op.call { callee := Callee.value (Operand.func 91), args := #[Operand.tmp 5, Operand.tmp 15], argTypes := #[26, 26] }) 26 rfl (by kernel_rfl) (fun K hK => ?_)
 dsimp only [bare]; go_simp
 refine (refFrame _ r4 b _ w4 (hoW.ext bE) own4.bytes (by omega) (by simp only [List.length_append]; omega)).mono ?_
 rintro e w5 ⟨r5, rfl, own5, b5⟩
 dsimp only
 have k5 := k4.ext b5
 have bF := bE.trans (b5.mono bE.size)
 refine hK _ _ ⟨k5.cell 0 _ rfl, k5.cell 1 _ rfl, k5.cell 2 _ rfl⟩ (fun hHeld => ?_)
 clear hK K
 try simp only [bare, Act.put, lyA, lyZ, lyS]
 refine wpAnyF_end (some 4) (Op.assign (Operand.tmp 16)) 26 rfl (by kernel_rfl) (by kernel_rfl) (fun K hK => ?_)
 dsimp only [bare]; go_simp
 refine hK _ _ ?_
 clear hK K
 try simp only [bare, Act.put, lyA, lyZ, lyS]
 have hall := ca.trans (bF.mono ca.size)
 have hle := Nat.le_trans ca.size bE.size
 have hfin : Frm.put b (numB 2 ++ numB x.term ++ numB x.members ++ textB x.data.data.toList) = b ++ etyB x := by unfold Frm.put etyB; simp [numsB, bytesOf]
 rw [hfin] at own5
 clear hfin
 go_wp2_with fail
 go_ret
 exact ⟨_, rfl, own5.base hle, hall⟩
end Go.Proofs.YtgpgcnmnfnnkjaaGreatDoor
end
