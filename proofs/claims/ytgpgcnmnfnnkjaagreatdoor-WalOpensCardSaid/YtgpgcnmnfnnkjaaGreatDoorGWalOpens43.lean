/- Records that Save writes run, plain: all of them come to the Hard, a part of them to what lies between. The write-ahead log on a disk, plain law: what a power failure leaves, what Open makes of it, what Save makes of it. What Open leaves, opened again, is the same: plain. The walk of impostlaw18.WalRuns. -/
import Derived.Test.YtgpgcnmnfnnkjaaGreatDoorGWalOpens12
import Derived.Test.YtgpgcnmnfnnkjaaGreatDoorGWalOpens29
import Derived.Test.YtgpgcnmnfnnkjaaGreatDoorGWalOpens40
import Derived.Test.YtgpgcnmnfnnkjaaGreatDoorGWalOpens23
import Derived.Test.YtgpgcnmnfnnkjaaGreatDoorGWalOpens30
import Derived.Test.YtgpgcnmnfnnkjaaGreatDoorGWalOpens42
import Derived.Test.YtgpgcnmnfnnkjaaGreatDoorGWalOpens20
import Derived.Deep.RegionHeld3
set_option linter.unusedVariables false
set_option linter.unusedSimpArgs false
section
namespace Go.Proofs.YtgpgcnmnfnnkjaaGreatDoor
open Go Go.RowKit Go.PlainAid
structure MoreOk (x h : Hrd) : Prop where
 bx : bareH x = true
 bh : bareH h = true
 snap : x.snap = sNone
 base : h.base = x.base
 bterm : h.bterm = x.bterm
 mem : h.members = x.members
 term : x.term ≤ h.term
 vote : h.term = x.term → x.vote ≠ -1 → h.vote = x.vote
end Go.Proofs.YtgpgcnmnfnnkjaaGreatDoor
end

section
namespace Go.Proofs.YtgpgcnmnfnnkjaaGreatDoor
open Go Go.RowKit Go.PlainAid
structure KeptW (m : Nat) (d : Dk) (n : Nat) (K : List Rec) (x : Hrd) : Prop where
 inv : PInv m d
 okn : okN n
 okr : okR K
 run : runR sg0 K = some ⟨x, true, true, 0⟩
 bare : bareH x = true
 snap : x.snap = sNone
 file : ∃ c, Frm.err c ≠ 0 ∧ getF d.fs (nameW n) = some ⟨nameW n, catR K ++ c, (catR K ++ c).length⟩
 rest : ∀ k, okN k → k ≠ n → ∀ f, getF d.fs (nameW k) = some f → f.kept = f.data.length ∧ (n < k → (readSeg f.data).whole = false)
structure GoodW (m : Nat) (d : Dk) (n : Nat) (K : List Rec) (x : Hrd) : Prop where
 k : KeptW m d n K x
 file : getF d.fs (nameW n) = some ⟨nameW n, catR K, (catR K).length⟩
 none : ∀ k, okN k → k ≠ n → getF d.fs (nameW k) = none
section
variable {m n : Nat} {d d' : Dk} {K : List Rec} {x : Hrd}
theorem KeptW.pick (h : KeptW m d n K x) : pickN d = (n, ⟨x, true, true, (catR K).length⟩) := by
 obtain ⟨c, hc, hf⟩ := h.file
 have hr := readSeg_run h.okr h.run hc
 rw [pickN_spec h.okn hf (by rw [hr]) fun k hk hlt g hg => (h.rest k hk (by omega) g hg).2 hlt, hr]
theorem KeptW.same (h : KeptW m d n K x) (e : d'.fs = d.fs) (hi : PInv m d') : KeptW m d' n K x :=
 ⟨hi, h.okn, h.okr, h.run, h.bare, h.snap, by rw [e]; exact h.file, by rw [e]; exact h.rest⟩
theorem GoodW.same (h : GoodW m d n K x) (e : d'.fs = d.fs) (hi : PInv m d') : GoodW m d' n K x := ⟨h.k.same e hi, by rw [e]; exact h.file, by rw [e]; exact h.none⟩
theorem KeptW.more {m' : Nat} (h : KeptW m d n K x) (hm : m ≤ m') : KeptW m' d n K x := ⟨h.inv.more hm, h.okn, h.okr, h.run, h.bare, h.snap, h.file, h.rest⟩
theorem GoodW.more {m' : Nat} (h : GoodW m d n K x) (hm : m ≤ m') : GoodW m' d n K x := ⟨h.k.more hm, h.file, h.none⟩
theorem KeptW.cutS (h : KeptW m d n K x) : KeptW m (cutS d n ⟨x, true, true, (catR K).length⟩).2 n K x ∧ ((Proofs.YtgpgcnmnfnnkjaaGreatDoor.cutS d n ⟨x, true, true, (catR K).length⟩).1 = 0 → getF (Proofs.YtgpgcnmnfnnkjaaGreatDoor.cutS d n ⟨x, true, true, (catR K).length⟩).2.fs (nameW n) = some ⟨nameW n, catR K, (catR K).length⟩) ∧ (OnD d → (Proofs.YtgpgcnmnfnnkjaaGreatDoor.cutS d n ⟨x, true, true, (catR K).length⟩).1 = 0 ∧ OnD (Proofs.YtgpgcnmnfnnkjaaGreatDoor.cutS d n ⟨x, true, true, (catR K).length⟩).2) ∧ ∀ s, s ≠ nameW n → getF (Proofs.YtgpgcnmnfnnkjaaGreatDoor.cutS d n ⟨x, true, true, (catR K).length⟩).2.fs s = getF d.fs s := by
 obtain ⟨c, hc, hf⟩ := h.file
 have hfw := fileW_some hf
 have hlen : (catR K ++ c).length = (catR K).length + c.length := List.length_append
 unfold Proofs.YtgpgcnmnfnnkjaaGreatDoor.cutS
 rw [hfw]
 dsimp only
 by_cases hlt : 0 < n ∧ (catR K).length < (catR K ++ c).length
 · rw [if_pos hlt]
   have hi := h.inv.cut0 (nameW n) ((catR K).length : Int)
   have hoth : ∀ s, s ≠ nameW n → getF (cutD d (nameW n) ((catR K).length : Int)).2.fs s = getF d.fs s := fun s hs => cut_other d _ (Ne.symm hs)
   refine ⟨?_, ?_, fun hon => cut_on hon hf (by rw [hlen]; omega), hoth⟩
   · rcases cut_cases d (nameW n) (catR K).length with ⟨_, e⟩ | ⟨_, f, hf2, _, e⟩
     · exact h.same e hi
     · rw [hf] at hf2; cases hf2
       rw [List.take_left, show min (catR K ++ c).length (catR K).length = (catR K).length from by omega] at e
       refine ⟨hi, h.okn, h.okr, h.run, h.bare, h.snap, ⟨[], err_nil, by rw [List.append_nil]; exact e⟩, fun k hk hn => ?_⟩
       rw [hoth _ (nameW_ne hn)]; exact h.rest k hk hn
   · intro h0
     rcases cut_cases d (nameW n) (catR K).length with ⟨e, _⟩ | ⟨_, f, hf2, _, e⟩
     · exact absurd h0 e
     · rw [hf] at hf2; cases hf2
       rw [List.take_left, show min (catR K ++ c).length (catR K).length = (catR K).length from by omega] at e
       exact e
 · rw [if_neg hlt]
   have hz : c = [] := by
    have h1 := h.okn.1
    have : c.length = 0 := by
     rcases Nat.eq_zero_or_pos c.length with e | e
     · exact e
     · exact absurd ⟨h1, by omega⟩ hlt
    exact List.length_eq_zero_iff.1 this
   subst hz
   rw [List.append_nil] at hf
   exact ⟨h, fun _ => hf, fun hon => ⟨rfl, hon⟩, fun _ _ => rfl⟩
theorem KeptW.removes : ∀ (L : List Nat) {d : Dk}, KeptW m d n K x → (∀ k ∈ L, okN k) → KeptW m (removesD L n d).2 n K x ∧ getF (removesD L n d).2.fs (nameW n) = getF d.fs (nameW n) ∧ ((removesD L n d).1 = 0 → ∀ k, (k ∈ L ∨ getF d.fs (nameW k) = none) → k ≠ n → getF (removesD L n d).2.fs (nameW k) = none) ∧ (OnD d → L.Nodup → (∀ k ∈ L, getF d.fs (nameW k) ≠ none) → (removesD L n d).1 = 0 ∧ OnD (removesD L n d).2) ∧ ∀ s, (∀ k, okN k → s ≠ nameW k) → getF (removesD L n d).2.fs s = getF d.fs s
 | [], d, h, _ => ⟨h, rfl, fun _ k hk _ => (by rcases hk with hk | hk; cases hk; exact hk), fun hon _ _ => ⟨rfl, hon⟩, fun _ _ => rfl⟩
 | k :: L, d, h, hL => by
  have hL' : ∀ k ∈ L, okN k := fun a ha => hL a (by simp [ha])
  by_cases e : k = n
  · have er : removesD (k :: L) n d = removesD L n d := by rw [removesD, if_pos e]
    rw [er]
    obtain ⟨h1, h2, h3, h4, h5⟩ := KeptW.removes L h hL'
    refine ⟨h1, h2, fun h0 a ha hn => h3 h0 a ?_ hn, fun hon hd hg => h4 hon (List.nodup_cons.1 hd).2 fun a ha => hg a (by simp [ha]), h5⟩
    rcases ha with ha | ha
    · rcases List.mem_cons.1 ha with rfl | ha
      · exact absurd e hn
      · exact .inl ha
    · exact .inr ha
  · have er : removesD (k :: L) n d = thenD (removeD d (nameW k)) (removesD L n) := by rw [removesD, if_neg e]
    have hk : okN k := hL k (by simp)
    have hi := h.inv.remove0 (nameW k)
    have hoth : ∀ s, s ≠ nameW k → getF (removeD d (nameW k)).2.fs s = getF d.fs s := fun s hs => remove_other d (Ne.symm hs)
    have hfn : getF (removeD d (nameW k)).2.fs (nameW n) = getF d.fs (nameW n) := hoth _ (nameW_ne (Ne.symm e))
    have hcs := remove_cases h.inv.l.sort (nameW k)
    have hk1 : KeptW m (removeD d (nameW k)).2 n K x := by
     rcases hcs with ⟨_, e2⟩ | ⟨_, _, e2⟩
     · exact h.same e2 hi
     · refine ⟨hi, h.okn, h.okr, h.run, h.bare, h.snap, by rw [hfn]; exact h.file, fun a ha hn f hf => ?_⟩
       by_cases hak : a = k
       · subst hak; rw [e2] at hf; cases hf
       · rw [hoth _ (nameW_ne hak)] at hf; exact h.rest a ha hn f hf
    rw [er]
    unfold thenD
    rcases hcs with ⟨q1, q2⟩ | ⟨q1, q3, q2⟩
    · rw [if_neg q1]
      exact ⟨hk1, hfn, fun h0 => absurd h0 q1, fun hon hd hg => absurd (remove_on hon (hg k (by simp))).1 q1, fun s hs => hoth s (hs k hk)⟩
    · rw [if_pos q1]
      obtain ⟨h1, h2, h3, h4, h5⟩ := KeptW.removes L hk1 hL'
      refine ⟨h1, by rw [h2, hfn], fun h0 a ha hn => h3 h0 a ?_ hn, fun hon hd hg => ?_, fun s hs => by rw [h5 s hs]; exact hoth s (hs k hk)⟩
      · by_cases hak : a = k
        · subst hak; exact .inr q2
        · rcases ha with ha | ha
          · rcases List.mem_cons.1 ha with ha | ha
            · exact absurd ha hak
            · exact .inl ha
          · right; rw [hoth _ (nameW_ne hak)]; exact ha
      · obtain ⟨d1, d2⟩ := List.nodup_cons.1 hd
        refine h4 (remove_on hon (hg k (by simp))).2 d2 fun a ha => ?_
        have hak : a ≠ k := fun e3 => d1 (e3 ▸ ha)
        rw [hoth _ (nameW_ne hak)]; exact hg a (by simp [ha])
theorem segs_nodup : ∀ (l : List ByteArray) (out : List Nat), l.Nodup → out.Nodup → (∀ s ∈ l, numW s ≠ 0 → numW s ∉ out) → (l.foldl segStep out).Nodup
 | [], out, _, h, _ => h
 | s :: l, out, hl, ho, hd => by
  rw [List.foldl_cons]
  obtain ⟨l1, l2⟩ := List.nodup_cons.1 hl
  unfold segStep
  split
  · exact segs_nodup l out l2 ho fun t ht => hd t (by simp [ht])
  · rename_i hz
    refine segs_nodup l _ l2 ?_ fun t ht hz2 hin => ?_
    · have hp : (insW out (numW s)).Perm (numW s :: out) := by
       unfold insW
       have := List.perm_middle (a := numW s) (l₁ := out.take (posR out (numW s) out.length)) (l₂ := out.drop (posR out (numW s) out.length))
       rwa [List.take_append_drop] at this
      exact hp.nodup_iff.2 (List.nodup_cons.2 ⟨hd s (by simp) hz, ho⟩)
    · rcases (insW_mem _ _ _).1 hin with e | hin
      · have e1 := (name_num hz2).2
        have e2 := (name_num hz).2
        rw [e] at e1
        exact l1 (by rw [e2, ← e1]; exact ht)
      · exact hd t (by simp [ht]) hz2 hin
theorem segsD_nodup {d : Dk} (h : SortD d.fs) : (segsD d).Nodup := by
 refine segs_nodup _ [] ?_ List.nodup_nil fun _ _ _ h => by cases h
 unfold List.Nodup
 rw [List.pairwise_map]
 exact List.Pairwise.imp (fun h => ltS_ne h) h
end
end Go.Proofs.YtgpgcnmnfnnkjaaGreatDoor
end

section
namespace Go.Proofs.YtgpgcnmnfnnkjaaGreatDoor
open Go Go.RowKit Go.PlainAid
theorem Frm.err_take {r : List UInt8} {n : Nat} (h : Frm.err r = 0) (hn : Frm.len r + 8 ≤ n) : Frm.err (r.take n) = 0 ∧ Frm.pay (r.take n) = Frm.pay r ∧ Frm.len (r.take n) = Frm.len r := by
 obtain ⟨h1, h2, h3, h4⟩ := Frm.err_ok h
 have hl : Frm.len (r.take n) = Frm.len r := by unfold Frm.len; rw [Frm.num_take (by omega) (by omega)]
 have e1 : (r.take n).take (4 + Frm.len r) = r.take (4 + Frm.len r) := by rw [List.take_take, Nat.min_eq_left (by omega)]
 have e2 : Crc.num ((r.take n).drop (4 + Frm.len r)) = Crc.num (r.drop (4 + Frm.len r)) := by
  rw [List.drop_take]; exact Frm.num_take (by omega) (by rw [List.length_drop]; omega)
 have hlen : (r.take n).length = min n r.length := List.length_take
 refine ⟨?_, ?_, hl⟩
 · unfold Frm.err
   rw [hl, if_neg (by omega), if_neg (by omega), if_neg (by omega), e1, e2, if_pos h4]
 · unfold Frm.pay
   rw [hl, List.drop_take, List.take_take, Nat.min_eq_left (by omega)]
theorem Frm.at_take {b : List UInt8} {a n : Nat} (h : Frm.errAt b a = 0) (hn : Frm.toAt b a ≤ (n : Int)) : Frm.errAt (b.take n) a = 0 ∧ Frm.payAt (b.take n) a = Frm.payAt b a ∧ Frm.toAt (b.take n) a = Frm.toAt b a := by
 have ht : Frm.toAt b a = (a : Int) + 8 + Frm.len (b.drop a) := by unfold Frm.toAt; rw [if_pos h, Int.toNat_natCast]
 have hp : Frm.payAt b a = Frm.pay (b.drop a) := by unfold Frm.payAt; rw [if_pos h, Int.toNat_natCast]
 have h' := h
 unfold Frm.errAt at h'
 split at h'
 · cases h'
 rename_i hc
 rw [Int.toNat_natCast] at h'
 obtain ⟨_, _, h3, _⟩ := Frm.err_ok h'
 rw [List.length_drop] at h3
 obtain ⟨q1, q2, q3⟩ := Frm.err_take (n := n - a) h' (by omega)
 have hd : (b.take n).drop a = (b.drop a).take (n - a) := List.drop_take
 have he : Frm.errAt (b.take n) a = 0 := by
  unfold Frm.errAt
  rw [if_neg (by rw [List.length_take]; omega), Int.toNat_natCast, hd]; exact q1
 refine ⟨he, ?_, ?_⟩
 · rw [hp]; unfold Frm.payAt; rw [if_pos he, Int.toNat_natCast, hd, q2]
 · rw [ht]; unfold Frm.toAt; rw [if_pos he, Int.toNat_natCast, hd, q3]
theorem Frm.at_end (b : List UInt8) (a : Nat) : Frm.errAt (b.take a) a ≠ 0 := by
 unfold Frm.errAt
 split
 · decide
 · rw [Int.toNat_natCast, List.drop_of_length_le (by rw [List.length_take]; omega)]; decide
theorem readS_take : ∀ (f : Nat) (b : List UInt8) (s : Sg), s.size ≤ b.length → b.length < f + s.size → s.size ≤ (readS f b s).size ∧ (readS f b s).size ≤ b.length ∧ readS f (b.take (readS f b s).size) s = readS f b s
 | 0, b, s, h0, hf => by omega
 | f + 1, b, s, h0, hf => by
  by_cases he : Frm.errAt b s.size = 0
  · cases ht : takeS s (Frm.payAt b s.size) with
    | none =>
     have e : readS (f + 1) b s = s := by rw [readS, if_pos he, ht]
     rw [e]
     exact ⟨Nat.le_refl _, h0, readS_stop (Frm.at_end b s.size)⟩
    | some t =>
     obtain ⟨n, h1, h2, h3, _⟩ := frm_in h0 he
     have e : readS (f + 1) b s = readS f b { t with size := n } := by rw [readS_go he ht, h1, Int.toNat_natCast]
     obtain ⟨i1, i2, i3⟩ := readS_take f b { t with size := n } h3 (by show b.length < f + n; omega)
     rw [e]
     generalize hu : readS f b { t with size := n } = u at *
     have i1' : n ≤ u.size := i1
     obtain ⟨q1, q2, q3⟩ := Frm.at_take (b := b) (a := s.size) (n := u.size) he (by rw [h1]; omega)
     refine ⟨by omega, i2, ?_⟩
     rw [readS_go (t := t) q1 (by rw [q2]; exact ht), q3, h1, Int.toNat_natCast]
     exact i3
  · rw [readS_stop he]
    exact ⟨Nat.le_refl _, h0, readS_stop (Frm.at_end b s.size)⟩
theorem readSeg_take (b : List UInt8) : (readSeg b).size ≤ b.length ∧ readSeg (b.take (readSeg b).size) = readSeg b := by
 obtain ⟨_, h2, h3⟩ := readS_take (b.length + 1) b sg0 (Nat.zero_le _) (by show b.length < b.length + 1 + 0; omega)
 refine ⟨h2, ?_⟩
 have h4 : (b.take (readSeg b).size).length ≤ b.length := by rw [List.length_take]; omega
 have h5 : readSeg (b.take (readSeg b).size) = readS (b.length + 1) (b.take (readSeg b).size) sg0 :=
  readS_fuel _ _ _ _ (Nat.zero_le _) (by show _ < _ + 1 + 0; omega) (by show _ < _ + 1 + 0; omega)
 rw [h5]; exact h3
theorem removes_on : ∀ (L : List Nat) (n : Nat) {m : Nat} {d : Dk}, PInv m d → OnD d → L.Nodup → (∀ k ∈ L, okN k) → (∀ k ∈ L, k ≠ n → getF d.fs (nameW k) ≠ none) →
 ∃ d', removesD L n d = (0, d') ∧ PInv m d' ∧ OnD d' ∧ (∀ k ∈ L, k ≠ n → getF d'.fs (nameW k) = none) ∧ ∀ s, (∀ k ∈ L, k ≠ n → s ≠ nameW k) → getF d'.fs s = getF d.fs s
 | [], n, m, d, pi, ho, _, _, _ => ⟨d, rfl, pi, ho, fun k hk => (by cases hk), fun _ _ => rfl⟩
 | k :: L, n, m, d, pi, ho, hnd, hok, hin => by
  obtain ⟨n1, n2⟩ := List.nodup_cons.1 hnd
  have hok' : ∀ a ∈ L, okN a := fun a ha => hok a (List.mem_cons_of_mem _ ha)
  by_cases e : k = n
  · obtain ⟨d', r1, r2, r3, r4, r5⟩ := removes_on L n pi ho n2 hok' fun a ha => hin a (List.mem_cons_of_mem _ ha)
    refine ⟨d', by rw [removesD, if_pos e]; exact r1, r2, r3, fun a ha hne => ?_, fun s hs => r5 s fun a ha => hs a (List.mem_cons_of_mem _ ha)⟩
    rcases List.mem_cons.1 ha with rfl | ha
    · exact absurd e hne
    · exact r4 a ha hne
  · have hk := hin k List.mem_cons_self e
    obtain ⟨q1, q2⟩ := remove_on ho hk
    have hoth : ∀ s, s ≠ nameW k → getF (removeD d (nameW k)).2.fs s = getF d.fs s := fun s hs => remove_other d (Ne.symm hs)
    have hself : getF (removeD d (nameW k)).2.fs (nameW k) = none := by
     rcases remove_cases pi.l.sort (nameW k) with ⟨c1, _⟩ | ⟨_, _, c2⟩
     · exact absurd q1 c1
     · exact c2
    have hkL : ∀ a ∈ L, a ≠ k := fun a ha e3 => n1 (e3 ▸ ha)
    obtain ⟨d', r1, r2, r3, r4, r5⟩ := removes_on L n (pi.remove0 (nameW k)) q2 n2 hok' fun a ha hne => by
     rw [hoth _ (nameW_ne (hkL a ha))]; exact hin a (List.mem_cons_of_mem _ ha) hne
    refine ⟨d', ?_, r2, r3, fun a ha hne => ?_, fun s hs => ?_⟩
    · rw [removesD, if_neg e]; unfold thenD; rw [if_pos q1]; exact r1
    · rcases List.mem_cons.1 ha with rfl | ha
      · rw [r5 _ fun b hb _ => nameW_ne (Ne.symm (hkL b hb))]; exact hself
      · exact r4 a ha hne
    · rw [r5 s fun a ha => hs a (List.mem_cons_of_mem _ ha), hoth s (hs k List.mem_cons_self e)]
theorem removes_all {n : Nat} {d : Dk} : ∀ (L : List Nat), (∀ k ∈ L, k = n) → removesD L n d = (0, d)
 | [], _ => rfl
 | k :: L, h => by rw [removesD, if_pos (h k List.mem_cons_self)]; exact removes_all L fun a ha => h a (List.mem_cons_of_mem _ ha)
theorem pickW_cases (d : Dk) : ∀ l : List Nat, pickW d l = none ∨ ∃ k ∈ l, pickW d l = some (k, readSeg (fileW d k)) ∧ (readSeg (fileW d k)).whole = true
 | [] => .inl rfl
 | k :: r => by
  rw [show pickW d (k :: r) = if (readSeg (fileW d k)).whole then some (k, readSeg (fileW d k)) else pickW d r from rfl]
  cases hw : (readSeg (fileW d k)).whole with
  | true => rw [if_pos rfl]; exact .inr ⟨k, List.mem_cons_self, rfl, hw⟩
  | false =>
   rw [if_neg (by decide)]
   rcases pickW_cases d r with h | ⟨a, ha, h⟩
   · exact .inl h
   · exact .inr ⟨a, List.mem_cons_of_mem _ ha, h⟩
theorem pickN_cases (d : Dk) : pickN d = (0, sg0) ∨ ∃ n f, okN n ∧ getF d.fs (nameW n) = some f ∧ pickN d = (n, readSeg f.data) ∧ (readSeg f.data).whole = true := by
 have e : pickN d = (pickW d (segsD d).reverse).getD (0, sg0) := rfl
 rcases pickW_cases d (segsD d).reverse with h | ⟨k, hk, h1, h2⟩
 · exact .inl (by rw [e, h]; rfl)
 · obtain ⟨k1, k2⟩ := (segs_iff d k).1 (List.mem_reverse.1 hk)
   cases hf : getF d.fs (nameW k) with
   | none => exact absurd hf k2
   | some f =>
    have hd := fileW_some hf
    refine .inr ⟨k, f, k1, hf, ?_, ?_⟩
    · rw [e, h1, hd]; rfl
    · rw [← hd]; exact h2
theorem sync_again {d : Dk} (h : OnD d) {s : ByteArray} {b : List UInt8} (hf : getF d.fs s = some ⟨s, b, b.length⟩) : syncD d s = (0, d) := by
 obtain ⟨j, hj, h1, h2, h3⟩ := get_at hf
 unfold syncD
 rw [h.on, if_neg (by rw [h1]; omega), h1, Int.toNat_natCast, updD_at hj]
 have e : d.fs.set j ⟨d.fs[j].name, d.fs[j].data, d.fs[j].data.length⟩ = d.fs := by
  rw [h2]; dsimp only
  rw [← h2]; exact List.set_getElem_self hj
 rw [e]
theorem open_again {m : Nat} {d : Dk} (pi : PInv m d) (ho : OnD d) : ∃ ws d', cleanW d = (0, d') ∧ openW d = some ws ∧ cleanW d' = (0, d') ∧ openW d' = some ws ∧ PInv m d' := by
 have hnd : (segsD d).Nodup := segsD_nodup pi.l.sort
 have hok : ∀ k ∈ segsD d, okN k := fun k hk => ((segs_iff d k).1 hk).1
 have key : ∀ d' n s, pickN d = (n, s) → cleanW d = (0, d') → pickN d' = (n, s) → cleanW d' = (0, d') → PInv m d' → ∃ ws d', cleanW d = (0, d') ∧ openW d = some ws ∧ cleanW d' = (0, d') ∧ openW d' = some ws ∧ PInv m d' := by
  intro d' n s p1 c1 p2 c2 pi2
  refine ⟨⟨n, if n = 0 then hrdV else s.h, false⟩, d', c1, ?_, c2, ?_, pi2⟩
  · unfold openW openH; rw [c1, p1]; rfl
  · unfold openW openH; rw [c2, p2]; rfl
 rcases pickN_cases d with hp | ⟨n, f, hn, hf, hp, hw⟩
 · obtain ⟨d', r1, r2, r3, r4, r5⟩ := removes_on (segsD d) 0 pi ho hnd hok fun k hk _ => ((segs_iff d k).1 hk).2
   have hno : ∀ k, okN k → getF d'.fs (nameW k) = none := fun k hk => by
    by_cases hin : k ∈ segsD d
    · exact r4 k hin (by have := hk.1; omega)
    · rw [r5 _ fun a ha _ => nameW_ne fun e => hin (by rw [e]; exact ha)]
      cases hg : getF d.fs (nameW k) with
      | none => rfl
      | some f => exact absurd ((segs_iff d k).2 ⟨hk, by rw [hg]; simp⟩) hin
   have p2 := pickN_none hno
   refine key d' 0 sg0 hp ?_ p2 ?_ r2
   · unfold cleanW; rw [hp]
     show cleanD d (segsD d) 0 sg0 = _
     unfold cleanD cutS
     rw [if_neg (by omega)]
     unfold thenD
     dsimp only
     rw [if_pos rfl, r1]
     rfl
   · unfold cleanW; rw [p2]
     show cleanD d' (segsD d') 0 sg0 = _
     unfold cleanD cutS
     rw [if_neg (by omega)]
     unfold thenD
     dsimp only
     rw [if_pos rfl, removes_all (segsD d') fun k hk => ?_]
     · rfl
     · obtain ⟨k1, k2⟩ := (segs_iff d' k).1 hk
       exact absurd (hno k k1) k2
 · obtain ⟨t1, t2⟩ := readSeg_take f.data
   have hfn : f.name = nameW n := by obtain ⟨_, _, _, _, e⟩ := get_at hf; exact e
   have hn0 : 0 < n := hn.1
   generalize hS : readSeg f.data = S at *
   have hcut : ∃ d1 kp, cutS d n S = (0, d1) ∧ PInv m d1 ∧ OnD d1 ∧ getF d1.fs (nameW n) = some ⟨nameW n, f.data.take S.size, kp⟩ ∧ ∀ s, s ≠ nameW n → getF d1.fs s = getF d.fs s := by
    unfold cutS
    rw [fileW_some hf]
    by_cases hc : 0 < n ∧ S.size < f.data.length
    · rw [if_pos hc]
      obtain ⟨q1, q2⟩ := cut_on ho hf t1
      rcases cut_cases d (nameW n) S.size with ⟨c1, _⟩ | ⟨_, g, g1, g2, g3⟩
      · exact absurd q1 c1
      · rw [hf] at g1; cases g1
        exact ⟨_, _, Prod.ext q1 rfl, pi.cut0 _ _, q2, g3, fun s hs => cut_other d _ (Ne.symm hs)⟩
    · rw [if_neg hc]
      refine ⟨d, f.kept, rfl, pi, ho, ?_, fun _ _ => rfl⟩
      rw [List.take_of_length_le (by omega), hf, ← hfn]
   obtain ⟨d1, kp, c1, c2, c3, c4, c5⟩ := hcut
   obtain ⟨d2, r1, r2, r3, r4, r5⟩ := removes_on (segsD d) n c2 c3 hnd hok fun k hk hne => by
    rw [c5 _ (nameW_ne hne)]; exact ((segs_iff d k).1 hk).2
   have f2 : getF d2.fs (nameW n) = some ⟨nameW n, f.data.take S.size, kp⟩ := by rw [r5 _ fun k _ hne => nameW_ne (Ne.symm hne)]; exact c4
   obtain ⟨s1, s2⟩ := sync_on r3 (s := nameW n) (by rw [f2]; simp)
   have f3 : getF (syncD d2 (nameW n)).2.fs (nameW n) = some ⟨nameW n, f.data.take S.size, (f.data.take S.size).length⟩ := by
    rcases sync_cases d2 (nameW n) with ⟨e1, _⟩ | ⟨_, g, g1, g2, g3⟩
    · exact absurd s1 e1
    · rw [f2] at g1; cases g1; exact g3
   have hsync : syncD d2 (nameW n) = (0, (syncD d2 (nameW n)).2) := Prod.ext s1 rfl
   have pi3 := r2.sync0 (nameW n)
   have hoth3 : ∀ s, s ≠ nameW n → getF (syncD d2 (nameW n)).2.fs s = getF d2.fs s := fun s hs => sync_other d2 (Ne.symm hs)
   generalize (syncD d2 (nameW n)).2 = d3 at *
   have hno : ∀ k, okN k → k ≠ n → getF d3.fs (nameW k) = none := fun k hk hne => by
    rw [hoth3 _ (nameW_ne hne)]
    by_cases hin : k ∈ segsD d
    · exact r4 k hin hne
    · rw [r5 _ fun a ha _ => nameW_ne fun e => hin (by rw [e]; exact ha), c5 _ (nameW_ne hne)]
      cases hg : getF d.fs (nameW k) with
      | none => rfl
      | some f => exact absurd ((segs_iff d k).2 ⟨hk, by rw [hg]; simp⟩) hin
   have p3 : pickN d3 = (n, S) := by
    rw [pickN_spec hn f3 (by rw [t2]; exact hw) fun k hk hlt g hg => ?_, t2]
    rw [hno k hk (by omega)] at hg; cases hg
   refine key d3 n S hp ?_ p3 ?_ pi3
   · unfold cleanW; rw [hp]
     show cleanD d (segsD d) n S = _
     unfold cleanD
     rw [c1]
     unfold thenD
     dsimp only
     rw [if_pos rfl, r1]
     dsimp only
     rw [if_pos rfl, if_pos hn0, hsync]
   · unfold cleanW; rw [p3]
     show cleanD d3 (segsD d3) n S = _
     unfold cleanD cutS
     rw [fileW_some f3, if_neg (by rw [List.length_take]; omega)]
     unfold thenD
     dsimp only
     rw [if_pos rfl, removes_all (segsD d3) fun k hk => ?_]
     · dsimp only
       rw [if_pos rfl, if_pos hn0]
       exact sync_again s2 f3
     · obtain ⟨k1, k2⟩ := (segs_iff d3 k).1 hk
       exact Decidable.not_not.1 fun e => k2 (hno k k1 e)
end Go.Proofs.YtgpgcnmnfnnkjaaGreatDoor
end

section
namespace Go.Proofs.YtgpgcnmnfnnkjaaGreatDoor
open Go Go.RowKit Go.PlainAid BigFrame
attribute [local go_sem] After.same
theorem Rd.zero {w w' : World} {v : Value} (h : Rd etyE w v []) : Rd etyE w' v [] := by
 obtain ⟨h1, h0, p, cap, rfl, h2, h3, h4, h5⟩ := h
 exact ⟨h1, h0, p, cap, rfl, h2, h3, h4, fun a ha hn => absurd hn (by simp)⟩
set_option maxRecDepth 8000 in
set_option maxHeartbeats 8000000 in
theorem walRuns_walk (w : World) (T : TabW w) : Calls Tryz.prog 9 #[] w fun e w' => e = .returned (.bool true) ∧ Below w.heap.size w w' := by
 obtain ⟨w0, hw0⟩ : ∃ w0, w0 = w := ⟨_, rfl⟩
 rw [← hw0] at T ⊢
 clear hw0
 have T0 : ∀ z, Below w0.heap.size w0 z → TabW z := Lib.tabBelow_of_tabIs T
 have Tn := Lib.hid T0
 clear T T0
 go_enter Tryz.func9, Tryz.ntmps9
 go_wp2_with fail
 refine (lNew w0 w0 (Nat.le_refl _) noX (fun _ h => h.elim)).mono ?_
 rintro e w1 ⟨rfl, d1, b1⟩
 generalize w0.heap.size = G at d1
 have ho := walOpen (w := w1) Tn.out d1 b1 PInv.zero (by omega)
 rw [tw0, tw0c] at ho
 go_wp2_with fail
 refine ho.mono ?_
 rintro e w2 ⟨⟨gw, v2, X2, rfl, hgw, hx2, -, d2, v2', -⟩, -, c2⟩
 have b2 := b1.trans (c2.gx d1.size)
 have hgw0 : w0.heap.size ≤ gw := Nat.le_trans d1.size hgw
 have hgl := v2'.blk.lt
 clear ho c2 d1 b1 hx2 hgw
 have d2a := d2.alloc (.cells #[.int .i64 1, .int .i64 0, .int .i64 0, .int .i64 0, .int .i64 7, .string ⟨#[]⟩, .slice none 0 0] 24)
 have a2 := below_alloc w2 (.cells #[.int .i64 1, .int .i64 0, .int .i64 0, .int .i64 0, .int .i64 7, .string ⟨#[]⟩, .slice none 0 0] 24)
 have v2a := (v2'.ext a2).mono (Y := fun k => X2 k ∨ k = w2.heap.size) (fun _ h => .inl h)
 have kz := Blk.new w2 #[.int .i64 1, .int .i64 0, .int .i64 0, .int .i64 0, .int .i64 7, .string ⟨#[]⟩, .slice none 0 0] 24
 have b2a := b2.trans (a2.mono b2.size)
 have y0 := kz.cell 0 _ rfl
 have zy0 := kz.frozen 0
 have y1 := kz.cell 1 _ rfl
 have zy1 := kz.frozen 1
 have y2 := kz.cell 2 _ rfl
 have zy2 := kz.frozen 2
 have y3 := kz.cell 3 _ rfl
 have zy3 := kz.frozen 3
 have y4 := kz.cell 4 _ rfl
 have zy4 := kz.frozen 4
 have y5 := kz.cell 5 _ rfl
 have zy5 := kz.frozen 5
 have y6 := kz.cell 6 _ rfl
 have zy6 := kz.frozen 6
 have hs := walSave Tn.out d2a b2a hgw0 PInv.zero (by omega) v2a hr1 (.slice none 0 0) (Rd.nil _) (nil_own True.intro) (by simp [Value.ownBlock]) tw1e
 go_wp2_with fail
 refine hs.mono ?_
 rintro e w3 ⟨rfl, X3, v3, hx3, -, d3, v3', c3⟩
 have kz3 : Blk w3 w2.heap.size #[.int .i64 1, .int .i64 0, .int .i64 0, .int .i64 0, .int .i64 7, .string ⟨#[]⟩, .slice none 0 0] 24 := c3.blk kz (fun h => by rcases h with h | h; exact h.2 (.inr rfl); omega)
 have hX3 : X3 w2.heap.size := hx3 _ (.inr rfl)
 have b3 := b2a.trans (c3.gwB b2a.size hgw0)
 clear y0 zy0 y1 zy1 y2 zy2 y3 zy3 y4 zy4 y5 zy5 y6 zy6
 clear hs d2a a2 v2a b2a kz c3 hx3 d2 v2' b2
 have hn := lNames d3 (pw1.ok (by omega))
 rw [tw1n] at hn
 go_wp2_with fail
 refine hn.mono ?_
 rintro e w4 ⟨⟨r4, rfl, own4⟩, c4⟩
 have a4 := below_alloc w4 (.cells #[.string sW1] 9)
 have l4 : Rd strE (w4.alloc (.cells #[.string sW1] 9)) (.slice (some ⟨w4.heap.size, 0, none⟩) 1 1) [sW1] := (OwnR.litAt strE w4 #[.string sW1] 9 [sW1] 1 0 w4.heap.size rfl rfl rfl (by unfold maxLen; omega) (Nat.zero_le _)).rd
 have hsm := sameStrs _ _ _ _ (own4.rd.ext a4) l4
 have cc : Below w3.heap.size w3 (w4.alloc (.cells #[.string sW1] 9)) := c4.trans (a4.mono c4.size)
 clear hn own4 c4 a4 l4
 go_wp2_with fail
 refine hsm.mono ?_
 rintro e w5 ⟨rfl, nn, hw⟩
 have cd : Below w3.heap.size w3 w5 := by rw [hw]; exact cc.trans (below_drawn _ _ _)
 have b5 := b3.trans (cd.mono b3.size)
 have d5 := d3.ext cd
 have v5 := v3'.ext cd
 have kz5 := kz3.ext cd
 clear hsm hw cc cd b3 d3 v3' kz3
 have hgl5 := v5.blk.lt
 have hw2l := kz5.lt
 have hne : w2.heap.size ≠ gw := by omega
 have hne5 : w5.heap.size ≠ gw := by omega
 have hne6 : w5.heap.size ≠ w2.heap.size := by omega
 have hle2 : w0.heap.size ≤ w2.heap.size := by omega
 have u0 := kz5.cell 0 _ rfl
 have zu0 := kz5.frozen 0
 have u1 := kz5.cell 1 _ rfl
 have zu1 := kz5.frozen 1
 have u2 := kz5.cell 2 _ rfl
 have zu2 := kz5.frozen 2
 have u3 := kz5.cell 3 _ rfl
 have zu3 := kz5.frozen 3
 have u4 := kz5.cell 4 _ rfl
 have zu4 := kz5.frozen 4
 have u5 := kz5.cell 5 _ rfl
 have zu5 := kz5.frozen 5
 have u6 := kz5.cell 6 _ rfl
 have zu6 := kz5.frozen 6
 have cs := chg_cell w2.heap.size 6 (.slice (some ⟨w5.heap.size, 0, none⟩) 1 1) w5
 have es : (w5.setCell ⟨w2.heap.size, 6, none⟩ (.slice (some ⟨w5.heap.size, 0, none⟩) 1 1)).heap.size = w5.heap.size := by simp
 have ds := d5.chgX cs (fun k hk => .inl (by rw [hk]; exact hX3))
 have bs : Below w0.heap.size w0 _ := b5.trans (cs.below (B := w0.heap.size) (fun k hk => by rw [hk]; exact hle2) b5.size)
 have ks : Blk _ w2.heap.size #[.int .i64 1, .int .i64 0, .int .i64 0, .int .i64 0, .int .i64 7, .string ⟨#[]⟩, .slice (some ⟨w5.heap.size, 0, none⟩) 1 1] 24 := kz5.set 6 (.slice (some ⟨w5.heap.size, 0, none⟩) 1 1)
 have vs : WalV _ X3 G gw v3 wr1 := ⟨cs.blk v5.blk (fun e => hne e.symm), Rd.zero v5.log, v5.inX, v5.lX, v5.off, v5.few, v5.num⟩
 have a5 := below_alloc (w5.setCell ⟨w2.heap.size, 6, none⟩ (.slice (some ⟨w5.heap.size, 0, none⟩) 1 1)) (.cells #[.int .i64 1, .int .i64 0, .string ⟨#[120]⟩] 73)
 have d6 := ds.alloc (.cells #[.int .i64 1, .int .i64 0, .string ⟨#[120]⟩] 73)
 have b6 := bs.trans (a5.mono bs.size)
 have kz6 := ks.ext a5
 have l6 : Rd etyE ((w5.setCell ⟨w2.heap.size, 6, none⟩ (.slice (some ⟨w5.heap.size, 0, none⟩) 1 1)).alloc (.cells #[.int .i64 1, .int .i64 0, .string ⟨#[120]⟩] 73)) (.slice (some ⟨w5.heap.size, 0, none⟩) 1 1) [⟨1, 0, ⟨#[120]⟩⟩] := (OwnR.litAt etyE _ #[.int .i64 1, .int .i64 0, .string ⟨#[120]⟩] 73 [⟨1, 0, ⟨#[120]⟩⟩] 1 0 w5.heap.size es rfl rfl (by unfold maxLen; omega) (Nat.zero_le _)).rd
 rw [es] at d6
 have v6 := (vs.ext a5).mono (Y := fun k => X3 k ∨ k = w5.heap.size) (fun _ h => .inl h)
 have s0 := kz6.cell 0 _ rfl
 have zs0 := kz6.frozen 0
 have s1 := kz6.cell 1 _ rfl
 have zs1 := kz6.frozen 1
 have s2 := kz6.cell 2 _ rfl
 have zs2 := kz6.frozen 2
 have s3 := kz6.cell 3 _ rfl
 have zs3 := kz6.frozen 3
 have s4 := kz6.cell 4 _ rfl
 have zs4 := kz6.frozen 4
 have s5 := kz6.cell 5 _ rfl
 have zs5 := kz6.frozen 5
 have s6 := kz6.cell 6 _ rfl
 have zs6 := kz6.frozen 6
 clear cs es ds bs ks vs a5 d5 v5 kz5 b5
 go_wp2_with fail
 clear u0 zu0 u1 zu1 u2 zu2 u3 zu3 u4 zu4 u5 zu5 u6 zu6
 generalize hz6 : (w5.setCell ⟨w2.heap.size, 6, none⟩ (.slice (some ⟨w5.heap.size, 0, none⟩) 1 1)).alloc (.cells #[.int .i64 1, .int .i64 0, .string ⟨#[120]⟩] 73) = w6 at *
 clear hz6
 have hs := walSave Tn.out d6 b6 hgw0 pw1 (by omega) v6 hr2 (.slice (some ⟨w5.heap.size, 0, none⟩) 1 1) l6 (fun k hk => .inr (.inr (by cases hk; rfl))) (by simp [Value.ownBlock]; exact hne5) tw2e
 go_wp2_with fail
 refine hs.mono ?_
 rintro e w7 ⟨rfl, X7, v7, hx7, -, d7, v7', c7⟩
 have kz7 : Blk w7 w2.heap.size #[.int .i64 1, .int .i64 0, .int .i64 0, .int .i64 0, .int .i64 7, .string ⟨#[]⟩, .slice (some ⟨w5.heap.size, 0, none⟩) 1 1] 24 := c7.blk kz6 (fun h => by rcases h with h | h; exact h.2 (.inl hX3); exact hne h)
 have l7 := c7.cells l6 (fun k hk h => by cases hk; rcases h with h | h; exact h.2 (.inr rfl); exact hne5 h)
 have hX7 : X7 w2.heap.size := hx7 _ (.inl hX3)
 have hY7 : X7 w5.heap.size := hx7 _ (.inr rfl)
 have b7 := b6.trans (c7.gwB b6.size hgw0)
 clear s0 zs0 s1 zs1 s2 zs2 s3 zs3 s4 zs4 s5 zs5 s6 zs6
 clear hs d6 b6 kz6 l6 v6 c7 hx7
 have q0 := kz7.cell 0 _ rfl
 have zq0 := kz7.frozen 0
 have q1 := kz7.cell 1 _ rfl
 have zq1 := kz7.frozen 1
 have q2 := kz7.cell 2 _ rfl
 have zq2 := kz7.frozen 2
 have q3 := kz7.cell 3 _ rfl
 have zq3 := kz7.frozen 3
 have q4 := kz7.cell 4 _ rfl
 have zq4 := kz7.frozen 4
 have q5 := kz7.cell 5 _ rfl
 have zq5 := kz7.frozen 5
 have q6 := kz7.cell 6 _ rfl
 have zq6 := kz7.frozen 6
 have ho := walOpen Tn.out d7 b7 pw2 (by omega)
 rw [tw3] at ho
 go_wp2_with fail
 refine ho.mono ?_
 rintro e w8 ⟨⟨gx, v8, X8, rfl, hgx, hx8, -, d8, v8', -⟩, -, c8⟩
 have kz8 : Blk w8 w2.heap.size #[.int .i64 1, .int .i64 0, .int .i64 0, .int .i64 0, .int .i64 7, .string ⟨#[]⟩, .slice (some ⟨w5.heap.size, 0, none⟩) 1 1] 24 := c8.blk kz7 (fun h => h.2 hX7)
 have l8 : Rd etyE w8 (.slice (some ⟨w5.heap.size, 0, none⟩) 1 1) hr2.log := c8.cells l7 (fun k hk h => by cases hk; exact h.2 hY7)
 have hgx0 : w0.heap.size ≤ gx := Nat.le_trans d7.size hgx
 have b8 := b7.trans (c8.gx d7.size)
 have hd8 := b8.size
 clear ho d7 b7 kz7 l7 v7' c8 hx8
 clear q0 zq0 q1 zq1 q2 zq2 q3 zq3 q4 zq4 q5 zq5 q6 zq6
 have x0 := kz8.cell 0 _ rfl
 have zx0 := kz8.frozen 0
 have x1 := kz8.cell 1 _ rfl
 have zx1 := kz8.frozen 1
 have x2 := kz8.cell 2 _ rfl
 have zx2 := kz8.frozen 2
 have x3 := kz8.cell 3 _ rfl
 have zx3 := kz8.frozen 3
 have x4 := kz8.cell 4 _ rfl
 have zx4 := kz8.frozen 4
 have x5 := kz8.cell 5 _ rfl
 have zx5 := kz8.frozen 5
 have x6 := kz8.cell 6 _ rfl
 have zx6 := kz8.frozen 6
 go_wp2_with fail
 go_region_held3 (fun w' => w'.cell? ⟨w2.heap.size, 0, none⟩ = some (.int .i64 1) ∧ w'.cell? ⟨w2.heap.size, 1, none⟩ = some (.int .i64 0) ∧ w'.cell? ⟨w2.heap.size, 2, none⟩ = some (.int .i64 0) ∧ w'.cell? ⟨w2.heap.size, 3, none⟩ = some (.int .i64 0) ∧ w'.cell? ⟨w2.heap.size, 4, none⟩ = some (.int .i64 7) ∧ w'.cell? ⟨w2.heap.size, 5, none⟩ = some (.string ⟨#[]⟩) ∧ w'.cell? ⟨w2.heap.size, 6, none⟩ = some (.slice (some ⟨w5.heap.size, 0, none⟩) 1 1)) (go_keep)
  (first
   | (go_at_call 21; refine (walHard (v8'.ext (below_drew _ _))).mono ?_; rintro e w9 ⟨v9, rfl, own9, b9⟩; (have s9 := (below_drew _ _).trans b9); (have kz9 := kz8.ext s9); (have m0 := kz9.cell 0 _ rfl); (have m1 := kz9.cell 1 _ rfl); (have m2 := kz9.cell 2 _ rfl); (have m3 := kz9.cell 3 _ rfl); (have m4 := kz9.cell 4 _ rfl); (have m5 := kz9.cell 5 _ rfl); (have m6 := kz9.cell 6 _ rfl))
   | (go_at_call 20; refine (refSame hr2 hr2 v9 _ own9.rd (l8.ext s9)).mono ?_; rintro e w10 ⟨rfl, b10⟩; (have kz10 := kz9.ext b10); (have k0 := kz10.cell 0 _ rfl); (have k1 := kz10.cell 1 _ rfl); (have k2 := kz10.cell 2 _ rfl); (have k3 := kz10.cell 3 _ rfl); (have k4 := kz10.cell 4 _ rfl); (have k5 := kz10.cell 5 _ rfl); (have k6 := kz10.cell 6 _ rfl)))
 all_goals
  have b810 : Below w8.heap.size w8 w10 := s9.trans (b10.mono s9.size)
  have b10' := b8.trans (b810.mono b8.size)
  have d10 := d8.ext b810
  have v10 := v8'.ext b810
  clear own9 b9 s9 kz9 b10 kz10 b810 kz8 l8 d8 b8 v8'
  clear m0 m1 m2 m3 m4 m5 m6 k0 k1 k2 k3 k4 k5 k6
  have hs := walSave Tn.out d10 b10' hgx0 pw3 (by omega) v10 hr3 (.slice none 0 0) (Rd.nil _) (nil_own True.intro) (by simp [Value.ownBlock]) tw4e
  go_wp2_with fail
  refine hs.mono ?_
  rintro e w11 ⟨rfl, X11, v11, hx11, -, d11, v11', c11⟩
  have b11 := b10'.trans (c11.gwB b10'.size hgx0)
  clear hs d10 b10' v10 c11 hx11
  go_wp2_with fail
  refine (walOpenNil _).mono ?_
  rintro e w' ⟨rfl, rfl⟩
  have hn := lNames d11 (pw4.ok (by omega))
  rw [tw4n] at hn
  go_wp2_with fail
  refine hn.mono ?_
  rintro e w12 ⟨⟨r12, rfl, own12⟩, c12⟩
  have a12 := below_alloc w12 (.cells #[.string sW2] 9)
  have l12 : Rd strE (w12.alloc (.cells #[.string sW2] 9)) (.slice (some ⟨w12.heap.size, 0, none⟩) 1 1) [sW2] := (OwnR.litAt strE w12 #[.string sW2] 9 [sW2] 1 0 w12.heap.size rfl rfl rfl (by unfold maxLen; omega) (Nat.zero_le _)).rd
  have hsm := sameStrs _ _ _ _ (own12.rd.ext a12) l12
  have cc : Below w11.heap.size w11 (w12.alloc (.cells #[.string sW2] 9)) := c12.trans (a12.mono c12.size)
  clear hn own12 c12 a12 l12
  go_wp2_with fail
  refine hsm.mono ?_
  rintro e w13 ⟨rfl, nn, hw⟩
  have cd : Below w11.heap.size w11 w13 := by rw [hw]; exact cc.trans (below_drawn _ _ _)
  have b13 := b11.trans (cd.mono b11.size)
  have d13 := d11.ext cd
  have v13 := v11'.ext cd
  clear hsm hw cc cd b11 d11 v11'
  have hs := walSave Tn.out d13 b13 hgx0 pw4 (by omega) v13 hr4 (.slice none 0 0) (Rd.nil _) (nil_own True.intro) (by simp [Value.ownBlock]) tw5e
  go_wp2_with fail
  refine hs.mono ?_
  rintro e w14 ⟨rfl, X14, v14, hx14, -, d14, v14', c14⟩
  have b14 := b13.trans (c14.gwB b13.size hgx0)
  clear hs d13 b13 v13 c14 d14 v14'
  go_wp2_with fail
  go_ret
  exact ⟨rfl, b14⟩
end Go.Proofs.YtgpgcnmnfnnkjaaGreatDoor
end
