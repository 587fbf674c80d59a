/- The store on a disk, plain law: what a power failure leaves, what Open makes of it, what Save makes of it. The store's Save, plain law. StoreRuns in plain words: what each step comes to. -/
import Derived.Test.YtgpgcnmnfnnkjaaGreatDoorGStoreCuts31
import Derived.Test.YtgpgcnmnfnnkjaaGreatDoorGStoreCuts18
set_option linter.unusedVariables false
set_option linter.unusedSimpArgs false
section
namespace Go.Proofs.YtgpgcnmnfnnkjaaGreatDoor
open Go Go.RowKit Go.PlainAid
theorem payP_len (h : Hrd) : 4 ≤ (payP h).length ∧ (payP h).length ≤ h.snap.size + 40 := by
 have h1 := numsB_le [h.base, h.bterm, h.members]
 have h2 := numB_pos h.base; have h3 := numB_pos h.bterm; have h4 := numB_pos h.members
 have h5 := numB_pos ((bytesOf h.snap).length : Int); have h6 := numB_le ((bytesOf h.snap).length : Int)
 have h7 := bytes_size h.snap
 unfold payP textB
 simp only [numsB, List.length_append, List.length_cons, List.length_nil] at *
 omega
theorem snapB_len {h : Hrd} (hs : h.snap.size ≤ 65536) : (snapB h).length = (payP h).length + 8 ∧ Frm.none' (payP h) = false := by
 have hn : Frm.none' (payP h) = false := by rw [Frm.none_iff]; have := payP_len h; omega
 exact ⟨Frm.one_length hn, hn⟩
theorem parse_payP {h : Hrd} (f1 : fitI h.base) (f2 : fitI h.bterm) (f3 : fitI h.members) (hs : h.snap.size ≤ 65536) (hne : h.snap.size ≠ 0) : parseP (payP h) h = some (bytesOf h.snap) := by
 have hbs := bytes_size h.snap
 have e1 : rNum (rd0 (payP h)) = (h.base, ⟨payP h, (numB h.base).length, 0⟩) := rNum_at (L := payP h) (a := []) (c := numsB [h.bterm, h.members] ++ textB (bytesOf h.snap)) (n := h.base) (by simp [payP, numsB]) f1
 have e2 := rNum_at (L := payP h) (a := numB h.base) (c := numsB [h.members] ++ textB (bytesOf h.snap)) (n := h.bterm) (by simp [payP, numsB]) f2
 have e3 := rNum_at (L := payP h) (a := numB h.base ++ numB h.bterm) (c := textB (bytesOf h.snap)) (n := h.members) (by simp [payP, numsB]) f3
 have e4 := rText_back (numB h.base ++ numB h.bterm ++ numB h.members) [] (bytesOf h.snap) (most := 65536) (by omega) (by decide)
 have eL : numB h.base ++ numB h.bterm ++ numB h.members ++ textB (bytesOf h.snap) ++ [] = payP h := by simp [payP, numsB]
 rw [eL] at e4
 have e5 := rEnd_at (L := payP h) (n := (numB h.base ++ numB h.bterm ++ numB h.members).length + (textB (bytesOf h.snap)).length) (by simp [payP, numsB]; omega)
 have hne2 : bytesOf h.snap ≠ [] := fun e => hne (by rw [← hbs, e]; rfl)
 unfold parseP
 dsimp only
 rw [e1]; dsimp only
 rw [e2]; dsimp only
 rw [e3]; dsimp only
 rw [e4]; dsimp only
 rw [if_pos ⟨e5, rfl, rfl, rfl, hne2⟩]
theorem read_snapB {h : Hrd} (f1 : fitI h.base) (f2 : fitI h.bterm) (f3 : fitI h.members) (hs : h.snap.size ≤ 65536) (hne : h.snap.size ≠ 0) : readP (snapB h) h = some (bytesOf h.snap) := by
 obtain ⟨hl, hn⟩ := snapB_len hs
 obtain ⟨w1, w2, w3, _⟩ := Frm.whole hn []
 rw [List.append_nil] at w1 w2 w3
 have he : Frm.errAt (snapB h) 0 = 0 := by
  unfold Frm.errAt
  rw [if_neg (by omega)]; exact w1
 have ht : Frm.toAt (snapB h) 0 = ((snapB h).length : Int) := by
  unfold Frm.toAt; rw [if_pos he, hl]
  show (0 : Int) + 8 + (Frm.len (Frm.one (payP h)) : Nat) = _
  rw [w2]; omega
 have hp : Frm.payAt (snapB h) 0 = payP h := by unfold Frm.payAt; rw [if_pos he]; exact w3
 unfold readP
 rw [if_pos ⟨he, ht⟩, hp]
 exact parse_payP f1 f2 f3 hs hne
theorem dropS_fresh (n : Nat) : dropS n freshS = true := by
 have h1 : eqS freshS freshS = true := (eqS_iff _ _).2 rfl
 have h2 : eqS freshS (nameP n) = false := by rw [Bool.eq_false_iff]; exact fun e => nameP_fresh n ((eqS_iff _ _).1 e).symm
 unfold dropS; rw [h1, h2]; simp
theorem dropS_own {n : Nat} (h : 0 < n) : dropS n (nameP n) = false := by
 have h1 : eqS (nameP n) (nameP n) = true := (eqS_iff _ _).2 rfl
 unfold dropS; rw [h1, decide_eq_true h]; simp
theorem dropS_other {n b : Nat} (hb : okN b) (h : 0 < n → b ≠ n) : dropS n (nameP b) = true := by
 unfold dropS
 rw [numbS_name hb, Bool.or_true, Bool.true_and]
 rcases Nat.eq_zero_or_pos n with h0 | h0
 · subst h0; rfl
 · have h2 : eqS (nameP b) (nameP n) = false := by rw [Bool.eq_false_iff]; exact fun e => h h0 (nameP_inj ((eqS_iff _ _).1 e))
   rw [h2]; simp
section
variable {m n : Nat}
theorem remove_none {d : Dk} (hs : SortD d.fs) {s : ByteArray} (t : ByteArray) (h : getF d.fs s = none) : getF (removeD d t).2.fs s = none := by
 by_cases e : t = s
 · subst e
   rcases remove_cases hs t with ⟨_, e⟩ | ⟨_, _, e⟩
   · rw [e]; exact h
   · exact e
 · rw [remove_other d e]; exact h
theorem dropD_keep {s : ByteArray} (hs : dropS n s = false) : ∀ (l : List ByteArray) (d : Dk), getF (dropD n l d).2.fs s = getF d.fs s
 | [], _ => rfl
 | t :: l, d => by
  rw [dropD]
  split
  · rename_i ht
    have e : t ≠ s := fun e => by rw [e, hs] at ht; cases ht
    unfold thenD
    split
    · rw [dropD_keep hs l, remove_other d e]
    · exact remove_other d e
  · exact dropD_keep hs l d
theorem dropD_none {s : ByteArray} : ∀ (l : List ByteArray) {d : Dk}, PInv m d → getF d.fs s = none → getF (dropD n l d).2.fs s = none
 | [], _, _, h => h
 | t :: l, d, pi, h => by
  have h1 := remove_none pi.l.sort t h
  rw [dropD]
  split
  · unfold thenD
    split
    · exact dropD_none l (pi.remove0 t) h1
    · exact h1
  · exact dropD_none l pi h
theorem dropD_done {s : ByteArray} (hs : dropS n s = true) : ∀ (l : List ByteArray) {d : Dk}, PInv m d → s ∈ l → (dropD n l d).1 = 0 → getF (dropD n l d).2.fs s = none
 | [], _, _, h, _ => by cases h
 | t :: l, d, pi, h, h0 => by
  rw [dropD] at h0 ⊢
  by_cases ht : dropS n t = true
  · rw [if_pos ht] at h0 ⊢
    unfold thenD at h0 ⊢
    rcases remove_cases pi.l.sort t with ⟨c1, c2⟩ | ⟨c1, _, c2⟩
    · rw [if_neg c1] at h0; exact absurd h0 c1
    · rw [if_pos c1] at h0 ⊢
      rcases List.mem_cons.1 h with e | h
      · subst e; exact dropD_none l (pi.remove0 s) c2
      · exact dropD_done hs l (pi.remove0 t) h h0
  · rw [if_neg ht] at h0 ⊢
    rcases List.mem_cons.1 h with e | h
    · subst e; exact absurd hs ht
    · exact dropD_done hs l pi h h0
theorem dropD_on : ∀ (l : List ByteArray) {d : Dk}, OnD d → l.Nodup → (∀ s ∈ l, getF d.fs s ≠ none) → (dropD n l d).1 = 0 ∧ OnD (dropD n l d).2
 | [], _, h, _, _ => ⟨rfl, h⟩
 | t :: l, d, h, hd, hg => by
  obtain ⟨d1, d2⟩ := List.nodup_cons.1 hd
  rw [dropD]
  split
  · obtain ⟨q1, q2⟩ := remove_on h (hg t (by simp))
    unfold thenD
    rw [if_pos q1]
    refine dropD_on l q2 d2 fun s hs => ?_
    rw [remove_other d (fun e => d1 (by rw [e]; exact hs))]; exact hg s (by simp [hs])
  · exact dropD_on l h d2 fun s hs => hg s (by simp [hs])
theorem dropD_tot : ∀ (l : List ByteArray) (d : Dk), totD (dropD n l d).2.fs ≤ totD d.fs
 | [], _ => Nat.le_refl _
 | t :: l, d => by
  rw [dropD]
  split
  · exact then_tot (remove_tot _ _) fun d' h' => Nat.le_trans (dropD_tot l d') h'
  · exact dropD_tot l d
theorem cleanP_law {d : Dk} (pi : PInv m d) (n : Nat) : (∀ s, dropS n s = false → getF (cleanP d n).2.fs s = getF d.fs s) ∧ ((cleanP d n).1 = 0 → ∀ s, dropS n s = true → getF (cleanP d n).2.fs s = none) ∧ (OnD d → (cleanP d n).1 = 0 ∧ OnD (cleanP d n).2) ∧ totD (cleanP d n).2.fs ≤ totD d.fs ∧ ∀ s, getF d.fs s = none → getF (cleanP d n).2.fs s = none := by
 have hmem : ∀ s, s ∈ d.fs.map (·.name) ↔ getF d.fs s ≠ none := fun s => by
  rw [get_mem]
  constructor
  · intro h; obtain ⟨f, hf, e⟩ := List.mem_map.1 h; exact ⟨f, hf, e⟩
  · rintro ⟨f, hf, e⟩; exact List.mem_map.2 ⟨f, hf, e⟩
 have hnd : (d.fs.map (·.name)).Nodup := by
  unfold List.Nodup
  rw [List.pairwise_map]
  exact List.Pairwise.imp (fun h => ltS_ne h) pi.l.sort
 refine ⟨fun s hs => dropD_keep hs _ d, fun h0 s hs => ?_, fun ho => dropD_on _ ho hnd fun s hs => (hmem s).1 hs, dropD_tot _ _, fun s hs => dropD_none _ pi hs⟩
 by_cases hin : s ∈ d.fs.map (·.name)
 · exact dropD_done hs _ pi hin h0
 · have hg : getF d.fs s = none := Decidable.not_not.1 fun e => hin ((hmem s).2 e)
   exact dropD_none _ pi hg
end
def Only (d : Dk) : Prop := ∀ s, (∀ k, okN k → s ≠ nameW k) → s ≠ freshS → (∀ b, okN b → s ≠ nameP b) → getF d.fs s = none
structure SnapF (d : Dk) (h : Hrd) : Prop where
 zero : h.base = 0 → h.snap = sNone
 pos : 0 ≤ h.base ∧ h.base ≤ 1099511627776
 file : h.base ≠ 0 → ∃ B, getF d.fs (nameP h.base.toNat) = some ⟨nameP h.base.toNat, B, B.length⟩ ∧ readP B h = some (bytesOf h.snap)
structure RecS (m : Nat) (d : Dk) (n : Nat) (K : List Rec) (h : Hrd) : Prop where
 k : KeptW m d n K (bareOf h)
 sn : SnapF d h
 only : Only d
structure GoodS (m : Nat) (d : Dk) (n : Nat) (K : List Rec) (h : Hrd) : Prop where
 g : GoodW m d n K (bareOf h)
 sn : SnapF d h
 none : ∀ s, s ≠ nameW n → (h.base ≠ 0 → s ≠ nameP h.base.toNat) → getF d.fs s = none
section
variable {m m' n : Nat} {d d' : Dk} {K : List Rec} {x h g : Hrd}
theorem SnapF.okN (s : SnapF d h) (hb : h.base ≠ 0) : okN h.base.toNat := ⟨by have := s.pos; omega, by have := s.pos; omega⟩
theorem KeptW.of_get (k : KeptW m d n K x) (pi : PInv m' d') (e : ∀ k, Proofs.YtgpgcnmnfnnkjaaGreatDoor.okN k → getF d'.fs (nameW k) = getF d.fs (nameW k)) : KeptW m' d' n K x := by
 refine ⟨pi, k.okn, k.okr, k.run, k.bare, k.snap, ?_, fun a ha hn f hf => k.rest a ha hn f (by rw [← e a ha]; exact hf)⟩
 obtain ⟨c, c1, c2⟩ := k.file
 exact ⟨c, c1, by rw [e n k.okn]; exact c2⟩
theorem GoodW.of_get (k : GoodW m d n K x) (pi : PInv m' d') (e : ∀ k, Proofs.YtgpgcnmnfnnkjaaGreatDoor.okN k → getF d'.fs (nameW k) = getF d.fs (nameW k)) : GoodW m' d' n K x :=
 ⟨k.k.of_get pi e, by rw [e n k.k.okn]; exact k.file, fun a ha hn => by rw [e a ha]; exact k.none a ha hn⟩
theorem SnapF.of_get (s : SnapF d h) (e : h.base ≠ 0 → getF d'.fs (nameP h.base.toNat) = getF d.fs (nameP h.base.toNat)) : SnapF d' h := by
 refine ⟨s.zero, s.pos, fun hb => ?_⟩
 obtain ⟨B, b1, b2⟩ := s.file hb
 exact ⟨B, by rw [e hb]; exact b1, b2⟩
theorem SnapF.crash (s : SnapF d h) (picks : List Int) : SnapF (crashD d picks) h := by
 refine ⟨s.zero, s.pos, fun hb => ?_⟩
 obtain ⟨B, b1, b2⟩ := s.file hb
 exact ⟨B, crash_kept picks b1 rfl, b2⟩
theorem Only.crash (o : Only d) (picks : List Int) : Only (crashD d picks) := fun s h1 h2 h3 => crash_none picks d.fs 0 (o s h1 h2 h3)
theorem RecS.crash (r : RecS m d n K h) (picks : List Int) : RecS m (crashD d picks) n K h := ⟨r.k.crash picks, r.sn.crash picks, r.only.crash picks⟩
theorem RecS.arm (r : RecS m d n K h) {c : Int} (hc : c ≤ 9223372036854775807) : RecS m (armD d c) n K h := ⟨r.k.arm hc, r.sn.of_get fun _ => rfl, r.only⟩
theorem RecS.more (r : RecS m d n K h) (hm : m ≤ m') : RecS m' d n K h := ⟨r.k.more hm, r.sn, r.only⟩
theorem GoodS.arm (r : GoodS m d n K h) {c : Int} (hc : c ≤ 9223372036854775807) : GoodS m (armD d c) n K h := ⟨r.g.arm hc, r.sn.of_get fun _ => rfl, r.none⟩
theorem GoodS.more (r : GoodS m d n K h) (hm : m ≤ m') : GoodS m' d n K h := ⟨r.g.more hm, r.sn, r.none⟩
theorem GoodS.crash (r : GoodS m d n K h) (picks : List Int) : GoodS m (crashD d picks) n K h := ⟨r.g.crash picks, r.sn.crash picks, fun s h1 h2 => crash_none picks d.fs 0 (r.none s h1 h2)⟩
theorem GoodS.toRec (r : GoodS m d n K h) : RecS m d n K h := ⟨r.g.k, r.sn, fun s h1 _ h3 => r.none s (h1 n r.g.k.okn) fun hb => h3 _ (r.sn.okN hb)⟩
theorem fileP_some {b : Nat} {f : Fil} (e : getF d.fs (nameP b) = some f) : fileP d b = f.data := by unfold fileP; rw [read_getF, e]; rfl
theorem SnapF.snapO (s : SnapF d h) (e1 : x.base = h.base) (e2 : x.bterm = h.bterm) (e3 : x.members = h.members) : snapO d x = some (bytesOf h.snap) := by
 unfold Proofs.YtgpgcnmnfnnkjaaGreatDoor.snapO
 by_cases hb : h.base = 0
 · rw [if_pos (e1.trans hb), s.zero hb]; rfl
 · rw [if_neg (fun q => hb (e1.symm.trans q))]
   obtain ⟨B, b1, b2⟩ := s.file hb
   rw [e1, fileP_some b1, ← b2]
   unfold readP parseP
   rw [e1, e2, e3]
theorem openS_law (r : RecS m d n K h) : RecS m (openP d).2.2 n K h ∧ totD (openP d).2.2.fs ≤ totD d.fs ∧ (OnD d → openP d = (0, some ⟨⟨n, bareOf h, false⟩, h.snap, false⟩, (openP d).2.2) ∧ GoodS m (openP d).2.2 n K h ∧ OnD (openP d).2.2) := by
 obtain ⟨c1, c2, c3, c4⟩ := clean_law r.k
 have t1 := clean_tot d
 have hnw : ∀ s, (∀ k, okN k → s ≠ nameW k) → getF (cleanW d).2.fs s = getF d.fs s := c4
 have r1 : RecS m (cleanW d).2 n K h := ⟨c1, r.sn.of_get fun _ => c4 _ fun k _ => nameP_nameW _ _, fun s h1 h2 h3 => by rw [c4 s h1]; exact r.only s h1 h2 h3⟩
 unfold openP
 by_cases h0 : (cleanW d).1 = 0
 · rw [open_law r.k h0]
   have hsn := r1.sn.snapO (x := bareOf h) rfl rfl rfl
   dsimp only
   rw [hsn]
   dsimp only
   have hbase : (bareOf h).base.toNat = h.base.toNat := rfl
   rw [hbase]
   obtain ⟨k1, k2, k3, k4, k5⟩ := cleanP_law c1.inv h.base.toNat
   have pi2 := c1.inv.cleanP h.base.toNat
   have r2 : RecS m (cleanP (cleanW d).2 h.base.toNat).2 n K h := by
    refine ⟨r1.k.of_get pi2 fun k _ => k1 _ (dropS_W _ _), r1.sn.of_get fun hb => k1 _ (dropS_own (r1.sn.okN hb).1), fun s h1 h2 h3 => k5 s (r1.only s h1 h2 h3)⟩
   by_cases hc : (cleanP (cleanW d).2 h.base.toNat).1 = 0
   · rw [if_pos hc]
     refine ⟨r2, Nat.le_trans k4 t1, fun hon => ⟨by rw [ofBytes_of], ⟨(c2 h0).of_get pi2 fun k _ => k1 _ (dropS_W _ _), r2.sn, fun s s1 s2 => ?_⟩, (k3 (c3 hon).2).2⟩⟩
     cases hd : dropS h.base.toNat s with
     | true => exact k2 hc s hd
     | false =>
      show getF (cleanP (cleanW d).2 h.base.toNat).2.fs s = none
      rw [k1 s hd]
      by_cases hw : ∃ a, okN a ∧ s = nameW a
      · obtain ⟨a, ha, rfl⟩ := hw
        exact (c2 h0).none a ha fun e => s1 (by rw [e])
      · refine r1.only s (fun a ha e => hw ⟨a, ha, e⟩) (fun e => ?_) fun b hb e => ?_
        · rw [e, dropS_fresh] at hd; cases hd
        · rw [e, dropS_other hb] at hd
          · cases hd
          · intro hp e2
            exact s2 (by omega) (by rw [e, e2])
   · rw [if_neg hc]
     exact ⟨r2, Nat.le_trans k4 t1, fun hon => absurd (k3 (c3 hon).2).1 hc⟩
 · have how : openW d = none := by unfold openW; rw [if_neg h0]
   rw [how]
   exact ⟨r1, t1, fun hon => absurd (c3 hon).1 h0⟩
end
end Go.Proofs.YtgpgcnmnfnnkjaaGreatDoor
end

section
namespace Go.Proofs.YtgpgcnmnfnnkjaaGreatDoor
open Go Go.RowKit Go.PlainAid
section
variable {m n : Nat} {d : Dk} {K : List Rec} {h g : Hrd}
theorem writeP_law (pi : PInv m d) (hr : rightH g = true) (hf : getF d.fs freshS = none) :
 (∀ s, s ≠ freshS → s ≠ nameP g.base.toNat → getF (writeP d g).2.fs s = getF d.fs s) ∧
 ((writeP d g).1 = 0 → getF (writeP d g).2.fs (nameP g.base.toNat) = some ⟨nameP g.base.toNat, snapB g, (snapB g).length⟩ ∧ getF (writeP d g).2.fs freshS = none) ∧
 (OnD d → totD d.fs + (snapB g).length ≤ 4194304 → (writeP d g).1 = 0 ∧ OnD (writeP d g).2) ∧
 totD (writeP d g).2.fs ≤ totD d.fs + (snapB g).length := by
 have hn : namedD (nameP g.base.toNat) = true := by
  obtain ⟨_, h1, h2, _⟩ := right_base hr
  exact namedD_nameP (by omega)
 have hne : freshS ≠ nameP g.base.toNat := (nameP_fresh _).symm
 unfold writeP
 have hrd : readD d freshS = none := by rw [read_getF, hf]; rfl
 rw [hrd]
 have h1 := pi.append freshS (snapB g)
 have a1 : ∀ s, s ≠ freshS → getF (appendD d freshS (snapB g)).2.fs s = getF d.fs s := fun s hs => append_other d (Ne.symm hs)
 have a2 := append_tot d freshS (snapB g)
 have a3 : OnD d → totD d.fs + (snapB g).length ≤ 4194304 → (appendD d freshS (snapB g)).1 = 0 ∧ OnD (appendD d freshS (snapB g)).2 := fun ho ht => append_on ho freshS_named ht
 show _ ∧ ((thenD (0, d) _).1 = 0 → _) ∧ _
 have e0 : ∀ f : Dk → Int × Dk, thenD ((0 : Int), d) f = f d := fun f => rfl
 simp only [Option.isSome_none, Bool.false_eq_true, if_false]
 rw [e0]
 rcases append_cases d freshS (snapB g) with ⟨q1, q2⟩ | ⟨q1, q2⟩
 · unfold thenD
   rw [if_neg q1]
   exact ⟨fun s h1 _ => a1 s h1, fun e => absurd e q1, fun ho ht => absurd (a3 ho ht).1 q1, a2⟩
 · have f1 : getF (appendD d freshS (snapB g)).2.fs freshS = some ⟨freshS, snapB g, 0⟩ := by rw [q2]; exact add_none hf _
   generalize appendD d freshS (snapB g) = d1 at *
   have b1 : ∀ s, s ≠ freshS → getF (syncD d1.2 freshS).2.fs s = getF d1.2.fs s := fun s hs => sync_other d1.2 (Ne.symm hs)
   have b2 := sync_tot d1.2 freshS
   have b3 : OnD d1.2 → (syncD d1.2 freshS).1 = 0 ∧ OnD (syncD d1.2 freshS).2 := fun ho => sync_on ho (by rw [f1]; simp)
   have h2 := h1.sync0 freshS
   unfold thenD
   rw [if_pos q1]
   dsimp only
   rcases sync_cases d1.2 freshS with ⟨p1, p2⟩ | ⟨p1, f, p3, _, p4⟩
   · rw [if_neg p1]
     exact ⟨fun s s1 _ => by rw [b1 s s1, a1 s s1], fun e => absurd e p1, fun ho ht => absurd (b3 (a3 ho ht).2).1 p1, Nat.le_trans b2 a2⟩
   · rw [f1] at p3; cases p3
     generalize syncD d1.2 freshS = d2 at *
     rw [if_pos p1]
     have c1 : ∀ s, s ≠ freshS → s ≠ nameP g.base.toNat → getF (renameD d2.2 freshS (nameP g.base.toNat)).2.fs s = getF d2.2.fs s := fun s h1 h2 => rename_other d2.2 (Ne.symm h1) (Ne.symm h2)
     have c3 : OnD d2.2 → (renameD d2.2 freshS (nameP g.base.toNat)).1 = 0 ∧ OnD (renameD d2.2 freshS (nameP g.base.toNat)).2 := fun ho => rename_on ho (by rw [p4]; simp) hn
     have c2 : totD (renameD d2.2 freshS (nameP g.base.toNat)).2.fs ≤ totD d2.2.fs := by
      unfold renameD
      split
      · exact Nat.le_refl _
      · refine on_tot (Nat.le_refl _) fun j hj => ?_
        split
        · exact Nat.le_refl _
        · obtain ⟨m, e, _, _, _, m4, _, _⟩ := move_rest h2.l.sort hj (nameP g.base.toNat)
          rw [e, totD_putD]; exact m4
     refine ⟨fun s s1 s2 => by rw [c1 s s1 s2, b1 s s1, a1 s s1], fun e => ?_, fun ho ht => c3 (b3 (a3 ho ht).2).2, Nat.le_trans c2 (Nat.le_trans b2 a2)⟩
     rcases rename_cases h2.l.sort hne with ⟨r1, _⟩ | ⟨_, f, r2, r3, r4⟩
     · exact absurd e r1
     · rw [p4] at r2; cases r2
       exact ⟨r3, r4⟩
def NextR (h g : Hrd) : Prop := (g.base = h.base ∧ g.bterm = h.bterm ∧ g.members = h.members ∧ g.snap = h.snap ∧ g.term = h.term ∧ g.vote = h.vote ∧ commonE g.log h.log = h.log.length) ∨ h.base < g.base
def SomeE (y h g : Hrd) : Prop := y = h ∨ (g.base = h.base ∧ g.bterm = h.bterm ∧ g.members = h.members ∧ g.snap = h.snap ∧ g.term = h.term ∧ g.vote = h.vote ∧ commonE g.log h.log = h.log.length ∧ ∃ j, h.log.length ≤ j ∧ j ≤ g.log.length ∧ y = { g with log := g.log.take j })
theorem commonE_pre : ∀ (l : List Ety) (j : Nat), j ≤ l.length → commonE l (l.take j) = j
 | l, 0, _ => by cases l <;> rfl
 | [], j + 1, h => by simp at h
 | x :: r, j + 1, h => by
  have e : etyEq x x = true := by unfold etyEq; rw [decide_eq_true rfl, decide_eq_true rfl, (eqS_iff _ _).2 rfl]; rfl
  rw [List.take_succ_cons, commonE, if_pos e, commonE_pre r j (by simpa using h)]
theorem NextR.self (g : Hrd) : NextR g g := .inl ⟨rfl, rfl, rfl, rfl, rfl, rfl, commonE_self _⟩
theorem SomeE.next {y h g : Hrd} (hn : NextR h g) (s : SomeE y h g) : NextR y g := by
 rcases s with e | ⟨_, _, _, _, _, _, _, j, _, j2, e⟩
 · rw [e]; exact hn
 · rw [e]
   refine .inl ⟨rfl, rfl, rfl, rfl, rfl, rfl, ?_⟩
   show commonE g.log (g.log.take j) = (g.log.take j).length
   rw [commonE_pre _ _ j2, List.length_take]; omega
theorem GoodS.readD_fresh (G : GoodS m d n K h) : getF d.fs freshS = Option.none := G.none _ (freshS_nameW n) fun _ => (nameP_fresh _).symm
structure SavedS (m : Nat) (d : Dk) (n : Nat) (K : List Rec) (h g : Hrd) (r : Int × Sto × Dk) : Prop where
 good : r.1 = 0 → ∃ n' K', n' ≤ n + 1 ∧ r.2.1 = ⟨⟨n', bareOf g, false⟩, g.snap, false⟩ ∧ GoodS (m + 2) r.2.2 n' K' g ∧ ((catR K).length ≤ 20000 → (catR K').length ≤ 20000)
 torn : ∀ picks, ∃ n' K' y, n' ≤ n + 1 ∧ RecS (m + 2) (crashD r.2.2 picks) n' K' y ∧ (y = g ∨ (r.1 ≠ 0 ∧ SomeE y h g))
 on : OnD d → totD d.fs ≤ 300000 → r.1 = 0 ∧ OnD r.2.2
 tot : totD r.2.2.fs ≤ totD d.fs + 21000
theorem rest_size {g x : Hrd} {K K' : List Rec} (hs : smallH g = true) (h : K' = K ∨ K' = layR g ∨ (K' = K ++ moreR x g ∧ (catR K).length ≤ 8192)) (hK : (catR K).length ≤ 20000) : (catR K').length ≤ 20000 := by
 have hm := moreK_le (x := x) hs
 have hl := layK_le hs
 rcases h with e | e | ⟨e, h8⟩
 · rw [e]; exact hK
 · rw [e, ← layB_cat]; omega
 · rw [e, catR_app, List.length_append, ← moreB_cat]; omega
theorem saveS_same (G : GoodS m d n K h) (hr : rightH g = true) (hs : smallH g = true) (hx : g.base = h.base ∧ g.bterm = h.bterm ∧ g.members = h.members ∧ g.snap = h.snap ∧ g.term = h.term ∧ g.vote = h.vote ∧ commonE g.log h.log = h.log.length) (hn1 : n + 1 ≤ 99999999999999) :
 SavedS m d n K h g (saveP d ⟨⟨n, bareOf h, false⟩, h.snap, false⟩ g) := by
 obtain ⟨x1, x2, x3, x4, x5, x6, x7⟩ := hx
 have hw : wantsP ⟨⟨n, bareOf h, false⟩, h.snap, false⟩ g = false := by
  unfold wantsP
  rw [decide_eq_false (show ¬ g.base ≠ (bareOf h).base from fun q => q x1), decide_eq_false (show ¬ g.bterm ≠ (bareOf h).bterm from fun q => q x2), decide_eq_false (show ¬ g.members ≠ (bareOf h).members from fun q => q x3), (eqS_iff _ _).2 x4]
  simp
 obtain ⟨r, so, e1, e2, e3⟩ := save_law2 G.g hr hn1
 have ht := save_tot (d := d) (w := ⟨n, bareOf h, false⟩) hs
 rw [e2] at ht
 have hm := moreK_le (x := bareOf h) hs
 have hl := layK_le hs
 have hA : allP d ⟨⟨n, bareOf h, false⟩, h.snap, false⟩ g = if r.1 ≠ 0 then (r.1, ⟨(saveW d ⟨n, bareOf h, false⟩ g).2.1, h.snap, false⟩, r.2.2) else (0, ⟨(saveW d ⟨n, bareOf h, false⟩ g).2.1, g.snap, false⟩, r.2.2) := by
  unfold allP
  rw [hw]
  dsimp only
  simp only [Bool.false_eq_true, if_false]
  rw [if_neg (by simp), e1, e2, if_pos (show g.base = (bareOf h).base ∧ eqS g.snap h.snap = true from ⟨x1, (eqS_iff _ _).2 x4⟩)]
 have hP : saveP d ⟨⟨n, bareOf h, false⟩, h.snap, false⟩ g = (r.1, ⟨(saveW d ⟨n, bareOf h, false⟩ g).2.1, if r.1 = 0 then g.snap else h.snap, decide (r.1 ≠ 0)⟩, r.2.2) := by
  unfold saveP
  rw [if_neg (by rw [hr]; simp), if_neg (by simp), hA]
  by_cases h0 : r.1 = 0
  · rw [if_neg (by simp [h0]), if_pos h0, h0]
  · rw [if_pos h0, if_neg h0]
 rw [hP]
 have hsnf : ∀ d' : Dk, (g.base ≠ 0 → getF d'.fs (nameP g.base.toNat) = getF d.fs (nameP g.base.toNat)) → ∀ l, SnapF d' { g with log := l } := fun d' hd l => by
  refine ⟨fun hb => x4.trans (G.sn.zero (x1 ▸ hb)), by show 0 ≤ g.base ∧ _; rw [x1]; exact G.sn.pos, fun hb => ?_⟩
  obtain ⟨B, b1, b2⟩ := G.sn.file (x1 ▸ hb)
  refine ⟨B, ?_, ?_⟩
  · show getF d'.fs (nameP g.base.toNat) = some ⟨nameP g.base.toNat, B, B.length⟩
    rw [hd hb, x1]; exact b1
  · show readP B { g with log := l } = some (bytesOf g.snap)
    rw [x4, ← b2]
    unfold readP parseP
    show (if _ then (if _ ∧ _ = g.base ∧ _ = g.bterm ∧ _ = g.members ∧ _ then _ else _) else _) = _
    rw [x1, x2, x3]
 have hoP : getF r.2.2.fs (nameP g.base.toNat) = getF d.fs (nameP g.base.toNat) := so.other _ fun k _ => nameP_nameW _ _
 refine ⟨fun h0 => ?_, fun picks => ?_, fun hon htt => so.on hon (by omega) (by omega), by show totD r.2.2.fs ≤ _; omega⟩
 · replace h0 : r.1 = 0 := h0
   obtain ⟨K', g', hK'⟩ := so.good h0
   refine ⟨r.2.1, K', so.num, ?_, ⟨g'.more (Nat.le_succ _), hsnf r.2.2 (fun _ => hoP) g.log, fun s s1 s2 => ?_⟩, rest_size hs hK'⟩
   · show (⟨(saveW d ⟨n, bareOf h, false⟩ g).2.1, if r.1 = 0 then g.snap else h.snap, decide (r.1 ≠ 0)⟩ : Sto) = _
     rw [e3 h0, if_pos h0]; simp [h0]
   · by_cases hw2 : ∃ a, okN a ∧ s = nameW a
     · obtain ⟨a, ha, rfl⟩ := hw2
       exact g'.none a ha fun e => s1 (by rw [e])
     · have hno : ∀ k, okN k → s ≠ nameW k := fun k hk e => hw2 ⟨k, hk, e⟩
       rw [so.other s hno]
       exact G.none s (hno n G.g.k.okn) fun hb => by rw [← x1]; exact s2 (by rw [x1]; exact hb)
 · obtain ⟨n', K', y, t1, t2, t3, t4⟩ := so.torn picks
   have hoc : ∀ l, SnapF (crashD r.2.2 picks) { g with log := l } := fun l => (hsnf r.2.2 (fun _ => hoP) l).crash picks
   have hon : Only (crashD r.2.2 picks) := by
    refine Only.crash (fun s s1 s2 s3 => ?_) picks
    rw [so.other s s1]; exact G.toRec.only s s1 s2 s3
   have hgd : y = bareOf g → ∃ n' K' y, n' ≤ n + 1 ∧ RecS (m + 2) (crashD r.2.2 picks) n' K' y ∧ (y = g ∨ (r.1 ≠ 0 ∧ SomeE y h g)) := fun e => by
    subst e
    exact ⟨n', K', g, t1, ⟨t2.more (Nat.le_succ _), hoc g.log, hon⟩, .inl rfl⟩
   by_cases h0 : r.1 = 0
   · exact hgd (t4 h0)
   · have hold : y = bareOf h → ∃ n' K' y, n' ≤ n + 1 ∧ RecS (m + 2) (crashD r.2.2 picks) n' K' y ∧ (y = g ∨ (r.1 ≠ 0 ∧ SomeE y h g)) := fun e => by
      subst e
      refine ⟨n', K', h, t1, ⟨t2.more (Nat.le_succ _), (G.sn.of_get fun _ => ?_).crash picks, hon⟩, .inr ⟨h0, .inl rfl⟩⟩
      rw [← x1]; exact hoP
     rcases t3 with e | e | ⟨_, e⟩
     · exact hold e
     · exact hgd e
     · rcases e x5 x6 with e | ⟨j, j1, j2, e⟩
       · exact hold e
       · replace j1 : h.log.length ≤ j := by rw [← x7]; exact j1
         subst e
         exact ⟨n', K', { g with log := g.log.take j }, t1, ⟨t2.more (Nat.le_succ _), hoc _, hon⟩, .inr ⟨h0, .inr ⟨x1, x2, x3, x4, x5, x6, x7, j, j1, j2, rfl⟩⟩⟩
theorem saveS_move (G : GoodS m d n K h) (hr : rightH g = true) (hs : smallH g = true) (hx : h.base < g.base) (hn1 : n + 1 ≤ 99999999999999) :
 SavedS m d n K h g (saveP d ⟨⟨n, bareOf h, false⟩, h.snap, false⟩ g) := by
 obtain ⟨hbg, p1, p2, f1, f2, f3, f4, f5⟩ := right_base hr
 have hp := G.sn.pos
 have hgb : g.base ≠ 0 := by omega
 have hokg : okN g.base.toNat := ⟨by omega, by omega⟩
 have hw : wantsP ⟨⟨n, bareOf h, false⟩, h.snap, false⟩ g = true := by
  unfold wantsP
  rw [decide_eq_true hgb, decide_eq_true (show g.base ≠ (bareOf h).base from fun q => by have : g.base = h.base := q; omega)]
  simp
 obtain ⟨w1, w2, w3, w4⟩ := writeP_law G.g.k.inv hr G.readD_fresh
 have piw := G.g.k.inv.writeP g
 have hsB : (snapB g).length ≤ 9100 := by
  have := (snapB_len f4).1
  have := (payP_len g).2
  have := (small_of hs).2
  omega
 have hdiff : h.base ≠ 0 → nameP h.base.toNat ≠ nameP g.base.toNat := fun hb e => by have := nameP_inj e; omega
 have hWk : ∀ k, getF (writeP d g).2.fs (nameW k) = getF d.fs (nameW k) := fun k => w1 _ (freshS_nameW k).symm (nameP_nameW _ _).symm
 have hSn : ∀ d' : Dk, (∀ s, s ≠ freshS → s ≠ nameP g.base.toNat → (∀ k, okN k → s ≠ nameW k) → getF d'.fs s = getF d.fs s) → SnapF d' h := fun d' e => G.sn.of_get fun hb => e _ (nameP_fresh _) (hdiff hb) fun k _ => nameP_nameW _ _
 have hOn : ∀ d' : Dk, (∀ s, s ≠ freshS → s ≠ nameP g.base.toNat → (∀ k, okN k → s ≠ nameW k) → getF d'.fs s = getF d.fs s) → Only d' := fun d' e s s1 s2 s3 => by
  rw [e s s2 (s3 _ hokg) s1]; exact G.toRec.only s s1 s2 s3
 have hSg : ∀ d' : Dk, getF d'.fs (nameP g.base.toNat) = some ⟨nameP g.base.toNat, snapB g, (snapB g).length⟩ → SnapF d' g := fun d' e =>
  ⟨fun q => absurd q hgb, ⟨p1, p2⟩, fun _ => ⟨snapB g, e, read_snapB f1 f2 f3 f4 fun q => hgb (f5.1 q)⟩⟩
 by_cases hp0 : (writeP d g).1 = 0
 · obtain ⟨w2a, w2b⟩ := w2 hp0
   have G2 : GoodW (m + 1) (writeP d g).2 n K (bareOf h) := G.g.of_get piw fun k _ => hWk k
   obtain ⟨r, so, e1, e2, e3⟩ := save_law2 G2 hr hn1
   have ht := save_tot (d := (writeP d g).2) (w := ⟨n, bareOf h, false⟩) hs
   rw [e2] at ht
   have hm := moreK_le (x := bareOf h) hs
   have hl := layK_le hs
   have hA : allP d ⟨⟨n, bareOf h, false⟩, h.snap, false⟩ g = if r.1 ≠ 0 then (r.1, ⟨(saveW (writeP d g).2 ⟨n, bareOf h, false⟩ g).2.1, h.snap, false⟩, r.2.2) else ((cleanP r.2.2 g.base.toNat).1, ⟨(saveW (writeP d g).2 ⟨n, bareOf h, false⟩ g).2.1, g.snap, false⟩, (cleanP r.2.2 g.base.toNat).2) := by
    unfold allP
    rw [hw]
    dsimp only
    simp only [if_true]
    rw [if_neg (by simp [hp0]), e1, e2, if_neg (show ¬ (g.base = (bareOf h).base ∧ eqS g.snap h.snap = true) from fun q => by have : g.base = h.base := q.1; omega)]
   have hoP : getF r.2.2.fs (nameP g.base.toNat) = some ⟨nameP g.base.toNat, snapB g, (snapB g).length⟩ := by rw [so.other _ fun k _ => nameP_nameW _ _]; exact w2a
   have hoA : ∀ s, s ≠ freshS → s ≠ nameP g.base.toNat → (∀ k, okN k → s ≠ nameW k) → getF r.2.2.fs s = getF d.fs s := fun s s1 s2 s3 => by rw [so.other s s3, w1 s s1 s2]
   by_cases h0 : r.1 = 0
   · obtain ⟨K', g', hK'⟩ := so.good h0
     obtain ⟨k1, k2, k3, k4, k5⟩ := cleanP_law g'.k.inv g.base.toNat
     have pi2 := g'.k.inv.cleanP g.base.toNat
     have hP : saveP d ⟨⟨n, bareOf h, false⟩, h.snap, false⟩ g = ((cleanP r.2.2 g.base.toNat).1, ⟨⟨r.2.1, bareOf g, false⟩, g.snap, decide ((cleanP r.2.2 g.base.toNat).1 ≠ 0)⟩, (cleanP r.2.2 g.base.toNat).2) := by
      unfold saveP
      rw [if_neg (by rw [hr]; simp), if_neg (by simp), hA, if_neg (by simp [h0])]
      dsimp only
      rw [e3 h0]
     rw [hP]
     have g2 : GoodW (m + 2) (cleanP r.2.2 g.base.toNat).2 r.2.1 K' (bareOf g) := g'.of_get pi2 fun k _ => k1 _ (dropS_W _ _)
     have s2 : SnapF (cleanP r.2.2 g.base.toNat).2 g := hSg _ (by rw [k1 _ (dropS_own hokg.1)]; exact hoP)
     have o2 : Only (cleanP r.2.2 g.base.toNat).2 := fun s q1 q2 q3 => k5 s (hOn _ hoA s q1 q2 q3)
     refine ⟨fun hc => ⟨r.2.1, K', so.num, ?_, ⟨g2, s2, fun s q1 q2 => ?_⟩, rest_size hs hK'⟩, fun picks => ⟨r.2.1, K', g, so.num, RecS.crash ⟨g2.k, s2, o2⟩ picks, .inl rfl⟩, fun hon htt => ?_, ?_⟩
     · dsimp only at hc ⊢
       rw [hc]; rfl
     · cases hd : dropS g.base.toNat s with
       | true => exact k2 hc s hd
       | false =>
        show getF (cleanP r.2.2 g.base.toNat).2.fs s = none
        rw [k1 s hd]
        by_cases hw2 : ∃ a, okN a ∧ s = nameW a
        · obtain ⟨a, ha, rfl⟩ := hw2
          exact g'.none a ha fun e => q1 (by rw [e])
        · refine hOn _ hoA s (fun a ha e => hw2 ⟨a, ha, e⟩) (fun e => ?_) fun b hb e => ?_
          · rw [e, dropS_fresh] at hd; cases hd
          · rw [e, dropS_other hb] at hd
            · cases hd
            · intro _ e2; exact q2 hgb (by rw [e, e2])
     · have hw3 := w3 hon (by omega)
       exact k3 (so.on hw3.2 (by omega) (by omega)).2
     · dsimp only; omega
   · have hP : saveP d ⟨⟨n, bareOf h, false⟩, h.snap, false⟩ g = (r.1, ⟨(saveW (writeP d g).2 ⟨n, bareOf h, false⟩ g).2.1, h.snap, decide (r.1 ≠ 0)⟩, r.2.2) := by
      unfold saveP
      rw [if_neg (by rw [hr]; simp), if_neg (by simp), hA, if_pos h0]
     rw [hP]
     refine ⟨fun e => absurd e h0, fun picks => ?_, fun hon htt => ?_, by dsimp only; omega⟩
     · obtain ⟨n', K', y, t1, t2, t3, _⟩ := so.torn picks
       have hon : Only (crashD r.2.2 picks) := (hOn _ hoA).crash picks
       rcases t3 with e | e | ⟨e, _⟩
       · subst e
         exact ⟨n', K', h, t1, ⟨t2, (hSn _ hoA).crash picks, hon⟩, .inr ⟨h0, .inl rfl⟩⟩
       · subst e
         exact ⟨n', K', g, t1, ⟨t2, (hSg _ hoP).crash picks, hon⟩, .inl rfl⟩
       · have : g.base = h.base := e
         omega
     · have hw3 := w3 hon (by omega)
       exact absurd (so.on hw3.2 (by omega) (by omega)).1 h0
 · have hP : saveP d ⟨⟨n, bareOf h, false⟩, h.snap, false⟩ g = ((writeP d g).1, ⟨⟨n, bareOf h, false⟩, h.snap, decide ((writeP d g).1 ≠ 0)⟩, (writeP d g).2) := by
    unfold saveP allP
    rw [if_neg (by rw [hr]; simp), if_neg (by simp), hw]
    dsimp only
    simp only [if_true]
    rw [if_pos hp0]
   rw [hP]
   refine ⟨fun e => absurd e hp0, fun picks => ?_, fun hon htt => absurd (w3 hon (by omega)).1 hp0, by dsimp only; omega⟩
   have hall : ∀ s, s ≠ freshS → s ≠ nameP g.base.toNat → (∀ k, okN k → s ≠ nameW k) → getF (writeP d g).2.fs s = getF d.fs s := fun s s1 s2 _ => w1 s s1 s2
   exact ⟨n, K, h, by omega, RecS.crash ⟨(G.g.k.of_get piw fun k _ => hWk k).more (Nat.le_succ _), hSn _ hall, hOn _ hall⟩ picks, .inr ⟨hp0, .inl rfl⟩⟩
theorem saveS_law (G : GoodS m d n K h) (hr : rightH g = true) (hs : smallH g = true) (hx : NextR h g) (hn1 : n + 1 ≤ 99999999999999) :
 SavedS m d n K h g (saveP d ⟨⟨n, bareOf h, false⟩, h.snap, false⟩ g) := by
 rcases hx with hx | hx
 · exact saveS_same G hr hs hx hn1
 · exact saveS_move G hr hs hx hn1
end
end Go.Proofs.YtgpgcnmnfnnkjaaGreatDoor
end

section
namespace Go.Proofs.YtgpgcnmnfnnkjaaGreatDoor
open Go Go.RowKit Go.PlainAid
def hp1 : Hrd := ⟨1, 0, 3, 1, 7, ⟨#[97, 98, 99]⟩, []⟩
def hp2 : Hrd := ⟨1, 0, 5, 1, 7, ⟨#[100, 101]⟩, []⟩
def hp3 : Hrd := ⟨0, 0, 0, 0, 7, ⟨#[120]⟩, []⟩
def sP3 : ByteArray := ⟨#[115, 110, 97, 112, 46, 51]⟩
def sP5 : ByteArray := ⟨#[115, 110, 97, 112, 46, 53]⟩
def st0 : Sto := ⟨wr0, ofBytes [], false⟩
theorem tp0 : openP dk0 = (0, some st0, dk0) := by kernel_rfl
def sp1 : Int × Sto × Dk := saveP dk0 st0 hp1
theorem tp1e : saveP dk0 st0 hp1 = (0, sp1.2.1, sp1.2.2) := Prod.ext (show sp1.1 = 0 by kernel_rfl) rfl
theorem tp1n : sp1.2.2.fs.map (·.name) = [sP3, sW1] := by kernel_rfl
def sp2 : Int × Sto × Dk := saveP sp1.2.2 sp1.2.1 hp2
theorem tp2e : saveP sp1.2.2 sp1.2.1 hp2 = (0, sp2.2.1, sp2.2.2) := Prod.ext (show sp2.1 = 0 by kernel_rfl) rfl
def st2 : Sto := ⟨⟨2, bareOf hp2, false⟩, ofBytes [100, 101], false⟩
def dp3 : Dk := (openP sp2.2.2).2.2
theorem tp3e : openP sp2.2.2 = (0, some st2, dp3) := Prod.ext (show (openP sp2.2.2).1 = 0 by kernel_rfl) (Prod.ext (show (openP sp2.2.2).2.1 = some st2 by kernel_rfl) rfl)
theorem tp3n : dp3.fs.map (·.name) = [sP5, sW2] := by kernel_rfl
def sp4 : Int × Sto × Dk := saveP dp3 st2 hp3
theorem tp4e : saveP dp3 st2 hp3 = (1, sp4.2.1, sp4.2.2) := Prod.ext (show sp4.1 = 1 by kernel_rfl) rfl
def sp5 : Int × Dk := removeD sp4.2.2 sP5
theorem tp5e : removeD sp4.2.2 sP5 = (0, sp5.2) := Prod.ext (show sp5.1 = 0 by kernel_rfl) rfl
def sp6 : Int × Option Sto × Dk := openP sp5.2
theorem tp6e : openP sp5.2 = (4, none, sp6.2.2) := Prod.ext (show sp6.1 = 4 by kernel_rfl) (Prod.ext (show sp6.2.1 = none by kernel_rfl) rfl)
theorem pp1 : PInv 2 sp1.2.2 := PInv.zero.saveP _ _
theorem pp2 : PInv 4 sp2.2.2 := pp1.saveP _ _
theorem pp3 : PInv 4 dp3 := pp2.openP
theorem pp4 : PInv 6 sp4.2.2 := pp3.saveP _ _
theorem pp5 : PInv 6 sp5.2 := pp4.remove0 _
end Go.Proofs.YtgpgcnmnfnnkjaaGreatDoor
end
