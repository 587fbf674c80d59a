/- StoreKeeps in plain words: one segment and one snapshot's file, of h. StoreCuts in plain words: a Save that is cut off, and Opens that are cut off. -/
import Derived.Test.YtgpgcnmnfnnkjaaGreatDoorGStoreCuts32
import Derived.Test.YtgpgcnmnfnnkjaaGreatDoorGStoreCuts39
set_option linter.unusedVariables false
set_option linter.unusedSimpArgs false
section
namespace Go.Proofs.YtgpgcnmnfnnkjaaGreatDoor
open Go Go.RowKit Go.PlainAid
def stQ (n : Nat) (h : Hrd) : Sto := ⟨⟨n, bareOf h, false⟩, h.snap, false⟩
theorem commonE_front : ∀ (l m : List Ety), commonE (l ++ m) l = l.length
 | [], m => by cases m <;> rfl
 | x :: r, m => by
  have e : etyEq x x = true := by unfold etyEq; rw [decide_eq_true rfl, decide_eq_true rfl, (eqS_iff _ _).2 rfl]; rfl
  rw [List.cons_append, commonE, if_pos e, commonE_front r m]; rfl
theorem nextS_next (h : Hrd) (x : AskL) : NextR h (nextS h x) := by
 unfold nextS
 split
 · unfold nextT
   split
   · rename_i hs
     unfold stepN at hs
     rw [Bool.and_eq_true, decide_eq_true_iff, decide_eq_true_iff] at hs
     exact .inr (by show h.base < h.base + x.n; omega)
   · exact .inl ⟨rfl, rfl, rfl, rfl, rfl, rfl, commonE_front _ _⟩
 · exact NextR.self h
theorem nextS_ok {h : Hrd} (x : AskL) (hr : rightH h = true) (hs : smallH h = true) : rightH (nextS h x) = true ∧ smallH (nextS h x) = true := by
 unfold nextS
 split
 · assumption
 · exact ⟨hr, hs⟩
theorem readP_len {B : List UInt8} {h : Hrd} {s : List UInt8} (e : readP B h = some s) : B.length ≤ 131080 := by
 unfold readP at e
 split at e
 · rename_i hc
   obtain ⟨h1, h2⟩ := hc
   have h3 : Frm.toAt B 0 = (0 : Int) + 8 + (Frm.len (B.drop (0 : Int).toNat) : Nat) := by unfold Frm.toAt; rw [if_pos h1]
   have h4 : Frm.err (B.drop (0 : Int).toNat) = 0 := by
    unfold Frm.errAt at h1
    split at h1
    · cases h1
    · exact h1
   have h5 := (Frm.err_ok h4).2.1
   omega
 · cases e
structure KeepQ (k : Nat) (h : Hrd) (d : Dk) (n : Nat) : Prop where
 good : ∃ K, GoodS (2 * k + 2) d n K h ∧ (catR K).length ≤ 20000
 right : rightH h = true
 small : smallH h = true
 on : OnD d
 few : n ≤ k + 1
theorem two_files {m n : Nat} {d : Dk} {K : List Rec} {h : Hrd} (G : GoodS m d n K h) : d.fs.length ≤ 2 ∧ ∀ f ∈ d.fs, f.data.length ≤ max (catR K).length 131080 := by
 have hs := G.g.k.inv.l.sort
 have hall : ∀ f ∈ d.fs, f.name = nameW n ∨ (h.base ≠ 0 ∧ f.name = nameP h.base.toNat) := fun f hf => by
  by_cases e : f.name = nameW n
  · exact .inl e
  · by_cases e2 : h.base ≠ 0 ∧ f.name = nameP h.base.toNat
    · exact .inr e2
    · have := G.none f.name e fun hb q => e2 ⟨hb, q⟩
      exact absurd rfl (get_none this f hf)
 refine ⟨?_, fun f hf => ?_⟩
 · match hd : d.fs with
   | [] => simp
   | [_] => simp
   | [_, _] => simp
   | a :: b :: c :: r =>
    exfalso
    rw [hd] at hs hall
    have h1 := (List.pairwise_cons.1 hs).1
    have h2 := (List.pairwise_cons.1 (List.pairwise_cons.1 hs).2).1
    have nab := ltS_ne (h1 b (by simp))
    have nac := ltS_ne (h1 c (by simp))
    have nbc := ltS_ne (h2 c (by simp))
    have ha := hall a (by simp)
    have hb := hall b (by simp)
    have hc := hall c (by simp)
    rcases ha with ha | ⟨_, ha⟩ <;> rcases hb with hb | ⟨_, hb⟩ <;> rcases hc with hc | ⟨_, hc⟩
    · exact nab (ha.trans hb.symm)
    · exact nab (ha.trans hb.symm)
    · exact nac (ha.trans hc.symm)
    · exact nbc (hb.trans hc.symm)
    · exact nbc (hb.trans hc.symm)
    · exact nac (ha.trans hc.symm)
    · exact nab (ha.trans hb.symm)
    · exact nab (ha.trans hb.symm)
 · obtain ⟨j, hj, rfl⟩ := List.getElem_of_mem hf
   have hg := hs.get hj
   rcases hall _ hf with e | ⟨hb, e⟩
   · rw [e, G.g.file] at hg
     have := congrArg (·.data) (Option.some.inj hg)
     dsimp only at this
     rw [← this]; omega
   · obtain ⟨B, b1, b2⟩ := G.sn.file hb
     rw [e, b1] at hg
     have := congrArg (·.data) (Option.some.inj hg)
     dsimp only at this
     rw [← this]
     have := readP_len b2
     omega
section
variable {k n : Nat} {h g : Hrd} {d : Dk}
theorem KeepQ.inv (I : KeepQ k h d n) : PInv (2 * k + 2) d := by obtain ⟨K, G, _⟩ := I.good; exact G.g.k.inv
theorem KeepQ.names (I : KeepQ k h d n) : (d.fs.map (·.name)).length ≤ 2 := by obtain ⟨K, G, _⟩ := I.good; rw [List.length_map]; exact (two_files G).1
theorem good_tot {m n : Nat} {d : Dk} {K : List Rec} {h : Hrd} (G : GoodS m d n K h) (hK : (catR K).length ≤ 20000) : totD d.fs ≤ 262160 := by
 obtain ⟨h1, h2⟩ := two_files G
 have := totD_most (M := 131080) fun f hf => by have := h2 f hf; omega
 have : d.fs.length * 131080 ≤ 2 * 131080 := Nat.mul_le_mul_right _ h1
 omega
theorem KeepQ.up (I : KeepQ k h d n) : KeepQ (k + 1) h d n := by
 obtain ⟨K, G, hK⟩ := I.good
 exact ⟨⟨K, G.more (by omega), hK⟩, I.right, I.small, I.on, by have := I.few; omega⟩
theorem KeepQ.save (I : KeepQ k h d n) (hk : k ≤ 1000) (hr : rightH g = true) (hs : smallH g = true) (hx : NextR h g) : ∃ n' d', saveP d (stQ n h) g = (0, stQ n' g, d') ∧ KeepQ (k + 1) g d' n' := by
 obtain ⟨K, G, hK⟩ := I.good
 have hf := I.few
 have so := saveS_law G hr hs hx (by omega)
 obtain ⟨r0, ron⟩ := so.on I.on (Nat.le_trans (good_tot G hK) (by decide))
 obtain ⟨n', K', h1, h2, h3, h4⟩ := so.good r0
 exact ⟨n', _, Prod.ext r0 (Prod.ext h2 rfl), ⟨⟨K', h3, h4 hK⟩, hr, hs, ron, by omega⟩⟩
theorem KeepQ.crash (I : KeepQ k h d n) (picks : List Int) : KeepQ k h (crashD d picks) n := by
 obtain ⟨K, G, hK⟩ := I.good
 exact ⟨⟨K, G.crash picks, hK⟩, I.right, I.small, OnD.crash d picks, I.few⟩
theorem KeepQ.opened (I : KeepQ k h d n) : openP d = (0, some (stQ n h), (openP d).2.2) ∧ KeepQ k h (openP d).2.2 n := by
 obtain ⟨K, G, hK⟩ := I.good
 obtain ⟨_, _, o3⟩ := openS_law G.toRec
 obtain ⟨e, G', on⟩ := o3 I.on
 exact ⟨e, ⟨⟨K, G', hK⟩, I.right, I.small, on, I.few⟩⟩
end
def hq0 : Hrd := ⟨0, -1, 0, 0, 7, sNone, []⟩
def sq0 : Int × Sto × Dk := saveP dk0 st0 hq0
theorem sq0e : saveP dk0 st0 hq0 = (0, stQ 1 hq0, sq0.2.2) := Prod.ext (show sq0.1 = 0 by kernel_rfl) (Prod.ext (show sq0.2.1 = stQ 1 hq0 by kernel_rfl) rfl)
theorem sq0f : sq0.2.2.fs = [⟨nameW 1, layB hq0, (layB hq0).length⟩] := by kernel_rfl
theorem getF_sole {f : Fil} {s : ByteArray} : getF [f] s = if f.name = s then some f else none := by
 unfold getF
 rw [List.find?_cons]
 by_cases e : f.name = s
 · rw [hasN_iff.2 e, if_pos e]
 · rw [hasN_no e, if_neg e]; rfl
theorem keepQ0 : KeepQ 1 hq0 sq0.2.2 1 := by
 have hp : PInv 2 sq0.2.2 := PInv.zero.saveP st0 hq0
 have hr : rightH hq0 = true := by kernel_rfl
 have hs : smallH hq0 = true := by kernel_rfl
 obtain ⟨r1, _⟩ := run_lay (right_bare hr)
 have hb : bareOf hq0 = hq0 := rfl
 rw [hb] at r1
 have hf : getF sq0.2.2.fs (nameW 1) = some ⟨nameW 1, catR (layR hq0), (catR (layR hq0)).length⟩ := by rw [sq0f, getF_sole, if_pos rfl, layB_cat]
 have hno : ∀ k, okN k → k ≠ 1 → getF sq0.2.2.fs (nameW k) = none := fun k hk hn => by rw [sq0f, getF_sole, if_neg (nameW_ne (Ne.symm hn))]
 have hon : OnD sq0.2.2 := ⟨by kernel_rfl, by kernel_rfl⟩
 have hk : GoodW 2 sq0.2.2 1 (layR hq0) hq0 := ⟨⟨hp, ⟨by decide, by decide⟩, lay_ok (right_bare hr), r1, right_bare hr, rfl, ⟨[], err_nil, by rw [List.append_nil]; exact hf⟩, fun k hk hn f hf => by rw [hno k hk hn] at hf; cases hf⟩, hf, hno⟩
 have hG : GoodS 2 sq0.2.2 1 (layR hq0) hq0 := ⟨hk, ⟨fun _ => rfl, ⟨by decide, by decide⟩, fun q => absurd rfl q⟩, fun s s1 _ => by rw [sq0f, getF_sole, if_neg (Ne.symm s1)]⟩
 exact ⟨⟨layR hq0, hG.more (by decide), by rw [← layB_cat]; have := layK_le hs; omega⟩, hr, hs, hon, by decide⟩
end Go.Proofs.YtgpgcnmnfnnkjaaGreatDoor
end

section
namespace Go.Proofs.YtgpgcnmnfnnkjaaGreatDoor
open Go Go.RowKit Go.PlainAid
structure FineS (m : Nat) (d : Dk) (P : Hrd → Prop) : Prop where
 rec' : ∀ picks, ∃ n K y, n ≤ 40 ∧ RecS m (crashD d picks) n K y ∧ P y
 inv : PInv m d
 tot : totD d.fs ≤ 290000
theorem crash_leQ (d : Dk) (picks : List Int) (h : ∀ f ∈ d.fs, f.kept ≤ f.data.length) : totD (crashD d picks).fs ≤ totD d.fs := (crash_tot picks d.fs 0 h).1
theorem FineS.step {m : Nat} {d : Dk} {P : Hrd → Prop} (F : FineS m d P) (picks : List Int) {c : Int} (hc : c ≤ 9223372036854775807) : FineS m (openP (armD (crashD d picks) c)).2.2 P := by
 obtain ⟨n, K, y, hn, R, hp⟩ := F.rec' picks
 obtain ⟨o1, o2, _⟩ := openS_law (R.arm hc)
 have ht := crash_leQ d picks F.inv.l.kept
 refine ⟨fun q => ⟨n, K, y, hn, o1.crash q, hp⟩, (((F.inv.crash0 picks).arm0 hc).openP), Nat.le_trans o2 (Nat.le_trans ht F.tot)⟩
theorem FineS.last {m : Nat} {d : Dk} {P : Hrd → Prop} {g : Hrd} (F : FineS m d P) (picks : List Int) (hr : rightH g = true) (hs : smallH g = true) (hx : ∀ y, P y → NextR y g) :
 ∃ n y d3, openP (crashD d picks) = (0, some (stQ n y), d3) ∧ P y ∧ PInv m d3 ∧ ∃ n' d4, saveP d3 (stQ n y) g = (0, stQ n' g, d4) := by
 obtain ⟨n, K, y, hn, R, hp⟩ := F.rec' picks
 obtain ⟨o1, o2, o3⟩ := openS_law R
 obtain ⟨e, G, on⟩ := o3 (OnD.crash d picks)
 have ht := crash_leQ d picks F.inv.l.kept
 have so := saveS_law G hr hs (hx y hp) (by omega)
 obtain ⟨r0, _⟩ := so.on on (Nat.le_trans o2 (Nat.le_trans ht (Nat.le_trans F.tot (by decide))))
 obtain ⟨n', K', _, h2, _, _⟩ := so.good r0
 exact ⟨n, y, _, e, hp, G.g.k.inv, n', _, Prod.ext r0 (Prod.ext h2 rfl)⟩
theorem KeepQ.cut {k n : Nat} {h g : Hrd} {d d' : Dk} {c E : Int} {st : Sto} (I : KeepQ k h d n) (hk : k ≤ 30) (hc : c ≤ 9223372036854775807) (hr : rightH g = true) (hs : smallH g = true) (hx : NextR h g) (he : saveP (armD d c) (stQ n h) g = (E, st, d')) :
 FineS (2 * k + 4) d' (fun y => y = g ∨ (E ≠ 0 ∧ SomeE y h g)) := by
 obtain ⟨K, G, hK⟩ := I.good
 have hf := I.few
 have so := saveS_law (G.arm hc) hr hs hx (by omega)
 have he' : saveP (armD d c) ⟨⟨n, bareOf h, false⟩, h.snap, false⟩ g = (E, st, d') := he
 rw [he'] at so
 have ht0 : totD d.fs ≤ 262160 := good_tot G hK
 have ht : totD (armD d c).fs ≤ 262160 := ht0
 refine ⟨fun picks => ?_, ?_, by have := so.tot; dsimp only at this; omega⟩
 · obtain ⟨n', K', y, h1, h2, h3⟩ := so.torn picks
   exact ⟨n', K', y, by omega, h2, h3⟩
 · have := ((I.inv.arm0 hc).saveP (stQ n h) g)
   rw [he] at this; exact this
theorem cutQ_next {h g : Hrd} {E : Int} (hx : NextR h g) (y : Hrd) (hp : y = g ∨ (E ≠ 0 ∧ SomeE y h g)) : NextR y g := by
 rcases hp with e | ⟨_, e⟩
 · rw [e]; exact NextR.self g
 · exact e.next hx
end Go.Proofs.YtgpgcnmnfnnkjaaGreatDoor
end
