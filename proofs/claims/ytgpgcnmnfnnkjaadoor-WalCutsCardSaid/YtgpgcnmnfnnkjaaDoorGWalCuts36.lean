/- WalRuns in plain words: what each step comes to. WalKeeps and WalCuts in plain words. Same of two rows of entries; what may lie between two Hards (impostlaw18.between). -/
import Derived.Test.YtgpgcnmnfnnkjaaDoorGWalCuts19
import Derived.Test.YtgpgcnmnfnnkjaaDoorGWalCuts32
import Derived.Test.YtgpgcnmnfnnkjaaDoorGWalCuts35
set_option linter.unusedVariables false
set_option linter.unusedSimpArgs false
section
namespace Go.Proofs.YtgpgcnmnfnnkjaaDoor
open Go Go.RowKit Go.PlainAid
def hr1 : Hrd := ⟨1, 0, 0, 0, 7, sNone, []⟩
def hr2 : Hrd := ⟨1, 0, 0, 0, 7, sNone, [⟨1, 0, ⟨#[120]⟩⟩]⟩
def hr3 : Hrd := ⟨1, 0, 1, 1, 7, ⟨#[115]⟩, []⟩
def hr4 : Hrd := ⟨0, 9, 0, 0, 7, sNone, []⟩
def sW1 : ByteArray := ⟨#[119, 97, 108, 46, 49]⟩
def sW2 : ByteArray := ⟨#[119, 97, 108, 46, 50]⟩
def wr0 : Wl := ⟨0, hrdV, false⟩
def sv1 : Int × Wl × Dk := saveW dk0 wr0 hr1
theorem tw0 : openW dk0 = some wr0 := by kernel_rfl
theorem tw0c : (cleanW dk0).2 = dk0 := by kernel_rfl
theorem tw1 : sv1.1 = 0 := by kernel_rfl
theorem tw1n : sv1.2.2.fs.map (·.name) = [sW1] := by kernel_rfl
def wr1 : Wl := ⟨1, hr1, false⟩
def sv2 : Int × Wl × Dk := saveW sv1.2.2 wr1 hr2
theorem tw2 : sv2.1 = 0 := by kernel_rfl
def wr2 : Wl := ⟨1, hr2, false⟩
theorem tw3 : openW sv2.2.2 = some wr2 := by kernel_rfl
def dw3 : Dk := (cleanW sv2.2.2).2
def sv3 : Int × Wl × Dk := saveW dw3 wr2 hr3
theorem tw4 : sv3.1 = 0 := by kernel_rfl
theorem tw4n : sv3.2.2.fs.map (·.name) = [sW2] := by kernel_rfl
def sv4 : Int × Wl × Dk := saveW sv3.2.2 sv3.2.1 hr4
theorem tw5 : sv4.1 = 1 := by kernel_rfl
theorem tw1e : saveW dk0 wr0 hr1 = (0, wr1, sv1.2.2) := Prod.ext tw1 (Prod.ext (show sv1.2.1 = wr1 by kernel_rfl) rfl)
theorem tw2e : saveW sv1.2.2 wr1 hr2 = (0, wr2, sv2.2.2) := Prod.ext tw2 (Prod.ext (show sv2.2.1 = wr2 by kernel_rfl) rfl)
theorem tw4e : saveW dw3 wr2 hr3 = (0, sv3.2.1, sv3.2.2) := Prod.ext tw4 rfl
theorem tw5e : saveW sv3.2.2 sv3.2.1 hr4 = (1, sv4.2.1, sv4.2.2) := Prod.ext tw5 rfl
theorem pw1 : PInv 1 sv1.2.2 := PInv.zero.save _ _
theorem pw2 : PInv 2 sv2.2.2 := pw1.save _ _
theorem pw3 : PInv 2 dw3 := pw2.clean
theorem pw4 : PInv 3 sv3.2.2 := pw3.save _ _
end Go.Proofs.YtgpgcnmnfnnkjaaDoor
end

section
namespace Go.Proofs.YtgpgcnmnfnnkjaaDoor
open Go Go.RowKit Go.PlainAid
theorem oneK_le (p : List UInt8) : (Frm.one p).length ≤ p.length + 8 := by
  cases h : Frm.none' p with
  | true => rw [Frm.one_none h]; simp
  | false => rw [Frm.one_length h]; exact Nat.le_refl _
theorem recK_le (l : List Int) : (recB l).length ≤ 10 * l.length + 8 := by
  have := oneK_le (numsB l)
  have := numsB_le l
  unfold recB; omega
theorem etyK_le (x : Ety) : (etyB x).length ≤ x.data.size + 48 := by
  have h1 := oneK_le (numsB [2, x.term, x.members] ++ textB (bytesOf x.data))
  have h2 := numsB_le [2, x.term, x.members]
  have h3 := numB_le ((bytesOf x.data).length : Int)
  have h4 : (bytesOf x.data).length = x.data.size := by simp [bytesOf]
  unfold etyB
  rw [List.length_append] at h1
  unfold textB at h1 ⊢
  rw [List.length_append] at h1
  simp only [List.length_cons, List.length_nil] at h2
  omega
theorem etysK_le : ∀ l : List Ety, (etysB l).length ≤ 48 * l.length + sizesE l
  | [] => by simp [etysB, sizesE]
  | x :: r => by
    have h1 := etyK_le x
    have h2 := etysK_le r
    have e1 : etysB (x :: r) = etyB x ++ etysB r := rfl
    have e2 : sizesE (x :: r) = x.data.size + sizesE r := by simp [sizesE]
    rw [e1, e2, List.length_append, List.length_cons]; omega
theorem sizesE_drop (l : List Ety) (k : Nat) : sizesE (l.drop k) ≤ sizesE l := by
  conv => rhs; rw [← List.take_append_drop k l]
  unfold sizesE; rw [List.map_append, List.sum_append]; omega
theorem small_of {h : Hrd} (hs : smallH h = true) : h.log.length ≤ 40 ∧ h.snap.size + sizesE h.log ≤ 9000 := by
  unfold smallH at hs
  rw [Bool.and_eq_true, decide_eq_true_iff, decide_eq_true_iff] at hs
  exact hs
theorem layK_le {h : Hrd} (hs : smallH h = true) : (layB h).length ≤ 11500 := by
  obtain ⟨h1, h2⟩ := small_of hs
  have := recK_le [1, h.term, h.vote, h.base, h.bterm, h.members]
  have := recK_le [3]
  have := etysK_le h.log
  unfold layB
  rw [List.length_append, List.length_append]
  simp only [List.length_cons, List.length_nil] at *
  omega
theorem moreK_le {x h : Hrd} (hs : smallH h = true) : (moreB x h).length ≤ 11500 := by
  obtain ⟨h1, h2⟩ := small_of hs
  have h3 := recK_le [4, h.term, h.vote]
  have h4 := recK_le [5, h.base + commonE h.log x.log]
  have h5 := etysK_le (h.log.drop (commonE h.log x.log))
  have h6 := sizesE_drop h.log (commonE h.log x.log)
  have h7 : (h.log.drop (commonE h.log x.log)).length ≤ h.log.length := by rw [List.length_drop]; omega
  simp only [List.length_cons, List.length_nil] at *
  unfold moreB
  rw [List.length_append, List.length_append]
  have a1 : (if h.term ≠ x.term ∨ h.vote ≠ x.vote then recB [4, h.term, h.vote] else []).length ≤ 38 := by split; omega; simp
  have a2 : (if commonE h.log x.log < x.log.length then recB [5, h.base + commonE h.log x.log] else []).length ≤ 28 := by split; omega; simp
  omega
/-- a Hard that is saved -/
structure HardOk (h : Hrd) : Prop where
  right : rightH h = true
  small : smallH h = true
  snap : h.snap = sNone
theorem HardOk.bare {h : Hrd} (o : HardOk h) : bareOf h = h := by
  have := o.snap
  cases h; dsimp only at this; subst this; rfl
theorem HardOk.next {h : Hrd} (o : HardOk h) (x : AskL) : HardOk (nextL h x) := by
  unfold nextL
  split
  · rename_i hc; exact ⟨hc.1, hc.2, o.snap⟩
  · exact o
/-- what is kept: one segment, of h -/
structure KeepI (k : Nat) (h : Hrd) (d : Dk) (n : Nat) : Prop where
  good : ∃ K, GoodW k d n K h ∧ (catR K).length ≤ 20000
  ok : HardOk h
  on : OnD d
  few : n ≤ k + 1
  only : ∀ s, (∀ k, okN k → s ≠ nameW k) → getF d.fs s = none
theorem only_one {l : List Fil} (hs : SortD l) {s : ByteArray} {f : Fil} (hf : getF l s = some f) (ho : ∀ t, t ≠ s → getF l t = none) : l = [f] := by
  have hall : ∀ g ∈ l, g.name = s := fun g hg => by
    by_cases e : g.name = s
    · exact e
    · exact absurd rfl (get_none (ho g.name e) g hg)
  obtain ⟨j, hj, _, e, en⟩ := get_at hf
  match l, hs with
  | [], _ => simp at hj
  | [a], _ =>
    have : j = 0 := by simpa using hj
    subst this
    rw [← e]; rfl
  | a :: b :: r, hs =>
    have h1 := hall a (by simp)
    have h2 := hall b (by simp)
    have h3 := (List.pairwise_cons.1 hs).1 b (by simp)
    rw [h1, h2, ltS_irrefl] at h3; cases h3
theorem KeepI.fs {k n : Nat} {h : Hrd} {d : Dk} (I : KeepI k h d n) : ∃ B, B.length ≤ 20000 ∧ d.fs = [⟨nameW n, B, B.length⟩] := by
  obtain ⟨K, g, hK⟩ := I.good
  refine ⟨catR K, hK, only_one g.k.inv.l.sort g.file fun t ht => ?_⟩
  by_cases hw : ∃ a, okN a ∧ t = nameW a
  · obtain ⟨a, ha, rfl⟩ := hw
    exact g.none a ha fun e => ht (by rw [e])
  · exact I.only t fun a ha e => hw ⟨a, ha, e⟩
theorem KeepI.names {k n : Nat} {h : Hrd} {d : Dk} (I : KeepI k h d n) : (d.fs.map (·.name)).length = 1 := by
  obtain ⟨B, _, e⟩ := I.fs
  rw [e]; rfl
theorem KeepI.tot {k n : Nat} {h : Hrd} {d : Dk} (I : KeepI k h d n) : totD d.fs ≤ 20000 := by
  obtain ⟨B, hB, e⟩ := I.fs
  rw [e, totD_cons]
  have : totD [] = 0 := rfl
  dsimp only; omega
theorem KeepI.inv {k n : Nat} {h : Hrd} {d : Dk} (I : KeepI k h d n) : PInv k d := by
  obtain ⟨K, g, _⟩ := I.good
  exact g.k.inv
theorem KeepI.up {k n : Nat} {h : Hrd} {d : Dk} (I : KeepI k h d n) : KeepI (k + 1) h d n := by
  obtain ⟨K, g, hK⟩ := I.good
  exact ⟨⟨K, g.more (Nat.le_succ k), hK⟩, I.ok, I.on, by have := I.few; omega, I.only⟩
theorem KeepI.save {k n : Nat} {h g : Hrd} {d : Dk} (I : KeepI k h d n) (hk : k ≤ 1000) (o : HardOk g) : ∃ n' d', saveW d ⟨n, h, false⟩ g = (0, ⟨n', g, false⟩, d') ∧ KeepI (k + 1) g d' n' := by
  obtain ⟨K, gd, hK⟩ := I.good
  have hf := I.few
  obtain ⟨r, so, e1, e2, e3⟩ := save_law gd o.right (show n + 1 ≤ 99999999999999 by omega)
  have ht := I.tot
  have hm := moreK_le (x := h) o.small
  have hl := layK_le o.small
  obtain ⟨r0, ron⟩ := so.on I.on (by omega) (by omega)
  obtain ⟨K', g', hK'⟩ := so.good r0
  rw [o.bare] at g' e3
  refine ⟨r.2.1, r.2.2, ?_, ⟨⟨K', g', ?_⟩, o, ron, by have := so.num; omega, fun s hs => by rw [so.other s hs]; exact I.only s hs⟩⟩
  · rw [← e2, ← e3 r0]
    exact Prod.ext (e1.trans r0) (Prod.ext rfl rfl)
  · rcases hK' with e | e | ⟨e, h8⟩
    · rw [e]; exact hK
    · rw [e, ← layB_cat]; omega
    · rw [e, catR_app, List.length_append, ← moreB_cat]; omega
theorem KeepI.crash {k n : Nat} {h : Hrd} {d : Dk} (I : KeepI k h d n) (picks : List Int) : KeepI k h (crashD d picks) n := by
  obtain ⟨K, g, hK⟩ := I.good
  exact ⟨⟨K, g.crash picks, hK⟩, I.ok, OnD.crash d picks, I.few, fun s hs => crash_none picks d.fs 0 (I.only s hs)⟩
theorem KeepI.opened {k n : Nat} {h : Hrd} {d : Dk} (I : KeepI k h d n) : openW d = some ⟨n, h, false⟩ ∧ KeepI k h (cleanW d).2 n := by
  obtain ⟨K, g, hK⟩ := I.good
  obtain ⟨_, c2, c3, c4⟩ := clean_law g.k
  obtain ⟨c5, c6⟩ := c3 I.on
  exact ⟨open_law g.k c5, ⟨⟨K, c2 c5, hK⟩, I.ok, c6, I.few, fun s hs => by rw [c4 s hs]; exact I.only s hs⟩⟩
def hk0 : Hrd := ⟨0, -1, 0, 0, 7, sNone, []⟩
def sv0 : Int × Wl × Dk := saveW dk0 wr0 hk0
theorem sv0e : saveW dk0 wr0 hk0 = (0, ⟨1, hk0, false⟩, sv0.2.2) := Prod.ext (show sv0.1 = 0 by kernel_rfl) (Prod.ext (show sv0.2.1 = ⟨1, hk0, false⟩ by kernel_rfl) rfl)
theorem sv0f : sv0.2.2.fs = [⟨nameW 1, layB hk0, (layB hk0).length⟩] := by kernel_rfl
theorem hk0_ok : HardOk hk0 := ⟨by kernel_rfl, by kernel_rfl, rfl⟩
theorem getF_one {f : Fil} {s : ByteArray} : getF [f] s = if f.name = s then some f else none := by
  unfold getF
  rw [List.find?_cons]
  by_cases e : f.name = s
  · rw [hasN_iff.2 e, if_pos e]
  · rw [hasN_no e, if_neg e]; rfl
theorem keep0 : KeepI 1 hk0 sv0.2.2 1 := by
  have hp : PInv 1 sv0.2.2 := PInv.zero.save wr0 hk0
  obtain ⟨r1, _⟩ := run_lay (right_bare hk0_ok.right)
  have hb : bareOf hk0 = hk0 := rfl
  rw [hb] at r1
  have hf : getF sv0.2.2.fs (nameW 1) = some ⟨nameW 1, catR (layR hk0), (catR (layR hk0)).length⟩ := by rw [sv0f, getF_one, if_pos rfl, layB_cat]
  have hno : ∀ k, okN k → k ≠ 1 → getF sv0.2.2.fs (nameW k) = none := fun k hk hn => by rw [sv0f, getF_one, if_neg (nameW_ne (Ne.symm hn))]
  have hon : OnD sv0.2.2 := ⟨by kernel_rfl, by kernel_rfl⟩
  refine ⟨⟨layR hk0, ⟨⟨hp, ⟨by decide, by decide⟩, lay_ok (right_bare hk0_ok.right), r1, right_bare hk0_ok.right, rfl, ⟨[], err_nil, by rw [List.append_nil]; exact hf⟩, fun k hk hn f hf => by rw [hno k hk hn] at hf; cases hf⟩, hf, hno⟩, by rw [← layB_cat]; have := layK_le hk0_ok.small; omega⟩, hk0_ok, hon, by decide, fun s hs => ?_⟩
  rw [sv0f, getF_one, if_neg (fun e => hs 1 ⟨by decide, by decide⟩ e.symm)]
end Go.Proofs.YtgpgcnmnfnnkjaaDoor
end

section
namespace Go.Proofs.YtgpgcnmnfnnkjaaDoor
open Go Go.RowKit Go.PlainAid BigFrame
attribute [local go_sem] After.same
set_option maxHeartbeats 1000000 in
theorem sameEtys (v u : Value) (l : List Ety) (w : World) (hv : Rd etyE w v l) (hu : Rd etyE w u l) :
    Calls Tryd.prog 38 #[v, u] w fun e w' => e = .returned (.bool true) ∧ ∃ n, w' = w.drewN n := by
  obtain ⟨p, cap, rfl⟩ := hv.shape
  obtain ⟨q, dap, rfl⟩ := hu.shape
  have m1 := hv.le
  unfold maxLen at m1
  go_enter Tryd.func38, Tryd.ntmps38
  go_wp2
  go_loopw [5] (fun i wr => ∃ k : Nat, k ≤ l.length ∧ i = .int .i64 k ∧ ∃ n, wr = w.drewN n) (fun i _ => l.length - (intOf i).toNat)
  case atStart => exact ⟨0, by omega, rfl, 0, rfl⟩
  case round =>
    obtain ⟨k, hk, rfl, n, rfl⟩ := hrel
    by_cases hlt : k < l.length
    · obtain ⟨ba, oa, rfl⟩ := Rd.blk hv (by omega)
      obtain ⟨bb, ob, rfl⟩ := Rd.blk hu (by omega)
      obtain ⟨a0, a1, a2⟩ := ety3 hv hlt
      obtain ⟨b0, b1, b2⟩ := ety3 hu hlt
      have hi1 : (k : Int) < (l.length : Int) := by omega
      have hi0 : (0 : Int) ≤ (k : Int) := by omega
      generalize l[k] = x at *
      have heql := fun (z : World) => neq_ety x x z
      rw [etyEq_self] at heql
      go_wp2
      go_quiet (fail)
      go_wp2
      go_roundw
      case rel => exact ⟨k + 1, by omega, by go_num, _, by first | rfl | exact World.drewN_drewN _ _ _⟩
      case measure => simp [intOf]; omega
    · have hi1 : ¬ (k : Int) < (l.length : Int) := by omega
      go_wp2
      go_ret
      exact ⟨rfl, n, rfl⟩
def midH (y z : Hrd) : Hrd := { y with term := z.term, vote := z.vote, snap := sNone }
/-- what impostlaw18.between asks -/
def BetweenG (x y z : Hrd) : Prop := x = y ∨ x = z ∨ (x.term = z.term ∧ x.vote = z.vote ∧ (x = midH y z ∨ (x.log.length ≤ z.log.length ∧ x.base = z.base ∧ x.bterm = z.bterm ∧ x.members = z.members ∧ x.log = z.log.take x.log.length)))
open Classical in
set_option maxRecDepth 8000 in
set_option maxHeartbeats 4000000 in
theorem lawBetween {w : World} (x y z : Hrd) (u v t : Value) (hu : Rd etyE w u x.log) (hv : Rd etyE w v y.log) (ht : Rd etyE w t z.log) (hB : BetweenG x y z) :
    Calls Tryd.prog 19 #[hrdA x u, hrdA y v, hrdA z t] w fun e w' => e = .returned (.bool true) ∧ Below w.heap.size w w' := by
  obtain ⟨p, pc, rfl⟩ := hu.shape
  obtain ⟨q, qc, rfl⟩ := hv.shape
  obtain ⟨r, rc, rfl⟩ := ht.shape
  have m1 := hu.le
  have m2 := hv.le
  have m3 := ht.le
  unfold maxLen at m1 m2 m3
  obtain ⟨s, hs0⟩ : ∃ s, s = w.heap.size := ⟨_, rfl⟩
  obtain ⟨c1, hc1⟩ : ∃ c, c = s + 1 := ⟨_, rfl⟩
  obtain ⟨c2, hc2⟩ : ∃ c, c = s + 1 + 1 := ⟨_, rfl⟩
  have b0 := below_alloc w (.cells #[.int .i64 x.term, .int .i64 x.vote, .int .i64 x.base, .int .i64 x.bterm, .int .i64 x.members, .string x.snap, .slice p x.log.length pc] 30)
  have b1 := b0.trans ((below_alloc (w.alloc (.cells #[.int .i64 x.term, .int .i64 x.vote, .int .i64 x.base, .int .i64 x.bterm, .int .i64 x.members, .string x.snap, .slice p x.log.length pc] 30)) (.cells #[.int .i64 y.term, .int .i64 y.vote, .int .i64 y.base, .int .i64 y.bterm, .int .i64 y.members, .string y.snap, .slice q y.log.length qc] 30)).mono (by simp))
  have b2 := b1.trans ((below_alloc ((w.alloc (.cells #[.int .i64 x.term, .int .i64 x.vote, .int .i64 x.base, .int .i64 x.bterm, .int .i64 x.members, .string x.snap, .slice p x.log.length pc] 30)).alloc (.cells #[.int .i64 y.term, .int .i64 y.vote, .int .i64 y.base, .int .i64 y.bterm, .int .i64 y.members, .string y.snap, .slice q y.log.length qc] 30)) (.cells #[.int .i64 z.term, .int .i64 z.vote, .int .i64 z.base, .int .i64 z.bterm, .int .i64 z.members, .string z.snap, .slice r z.log.length rc] 30)).mono (by simp <;> omega))
  have kX := ((Blk.new w #[.int .i64 x.term, .int .i64 x.vote, .int .i64 x.base, .int .i64 x.bterm, .int .i64 x.members, .string x.snap, .slice p x.log.length pc] 30).ext (below_alloc (w.alloc (.cells #[.int .i64 x.term, .int .i64 x.vote, .int .i64 x.base, .int .i64 x.bterm, .int .i64 x.members, .string x.snap, .slice p x.log.length pc] 30)) (.cells #[.int .i64 y.term, .int .i64 y.vote, .int .i64 y.base, .int .i64 y.bterm, .int .i64 y.members, .string y.snap, .slice q y.log.length qc] 30))).ext (below_alloc _ (.cells #[.int .i64 z.term, .int .i64 z.vote, .int .i64 z.base, .int .i64 z.bterm, .int .i64 z.members, .string z.snap, .slice r z.log.length rc] 30))
  have kY := (Blk.new (w.alloc (.cells #[.int .i64 x.term, .int .i64 x.vote, .int .i64 x.base, .int .i64 x.bterm, .int .i64 x.members, .string x.snap, .slice p x.log.length pc] 30)) #[.int .i64 y.term, .int .i64 y.vote, .int .i64 y.base, .int .i64 y.bterm, .int .i64 y.members, .string y.snap, .slice q y.log.length qc] 30).ext (below_alloc _ (.cells #[.int .i64 z.term, .int .i64 z.vote, .int .i64 z.base, .int .i64 z.bterm, .int .i64 z.members, .string z.snap, .slice r z.log.length rc] 30))
  have kZ := Blk.new ((w.alloc (.cells #[.int .i64 x.term, .int .i64 x.vote, .int .i64 x.base, .int .i64 x.bterm, .int .i64 x.members, .string x.snap, .slice p x.log.length pc] 30)).alloc (.cells #[.int .i64 y.term, .int .i64 y.vote, .int .i64 y.base, .int .i64 y.bterm, .int .i64 y.members, .string y.snap, .slice q y.log.length qc] 30)) #[.int .i64 z.term, .int .i64 z.vote, .int .i64 z.base, .int .i64 z.bterm, .int .i64 z.members, .string z.snap, .slice r z.log.length rc] 30
  have e1 : (w.alloc (.cells #[.int .i64 x.term, .int .i64 x.vote, .int .i64 x.base, .int .i64 x.bterm, .int .i64 x.members, .string x.snap, .slice p x.log.length pc] 30)).heap.size = c1 := by rw [hc1, hs0]; simp
  have e2 : ((w.alloc (.cells #[.int .i64 x.term, .int .i64 x.vote, .int .i64 x.base, .int .i64 x.bterm, .int .i64 x.members, .string x.snap, .slice p x.log.length pc] 30)).alloc (.cells #[.int .i64 y.term, .int .i64 y.vote, .int .i64 y.base, .int .i64 y.bterm, .int .i64 y.members, .string y.snap, .slice q y.log.length qc] 30)).heap.size = c2 := by rw [hc2, hs0]; simp
  rw [← hs0] at kX
  rw [e1] at kY
  rw [e2] at kZ
  have huW := hu.ext b2
  have hvW := hv.ext b2
  have htW := ht.ext b2
  clear b0 b1 e1 e2 hu hv ht
  have hS1 := fun (w7 : World) (b7 : Below (((w.alloc (.cells #[.int .i64 x.term, .int .i64 x.vote, .int .i64 x.base, .int .i64 x.bterm, .int .i64 x.members, .string x.snap, .slice p x.log.length pc] 30)).alloc (.cells #[.int .i64 y.term, .int .i64 y.vote, .int .i64 y.base, .int .i64 y.bterm, .int .i64 y.members, .string y.snap, .slice q y.log.length qc] 30)).alloc (.cells #[.int .i64 z.term, .int .i64 z.vote, .int .i64 z.base, .int .i64 z.bterm, .int .i64 z.members, .string z.snap, .slice r z.log.length rc] 30)).heap.size (((w.alloc (.cells #[.int .i64 x.term, .int .i64 x.vote, .int .i64 x.base, .int .i64 x.bterm, .int .i64 x.members, .string x.snap, .slice p x.log.length pc] 30)).alloc (.cells #[.int .i64 y.term, .int .i64 y.vote, .int .i64 y.base, .int .i64 y.bterm, .int .i64 y.members, .string y.snap, .slice q y.log.length qc] 30)).alloc (.cells #[.int .i64 z.term, .int .i64 z.vote, .int .i64 z.base, .int .i64 z.bterm, .int .i64 z.members, .string z.snap, .slice r z.log.length rc] 30)) w7) => refSame x y _ _ (huW.ext b7) (hvW.ext b7)
  have hS2 := fun (w7 : World) (b7 : Below (((w.alloc (.cells #[.int .i64 x.term, .int .i64 x.vote, .int .i64 x.base, .int .i64 x.bterm, .int .i64 x.members, .string x.snap, .slice p x.log.length pc] 30)).alloc (.cells #[.int .i64 y.term, .int .i64 y.vote, .int .i64 y.base, .int .i64 y.bterm, .int .i64 y.members, .string y.snap, .slice q y.log.length qc] 30)).alloc (.cells #[.int .i64 z.term, .int .i64 z.vote, .int .i64 z.base, .int .i64 z.bterm, .int .i64 z.members, .string z.snap, .slice r z.log.length rc] 30)).heap.size (((w.alloc (.cells #[.int .i64 x.term, .int .i64 x.vote, .int .i64 x.base, .int .i64 x.bterm, .int .i64 x.members, .string x.snap, .slice p x.log.length pc] 30)).alloc (.cells #[.int .i64 y.term, .int .i64 y.vote, .int .i64 y.base, .int .i64 y.bterm, .int .i64 y.members, .string y.snap, .slice q y.log.length qc] 30)).alloc (.cells #[.int .i64 z.term, .int .i64 z.vote, .int .i64 z.base, .int .i64 z.bterm, .int .i64 z.members, .string z.snap, .slice r z.log.length rc] 30)) w7) => refSame x z _ _ (huW.ext b7) (htW.ext b7)
  have hS3 := fun (w7 : World) (b7 : Below (((w.alloc (.cells #[.int .i64 x.term, .int .i64 x.vote, .int .i64 x.base, .int .i64 x.bterm, .int .i64 x.members, .string x.snap, .slice p x.log.length pc] 30)).alloc (.cells #[.int .i64 y.term, .int .i64 y.vote, .int .i64 y.base, .int .i64 y.bterm, .int .i64 y.members, .string y.snap, .slice q y.log.length qc] 30)).alloc (.cells #[.int .i64 z.term, .int .i64 z.vote, .int .i64 z.base, .int .i64 z.bterm, .int .i64 z.members, .string z.snap, .slice r z.log.length rc] 30)).heap.size (((w.alloc (.cells #[.int .i64 x.term, .int .i64 x.vote, .int .i64 x.base, .int .i64 x.bterm, .int .i64 x.members, .string x.snap, .slice p x.log.length pc] 30)).alloc (.cells #[.int .i64 y.term, .int .i64 y.vote, .int .i64 y.base, .int .i64 y.bterm, .int .i64 y.members, .string y.snap, .slice q y.log.length qc] 30)).alloc (.cells #[.int .i64 z.term, .int .i64 z.vote, .int .i64 z.base, .int .i64 z.bterm, .int .i64 z.members, .string z.snap, .slice r z.log.length rc] 30)) w7) => refSame x (midH y z) _ _ (huW.ext b7) (show Rd etyE w7 _ (midH y z).log from hvW.ext b7)
  have Hm : Hid (midH y z = ⟨z.term, z.vote, y.base, y.bterm, y.members, sNone, y.log⟩) := rfl
  go_enter Tryd.func19, Tryd.ntmps19
  go_upto_region 1 with (fail)
  rw [← hs0, ← hc2, ← hc1]
  generalize hW1 : (((w.alloc (.cells #[.int .i64 x.term, .int .i64 x.vote, .int .i64 x.base, .int .i64 x.bterm, .int .i64 x.members, .string x.snap, .slice p x.log.length pc] 30)).alloc (.cells #[.int .i64 y.term, .int .i64 y.vote, .int .i64 y.base, .int .i64 y.bterm, .int .i64 y.members, .string y.snap, .slice q y.log.length qc] 30)).alloc (.cells #[.int .i64 z.term, .int .i64 z.vote, .int .i64 z.base, .int .i64 z.bterm, .int .i64 z.members, .string z.snap, .slice r z.log.length rc] 30)) = W at *
  clear hW1
  have HN := Lib.hid (And.intro hs0 (And.intro hc1 hc2))
  clear hs0 hc1 hc2
  have xW0 := kX.cell 0 _ rfl
  have xW1 := kX.cell 1 _ rfl
  have xW2 := kX.cell 2 _ rfl
  have xW3 := kX.cell 3 _ rfl
  have xW4 := kX.cell 4 _ rfl
  have xW5 := kX.cell 5 _ rfl
  have xW6 := kX.cell 6 _ rfl
  have yW0 := kY.cell 0 _ rfl
  have yW1 := kY.cell 1 _ rfl
  have yW2 := kY.cell 2 _ rfl
  have yW3 := kY.cell 3 _ rfl
  have yW4 := kY.cell 4 _ rfl
  have yW5 := kY.cell 5 _ rfl
  have yW6 := kY.cell 6 _ rfl
  have zW0 := kZ.cell 0 _ rfl
  have zW1 := kZ.cell 1 _ rfl
  have zW2 := kZ.cell 2 _ rfl
  have zW3 := kZ.cell 3 _ rfl
  have zW4 := kZ.cell 4 _ rfl
  have zW5 := kZ.cell 5 _ rfl
  have zW6 := kZ.cell 6 _ rfl
  by_cases hxy : x = y
  · have h1 := fun w7 b7 => hS1 w7 b7
    rw [decide_eq_true hxy] at h1
    clear hS1 hS2 hS3 hB hxy
    go_wp2_with (first | (go_at_call 12; (with_reducible refine (h1 _ (Below.refl _ _)).mono ?_); rintro e w7 ⟨rfl, b7⟩) | fail)
    go_ret
    exact ⟨rfl, b2.trans (b7.mono b2.size)⟩
  have h1 := fun w7 b7 => hS1 w7 b7
  rw [decide_eq_false hxy] at h1
  by_cases hxz : x = z
  · have h2 := fun w7 b7 => hS2 w7 b7
    rw [decide_eq_true hxz] at h2
    clear hS1 hS2 hS3 hB hxz hxy
    go_wp2_with (first | (go_at_call 12; (with_reducible refine (h1 _ (Below.refl _ _)).mono ?_); rintro e w7 ⟨rfl, b7⟩; have xs0 := (kX.ext b7).cell 0 _ rfl; have xs1 := (kX.ext b7).cell 1 _ rfl; have xs2 := (kX.ext b7).cell 2 _ rfl; have xs3 := (kX.ext b7).cell 3 _ rfl; have xs4 := (kX.ext b7).cell 4 _ rfl; have xs5 := (kX.ext b7).cell 5 _ rfl; have xs6 := (kX.ext b7).cell 6 _ rfl; have ys0 := (kY.ext b7).cell 0 _ rfl; have ys1 := (kY.ext b7).cell 1 _ rfl; have ys2 := (kY.ext b7).cell 2 _ rfl; have ys3 := (kY.ext b7).cell 3 _ rfl; have ys4 := (kY.ext b7).cell 4 _ rfl; have ys5 := (kY.ext b7).cell 5 _ rfl; have ys6 := (kY.ext b7).cell 6 _ rfl; have zs0 := (kZ.ext b7).cell 0 _ rfl; have zs1 := (kZ.ext b7).cell 1 _ rfl; have zs2 := (kZ.ext b7).cell 2 _ rfl; have zs3 := (kZ.ext b7).cell 3 _ rfl; have zs4 := (kZ.ext b7).cell 4 _ rfl; have zs5 := (kZ.ext b7).cell 5 _ rfl; have zs6 := (kZ.ext b7).cell 6 _ rfl) | (go_at_call 12; (with_reducible refine (h2 _ b7).mono ?_); rintro e w8 ⟨rfl, b8⟩) | fail)
    go_ret
    exact ⟨rfl, (b2.trans (b7.mono b2.size)).trans (b8.mono (b2.trans (b7.mono b2.size)).size)⟩
  have h2 := fun w7 b7 => hS2 w7 b7
  rw [decide_eq_false hxz] at h2
  have hC : x.term = z.term ∧ x.vote = z.vote ∧ (x = midH y z ∨ (x.log.length ≤ z.log.length ∧ x.base = z.base ∧ x.bterm = z.bterm ∧ x.members = z.members ∧ x.log = z.log.take x.log.length)) := by
    rcases hB with h | h | h
    · exact absurd h hxy
    · exact absurd h hxz
    · exact h
  clear hB
  obtain ⟨ht1, hv1, hC⟩ := hC
  have n1 : (x.term != z.term) = false := by simpa using ht1
  have n2 : (x.vote != z.vote) = false := by simpa using hv1
  clear ht1 hv1 hxy hxz hS1 hS2
  go_upto_region 3 with (first | (go_at_call 12; (with_reducible refine (h1 _ (Below.refl _ _)).mono ?_); rintro e w7 ⟨rfl, b7⟩; have xs0 := (kX.ext b7).cell 0 _ rfl; have xs1 := (kX.ext b7).cell 1 _ rfl; have xs2 := (kX.ext b7).cell 2 _ rfl; have xs3 := (kX.ext b7).cell 3 _ rfl; have xs4 := (kX.ext b7).cell 4 _ rfl; have xs5 := (kX.ext b7).cell 5 _ rfl; have xs6 := (kX.ext b7).cell 6 _ rfl; have ys0 := (kY.ext b7).cell 0 _ rfl; have ys1 := (kY.ext b7).cell 1 _ rfl; have ys2 := (kY.ext b7).cell 2 _ rfl; have ys3 := (kY.ext b7).cell 3 _ rfl; have ys4 := (kY.ext b7).cell 4 _ rfl; have ys5 := (kY.ext b7).cell 5 _ rfl; have ys6 := (kY.ext b7).cell 6 _ rfl; have zs0 := (kZ.ext b7).cell 0 _ rfl; have zs1 := (kZ.ext b7).cell 1 _ rfl; have zs2 := (kZ.ext b7).cell 2 _ rfl; have zs3 := (kZ.ext b7).cell 3 _ rfl; have zs4 := (kZ.ext b7).cell 4 _ rfl; have zs5 := (kZ.ext b7).cell 5 _ rfl; have zs6 := (kZ.ext b7).cell 6 _ rfl) | (go_at_call 12; (with_reducible refine (h2 _ b7).mono ?_); rintro e w8 ⟨rfl, b8⟩) | fail)
  have b9 := b7.trans (b8.mono b7.size)
  clear h1 h2
  clear xs0 xs1 xs2 xs3 xs4 xs5 xs6 ys0 ys1 ys2 ys3 ys4 ys5 ys6 zs0 zs1 zs2 zs3 zs4 zs5 zs6
  clear xW0 xW1 xW2 xW3 xW4 xW5 xW6 yW0 yW1 yW2 yW3 yW4 yW5 yW6 zW0 zW1 zW2 zW3 zW4 zW5 zW6
  have xn0 := (kX.ext b9).cell 0 _ rfl
  have xn1 := (kX.ext b9).cell 1 _ rfl
  have xn2 := (kX.ext b9).cell 2 _ rfl
  have xn3 := (kX.ext b9).cell 3 _ rfl
  have xn4 := (kX.ext b9).cell 4 _ rfl
  have xn5 := (kX.ext b9).cell 5 _ rfl
  have xn6 := (kX.ext b9).cell 6 _ rfl
  have yn0 := (kY.ext b9).cell 0 _ rfl
  have yn1 := (kY.ext b9).cell 1 _ rfl
  have yn2 := (kY.ext b9).cell 2 _ rfl
  have yn3 := (kY.ext b9).cell 3 _ rfl
  have yn4 := (kY.ext b9).cell 4 _ rfl
  have yn5 := (kY.ext b9).cell 5 _ rfl
  have yn6 := (kY.ext b9).cell 6 _ rfl
  have zn0 := (kZ.ext b9).cell 0 _ rfl
  have zn1 := (kZ.ext b9).cell 1 _ rfl
  have zn2 := (kZ.ext b9).cell 2 _ rfl
  have zn3 := (kZ.ext b9).cell 3 _ rfl
  have zn4 := (kZ.ext b9).cell 4 _ rfl
  have zn5 := (kZ.ext b9).cell 5 _ rfl
  have zn6 := (kZ.ext b9).cell 6 _ rfl
  by_cases hm : x = midH y z
  · have hle : (x.log.length == y.log.length) = true := by rw [hm]; simp [midH]
    have hle' : ((x.log.length : Int) == (y.log.length : Int)) = true := by rw [hm]; simp [midH]
    have h3 := fun w7 b7 => hS3 w7 b7
    rw [decide_eq_true hm] at h3
    replace h3 : ∀ w7, Below W.heap.size W w7 → Calls Tryd.prog 12 #[.agg #[.int .i64 x.term, .int .i64 x.vote, .int .i64 x.base, .int .i64 x.bterm, .int .i64 x.members, .string x.snap, .slice p x.log.length pc], .agg #[.int .i64 z.term, .int .i64 z.vote, .int .i64 y.base, .int .i64 y.bterm, .int .i64 y.members, .string ⟨#[]⟩, .slice q y.log.length qc]] w7 fun e w' => e = .returned (.bool true) ∧ Below w7.heap.size w7 w' := h3
    clear hS3 hC hm
    go_wp2_with (first | (go_at_call 12; (with_reducible refine (h3 _ b9).mono ?_); rintro e w10 ⟨rfl, b10⟩) | fail)
    go_ret
    exact ⟨rfl, (b2.trans (b9.mono b2.size)).trans (b10.mono (b2.trans (b9.mono b2.size)).size)⟩
  have h3 := fun w7 b7 => hS3 w7 b7
  rw [decide_eq_false hm] at h3
  replace h3 : ∀ w7, Below W.heap.size W w7 → Calls Tryd.prog 12 #[.agg #[.int .i64 x.term, .int .i64 x.vote, .int .i64 x.base, .int .i64 x.bterm, .int .i64 x.members, .string x.snap, .slice p x.log.length pc], .agg #[.int .i64 z.term, .int .i64 z.vote, .int .i64 y.base, .int .i64 y.bterm, .int .i64 y.members, .string ⟨#[]⟩, .slice q y.log.length qc]] w7 fun e w' => e = .returned (.bool false) ∧ Below w7.heap.size w7 w' := h3
  have hC' : x.log.length ≤ z.log.length ∧ x.base = z.base ∧ x.bterm = z.bterm ∧ x.members = z.members ∧ x.log = z.log.take x.log.length := by
    rcases hC with h | h
    · exact absurd h hm
    · exact h
  clear hC hm hS3
  obtain ⟨k1, k2, k3, k4, k5⟩ := hC'
  have n3 : ¬ (z.log.length : Int) < (x.log.length : Int) := by omega
  have n4 : (x.base != z.base) = false := by simpa using k2
  have n5 : (x.bterm != z.bterm) = false := by simpa using k3
  have n6 : (x.members != z.members) = false := by simpa using k4
  have K5 := Lib.hid k5
  clear k2 k3 k4 k5
  by_cases hl : x.log.length = y.log.length
  case' pos =>
    have hle' : ((x.log.length : Int) == (y.log.length : Int)) = true := by simp; omega
    clear hl
    go_upto_region 7 with (first | (go_at_call 12; (with_reducible refine (h3 _ b9).mono ?_); rintro e w10 ⟨rfl, b10⟩) | fail)
    have b11 := b9.trans (b10.mono b9.size)
    clear b10
    generalize w10 = WX at *
  case' neg =>
    have hle' : ((x.log.length : Int) == (y.log.length : Int)) = false := by simp; omega
    clear hl
    go_upto_region 7 with (fail)
    have b11 := b9
    generalize w8 = WX at *
  all_goals
    clear h3 hle'
    clear xn0 xn1 xn2 xn3 xn4 xn5 xn6 yn0 yn1 yn2 yn3 yn4 yn5 yn6 zn0 zn1 zn2 zn3 zn4 zn5 zn6
    have xe0 := (kX.ext b11).cell 0 _ rfl
    have xe1 := (kX.ext b11).cell 1 _ rfl
    have xe2 := (kX.ext b11).cell 2 _ rfl
    have xe3 := (kX.ext b11).cell 3 _ rfl
    have xe4 := (kX.ext b11).cell 4 _ rfl
    have xe5 := (kX.ext b11).cell 5 _ rfl
    have xe6 := (kX.ext b11).cell 6 _ rfl
    have ye0 := (kY.ext b11).cell 0 _ rfl
    have ye1 := (kY.ext b11).cell 1 _ rfl
    have ye2 := (kY.ext b11).cell 2 _ rfl
    have ye3 := (kY.ext b11).cell 3 _ rfl
    have ye4 := (kY.ext b11).cell 4 _ rfl
    have ye5 := (kY.ext b11).cell 5 _ rfl
    have ye6 := (kY.ext b11).cell 6 _ rfl
    have ze0 := (kZ.ext b11).cell 0 _ rfl
    have ze1 := (kZ.ext b11).cell 1 _ rfl
    have ze2 := (kZ.ext b11).cell 2 _ rfl
    have ze3 := (kZ.ext b11).cell 3 _ rfl
    have ze4 := (kZ.ext b11).cell 4 _ rfl
    have ze5 := (kZ.ext b11).cell 5 _ rfl
    have ze6 := (kZ.ext b11).cell 6 _ rfl
    go_upto_region 9 with (fail)
    have hR0 := huW.ext b11
    have hR2 := htW.ext b11
    have hsb := Rd.sub hR2 0 x.log.length (by omega) k1
    have hsl := run_sub_to tEty (P := Tryd.prog) hR2 .i64 (x.log.length : Int) x.log.length rfl k1
    rw [List.drop_zero, Nat.sub_zero, ← K5.out] at hsb
    obtain ⟨sv, hsv⟩ : ∃ o, o = subV (.slice r z.log.length rc) 0 x.log.length 3 := ⟨_, rfl⟩
    replace hsb : Rd etyE WX sv x.log := by rw [hsv]; exact hsb
    rw [← hsv] at hsl
    clear hsv hR2
    have hcl : ∀ a : After WX, Calls Tryd.prog 38 #[.slice p x.log.length pc, sv] a.1 fun e w' => e = .returned (.bool true) ∧ ∃ y : After WX, w' = y.1 := fun a => a.call ((sameEtys _ _ x.log a.1 (hR0.ext a.2) (hsb.ext a.2)).mono fun e w' h => ⟨h.1, by obtain ⟨n, hn⟩ := h.2; rw [hn]; exact below_drawn _ _ _⟩)
    have zx6 : ∀ a : After WX, a.1.cell? ⟨s, 6, none⟩ = some (.slice p x.log.length pc) := fun a => ((kX.ext b11).ext a.2).cell 6 _ rfl
    have zz6 : ∀ a : After WX, a.1.cell? ⟨c2, 6, none⟩ = some (.slice r z.log.length rc) := fun a => ((kZ.ext b11).ext a.2).cell 6 _ rfl
    clear hR0 hsb
    clear xe0 xe1 xe2 xe3 xe4 xe5 xe6 ye0 ye1 ye2 ye3 ye4 ye5 ye6 ze0 ze1 ze2 ze3 ze4 ze5 ze6
    refine wp_region_after (by kernel_rfl) (by kernel_rfl) ?_
    repeat (go_big_quiet_step (exact hcl _))
    refine wpQuiet_nil ?_
    rintro w11 ⟨⟨w11x, c11⟩, hw11⟩
    change w11 = w11x at hw11
    subst hw11
    clear hcl zx6 zz6 hsl
    have bF := (b2.trans (b11.mono b2.size)).trans (c11.mono (b2.trans (b11.mono b2.size)).size)
    go_wp2_with fail
    go_ret
    exact ⟨rfl, bF⟩
end Go.Proofs.YtgpgcnmnfnnkjaaDoor
end
