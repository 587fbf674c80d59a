/- WalRuns in plain words: what each step comes to. WalKeeps and WalCuts in plain words. What an argument of the type []impostlaw18.Ask reads as. -/
import Derived.Test.YtgpgcnmnfnnkjaaDoorGWalKeeps19
import Derived.Test.YtgpgcnmnfnnkjaaDoorGWalKeeps34
import Derived.Test.YtgpgcnmnfnnkjaaDoorGWalKeeps37
import Derived.Test.YtgpgcnmnfnnkjaaDoorGWalKeeps17
import Derived.Lib.SmallJoins
set_option linter.unusedVariables false
set_option linter.unusedSimpArgs false
section
namespace Go.Proofs.YtgpgcnmnfnnkjaaDoor
open Go Go.RowKit Go.PlainAid
def hr1 : Hrd := ⟨1, 0, 0, 0, 7, sNone, []⟩
def hr2 : Hrd := ⟨1, 0, 0, 0, 7, sNone, [⟨1, 0, ⟨#[120]⟩⟩]⟩
def hr3 : Hrd := ⟨1, 0, 1, 1, 7, ⟨#[115]⟩, []⟩
def hr4 : Hrd := ⟨0, 9, 0, 0, 7, sNone, []⟩
def sW1 : ByteArray := ⟨#[119, 97, 108, 46, 49]⟩
def sW2 : ByteArray := ⟨#[119, 97, 108, 46, 50]⟩
def wr0 : Wl := ⟨0, hrdV, false⟩
def sv1 : Int × Wl × Dk := saveW dk0 wr0 hr1
theorem tw0 : openW dk0 = some wr0 := by kernel_rfl
theorem tw0c : (cleanW dk0).2 = dk0 := by kernel_rfl
theorem tw1 : sv1.1 = 0 := by kernel_rfl
theorem tw1n : sv1.2.2.fs.map (·.name) = [sW1] := by kernel_rfl
def wr1 : Wl := ⟨1, hr1, false⟩
def sv2 : Int × Wl × Dk := saveW sv1.2.2 wr1 hr2
theorem tw2 : sv2.1 = 0 := by kernel_rfl
def wr2 : Wl := ⟨1, hr2, false⟩
theorem tw3 : openW sv2.2.2 = some wr2 := by kernel_rfl
def dw3 : Dk := (cleanW sv2.2.2).2
def sv3 : Int × Wl × Dk := saveW dw3 wr2 hr3
theorem tw4 : sv3.1 = 0 := by kernel_rfl
theorem tw4n : sv3.2.2.fs.map (·.name) = [sW2] := by kernel_rfl
def sv4 : Int × Wl × Dk := saveW sv3.2.2 sv3.2.1 hr4
theorem tw5 : sv4.1 = 1 := by kernel_rfl
theorem tw1e : saveW dk0 wr0 hr1 = (0, wr1, sv1.2.2) := Prod.ext tw1 (Prod.ext (show sv1.2.1 = wr1 by kernel_rfl) rfl)
theorem tw2e : saveW sv1.2.2 wr1 hr2 = (0, wr2, sv2.2.2) := Prod.ext tw2 (Prod.ext (show sv2.2.1 = wr2 by kernel_rfl) rfl)
theorem tw4e : saveW dw3 wr2 hr3 = (0, sv3.2.1, sv3.2.2) := Prod.ext tw4 rfl
theorem tw5e : saveW sv3.2.2 sv3.2.1 hr4 = (1, sv4.2.1, sv4.2.2) := Prod.ext tw5 rfl
theorem pw1 : PInv 1 sv1.2.2 := PInv.zero.save _ _
theorem pw2 : PInv 2 sv2.2.2 := pw1.save _ _
theorem pw3 : PInv 2 dw3 := pw2.clean
theorem pw4 : PInv 3 sv3.2.2 := pw3.save _ _
end Go.Proofs.YtgpgcnmnfnnkjaaDoor
end

section
namespace Go.Proofs.YtgpgcnmnfnnkjaaDoor
open Go Go.RowKit Go.PlainAid
theorem oneK_le (p : List UInt8) : (Frm.one p).length ≤ p.length + 8 := by
  cases h : Frm.none' p with
  | true => rw [Frm.one_none h]; simp
  | false => rw [Frm.one_length h]; exact Nat.le_refl _
theorem recK_le (l : List Int) : (recB l).length ≤ 10 * l.length + 8 := by
  have := oneK_le (numsB l)
  have := numsB_le l
  unfold recB; omega
theorem etyK_le (x : Ety) : (etyB x).length ≤ x.data.size + 48 := by
  have h1 := oneK_le (numsB [2, x.term, x.members] ++ textB (bytesOf x.data))
  have h2 := numsB_le [2, x.term, x.members]
  have h3 := numB_le ((bytesOf x.data).length : Int)
  have h4 : (bytesOf x.data).length = x.data.size := by simp [bytesOf]
  unfold etyB
  rw [List.length_append] at h1
  unfold textB at h1 ⊢
  rw [List.length_append] at h1
  simp only [List.length_cons, List.length_nil] at h2
  omega
theorem etysK_le : ∀ l : List Ety, (etysB l).length ≤ 48 * l.length + sizesE l
  | [] => by simp [etysB, sizesE]
  | x :: r => by
    have h1 := etyK_le x
    have h2 := etysK_le r
    have e1 : etysB (x :: r) = etyB x ++ etysB r := rfl
    have e2 : sizesE (x :: r) = x.data.size + sizesE r := by simp [sizesE]
    rw [e1, e2, List.length_append, List.length_cons]; omega
theorem sizesE_drop (l : List Ety) (k : Nat) : sizesE (l.drop k) ≤ sizesE l := by
  conv => rhs; rw [← List.take_append_drop k l]
  unfold sizesE; rw [List.map_append, List.sum_append]; omega
theorem small_of {h : Hrd} (hs : smallH h = true) : h.log.length ≤ 40 ∧ h.snap.size + sizesE h.log ≤ 9000 := by
  unfold smallH at hs
  rw [Bool.and_eq_true, decide_eq_true_iff, decide_eq_true_iff] at hs
  exact hs
theorem layK_le {h : Hrd} (hs : smallH h = true) : (layB h).length ≤ 11500 := by
  obtain ⟨h1, h2⟩ := small_of hs
  have := recK_le [1, h.term, h.vote, h.base, h.bterm, h.members]
  have := recK_le [3]
  have := etysK_le h.log
  unfold layB
  rw [List.length_append, List.length_append]
  simp only [List.length_cons, List.length_nil] at *
  omega
theorem moreK_le {x h : Hrd} (hs : smallH h = true) : (moreB x h).length ≤ 11500 := by
  obtain ⟨h1, h2⟩ := small_of hs
  have h3 := recK_le [4, h.term, h.vote]
  have h4 := recK_le [5, h.base + commonE h.log x.log]
  have h5 := etysK_le (h.log.drop (commonE h.log x.log))
  have h6 := sizesE_drop h.log (commonE h.log x.log)
  have h7 : (h.log.drop (commonE h.log x.log)).length ≤ h.log.length := by rw [List.length_drop]; omega
  simp only [List.length_cons, List.length_nil] at *
  unfold moreB
  rw [List.length_append, List.length_append]
  have a1 : (if h.term ≠ x.term ∨ h.vote ≠ x.vote then recB [4, h.term, h.vote] else []).length ≤ 38 := by split; omega; simp
  have a2 : (if commonE h.log x.log < x.log.length then recB [5, h.base + commonE h.log x.log] else []).length ≤ 28 := by split; omega; simp
  omega
/-- a Hard that is saved -/
structure HardOk (h : Hrd) : Prop where
  right : rightH h = true
  small : smallH h = true
  snap : h.snap = sNone
theorem HardOk.bare {h : Hrd} (o : HardOk h) : bareOf h = h := by
  have := o.snap
  cases h; dsimp only at this; subst this; rfl
theorem HardOk.next {h : Hrd} (o : HardOk h) (x : AskL) : HardOk (nextL h x) := by
  unfold nextL
  split
  · rename_i hc; exact ⟨hc.1, hc.2, o.snap⟩
  · exact o
/-- what is kept: one segment, of h -/
structure KeepI (k : Nat) (h : Hrd) (d : Dk) (n : Nat) : Prop where
  good : ∃ K, GoodW k d n K h ∧ (catR K).length ≤ 20000
  ok : HardOk h
  on : OnD d
  few : n ≤ k + 1
  only : ∀ s, (∀ k, okN k → s ≠ nameW k) → getF d.fs s = none
theorem only_one {l : List Fil} (hs : SortD l) {s : ByteArray} {f : Fil} (hf : getF l s = some f) (ho : ∀ t, t ≠ s → getF l t = none) : l = [f] := by
  have hall : ∀ g ∈ l, g.name = s := fun g hg => by
    by_cases e : g.name = s
    · exact e
    · exact absurd rfl (get_none (ho g.name e) g hg)
  obtain ⟨j, hj, _, e, en⟩ := get_at hf
  match l, hs with
  | [], _ => simp at hj
  | [a], _ =>
    have : j = 0 := by simpa using hj
    subst this
    rw [← e]; rfl
  | a :: b :: r, hs =>
    have h1 := hall a (by simp)
    have h2 := hall b (by simp)
    have h3 := (List.pairwise_cons.1 hs).1 b (by simp)
    rw [h1, h2, ltS_irrefl] at h3; cases h3
theorem KeepI.fs {k n : Nat} {h : Hrd} {d : Dk} (I : KeepI k h d n) : ∃ B, B.length ≤ 20000 ∧ d.fs = [⟨nameW n, B, B.length⟩] := by
  obtain ⟨K, g, hK⟩ := I.good
  refine ⟨catR K, hK, only_one g.k.inv.l.sort g.file fun t ht => ?_⟩
  by_cases hw : ∃ a, okN a ∧ t = nameW a
  · obtain ⟨a, ha, rfl⟩ := hw
    exact g.none a ha fun e => ht (by rw [e])
  · exact I.only t fun a ha e => hw ⟨a, ha, e⟩
theorem KeepI.names {k n : Nat} {h : Hrd} {d : Dk} (I : KeepI k h d n) : (d.fs.map (·.name)).length = 1 := by
  obtain ⟨B, _, e⟩ := I.fs
  rw [e]; rfl
theorem KeepI.tot {k n : Nat} {h : Hrd} {d : Dk} (I : KeepI k h d n) : totD d.fs ≤ 20000 := by
  obtain ⟨B, hB, e⟩ := I.fs
  rw [e, totD_cons]
  have : totD [] = 0 := rfl
  dsimp only; omega
theorem KeepI.inv {k n : Nat} {h : Hrd} {d : Dk} (I : KeepI k h d n) : PInv k d := by
  obtain ⟨K, g, _⟩ := I.good
  exact g.k.inv
theorem KeepI.up {k n : Nat} {h : Hrd} {d : Dk} (I : KeepI k h d n) : KeepI (k + 1) h d n := by
  obtain ⟨K, g, hK⟩ := I.good
  exact ⟨⟨K, g.more (Nat.le_succ k), hK⟩, I.ok, I.on, by have := I.few; omega, I.only⟩
theorem KeepI.save {k n : Nat} {h g : Hrd} {d : Dk} (I : KeepI k h d n) (hk : k ≤ 1000) (o : HardOk g) : ∃ n' d', saveW d ⟨n, h, false⟩ g = (0, ⟨n', g, false⟩, d') ∧ KeepI (k + 1) g d' n' := by
  obtain ⟨K, gd, hK⟩ := I.good
  have hf := I.few
  obtain ⟨r, so, e1, e2, e3⟩ := save_law gd o.right (show n + 1 ≤ 99999999999999 by omega)
  have ht := I.tot
  have hm := moreK_le (x := h) o.small
  have hl := layK_le o.small
  obtain ⟨r0, ron⟩ := so.on I.on (by omega) (by omega)
  obtain ⟨K', g', hK'⟩ := so.good r0
  rw [o.bare] at g' e3
  refine ⟨r.2.1, r.2.2, ?_, ⟨⟨K', g', ?_⟩, o, ron, by have := so.num; omega, fun s hs => by rw [so.other s hs]; exact I.only s hs⟩⟩
  · rw [← e2, ← e3 r0]
    exact Prod.ext (e1.trans r0) (Prod.ext rfl rfl)
  · rcases hK' with e | e | ⟨e, h8⟩
    · rw [e]; exact hK
    · rw [e, ← layB_cat]; omega
    · rw [e, catR_app, List.length_append, ← moreB_cat]; omega
theorem KeepI.crash {k n : Nat} {h : Hrd} {d : Dk} (I : KeepI k h d n) (picks : List Int) : KeepI k h (crashD d picks) n := by
  obtain ⟨K, g, hK⟩ := I.good
  exact ⟨⟨K, g.crash picks, hK⟩, I.ok, OnD.crash d picks, I.few, fun s hs => crash_none picks d.fs 0 (I.only s hs)⟩
theorem KeepI.opened {k n : Nat} {h : Hrd} {d : Dk} (I : KeepI k h d n) : openW d = some ⟨n, h, false⟩ ∧ KeepI k h (cleanW d).2 n := by
  obtain ⟨K, g, hK⟩ := I.good
  obtain ⟨_, c2, c3, c4⟩ := clean_law g.k
  obtain ⟨c5, c6⟩ := c3 I.on
  exact ⟨open_law g.k c5, ⟨⟨K, c2 c5, hK⟩, I.ok, c6, I.few, fun s hs => by rw [c4 s hs]; exact I.only s hs⟩⟩
def hk0 : Hrd := ⟨0, -1, 0, 0, 7, sNone, []⟩
def sv0 : Int × Wl × Dk := saveW dk0 wr0 hk0
theorem sv0e : saveW dk0 wr0 hk0 = (0, ⟨1, hk0, false⟩, sv0.2.2) := Prod.ext (show sv0.1 = 0 by kernel_rfl) (Prod.ext (show sv0.2.1 = ⟨1, hk0, false⟩ by kernel_rfl) rfl)
theorem sv0f : sv0.2.2.fs = [⟨nameW 1, layB hk0, (layB hk0).length⟩] := by kernel_rfl
theorem hk0_ok : HardOk hk0 := ⟨by kernel_rfl, by kernel_rfl, rfl⟩
theorem getF_one {f : Fil} {s : ByteArray} : getF [f] s = if f.name = s then some f else none := by
  unfold getF
  rw [List.find?_cons]
  by_cases e : f.name = s
  · rw [hasN_iff.2 e, if_pos e]
  · rw [hasN_no e, if_neg e]; rfl
theorem keep0 : KeepI 1 hk0 sv0.2.2 1 := by
  have hp : PInv 1 sv0.2.2 := PInv.zero.save wr0 hk0
  obtain ⟨r1, _⟩ := run_lay (right_bare hk0_ok.right)
  have hb : bareOf hk0 = hk0 := rfl
  rw [hb] at r1
  have hf : getF sv0.2.2.fs (nameW 1) = some ⟨nameW 1, catR (layR hk0), (catR (layR hk0)).length⟩ := by rw [sv0f, getF_one, if_pos rfl, layB_cat]
  have hno : ∀ k, okN k → k ≠ 1 → getF sv0.2.2.fs (nameW k) = none := fun k hk hn => by rw [sv0f, getF_one, if_neg (nameW_ne (Ne.symm hn))]
  have hon : OnD sv0.2.2 := ⟨by kernel_rfl, by kernel_rfl⟩
  refine ⟨⟨layR hk0, ⟨⟨hp, ⟨by decide, by decide⟩, lay_ok (right_bare hk0_ok.right), r1, right_bare hk0_ok.right, rfl, ⟨[], err_nil, by rw [List.append_nil]; exact hf⟩, fun k hk hn f hf => by rw [hno k hk hn] at hf; cases hf⟩, hf, hno⟩, by rw [← layB_cat]; have := layK_le hk0_ok.small; omega⟩, hk0_ok, hon, by decide, fun s hs => ?_⟩
  rw [sv0f, getF_one, if_neg (fun e => hs 1 ⟨by decide, by decide⟩ e.symm)]
end Go.Proofs.YtgpgcnmnfnnkjaaDoor
end

section
namespace Go.Proofs.YtgpgcnmnfnnkjaaDoor
open Go Go.RowKit Go.ChangeShapes Go.WideShapes Go.ChangeAt Go.Deep Go.Joins
def aslE : Enc AskL := ⟨10, fun x => [.int .i64 x.kind, .int .i64 x.n, .int .i64 x.h.term, .int .i64 x.h.vote, .int .i64 x.h.base, .int .i64 x.h.bterm, .int .i64 x.h.members, .string x.h.snap, .slice x.hp x.h.log.length x.hc, .slice x.pp x.picks.length x.pc], fun _ => rfl, fun _ v hv => by
  simp only [List.mem_cons, List.not_mem_nil, or_false] at hv
  rcases hv with rfl | rfl | rfl | rfl | rfl | rfl | rfl | rfl | rfl | rfl <;> rfl, by decide⟩
theorem list3 {cs : List Value} (h : cs.length = 3) : ∃ a0 a1 a2, cs = [a0, a1, a2] := by
  match cs, h with
  | [a0, a1, a2], _ => exact ⟨a0, a1, a2, rfl⟩
theorem list7 {cs : List Value} (h : cs.length = 7) : ∃ a0 a1 a2 a3 a4 a5 a6, cs = [a0, a1, a2, a3, a4, a5, a6] := by
  match cs, h with
  | [a0, a1, a2, a3, a4, a5, a6], _ => exact ⟨a0, a1, a2, a3, a4, a5, a6, rfl⟩
theorem list10 {cs : List Value} (h : cs.length = 10) : ∃ a0 a1 a2 a3 a4 a5 a6 a7 a8 a9, cs = [a0, a1, a2, a3, a4, a5, a6, a7, a8, a9] := by
  match cs, h with
  | [a0, a1, a2, a3, a4, a5, a6, a7, a8, a9], _ => exact ⟨a0, a1, a2, a3, a4, a5, a6, a7, a8, a9, rfl⟩
theorem open_intsL {H : Type} {enc : TypeId × Value → H} {P : Program} {W : World} {t e : TypeId} {v : Value} {fuel : Nat} {y : DataW H × List MemPlace}
    (hu : P.underlying t = some (.slice e)) (he : P.underlying e = some (.int .i64)) (hc : P.cellsOf e = 1)
    (h : DataW.trod enc P W 0 (fun _ => true) true fuel t [v] = some y) : ∃ l : List Int, Rd intsE W v l ∧ (∀ x ∈ l, -9223372036854775808 ≤ x ∧ x ≤ 9223372036854775807) := by
  have hsh : ∃ a len cap, v = .slice a len cap := by
    rcases open_slice hu h with ⟨hcs, _⟩ | ⟨a, len, cap, _, _, _, _, hcs, _⟩
    · exact ⟨none, 0, 0, by simpa using hcs⟩
    · exact ⟨some a, len, cap, by simpa using hcs⟩
  obtain ⟨a, len, cap, rfl⟩ := hsh
  have hf : DataW.trod enc P W 0 (fun _ => true) true fuel t (Value.slice a len cap).cells.toList = some y := by simpa [Value.cells] using h
  rcases open_ints hu he hc hf with ⟨hcs, hx⟩ | ⟨x, l, c, zs, hcs, _, hl, hm, hz, hx, hcell, hwz⟩
  · simp [Value.cells] at hcs
    obtain ⟨rfl, rfl, rfl⟩ := hcs
    exact ⟨[], Rd.nil W, by simp⟩
  · simp [Value.cells] at hcs
    obtain ⟨rfl, rfl, rfl⟩ := hcs
    simp at hz
    have hlen : (zs.take len).length = len := by rw [List.length_take]; omega
    refine ⟨zs.take len, ?_, fun y hy => ?_⟩
    · unfold Rd
      rw [hlen]
      refine ⟨by rw [intsE.all_length, hlen], intsE.all_oneCell _, some x, cap, rfl, hl, hm, fun h => (by cases h), fun a ha hn => ?_⟩
      cases ha
      have hs := spot_none (hcell 0 (by omega))
      refine ⟨hs, fun i u hu => ?_⟩
      have hi : i < len := by
        have := (List.getElem?_eq_some_iff.1 hu).1
        rw [intsE.all_length, hlen] at this; simpa [intsE] using this
      have e1 := intsE.all_get (zs.take len) i (by omega) 0 Nat.one_pos
      simp only [intsE, Nat.mul_one, Nat.add_zero] at e1
      have hu' : (Enc.all intsE (zs.take len))[i]? = some u := hu
      simp only [intsE] at hu'
      rw [e1] at hu'
      simp at hu'
      subst hu'
      have := hcell i (by omega)
      rw [addr_add x hs] at this
      rw [this]
      simp [List.getD, show i < zs.length from by omega]
    · have := hwz y (List.mem_of_mem_take hy)
      simp [Lit.wf, IntKind.min, IntKind.max, IntKind.bits, IntKind.signed] at this; omega
theorem dlen_weight {H : Type} {P : Program} {t e : TypeId} {d : DataW H} {n : Nat} (hu : P.underlying t = some (.slice e)) (hd : DLen d n) : ∃ m, n * P.bytesOf e ≤ m ∧ (n = 0 ∨ m ∈ d.weights P t) := by
  rcases hd with ⟨rfl, rfl⟩ | ⟨es, sp, rfl, rfl⟩
  · exact ⟨0, by simp, .inl rfl⟩
  · refine ⟨(es.length + sp.length) * P.bytesOf e, Nat.mul_le_mul_right _ (by omega), .inr ?_⟩
    simp only [DataW.weights, hu, List.mem_cons, true_or]
theorem elem_ety {H : Type} {enc : TypeId × Value → H} {W : World} (fuel : Nat) (cs : List Value) (y : DataW H × List MemPlace) (h : DataW.trod enc Tryd.prog W 0 (fun _ => true) true fuel 36 cs = some y) :
    ∃ x : Ety, cs = etyE.enc x ∧ x.data.size ∈ y.1.weights Tryd.prog 36 := by
  have hu := Tryd.underlying36
  obtain ⟨xs, n, rfl, rfl, hlen, hxl, hf⟩ := DataW.trod_struct hu h
  obtain ⟨a0, a1, a2, rfl⟩ := list3 (hlen.trans (by kernel_rfl))
  have k0 : Tryd.prog.cellsOf 9 = 1 := by kernel_rfl
  have k1 : Tryd.prog.cellsOf 3 = 1 := by kernel_rfl
  have h0 : DataW.trod enc Tryd.prog W 0 (fun _ => true) true n 3 (([a0, a1, a2].drop 0).take (Tryd.prog.cellsOf 3)) = xs[0]? := hf 0 _ rfl
  have h1 : DataW.trod enc Tryd.prog W 0 (fun _ => true) true n 3 (([a0, a1, a2].drop 1).take (Tryd.prog.cellsOf 3)) = xs[1]? := hf 1 _ rfl
  have h2 : DataW.trod enc Tryd.prog W 0 (fun _ => true) true n 9 (([a0, a1, a2].drop 2).take (Tryd.prog.cellsOf 9)) = xs[2]? := hf 2 _ rfl
  rw [k1] at h0 h1
  rw [k0] at h2
  simp only [List.drop_zero, List.take_succ_cons, List.take_zero, List.drop_succ_cons] at h0 h1 h2
  have hx0 : xs[0]? = some (xs[0]'(by rw [hxl]; decide)) := List.getElem?_eq_getElem _
  have hx1 : xs[1]? = some (xs[1]'(by rw [hxl]; decide)) := List.getElem?_eq_getElem _
  have hx2 : xs[2]? = some (xs[2]'(by rw [hxl]; decide)) := List.getElem?_eq_getElem _
  obtain ⟨z0, e0, _, _⟩ := DataW.trod_int Tryd.underlying3 (h0.trans hx0)
  obtain ⟨z1, e1, _, _⟩ := DataW.trod_int Tryd.underlying3 (h1.trans hx1)
  obtain ⟨z2, e2, w2, _⟩ := DataW.trod_string Tryd.underlying9 (h2.trans hx2)
  simp only [List.cons.injEq, and_true] at e0 e1 e2
  subst e0; subst e1; subst e2
  have m2 : (xs.map (·.1))[2]? = some (DataW.lit (.string z2.data.toList)) := by rw [List.getElem?_map, hx2, Option.map_some, w2]
  exact ⟨⟨z0, z1, z2⟩, rfl, weigh_field hu (j := 2) rfl m2 _ weigh_string⟩
/-- a Hard as it lies in an argument -/
structure HrdLies {H : Type} (W : World) (h : Hrd) (p : Option Addr) (c : Nat) (d : DataW H) : Prop where
  log : Rd etyE W (.slice p h.log.length c) h.log
  snap : h.snap.size ∈ d.weights Tryd.prog 30
  few : ∃ m, h.log.length * 32 ≤ m ∧ (h.log.length = 0 ∨ m ∈ d.weights Tryd.prog 30)
  data : ∀ x ∈ h.log, x.data.size ∈ d.weights Tryd.prog 30
theorem elem_hrd {H : Type} {enc : TypeId × Value → H} {W : World} (fuel : Nat) (cs : List Value) (y : DataW H × List MemPlace) (h : DataW.trod enc Tryd.prog W 0 (fun _ => true) true fuel 30 cs = some y) :
    ∃ (x : Hrd) (p : Option Addr) (c : Nat), cs = [.int .i64 x.term, .int .i64 x.vote, .int .i64 x.base, .int .i64 x.bterm, .int .i64 x.members, .string x.snap, .slice p x.log.length c] ∧ HrdLies W x p c y.1 := by
  have hu := Tryd.underlying30
  obtain ⟨xs, n, rfl, rfl, hlen, hxl, hf⟩ := DataW.trod_struct hu h
  obtain ⟨a0, a1, a2, a3, a4, a5, a6, rfl⟩ := list7 (hlen.trans (by kernel_rfl))
  have k0 : Tryd.prog.cellsOf 9 = 1 := by kernel_rfl
  have k1 : Tryd.prog.cellsOf 3 = 1 := by kernel_rfl
  have k2 : Tryd.prog.cellsOf 28 = 1 := by kernel_rfl
  have h0 : DataW.trod enc Tryd.prog W 0 (fun _ => true) true n 3 (([a0, a1, a2, a3, a4, a5, a6].drop 0).take (Tryd.prog.cellsOf 3)) = xs[0]? := hf 0 _ rfl
  have h1 : DataW.trod enc Tryd.prog W 0 (fun _ => true) true n 3 (([a0, a1, a2, a3, a4, a5, a6].drop 1).take (Tryd.prog.cellsOf 3)) = xs[1]? := hf 1 _ rfl
  have h2 : DataW.trod enc Tryd.prog W 0 (fun _ => true) true n 3 (([a0, a1, a2, a3, a4, a5, a6].drop 2).take (Tryd.prog.cellsOf 3)) = xs[2]? := hf 2 _ rfl
  have h3 : DataW.trod enc Tryd.prog W 0 (fun _ => true) true n 3 (([a0, a1, a2, a3, a4, a5, a6].drop 3).take (Tryd.prog.cellsOf 3)) = xs[3]? := hf 3 _ rfl
  have h4 : DataW.trod enc Tryd.prog W 0 (fun _ => true) true n 3 (([a0, a1, a2, a3, a4, a5, a6].drop 4).take (Tryd.prog.cellsOf 3)) = xs[4]? := hf 4 _ rfl
  have h5 : DataW.trod enc Tryd.prog W 0 (fun _ => true) true n 9 (([a0, a1, a2, a3, a4, a5, a6].drop 5).take (Tryd.prog.cellsOf 9)) = xs[5]? := hf 5 _ rfl
  have h6 : DataW.trod enc Tryd.prog W 0 (fun _ => true) true n 28 (([a0, a1, a2, a3, a4, a5, a6].drop 6).take (Tryd.prog.cellsOf 28)) = xs[6]? := hf 6 _ rfl
  rw [k1] at h0 h1 h2 h3 h4
  rw [k0] at h5
  rw [k2] at h6
  simp only [List.drop_zero, List.take_succ_cons, List.take_zero, List.drop_succ_cons] at h0 h1 h2 h3 h4 h5 h6
  have hx : ∀ j (hj : j < 7), xs[j]? = some (xs[j]'(by rw [hxl]; exact hj)) := fun j hj => List.getElem?_eq_getElem _
  obtain ⟨z0, e0, _, _⟩ := DataW.trod_int Tryd.underlying3 (h0.trans (hx 0 (by decide)))
  obtain ⟨z1, e1, _, _⟩ := DataW.trod_int Tryd.underlying3 (h1.trans (hx 1 (by decide)))
  obtain ⟨z2, e2, _, _⟩ := DataW.trod_int Tryd.underlying3 (h2.trans (hx 2 (by decide)))
  obtain ⟨z3, e3, _, _⟩ := DataW.trod_int Tryd.underlying3 (h3.trans (hx 3 (by decide)))
  obtain ⟨z4, e4, _, _⟩ := DataW.trod_int Tryd.underlying3 (h4.trans (hx 4 (by decide)))
  obtain ⟨z5, e5, w5, _⟩ := DataW.trod_string Tryd.underlying9 (h5.trans (hx 5 (by decide)))
  obtain ⟨v6, l6, e6, r6, dl6, g6⟩ := open_rd_core etyE Tryd.underlying28 (by kernel_rfl) (fun (x : Ety) (dx : DataW H) => x.data.size ∈ dx.weights Tryd.prog 36) elem_ety (h6.trans (hx 6 (by decide)))
  simp only [List.cons.injEq, and_true] at e0 e1 e2 e3 e4 e5 e6
  subst e0; subst e1; subst e2; subst e3; subst e4; subst e5; subst e6
  obtain ⟨p6, c6, rfl⟩ := r6.shape
  have m5 : (xs.map (·.1))[5]? = some (DataW.lit (.string z5.data.toList)) := by rw [List.getElem?_map, hx 5 (by decide), Option.map_some, w5]
  have m6 : (xs.map (·.1))[6]? = some (xs[6]'(by rw [hxl]; decide)).1 := by rw [List.getElem?_map, hx 6 (by decide), Option.map_some]
  refine ⟨⟨z0, z1, z2, z3, z4, z5, l6⟩, p6, c6, rfl, r6, weigh_field hu (j := 5) rfl m5 _ weigh_string, ?_, fun x hx' => ?_⟩
  · obtain ⟨m, hm1, hm2⟩ := dlen_weight Tryd.underlying28 dl6
    have hb : Tryd.prog.bytesOf 36 = 32 := by kernel_rfl
    rw [hb] at hm1
    exact ⟨m, hm1, hm2.imp id fun hm => weigh_field hu (j := 6) rfl m6 _ hm⟩
  · obtain ⟨dx, gx, hin⟩ := g6 x hx'
    exact weigh_field hu (j := 6) rfl m6 _ (hin _ gx)
theorem elem_asl {H : Type} {enc : TypeId × Value → H} {W : World} (fuel : Nat) (cs : List Value) (y : DataW H × List MemPlace) (h : DataW.trod enc Tryd.prog W 0 (fun _ => true) true fuel 43 cs = some y) :
    ∃ x : AskL, cs = aslE.enc x ∧ (Rd etyE W x.vh x.h.log ∧ Rd intsE W x.vp x.picks ∧ (∀ z ∈ x.picks, z ≤ 9223372036854775807) ∧ (-9223372036854775808 ≤ x.n ∧ x.n ≤ 9223372036854775807)) ∧ x.h.snap.size ∈ y.1.weights Tryd.prog 43 ∧ (∃ m, x.h.log.length * 32 ≤ m ∧ (x.h.log.length = 0 ∨ m ∈ y.1.weights Tryd.prog 43)) ∧ ∀ e ∈ x.h.log, e.data.size ∈ y.1.weights Tryd.prog 43 := by
  have hu := Tryd.underlying43
  obtain ⟨xs, n, rfl, rfl, hlen, hxl, hf⟩ := DataW.trod_struct hu h
  obtain ⟨a0, a1, a2, a3, a4, a5, a6, a7, a8, a9, rfl⟩ := list10 (hlen.trans (by kernel_rfl))
  have k1 : Tryd.prog.cellsOf 3 = 1 := by kernel_rfl
  have k2 : Tryd.prog.cellsOf 30 = 7 := by kernel_rfl
  have k3 : Tryd.prog.cellsOf 41 = 1 := by kernel_rfl
  have h0 : DataW.trod enc Tryd.prog W 0 (fun _ => true) true n 3 (([a0, a1, a2, a3, a4, a5, a6, a7, a8, a9].drop 0).take (Tryd.prog.cellsOf 3)) = xs[0]? := hf 0 _ rfl
  have h1 : DataW.trod enc Tryd.prog W 0 (fun _ => true) true n 3 (([a0, a1, a2, a3, a4, a5, a6, a7, a8, a9].drop 1).take (Tryd.prog.cellsOf 3)) = xs[1]? := hf 1 _ rfl
  have h2 : DataW.trod enc Tryd.prog W 0 (fun _ => true) true n 30 (([a0, a1, a2, a3, a4, a5, a6, a7, a8, a9].drop 2).take (Tryd.prog.cellsOf 30)) = xs[2]? := hf 2 _ rfl
  have h3 : DataW.trod enc Tryd.prog W 0 (fun _ => true) true n 41 (([a0, a1, a2, a3, a4, a5, a6, a7, a8, a9].drop 9).take (Tryd.prog.cellsOf 41)) = xs[3]? := hf 3 _ rfl
  rw [k1] at h0 h1
  rw [k2] at h2
  rw [k3] at h3
  simp only [List.drop_zero, List.take_succ_cons, List.take_zero, List.drop_succ_cons] at h0 h1 h2 h3
  have hx : ∀ j (hj : j < 4), xs[j]? = some (xs[j]'(by rw [hxl]; exact hj)) := fun j hj => List.getElem?_eq_getElem _
  obtain ⟨z0, e0, _, _⟩ := DataW.trod_int Tryd.underlying3 (h0.trans (hx 0 (by decide)))
  obtain ⟨z1, e1, _, l1⟩ := DataW.trod_int Tryd.underlying3 (h1.trans (hx 1 (by decide)))
  obtain ⟨g, p2, c2, e2, hl⟩ := elem_hrd _ _ _ (h2.trans (hx 2 (by decide)))
  obtain ⟨l3, b3, r3⟩ := open_intsL Tryd.underlying41 Tryd.underlying3 (by kernel_rfl) (h3.trans (hx 3 (by decide)))
  simp only [List.cons.injEq, and_true] at e0 e1 e2
  obtain ⟨rfl, rfl, rfl, rfl, rfl, rfl, rfl⟩ := e2
  subst e0; subst e1
  obtain ⟨p3, c3, rfl⟩ := b3.shape
  have m2 : (xs.map (·.1))[2]? = some (xs[2]'(by rw [hxl]; decide)).1 := by rw [List.getElem?_map, hx 2 (by decide), Option.map_some]
  refine ⟨⟨z0, z1, g, p2, c2, p3, c3, l3⟩, rfl, ⟨hl.log, b3, fun z hz => (r3 z hz).2, ?_⟩, weigh_field hu (j := 2) rfl m2 _ hl.snap, ?_, fun e he => weigh_field hu (j := 2) rfl m2 _ (hl.data e he)⟩
  · simp [Lit.wf, IntKind.min, IntKind.max, IntKind.bits, IntKind.signed] at l1; exact l1
  · obtain ⟨m, hm1, hm2⟩ := hl.few
    exact ⟨m, hm1, hm2.imp id fun hm => weigh_field hu (j := 2) rfl m2 _ hm⟩
set_option maxRecDepth 8000 in
theorem open_asls {H : Type} {enc : TypeId × Value → H} {W : World} {base : Nat} {v : Value} {d : DataW H} {p : List MemPlace} {ts : List TypeId} {ds : List (DataW H)} (j : Nat)
    (ht : ts[j]? = some 40) (hd : ds[j]? = some d) (hok : Value.okWide Tryd.prog W .any base 40 v) (h : DataW.Trod enc Tryd.prog W 0 (fun _ => true) true 40 v d p)
    (hsz : (DataW.weightsEach Tryd.prog ts ds).all (· ≤ reachBytes) = true) : ∃ l : List AskL, Rd aslE W v l ∧ ∀ x ∈ l, AskLOk W x := by
  obtain ⟨l, h1, _, h3⟩ := open_rd aslE Tryd.underlying40 (by kernel_rfl) (fun (x : AskL) (dx : DataW H) => (Rd etyE W x.vh x.h.log ∧ Rd intsE W x.vp x.picks ∧ (∀ z ∈ x.picks, z ≤ 9223372036854775807) ∧ (-9223372036854775808 ≤ x.n ∧ x.n ≤ 9223372036854775807)) ∧ x.h.snap.size ∈ dx.weights Tryd.prog 43 ∧ (∃ m, x.h.log.length * 32 ≤ m ∧ (x.h.log.length = 0 ∨ m ∈ dx.weights Tryd.prog 43)) ∧ ∀ e ∈ x.h.log, e.data.size ∈ dx.weights Tryd.prog 43) elem_asl hok h
  refine ⟨l, h1, fun x hx => ?_⟩
  obtain ⟨dx, ⟨⟨g1, g2, g3, g4⟩, g5, ⟨m, hm1, hm2⟩, g6⟩, hin⟩ := h3 x hx
  have hle : ∀ n, n ∈ dx.weights Tryd.prog 43 → n ≤ 140737488351232 := fun n hn => reach_of hsz ht hd (hin _ hn)
  refine ⟨g1, g2, g3, ?_, by have := hle _ g5; omega, fun e he => by have := hle _ (g6 e he); omega, g4⟩
  rcases hm2 with hm2 | hm2
  · rw [hm2]; omega
  · have := hle _ hm2; omega
end Go.Proofs.YtgpgcnmnfnnkjaaDoor
end
