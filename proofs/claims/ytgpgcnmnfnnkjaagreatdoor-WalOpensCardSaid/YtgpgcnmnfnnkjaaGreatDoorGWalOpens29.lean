/- The document's log, plain words: what it takes of a record, where a segment's number goes, what its Save leaves. Walks of package wal: a Wal in memory; Hard, same. The document's Same of two Hards. -/
import Derived.Test.YtgpgcnmnfnnkjaaGreatDoorGWalOpens12
import Derived.Test.YtgpgcnmnfnnkjaaGreatDoorGWalOpens28
import Derived.Test.YtgpgcnmnfnnkjaaGreatDoorGWalOpens24
set_option linter.unusedVariables false
set_option linter.unusedSimpArgs false
section
namespace Go.Proofs.YtgpgcnmnfnnkjaaGreatDoor
open Go Go.RowKit Go.PlainAid
def takeR (h : Hrd) (opn : Bool) (p : List UInt8) : Option (Hrd × Int) := (parseR p).bind fun r => (docStep h opn r).map fun g => (g, r.kind)
theorem takeR_bad {h : Hrd} {o : Bool} {p : List UInt8} (e : parseR p = none) : takeR h o p = none := by unfold takeR; rw [e]; rfl
theorem takeR_rec {h : Hrd} {o : Bool} {p : List UInt8} {r : Rec} (e : parseR p = some r) : takeR h o p = (docStep h o r).map fun g => (g, r.kind) := by unfold takeR; rw [e]; rfl
theorem stepS_whole {s t : Sg} {r : Rec} (ok : SgOk s) (hb : s.begun = true) (h : stepS s r = some t) : t.begun = true ∧ t.whole = (s.whole || decide (r.kind = 3)) := by
 cases r with
 | beg g => replace h : beganS s g = some t := h; unfold beganS at h; rw [if_neg (by rw [hb]; simp)] at h; cases h
 | ety x =>
  replace h : (if s.begun = true then grownS s x else none) = some t := h
  rw [if_pos hb] at h
  unfold grownS at h
  split at h <;> cases h
  exact ⟨hb, by simp [Rec.kind]⟩
 | rdy => replace h : doneS s = some t := h; unfold doneS at h; split at h <;> cases h; exact ⟨hb, by simp [Rec.kind]⟩
 | vot a b => replace h : votedS s a b = some t := h; unfold votedS at h; split at h <;> cases h; exact ⟨hb, by simp [Rec.kind]⟩
 | cut n => replace h : shorterS s n = some t := h; unfold shorterS at h; split at h <;> cases h; exact ⟨hb, by simp [Rec.kind]⟩
theorem take_none {s : Sg} (ok : SgOk s) (hb : s.begun = true) {p : List UInt8} (h : takeR s.h (!s.whole) p = none) : takeS s p = none := by
 cases hp : parseR p with
 | none => unfold takeS; rw [hp]; rfl
 | some r =>
  rw [takeR_rec hp, doc_step ok hb] at h
  unfold takeS; rw [hp]
  show stepS s r = none
  cases hs : stepS s r with
  | none => rfl
  | some t => rw [hs] at h; cases h
theorem take_some {s : Sg} (ok : SgOk s) (hb : s.begun = true) {p : List UInt8} {g : Hrd} {k : Int} (h : takeR s.h (!s.whole) p = some (g, k)) : ∃ t, takeS s p = some t ∧ t.h = g ∧ t.begun = true ∧ t.whole = (s.whole || decide (k = 3)) ∧ k ≠ 0 := by
 cases hp : parseR p with
 | none => rw [takeR_bad hp] at h; cases h
 | some r =>
  rw [takeR_rec hp, doc_step ok hb] at h
  cases hs : stepS s r with
  | none => rw [hs] at h; cases h
  | some t =>
   rw [hs] at h
   obtain ⟨h1, h2⟩ := stepS_whole ok hb hs
   have e1 : t.h = g := by cases h; rfl
   have e2 : r.kind = k := by cases h; rfl
   refine ⟨t, ?_, e1, h1, ?_, ?_⟩
   · unfold takeS; rw [hp]; exact hs
   · rw [h2, e2]
   · rw [← e2]; cases r <;> (intro h; cases h)
theorem ins_fall {out : List Nat} {n i : Nat} (hi : i ≤ out.length) (h1 : ∀ j, j < i → n < out.getD j 0) (h2 : i < out.length → out.getD i 0 ≤ n) : out.take i ++ n :: out.drop i = (insW out.reverse n).reverse := by
 have key : ∀ k, k ≤ out.length → out.length - i ≤ k → posR out.reverse n k = out.length - i := by
  intro k
  induction k with
  | zero => intro _ h; rw [posR]; omega
  | succ k ih =>
   intro hk hle
   rw [posR]
   have hr : out.reverse.getD k 0 = out.getD (out.length - 1 - k) 0 := by
    rw [List.getD_eq_getElem?_getD, List.getD_eq_getElem?_getD, List.getElem?_reverse (by omega)]
   rw [hr]
   by_cases e : out.length - i = k + 1
   · rw [if_neg, e]
     have := h2 (by omega)
     rw [show out.length - 1 - k = i from by omega]; omega
   · rw [if_pos (h1 _ (by omega))]
     exact ih (by omega) (by omega)
 unfold insW
 rw [List.length_reverse, key _ (Nat.le_refl _) (by omega)]
 rw [List.reverse_append, List.reverse_cons, List.drop_reverse, List.take_reverse, List.reverse_reverse, List.reverse_reverse]
 rw [show out.length - (out.length - i) = i from by omega]
 simp
def keepR (w : Wl) (h : Hrd) (r : Int × Nat × Dk) : Int × Wl × Dk := if r.1 = 0 then (0, ⟨r.2.1, bareOf h, false⟩, r.2.2) else (r.1, ⟨w.n, w.h, true⟩, r.2.2)
def saveR (d : Dk) (w : Wl) (h : Hrd) : Int × Wl × Dk :=
 if rightH h = false then (1, w, d)
 else if w.down = true then (18, w, d)
 else if 0 < w.n ∧ sameW w.h h = true then (0, w, d)
 else if anewW d w h = false then keepR w h ((writeD d w.n (moreB w.h h)).1, w.n, (writeD d w.n (moreB w.h h)).2)
 else if 99999999999999 ≤ w.n then (14, w, d)
 else keepR w h (layW d w.n h)
structure Alk (a b : Wl) : Prop where
 h : a.h = b.h
 down : a.down = b.down
 n : a.down = false → a.n = b.n
theorem Alk.refl (a : Wl) : Alk a a := ⟨rfl, rfl, fun _ => rfl⟩
theorem few_digits (n : Nat) : 14 < (Lib.decDigits (n + 1)).length ↔ 99999999999999 ≤ n := by
 constructor
 · intro h
   by_cases hc : n + 1 ≤ 99999999999999
   · have := dec_few hc; omega
   · omega
 · intro h
   by_cases hc : 14 < (Lib.decDigits (n + 1)).length
   · exact hc
   · exfalso
     have h1 := decW_val (n + 1)
     have h2 : ∀ (l : List UInt8) (m : Nat), (∀ c ∈ l, digB c = true) → valW l m < (m + 1) * 10 ^ l.length := by
      intro l
      induction l with
      | nil => intro m _; simp [valW]
      | cons c r ih =>
       intro m hd
       have hc := hd c (by simp)
       unfold digB at hc
       simp only [Bool.and_eq_true, decide_eq_true_eq] at hc
       have h3 := ih (10 * m + (c.toNat - 48)) (fun x hx => hd x (by simp [hx]))
       have h4 : valW (c :: r) m = valW r (10 * m + (c.toNat - 48)) := rfl
       rw [h4, List.length_cons, Nat.pow_succ]
       have h5 : (10 * m + (c.toNat - 48) + 1) * 10 ^ r.length ≤ ((m + 1) * 10) * 10 ^ r.length := Nat.mul_le_mul_right _ (by omega)
       have h6 : (m + 1) * 10 * 10 ^ r.length = (m + 1) * (10 ^ r.length * 10) := by rw [Nat.mul_assoc, Nat.mul_comm 10]
       omega
     have h3 := h2 (Lib.decDigits (n + 1)) 0 (decW_all (n + 1))
     rw [h1] at h3
     have h4 : (10 : Nat) ^ (Lib.decDigits (n + 1)).length ≤ 10 ^ 14 := Nat.pow_le_pow_right (by decide) (by omega)
     have h5 : (10 : Nat) ^ 14 = 100000000000000 := by decide
     omega
theorem keep_alk {a b : Wl} {h : Hrd} {r : Int × Nat × Dk} (e : a.h = b.h) : (keepW a h r).1 = (keepR b h r).1 ∧ (keepW a h r).2.2 = (keepR b h r).2.2 ∧ Alk (keepW a h r).2.1 (keepR b h r).2.1 := by
 unfold keepW keepR
 split
 · exact ⟨rfl, rfl, Alk.refl _⟩
 · exact ⟨rfl, rfl, ⟨e, rfl, fun h => by cases h⟩⟩
theorem save_alk {a b : Wl} (d : Dk) (h : Hrd) (k : Alk a b) : (saveW d a h).1 = (saveR d b h).1 ∧ (saveW d a h).2.2 = (saveR d b h).2.2 ∧ Alk (saveW d a h).2.1 (saveR d b h).2.1 := by
 obtain ⟨k1, k2, k3⟩ := k
 unfold saveW saveR
 by_cases hr : rightH h = false
 · rw [if_pos hr, if_pos hr]; exact ⟨rfl, rfl, ⟨k1, k2, k3⟩⟩
 rw [if_neg hr, if_neg hr]
 by_cases hd : a.down = true
 · have hdb : b.down = true := by rw [← k2]; exact hd
   rw [if_pos hd, if_pos hdb]; exact ⟨rfl, rfl, ⟨k1, k2, k3⟩⟩
 have hd2 : a.down = false := by cases hx : a.down; rfl; exact absurd hx hd
 have kn := k3 hd2
 have hdb : ¬ b.down = true := by rw [← k2]; exact hd
 rw [if_neg hd, if_neg hdb]
 have eAb : anewW d a h = anewW d b h := by unfold anewW; rw [k1, kn]
 rw [k1, kn, eAb]
 by_cases hs : 0 < b.n ∧ sameW b.h h = true
 · rw [if_pos hs, if_pos hs]; exact ⟨rfl, rfl, ⟨k1, k2, k3⟩⟩
 rw [if_neg hs, if_neg hs]
 by_cases ha : anewW d b h = false
 · rw [if_pos ha, if_pos ha]; exact keep_alk k1
 rw [if_neg ha, if_neg ha]
 by_cases hf : 99999999999999 ≤ b.n
 · rw [if_pos ((few_digits b.n).2 hf), if_pos hf]; exact ⟨rfl, rfl, ⟨k1, k2, k3⟩⟩
 · have hf2 : ¬ 14 < (Lib.decDigits (b.n + 1)).length := fun h => hf ((few_digits b.n).1 h)
   rw [if_neg hf2, if_neg hf]; exact keep_alk k1
end Go.Proofs.YtgpgcnmnfnnkjaaGreatDoor
end

section
namespace Go.Proofs.YtgpgcnmnfnnkjaaGreatDoor
open Go Go.RowKit Go.PlainAid BigFrame
attribute [local go_sem] After.same
@[reducible] def walA (g : Nat) (ws : Wl) (v : Value) : Array Value := #[.pointer (some ⟨g, 0, none⟩), .int .i64 (ws.n : Int), .int .i64 ws.h.term, .int .i64 ws.h.vote, .int .i64 ws.h.base, .int .i64 ws.h.bterm, .int .i64 ws.h.members, .string ws.h.snap, v, .bool ws.down]
structure WalV (w : World) (X : Nat → Prop) (g gw : Nat) (v : Value) (ws : Wl) : Prop where
 blk : Blk w gw (walA g ws v) 100
 log : Rd etyE w v ws.h.log
 inX : X gw
 lX : ∀ k, v.ownBlock = some k → X k
 off : v.ownBlock ≠ some gw
 few : ws.h.log.length ≤ 200
 num : ws.n ≤ 99999999999999
section
variable {w0 w w' : World} {X Y : Nat → Prop} {g gw : Nat} {v : Value} {ws : Wl} {d d' : Dk}
theorem WalV.c0 (h : WalV w X g gw v ws) : w.cell? ⟨gw, 0, none⟩ = some (.pointer (some ⟨g, 0, none⟩)) := h.blk.cell 0 _ rfl
theorem WalV.c1 (h : WalV w X g gw v ws) : w.cell? ⟨gw, 1, none⟩ = some (.int .i64 (ws.n : Int)) := h.blk.cell 1 _ rfl
theorem WalV.c2 (h : WalV w X g gw v ws) : w.cell? ⟨gw, 2, none⟩ = some (.int .i64 ws.h.term) := h.blk.cell 2 _ rfl
theorem WalV.c3 (h : WalV w X g gw v ws) : w.cell? ⟨gw, 3, none⟩ = some (.int .i64 ws.h.vote) := h.blk.cell 3 _ rfl
theorem WalV.c4 (h : WalV w X g gw v ws) : w.cell? ⟨gw, 4, none⟩ = some (.int .i64 ws.h.base) := h.blk.cell 4 _ rfl
theorem WalV.c5 (h : WalV w X g gw v ws) : w.cell? ⟨gw, 5, none⟩ = some (.int .i64 ws.h.bterm) := h.blk.cell 5 _ rfl
theorem WalV.c6 (h : WalV w X g gw v ws) : w.cell? ⟨gw, 6, none⟩ = some (.int .i64 ws.h.members) := h.blk.cell 6 _ rfl
theorem WalV.c7 (h : WalV w X g gw v ws) : w.cell? ⟨gw, 7, none⟩ = some (.string ws.h.snap) := h.blk.cell 7 _ rfl
theorem WalV.c8 (h : WalV w X g gw v ws) : w.cell? ⟨gw, 8, none⟩ = some v := h.blk.cell 8 _ rfl
theorem WalV.c9 (h : WalV w X g gw v ws) : w.cell? ⟨gw, 9, none⟩ = some (.bool ws.down) := h.blk.cell 9 _ rfl
theorem WalV.chg {G : Nat → Prop} (h : WalV w X g gw v ws) (hc : Chg G w w') (hG : ∀ k, X k → ¬ G k) : WalV w' X g gw v ws :=
 ⟨hc.blk h.blk (hG _ h.inX), hc.cells h.log (fun k hk => hG k (h.lX k hk)), h.inX, h.lX, h.off, h.few, h.num⟩
theorem WalV.keep (h : WalV w X g gw v ws) (hc : Chg (Gx w0 X) w w') : WalV w' X g gw v ws := h.chg hc fun k hk hG => hG.2 hk
theorem WalV.ext (h : WalV w X g gw v ws) (hb : Below w.heap.size w w') : WalV w' X g gw v ws := h.chg (G := fun _ => False) (.of_below hb) fun _ _ => id
end

set_option maxRecDepth 8000 in
set_option maxHeartbeats 2000000 in
theorem walHard {w : World} {X : Nat → Prop} {g gw : Nat} {v : Value} {ws : Wl} (h : WalV w X g gw v ws) :
 Calls Tryz.prog 21 #[.pointer (some ⟨gw, 0, none⟩)] w fun e w' => ∃ v', e = .returned (hrdA (bareOf ws.h) v') ∧ OwnR etyE w' w.heap.size 73 v' ws.h.log ∧ Below w.heap.size w w' := by
 obtain ⟨p, cap, rfl⟩ := h.log.shape
 have hgw := h.blk.lt
 have ca := below_alloc w (.cells #[.int .i64 0, .int .i64 0, .int .i64 0, .int .i64 0, .int .i64 0, .string ⟨#[]⟩, .slice none 0 0] 24)
 have kz := Blk.new w #[.int .i64 0, .int .i64 0, .int .i64 0, .int .i64 0, .int .i64 0, .string ⟨#[]⟩, .slice none 0 0] 24
 have h2 := h.ext ca
 have hfew := h.few
 have q0 := h.c0
 have q1 := h.c1
 have q2 := h.c2
 have q3 := h.c3
 have q4 := h.c4
 have q5 := h.c5
 have q6 := h.c6
 have q7 := h.c7
 have q8 := h.c8
 have q9 := h.c9
 have hcall := walCopied ws.h (.slice p ws.h.log.length cap) (w.alloc (.cells #[.int .i64 0, .int .i64 0, .int .i64 0, .int .i64 0, .int .i64 0, .string ⟨#[]⟩, .slice none 0 0] 24)) h2.log (by omega)
 clear h2
 go_enter Tryz.func21, Tryz.ntmps21
 go_wp2_with fail
 refine hcall.mono ?_
 rintro e w3 ⟨v3, rfl, own3, b3⟩
 obtain ⟨p3, c3, rfl⟩ := own3.rd.shape
 have kz3 := kz.ext b3
 have b03 := ca.trans (b3.mono (by simp))
 have y0 := kz3.cell 0 _ rfl
 have z0 := kz3.frozen 0
 have y1 := kz3.cell 1 _ rfl
 have z1 := kz3.frozen 1
 have y2 := kz3.cell 2 _ rfl
 have z2 := kz3.frozen 2
 have y3 := kz3.cell 3 _ rfl
 have z3 := kz3.frozen 3
 have y4 := kz3.cell 4 _ rfl
 have z4 := kz3.frozen 4
 have y5 := kz3.cell 5 _ rfl
 have z5 := kz3.frozen 5
 have y6 := kz3.cell 6 _ rfl
 have z6 := kz3.frozen 6
 have hsz1 : (w.alloc (.cells #[.int .i64 0, .int .i64 0, .int .i64 0, .int .i64 0, .int .i64 0, .string ⟨#[]⟩, .slice none 0 0] 24)).heap.size = w.heap.size + 1 := by simp
 have hfar : ∀ k, (Value.slice p3 ws.h.log.length c3).ownBlock = some k → ¬ k = w.heap.size := fun k hk e => by have := (own3.lt k hk).1; omega
 have own4 := own3.base (show w.heap.size ≤ _ by omega)
 clear hcall kz kz3
 go_wp2_with fail
 have hc := ((((((((Chg.refl (fun k => k = w.heap.size) w3).setCell (p := ⟨w.heap.size, 0, none⟩) rfl (.int .i64 ws.h.term)).setCell (p := ⟨w.heap.size, 1, none⟩) rfl (.int .i64 ws.h.vote)).setCell (p := ⟨w.heap.size, 2, none⟩) rfl (.int .i64 ws.h.base)).setCell (p := ⟨w.heap.size, 3, none⟩) rfl (.int .i64 ws.h.bterm)).setCell (p := ⟨w.heap.size, 4, none⟩) rfl (.int .i64 ws.h.members)).setCell (p := ⟨w.heap.size, 5, none⟩) rfl (.string ⟨#[]⟩)).setCell (p := ⟨w.heap.size, 6, none⟩) rfl (.slice p3 ws.h.log.length c3))
 refine bodyPost_ret (v := hrdA (bareOf ws.h) (.slice p3 ws.h.log.length c3)) (by simp [results, Tryz.results21, go_sem, *]) rfl ?_
 exact ⟨_, rfl, hc.ownR own4 hfar, b03.trans (hc.below (B := w.heap.size) (fun k hk => by rw [hk]; exact Nat.le_refl _) b03.size)⟩

theorem sameW_iff (x h : Hrd) : sameW x h = true ↔ (h.term = x.term ∧ h.vote = x.vote ∧ h.base = x.base ∧ h.bterm = x.bterm ∧ h.members = x.members ∧ h.log.length = x.log.length ∧ commonE h.log x.log = h.log.length) := by
 unfold sameW; simp only [Bool.and_eq_true, decide_eq_true_eq, and_assoc]
theorem no_of {b : Bool} {P : Prop} (hi : b = true ↔ P) (h : ¬ P) : false = b := by
 cases b
 · rfl
 · exact absurd (hi.1 rfl) h
set_option maxRecDepth 8000 in
set_option maxHeartbeats 4000000 in
theorem walSame {w : World} {X : Nat → Prop} {g gw : Nat} {v : Value} {ws : Wl} (hw : WalV w X g gw v ws) (h : Hrd) (u : Value) (hu : Rd etyE w u h.log) :
 Calls Tryz.prog 70 #[.pointer (some ⟨gw, 0, none⟩), hrdA h u] w fun e w' => e = .returned (.bool (sameW ws.h h)) ∧ Below w.heap.size w w' := by
 obtain ⟨p, cap, rfl⟩ := hu.shape
 obtain ⟨q, caq, rfl⟩ := hw.log.shape
 have hgw := hw.blk.lt
 have hgw2 : gw < w.heap.size + 1 := by omega
 have q2 := hw.c2
 have q3 := hw.c3
 have q4 := hw.c4
 have q5 := hw.c5
 have q6 := hw.c6
 have q7 := hw.c7
 have q8 := hw.c8
 have bW : Below w.heap.size w ((w.alloc (.cells #[.int .i64 h.term, .int .i64 h.vote, .int .i64 h.base, .int .i64 h.bterm, .int .i64 h.members, .string h.snap, .slice p h.log.length cap] 24)).alloc (.cells #[.int .i64 ws.h.term, .int .i64 ws.h.vote, .int .i64 ws.h.base, .int .i64 ws.h.bterm, .int .i64 ws.h.members, .string ws.h.snap, .slice q ws.h.log.length caq] 24)) := (below_alloc _ _).trans ((below_alloc _ _).mono (by simp))
 have kA := (Blk.new w #[.int .i64 h.term, .int .i64 h.vote, .int .i64 h.base, .int .i64 h.bterm, .int .i64 h.members, .string h.snap, .slice p h.log.length cap] 24).ext (below_alloc _ (.cells #[.int .i64 ws.h.term, .int .i64 ws.h.vote, .int .i64 ws.h.base, .int .i64 ws.h.bterm, .int .i64 ws.h.members, .string ws.h.snap, .slice q ws.h.log.length caq] 24))
 have kB := Blk.new (w.alloc (.cells #[.int .i64 h.term, .int .i64 h.vote, .int .i64 h.base, .int .i64 h.bterm, .int .i64 h.members, .string h.snap, .slice p h.log.length cap] 24)) #[.int .i64 ws.h.term, .int .i64 ws.h.vote, .int .i64 ws.h.base, .int .i64 ws.h.bterm, .int .i64 ws.h.members, .string ws.h.snap, .slice q ws.h.log.length caq] 24
 rw [show (w.alloc (.cells #[.int .i64 h.term, .int .i64 h.vote, .int .i64 h.base, .int .i64 h.bterm, .int .i64 h.members, .string h.snap, .slice p h.log.length cap] 24)).heap.size = w.heap.size + 1 from by simp] at kB
 have hiff := sameW_iff ws.h h
 have hz0 : ∀ z : After ((w.alloc (.cells #[.int .i64 h.term, .int .i64 h.vote, .int .i64 h.base, .int .i64 h.bterm, .int .i64 h.members, .string h.snap, .slice p h.log.length cap] 24)).alloc (.cells #[.int .i64 ws.h.term, .int .i64 ws.h.vote, .int .i64 ws.h.base, .int .i64 ws.h.bterm, .int .i64 ws.h.members, .string ws.h.snap, .slice q ws.h.log.length caq] 24)), z.1.cell? ⟨w.heap.size, 6, none⟩ = some (.slice p h.log.length cap) := fun z => (kA.ext z.2).cell 6 _ rfl
 have hz1 : ∀ z : After ((w.alloc (.cells #[.int .i64 h.term, .int .i64 h.vote, .int .i64 h.base, .int .i64 h.bterm, .int .i64 h.members, .string h.snap, .slice p h.log.length cap] 24)).alloc (.cells #[.int .i64 ws.h.term, .int .i64 ws.h.vote, .int .i64 ws.h.base, .int .i64 ws.h.bterm, .int .i64 ws.h.members, .string ws.h.snap, .slice q ws.h.log.length caq] 24)), z.1.cell? ⟨w.heap.size + 1, 6, none⟩ = some (.slice q ws.h.log.length caq) := fun z => (kB.ext z.2).cell 6 _ rfl
 have hcl : ∀ z : After ((w.alloc (.cells #[.int .i64 h.term, .int .i64 h.vote, .int .i64 h.base, .int .i64 h.bterm, .int .i64 h.members, .string h.snap, .slice p h.log.length cap] 24)).alloc (.cells #[.int .i64 ws.h.term, .int .i64 ws.h.vote, .int .i64 ws.h.base, .int .i64 ws.h.bterm, .int .i64 ws.h.members, .string ws.h.snap, .slice q ws.h.log.length caq] 24)), Calls Tryz.prog 103 #[.slice p h.log.length cap, .slice q ws.h.log.length caq] z.1 fun e w' => e = .returned (.int .i64 (commonE h.log ws.h.log : Nat)) ∧ ∃ y : After ((w.alloc (.cells #[.int .i64 h.term, .int .i64 h.vote, .int .i64 h.base, .int .i64 h.bterm, .int .i64 h.members, .string h.snap, .slice p h.log.length cap] 24)).alloc (.cells #[.int .i64 ws.h.term, .int .i64 ws.h.vote, .int .i64 ws.h.base, .int .i64 ws.h.bterm, .int .i64 ws.h.members, .string ws.h.snap, .slice q ws.h.log.length caq] 24)), w' = y.1 := fun z => z.call (walCommon _ _ _ _ z.1 ((hu.ext bW).ext z.2) ((hw.log.ext bW).ext z.2))
 have Hiff := Lib.hid hiff
 clear hiff kA kB hu hw
 generalize sameW ws.h h = R at *
 by_cases e0 : h.term = ws.h.term
 case neg =>
  have n0 : (h.term != ws.h.term) = true := by simpa using e0
  have Hr := Lib.hid (no_of Hiff.out (fun hh => e0 hh.1))
  clear e0 hz0 hz1 hcl Hiff
  go_enter Tryz.func70, Tryz.ntmps70
  go_wp2
  go_ret
  exact ⟨ret_bool Hr.out, bW⟩
 have n0 : (h.term != ws.h.term) = false := by simpa using e0
 have E0 := Lib.hid e0
 clear e0
 by_cases e1 : h.vote = ws.h.vote
 case neg =>
  have n1 : (h.vote != ws.h.vote) = true := by simpa using e1
  have Hr := Lib.hid (no_of Hiff.out (fun hh => e1 hh.2.1))
  clear e1 hz0 hz1 hcl Hiff
  go_enter Tryz.func70, Tryz.ntmps70
  go_wp2
  go_ret
  exact ⟨ret_bool Hr.out, bW⟩
 have n1 : (h.vote != ws.h.vote) = false := by simpa using e1
 have E1 := Lib.hid e1
 clear e1
 by_cases e2 : h.base = ws.h.base
 case neg =>
  have n2 : (h.base != ws.h.base) = true := by simpa using e2
  have Hr := Lib.hid (no_of Hiff.out (fun hh => e2 hh.2.2.1))
  clear e2 hz0 hz1 hcl Hiff
  go_enter Tryz.func70, Tryz.ntmps70
  go_wp2
  go_ret
  exact ⟨ret_bool Hr.out, bW⟩
 have n2 : (h.base != ws.h.base) = false := by simpa using e2
 have E2 := Lib.hid e2
 clear e2
 by_cases e3 : h.bterm = ws.h.bterm
 case neg =>
  have n3 : (h.bterm != ws.h.bterm) = true := by simpa using e3
  have Hr := Lib.hid (no_of Hiff.out (fun hh => e3 hh.2.2.2.1))
  clear e3 hz0 hz1 hcl Hiff
  go_enter Tryz.func70, Tryz.ntmps70
  go_wp2
  go_ret
  exact ⟨ret_bool Hr.out, bW⟩
 have n3 : (h.bterm != ws.h.bterm) = false := by simpa using e3
 have E3 := Lib.hid e3
 clear e3
 by_cases e4 : h.members = ws.h.members
 case neg =>
  have n4 : (h.members != ws.h.members) = true := by simpa using e4
  have Hr := Lib.hid (no_of Hiff.out (fun hh => e4 hh.2.2.2.2.1))
  clear e4 hz0 hz1 hcl Hiff
  go_enter Tryz.func70, Tryz.ntmps70
  go_wp2
  go_ret
  exact ⟨ret_bool Hr.out, bW⟩
 have n4 : (h.members != ws.h.members) = false := by simpa using e4
 have E4 := Lib.hid e4
 clear e4
 by_cases hl : h.log.length = ws.h.log.length
 · have hl1 : ((h.log.length : Int) == (ws.h.log.length : Int)) = true := by simp [hl]
   by_cases hc : commonE h.log ws.h.log = h.log.length
   · have hc1 : ((commonE h.log ws.h.log : Nat) : Int) == (h.log.length : Int) := by simp [hc]
     have Hr := Lib.hid (Hiff.out.2 ⟨E0.out, E1.out, E2.out, E3.out, E4.out, hl, hc⟩)
     clear hl hc Hiff
     generalize commonE h.log ws.h.log = C at *
     go_enter Tryz.func70, Tryz.ntmps70
     go_wp2_with fail
     generalize (w.alloc (.cells #[.int .i64 h.term, .int .i64 h.vote, .int .i64 h.base, .int .i64 h.bterm, .int .i64 h.members, .string h.snap, .slice p h.log.length cap] 24)).alloc (.cells #[.int .i64 ws.h.term, .int .i64 ws.h.vote, .int .i64 ws.h.base, .int .i64 ws.h.bterm, .int .i64 ws.h.members, .string ws.h.snap, .slice q ws.h.log.length caq] 24) = W at *
     refine wp_region_after (by kernel_rfl) (by kernel_rfl) ?_
     repeat (go_big_quiet_step (exact hcl _))
     refine wpQuiet_nil ?_
     rintro w7 ⟨⟨w8, c7⟩, hw⟩
     obtain rfl : w7 = w8 := hw
     have hb7 := bW.trans (c7.mono bW.size)
     clear hcl hz0 hz1
     go_wp2_with fail
     go_ret
     exact ⟨ret_bool Hr.out.symm, hb7⟩
   · have hc1 : (((commonE h.log ws.h.log : Nat) : Int) == (h.log.length : Int)) = false := by simp; omega
     have Hr := Lib.hid (no_of Hiff.out (fun hh => hc hh.2.2.2.2.2.2))
     clear hl hc Hiff
     generalize commonE h.log ws.h.log = C at *
     go_enter Tryz.func70, Tryz.ntmps70
     go_wp2_with fail
     generalize (w.alloc (.cells #[.int .i64 h.term, .int .i64 h.vote, .int .i64 h.base, .int .i64 h.bterm, .int .i64 h.members, .string h.snap, .slice p h.log.length cap] 24)).alloc (.cells #[.int .i64 ws.h.term, .int .i64 ws.h.vote, .int .i64 ws.h.base, .int .i64 ws.h.bterm, .int .i64 ws.h.members, .string ws.h.snap, .slice q ws.h.log.length caq] 24) = W at *
     refine wp_region_after (by kernel_rfl) (by kernel_rfl) ?_
     repeat (go_big_quiet_step (exact hcl _))
     refine wpQuiet_nil ?_
     rintro w7 ⟨⟨w8, c7⟩, hw⟩
     obtain rfl : w7 = w8 := hw
     have hb7 := bW.trans (c7.mono bW.size)
     clear hcl hz0 hz1
     go_wp2_with fail
     go_ret
     exact ⟨ret_bool Hr.out, hb7⟩
 · have hl1 : ((h.log.length : Int) == (ws.h.log.length : Int)) = false := by simp; omega
   have Hr := Lib.hid (no_of Hiff.out (fun hh => hl hh.2.2.2.2.2.1))
   clear hl Hiff
   go_enter Tryz.func70, Tryz.ntmps70
   go_wp2_with fail
   generalize (w.alloc (.cells #[.int .i64 h.term, .int .i64 h.vote, .int .i64 h.base, .int .i64 h.bterm, .int .i64 h.members, .string h.snap, .slice p h.log.length cap] 24)).alloc (.cells #[.int .i64 ws.h.term, .int .i64 ws.h.vote, .int .i64 ws.h.base, .int .i64 ws.h.bterm, .int .i64 ws.h.members, .string ws.h.snap, .slice q ws.h.log.length caq] 24) = W at *
   refine wp_region_after (by kernel_rfl) (by kernel_rfl) ?_
   repeat (go_big_quiet_step (exact hcl _))
   refine wpQuiet_nil ?_
   rintro w7 ⟨⟨w8, c7⟩, hw⟩
   obtain rfl : w7 = w8 := hw
   have hb7 := bW.trans (c7.mono bW.size)
   clear hcl hz0 hz1
   go_wp2_with fail
   go_ret
   exact ⟨ret_bool Hr.out, hb7⟩
end Go.Proofs.YtgpgcnmnfnnkjaaGreatDoor
end

section
namespace Go.Proofs.YtgpgcnmnfnnkjaaGreatDoor
open Go Go.RowKit Go.PlainAid BigFrame
attribute [local go_sem] After.same
theorem etyEq_eq {x y : Ety} (h : etyEq x y = true) : x = y := by
 unfold etyEq at h
 simp only [Bool.and_eq_true, decide_eq_true_eq] at h
 obtain ⟨⟨h1, h2⟩, h3⟩ := h
 have := (eqS_iff _ _).1 h3
 cases x; cases y; simp_all
theorem etyEq_self (x : Ety) : etyEq x x = true := by
 unfold etyEq; simp [eqS_refl]
theorem commonE_all : ∀ {a b : List Ety}, a.length = b.length → commonE a b = a.length → a = b
 | [], [], _, _ => rfl
 | [], _ :: _, h, _ => by simp at h
 | _ :: _, [], h, _ => by simp at h
 | x :: r, y :: s, h, hc => by
  rw [commonE] at hc
  split at hc
  · rename_i e
    have e1 : x = y := etyEq_eq e
    have e2 : r = s := commonE_all (by simpa using h) (by simpa using hc)
    rw [e1, e2]
  · simp at hc
theorem commonE_self : ∀ (a : List Ety), commonE a a = a.length
 | [] => rfl
 | x :: r => by rw [commonE, if_pos (etyEq_self x), commonE_self r]; rfl
theorem same_iff (h x : Hrd) : h = x ↔ (h.term = x.term ∧ h.vote = x.vote ∧ h.base = x.base ∧ h.bterm = x.bterm ∧ h.members = x.members ∧ h.snap = x.snap ∧ h.log.length = x.log.length ∧ commonE h.log x.log = h.log.length) := by
 constructor
 · rintro rfl; exact ⟨rfl, rfl, rfl, rfl, rfl, rfl, rfl, commonE_self _⟩
 · rintro ⟨h1, h2, h3, h4, h5, h6, h7, h8⟩
   have := commonE_all h7 h8
   cases h; cases x; simp_all
theorem gs_ext {a b : ByteArray} (h : a.toList = b.toList) : a = b := (eqS_iff a b).1 (by unfold eqS; simp [h])
open Classical in
set_option maxRecDepth 8000 in
set_option maxHeartbeats 4000000 in
theorem refSame {w : World} (h x : Hrd) (u v : Value) (hu : Rd etyE w u h.log) (hv : Rd etyE w v x.log) :
 Calls Tryz.prog 20 #[hrdA h u, hrdA x v] w fun e w' => e = .returned (.bool (decide (h = x))) ∧ Below w.heap.size w w' := by
 obtain ⟨p, cap, rfl⟩ := hu.shape
 obtain ⟨q, caq, rfl⟩ := hv.shape
 have m1 := hu.le
 unfold maxLen at m1
 have bW : Below w.heap.size w ((w.alloc (.cells #[.int .i64 h.term, .int .i64 h.vote, .int .i64 h.base, .int .i64 h.bterm, .int .i64 h.members, .string h.snap, .slice p h.log.length cap] 24)).alloc (.cells #[.int .i64 x.term, .int .i64 x.vote, .int .i64 x.base, .int .i64 x.bterm, .int .i64 x.members, .string x.snap, .slice q x.log.length caq] 24)) := (below_alloc _ _).trans ((below_alloc _ _).mono (by simp))
 have hu2 := hu.ext bW
 have hv2 := hv.ext bW
 have hiff : (decide (h = x)) = true ↔ _ := (decide_eq_true_iff (p := h = x)).trans (same_iff h x)
 have Hiff := Lib.hid hiff
 have hle := commonE_le h.log x.log
 have kA := (Blk.new w #[.int .i64 h.term, .int .i64 h.vote, .int .i64 h.base, .int .i64 h.bterm, .int .i64 h.members, .string h.snap, .slice p h.log.length cap] 24).ext (below_alloc _ (.cells #[.int .i64 x.term, .int .i64 x.vote, .int .i64 x.base, .int .i64 x.bterm, .int .i64 x.members, .string x.snap, .slice q x.log.length caq] 24))
 have kB := Blk.new (w.alloc (.cells #[.int .i64 h.term, .int .i64 h.vote, .int .i64 h.base, .int .i64 h.bterm, .int .i64 h.members, .string h.snap, .slice p h.log.length cap] 24)) #[.int .i64 x.term, .int .i64 x.vote, .int .i64 x.base, .int .i64 x.bterm, .int .i64 x.members, .string x.snap, .slice q x.log.length caq] 24
 rw [show (w.alloc (.cells #[.int .i64 h.term, .int .i64 h.vote, .int .i64 h.base, .int .i64 h.bterm, .int .i64 h.members, .string h.snap, .slice p h.log.length cap] 24)).heap.size = w.heap.size + 1 from by simp] at kB
 have hz0 : ((w.alloc (.cells #[.int .i64 h.term, .int .i64 h.vote, .int .i64 h.base, .int .i64 h.bterm, .int .i64 h.members, .string h.snap, .slice p h.log.length cap] 24)).alloc (.cells #[.int .i64 x.term, .int .i64 x.vote, .int .i64 x.base, .int .i64 x.bterm, .int .i64 x.members, .string x.snap, .slice q x.log.length caq] 24)).cell? ⟨w.heap.size, 6, none⟩ = some (.slice p h.log.length cap) := kA.cell 6 _ rfl
 have hz1 : ((w.alloc (.cells #[.int .i64 h.term, .int .i64 h.vote, .int .i64 h.base, .int .i64 h.bterm, .int .i64 h.members, .string h.snap, .slice p h.log.length cap] 24)).alloc (.cells #[.int .i64 x.term, .int .i64 x.vote, .int .i64 x.base, .int .i64 x.bterm, .int .i64 x.members, .string x.snap, .slice q x.log.length caq] 24)).cell? ⟨w.heap.size + 1, 6, none⟩ = some (.slice q x.log.length caq) := kB.cell 6 _ rfl
 clear hiff hu hv kA kB
 generalize decide (h = x) = R at *
 by_cases e0 : h.term = x.term
 case neg =>
  have n0 : (h.term != x.term) = true := by simpa using e0
  have Hr := Lib.hid (no_of Hiff.out (fun hh => e0 hh.1))
  clear e0 hu2 hv2 hz0 hz1 Hiff
  go_enter Tryz.func20, Tryz.ntmps20
  go_wp2
  go_ret
  exact ⟨ret_bool Hr.out, bW⟩

 have n0 : (h.term != x.term) = false := by simpa using e0
 have E0 := Lib.hid e0
 clear e0
 by_cases e1 : h.vote = x.vote
 case neg =>
  have n1 : (h.vote != x.vote) = true := by simpa using e1
  have Hr := Lib.hid (no_of Hiff.out (fun hh => e1 hh.2.1))
  clear e1 hu2 hv2 hz0 hz1 Hiff
  go_enter Tryz.func20, Tryz.ntmps20
  go_wp2
  go_ret
  exact ⟨ret_bool Hr.out, bW⟩

 have n1 : (h.vote != x.vote) = false := by simpa using e1
 have E1 := Lib.hid e1
 clear e1
 by_cases e2 : h.base = x.base
 case neg =>
  have n2 : (h.base != x.base) = true := by simpa using e2
  have Hr := Lib.hid (no_of Hiff.out (fun hh => e2 hh.2.2.1))
  clear e2 hu2 hv2 hz0 hz1 Hiff
  go_enter Tryz.func20, Tryz.ntmps20
  go_wp2
  go_ret
  exact ⟨ret_bool Hr.out, bW⟩

 have n2 : (h.base != x.base) = false := by simpa using e2
 have E2 := Lib.hid e2
 clear e2
 by_cases e3 : h.bterm = x.bterm
 case neg =>
  have n3 : (h.bterm != x.bterm) = true := by simpa using e3
  have Hr := Lib.hid (no_of Hiff.out (fun hh => e3 hh.2.2.2.1))
  clear e3 hu2 hv2 hz0 hz1 Hiff
  go_enter Tryz.func20, Tryz.ntmps20
  go_wp2
  go_ret
  exact ⟨ret_bool Hr.out, bW⟩

 have n3 : (h.bterm != x.bterm) = false := by simpa using e3
 have E3 := Lib.hid e3
 clear e3
 by_cases e4 : h.members = x.members
 case neg =>
  have n4 : (h.members != x.members) = true := by simpa using e4
  have Hr := Lib.hid (no_of Hiff.out (fun hh => e4 hh.2.2.2.2.1))
  clear e4 hu2 hv2 hz0 hz1 Hiff
  go_enter Tryz.func20, Tryz.ntmps20
  go_wp2
  go_ret
  exact ⟨ret_bool Hr.out, bW⟩

 have n4 : (h.members != x.members) = false := by simpa using e4
 have E4 := Lib.hid e4
 clear e4
 by_cases e5 : h.snap = x.snap
 case neg =>
  have n5 : ¬ h.snap.toList = x.snap.toList := fun h5 => e5 (gs_ext h5)
  have Hr := Lib.hid (no_of Hiff.out (fun hh => e5 hh.2.2.2.2.2.1))
  clear e5 hu2 hv2 hz0 hz1 Hiff
  go_enter Tryz.func20, Tryz.ntmps20
  go_wp2
  go_ret
  exact ⟨ret_bool Hr.out, bW⟩

 have n5 : h.snap.toList = x.snap.toList := by rw [e5]
 have E5 := Lib.hid e5
 clear e5
 by_cases el : h.log.length = x.log.length
 case neg =>
  have nl : ((h.log.length : Int) != (x.log.length : Int)) = true := by simp; omega
  have Hr := Lib.hid (no_of Hiff.out (fun hh => el hh.2.2.2.2.2.2.1))
  clear el hu2 hv2 hz0 hz1 Hiff
  go_enter Tryz.func20, Tryz.ntmps20
  go_wp2
  go_ret
  exact ⟨ret_bool Hr.out, bW⟩
 have nl : ((h.log.length : Int) != (x.log.length : Int)) = false := by simp; omega
 have El := Lib.hid el
 clear el
 go_enter Tryz.func20, Tryz.ntmps20
 go_wp2
 generalize hZ : (w.alloc (.cells #[.int .i64 h.term, .int .i64 h.vote, .int .i64 h.base, .int .i64 h.bterm, .int .i64 h.members, .string h.snap, .slice p h.log.length cap] 24)).alloc (.cells #[.int .i64 x.term, .int .i64 x.vote, .int .i64 x.base, .int .i64 x.bterm, .int .i64 x.members, .string x.snap, .slice q x.log.length caq] 24) = W at *
 clear hZ
 go_loopw [5] (fun i wr => ∃ (k m : Nat), i = .int .i64 k ∧ wr = W.drewN m ∧ k ≤ commonE h.log x.log) (fun i _ => h.log.length - (intOf i).toNat)
 case atStart => exact ⟨0, 0, rfl, rfl, Nat.zero_le _⟩
 case round =>
  obtain ⟨k, m, rfl, rfl, hk⟩ := hrel
  have hi0 : (0 : Int) ≤ (k : Int) := by omega
  by_cases ha : k < h.log.length
  · have ha1 : (k : Int) < (h.log.length : Int) := by omega
    have hb : k < x.log.length := by have := El.out; omega
    have hb1 : (k : Int) < (x.log.length : Int) := by omega
    obtain ⟨ba, oa, rfl⟩ := Rd.blk hu2 (by omega)
    obtain ⟨bb, ob, rfl⟩ := Rd.blk hv2 (by omega)
    obtain ⟨a0, a1, a2⟩ := ety3 hu2 ha
    obtain ⟨b0, b1, b2⟩ := ety3 hv2 hb
    have hat := commonE_at hk ha hb
    have Hat := Lib.hid hat
    clear hat
    generalize h.log[k] = s at *
    generalize x.log[k] = y at *
    have heql := fun (z : World) => neq_ety s y z
    cases he : etyEq s y with
    | true =>
     rw [he] at heql Hat
     have Hk1 := Lib.hid (show k + 1 ≤ commonE h.log x.log by have := Hat.out; rw [if_pos rfl] at this; omega)
     clear he
     go_wp2
     go_quiet (fail)
     go_wp2
     go_roundw
     case rel => exact ⟨k + 1, _, by go_num, rfl, Hk1.out⟩
     case measure => simp [intOf]; omega
    | false =>
     rw [he] at heql Hat
     have Hr := Lib.hid (no_of Hiff.out (fun hh => by have := Hat.out; rw [if_neg (by simp)] at this; have := hh.2.2.2.2.2.2.2; omega))
     clear he
     go_wp2
     go_quiet (fail)
     go_wp2
     go_ret
     exact ⟨ret_bool Hr.out, bW.trans (((below_drawn W.heap.size W m).trans (below_drawn _ _ nq)).mono bW.size)⟩
  · have ha1 : ¬ (k : Int) < (h.log.length : Int) := by omega
    have Hr := Lib.hid (Hiff.out.2 ⟨E0.out, E1.out, E2.out, E3.out, E4.out, E5.out, El.out, by omega⟩)
    go_wp2
    go_ret
    exact ⟨ret_bool Hr.out.symm, bW.trans ((below_drawn W.heap.size W m).mono bW.size)⟩
end Go.Proofs.YtgpgcnmnfnnkjaaGreatDoor
end
