/- Records of a segment, plain: what was written is read; what a power failure leaves of it. Which segment counts, plain. -/
import Derived.Test.YtgpgcnmnfnnkjaaDoorGWalCuts23
import Derived.Test.YtgpgcnmnfnnkjaaDoorGWalCuts22
import Derived.Test.YtgpgcnmnfnnkjaaDoorGWalCuts12
import Derived.Test.YtgpgcnmnfnnkjaaDoorGWalCuts19
set_option linter.unusedVariables false
set_option linter.unusedSimpArgs false
section
namespace Go.Proofs.YtgpgcnmnfnnkjaaDoor
open Go Go.RowKit Go.PlainAid
def Rec.pay : Rec → List UInt8
  | .beg h => numsB [1, h.term, h.vote, h.base, h.bterm, h.members]
  | .ety x => numsB [2, x.term, x.members] ++ textB (bytesOf x.data)
  | .rdy => numsB [3]
  | .vot t v => numsB [4, t, v]
  | .cut n => numsB [5, n]
def fitI (n : Int) : Prop := -9223372036854775808 ≤ n ∧ n ≤ 9223372036854775807
def Rec.ok : Rec → Prop
  | .beg h => fitI h.term ∧ fitI h.vote ∧ fitI h.base ∧ fitI h.bterm ∧ fitI h.members ∧ h.snap = sNone ∧ h.log = []
  | .ety x => fitI x.term ∧ fitI x.members ∧ x.data.size ≤ 1100
  | .rdy => True
  | .vot t v => fitI t ∧ fitI v
  | .cut n => fitI n
theorem fitI_small {n : Nat} (h : n ≤ 1000) : fitI n := ⟨by omega, by omega⟩
/-- a number read behind others -/
theorem rNum_at {L a c : List UInt8} {n : Int} (hL : L = a ++ numB n ++ c) (h : fitI n) : rNum ⟨L, a.length, 0⟩ = (n, ⟨L, (a ++ numB n).length, 0⟩) := by
  subst hL; rw [List.length_append]; exact rNum_back a c h.1 h.2
theorem rEnd_at {L : List UInt8} {n : Nat} (h : n = L.length) : (rEnd ⟨L, n, 0⟩).1 = 0 := by subst h; rw [rEnd_back]
theorem parse_pay (r : Rec) (h : r.ok) : parseR r.pay = some r := by
  cases r with
  | beg g =>
    obtain ⟨h1, h2, h3, h4, h5, h6, h7⟩ := h
    have e1 := rNum_at (L := Rec.pay (.beg g)) (a := []) (c := numsB [g.term, g.vote, g.base, g.bterm, g.members]) (n := 1) (by simp [Rec.pay, numsB]) (by constructor <;> decide)
    have e2 := rNum_at (L := Rec.pay (.beg g)) (a := numB 1) (c := numsB [g.vote, g.base, g.bterm, g.members]) (n := g.term) (by simp [Rec.pay, numsB]) h1
    have e3 := rNum_at (L := Rec.pay (.beg g)) (a := numB 1 ++ numB g.term) (c := numsB [g.base, g.bterm, g.members]) (n := g.vote) (by simp [Rec.pay, numsB]) h2
    have e4 := rNum_at (L := Rec.pay (.beg g)) (a := numB 1 ++ numB g.term ++ numB g.vote) (c := numsB [g.bterm, g.members]) (n := g.base) (by simp [Rec.pay, numsB]) h3
    have e5 := rNum_at (L := Rec.pay (.beg g)) (a := numB 1 ++ numB g.term ++ numB g.vote ++ numB g.base) (c := numsB [g.members]) (n := g.bterm) (by simp [Rec.pay, numsB]) h4
    have e6 := rNum_at (L := Rec.pay (.beg g)) (a := numB 1 ++ numB g.term ++ numB g.vote ++ numB g.base ++ numB g.bterm) (c := []) (n := g.members) (by simp [Rec.pay, numsB]) h5
    have e7 := rEnd_at (L := Rec.pay (.beg g)) (n := (numB 1 ++ numB g.term ++ numB g.vote ++ numB g.base ++ numB g.bterm ++ numB g.members).length) (by simp [Rec.pay, numsB])
    have e1' : rNum (rd0 (Rec.pay (.beg g))) = (1, ⟨Rec.pay (.beg g), (numB 1).length, 0⟩) := e1
    unfold parseR
    dsimp only
    rw [e1', if_pos rfl]
    unfold recBeg ended
    dsimp only
    rw [e2]; dsimp only
    rw [e3]; dsimp only
    rw [e4]; dsimp only
    rw [e5]; dsimp only
    rw [e6]; dsimp only
    rw [if_pos e7]
    cases g; dsimp only at h6 h7; rw [h6, h7]
  | ety x =>
    obtain ⟨h1, h2, h3⟩ := h
    have e1 : rNum (rd0 (Rec.pay (.ety x))) = (2, ⟨Rec.pay (.ety x), (numB 2).length, 0⟩) := rNum_at (L := Rec.pay (.ety x)) (a := []) (c := numsB [x.term, x.members] ++ textB (bytesOf x.data)) (n := 2) (by simp [Rec.pay, numsB]) (by constructor <;> decide)
    have e2 := rNum_at (L := Rec.pay (.ety x)) (a := numB 2) (c := numsB [x.members] ++ textB (bytesOf x.data)) (n := x.term) (by simp [Rec.pay, numsB]) h1
    have e3 := rNum_at (L := Rec.pay (.ety x)) (a := numB 2 ++ numB x.term) (c := textB (bytesOf x.data)) (n := x.members) (by simp [Rec.pay, numsB]) h2
    have e4 := rText_back (numB 2 ++ numB x.term ++ numB x.members) [] (bytesOf x.data) (most := 1100) (by have : (bytesOf x.data).length = x.data.size := by simp [bytesOf]
                                                                                                           omega) (by decide)
    have eL : numB 2 ++ numB x.term ++ numB x.members ++ textB (bytesOf x.data) ++ [] = Rec.pay (.ety x) := by simp [Rec.pay, numsB]
    rw [eL] at e4
    have e5 := rEnd_at (L := Rec.pay (.ety x)) (n := (numB 2 ++ numB x.term ++ numB x.members).length + (textB (bytesOf x.data)).length) (by simp [Rec.pay, numsB]; omega)
    unfold parseR
    dsimp only
    rw [e1, if_neg (by simp), if_pos rfl]
    unfold recEty ended
    dsimp only
    rw [e2]; dsimp only
    rw [e3]; dsimp only
    rw [e4]; dsimp only
    rw [if_pos e5]
    rfl
  | rdy =>
    have e1 : rNum (rd0 (Rec.pay .rdy)) = (3, ⟨Rec.pay .rdy, (numB 3).length, 0⟩) := rNum_at (L := Rec.pay .rdy) (a := []) (c := []) (n := 3) (by simp [Rec.pay, numsB]) (by constructor <;> decide)
    have e5 := rEnd_at (L := Rec.pay .rdy) (n := (numB 3).length) (by simp [Rec.pay, numsB])
    unfold parseR
    dsimp only
    rw [e1, if_neg (by simp), if_neg (by simp), if_pos rfl]
    unfold ended
    dsimp only
    rw [if_pos e5]
  | vot t v =>
    obtain ⟨h1, h2⟩ := h
    have e1 : rNum (rd0 (Rec.pay (.vot t v))) = (4, ⟨Rec.pay (.vot t v), (numB 4).length, 0⟩) := rNum_at (L := Rec.pay (.vot t v)) (a := []) (c := numsB [t, v]) (n := 4) (by simp [Rec.pay, numsB]) (by constructor <;> decide)
    have e2 := rNum_at (L := Rec.pay (.vot t v)) (a := numB 4) (c := numsB [v]) (n := t) (by simp [Rec.pay, numsB]) h1
    have e3 := rNum_at (L := Rec.pay (.vot t v)) (a := numB 4 ++ numB t) (c := []) (n := v) (by simp [Rec.pay, numsB]) h2
    have e5 := rEnd_at (L := Rec.pay (.vot t v)) (n := (numB 4 ++ numB t ++ numB v).length) (by simp [Rec.pay, numsB])
    unfold parseR
    dsimp only
    rw [e1, if_neg (by simp), if_neg (by simp), if_neg (by simp), if_pos rfl]
    unfold recVot ended
    dsimp only
    rw [e2]; dsimp only
    rw [e3]; dsimp only
    rw [if_pos e5]
  | cut n =>
    have e1 : rNum (rd0 (Rec.pay (.cut n))) = (5, ⟨Rec.pay (.cut n), (numB 5).length, 0⟩) := rNum_at (L := Rec.pay (.cut n)) (a := []) (c := numsB [n]) (n := 5) (by simp [Rec.pay, numsB]) (by constructor <;> decide)
    have e2 := rNum_at (L := Rec.pay (.cut n)) (a := numB 5) (c := []) (n := n) (by simp [Rec.pay, numsB]) h
    have e5 := rEnd_at (L := Rec.pay (.cut n)) (n := (numB 5 ++ numB n).length) (by simp [Rec.pay, numsB])
    unfold parseR
    dsimp only
    rw [e1, if_neg (by simp), if_neg (by simp), if_neg (by simp), if_neg (by simp), if_pos rfl]
    unfold recCut ended
    rw [e2]; dsimp only
    rw [if_pos e5]
theorem numB_pos (n : Int) : 1 ≤ (numB n).length := by
  unfold numB
  rw [vint]; split <;> simp
theorem pay_none (r : Rec) (h : r.ok) : Frm.none' r.pay = false := by
  rw [Frm.none_iff]
  cases r with
  | beg g =>
    have := numB_pos 1; have := numB_le 1; have := numB_le g.term; have := numB_le g.vote; have := numB_le g.base; have := numB_le g.bterm; have := numB_le g.members
    simp only [Rec.pay, numsB, List.length_append, List.length_nil]; omega
  | ety x =>
    have := numB_pos 2; have := numB_le 2; have := numB_le x.term; have := numB_le x.members; have := numB_le ((bytesOf x.data).length : Int); have h3 := h.2.2
    have e : (bytesOf x.data).length = x.data.size := by simp [bytesOf]
    simp only [Rec.pay, numsB, textB, List.length_append, List.length_nil]; omega
  | rdy => have := numB_pos 3; have := numB_le 3; simp only [Rec.pay, numsB, List.length_append, List.length_nil]; omega
  | vot t v => have := numB_pos 4; have := numB_le 4; have := numB_le t; have := numB_le v; simp only [Rec.pay, numsB, List.length_append, List.length_nil]; omega
  | cut n => have := numB_pos 5; have := numB_le 5; have := numB_le n; simp only [Rec.pay, numsB, List.length_append, List.length_nil]; omega
/-- records as bytes -/
def catR (K : List Rec) : List UInt8 := Frm.cat (K.map Rec.pay)
def okR (K : List Rec) : Prop := ∀ r ∈ K, r.ok
theorem catR_nil : catR [] = [] := rfl
theorem catR_cons (r : Rec) (K : List Rec) : catR (r :: K) = Frm.one r.pay ++ catR K := rfl
theorem catR_app (K M : List Rec) : catR (K ++ M) = catR K ++ catR M := by unfold catR Frm.cat; rw [List.map_append, List.flatMap_append]
theorem okR_app {K M : List Rec} : okR (K ++ M) ↔ okR K ∧ okR M := by
  unfold okR
  constructor
  · intro h; exact ⟨fun r hr => h r (by simp [hr]), fun r hr => h r (by simp [hr])⟩
  · rintro ⟨h1, h2⟩ r hr
    rcases List.mem_append.1 hr with h | h
    · exact h1 r h
    · exact h2 r h
theorem okR_take {K : List Rec} (h : okR K) (n : Nat) : okR (K.take n) := fun r hr => h r (List.mem_of_mem_take hr)
theorem catR_len {K : List Rec} (h : okR K) : 9 * K.length ≤ (catR K).length := by
  induction K with
  | nil => simp
  | cons r K ih =>
    have h1 := pay_none r (h r (by simp))
    have h2 := Frm.one_length h1
    have h3 := ((Frm.none_iff _).1 h1).1
    have h4 := ih fun x hx => h x (by simp [hx])
    rw [catR_cons, List.length_append, List.length_cons]; omega
/-- records one behind the other -/
def runR (s : Sg) : List Rec → Option Sg
  | [] => some s
  | r :: K => (stepS s r).bind fun t => runR t K
theorem runR_app : ∀ (K M : List Rec) (s : Sg), runR s (K ++ M) = (runR s K).bind fun t => runR t M
  | [], _, _ => rfl
  | r :: K, M, s => by
    rw [List.cons_append, runR, runR]
    cases stepS s r with
    | none => rfl
    | some t => exact runR_app K M t
theorem runR_take {s t : Sg} {K : List Rec} (h : runR s K = some t) (n : Nat) : ∃ u, runR s (K.take n) = some u ∧ runR u (K.drop n) = some t := by
  rw [← List.take_append_drop n K, runR_app] at h
  cases hu : runR s (K.take n) with
  | none => rw [hu] at h; cases h
  | some u => rw [hu] at h; exact ⟨u, rfl, h⟩
theorem stepS_at {s t : Sg} {r : Rec} (h : stepS s r = some t) (n : Nat) : stepS { s with size := n } r = some { t with size := n } := by
  cases r with
  | beg g => replace h : beganS s g = some t := h; show beganS _ g = _; unfold beganS at *; split at h <;> cases h; rename_i hc; rw [if_pos hc]
  | ety x =>
    replace h : (if s.begun = true then grownS s x else none) = some t := h
    show (if s.begun = true then grownS { s with size := n } x else none) = _
    split at h
    · rename_i hb; rw [if_pos hb]; unfold grownS at *; split at h <;> cases h; rename_i hc; rw [if_pos hc]
    · cases h
  | rdy => replace h : doneS s = some t := h; show doneS _ = _; unfold doneS at *; split at h <;> cases h; rename_i hc; rw [if_pos hc]
  | vot a b => replace h : votedS s a b = some t := h; show votedS _ a b = _; unfold votedS at *; split at h <;> cases h; rename_i hc; rw [if_pos hc]
  | cut m => replace h : shorterS s m = some t := h; show shorterS _ m = _; unfold shorterS at *; split at h <;> cases h; rename_i hc; rw [if_pos hc]
theorem runR_at : ∀ (K : List Rec) {s t : Sg} (_ : runR s K = some t) (n : Nat), runR { s with size := n } K = some { t with size := n }
  | [], s, t, h, n => by cases h; rfl
  | r :: K, s, t, h, n => by
    rw [runR] at h ⊢
    cases hs : stepS s r with
    | none => rw [hs] at h; cases h
    | some u => rw [hs] at h; rw [stepS_at hs n]; exact runR_at K h n
theorem runR_size : ∀ (K : List Rec) {s t : Sg} (_ : runR s K = some t), t.size = s.size
  | [], s, t, h => by cases h; rfl
  | r :: K, s, t, h => by
    rw [runR] at h
    cases hs : stepS s r with
    | none => rw [hs] at h; cases h
    | some u => rw [hs] at h; rw [runR_size K h, stepS_size hs]
/-- a frame that is there, at a place -/
theorem frm_at {a : List UInt8} {r : Rec} (h : r.ok) (c : List UInt8) : Frm.errAt (a ++ (Frm.one r.pay ++ c)) (a.length : Nat) = 0 ∧ Frm.payAt (a ++ (Frm.one r.pay ++ c)) (a.length : Nat) = r.pay ∧ Frm.toAt (a ++ (Frm.one r.pay ++ c)) (a.length : Nat) = ((a.length + (Frm.one r.pay).length : Nat) : Int) := by
  have h1 := pay_none r h
  obtain ⟨w1, w2, w3, _⟩ := Frm.whole h1 c
  have hd : (a ++ (Frm.one r.pay ++ c)).drop ((a.length : Nat) : Int).toNat = Frm.one r.pay ++ c := by rw [Int.toNat_natCast, List.drop_left]
  have he : Frm.errAt (a ++ (Frm.one r.pay ++ c)) (a.length : Nat) = 0 := by
    unfold Frm.errAt
    rw [if_neg (by rw [List.length_append]; omega), hd]; exact w1
  refine ⟨he, ?_, ?_⟩
  · unfold Frm.payAt; rw [if_pos he, hd]; exact w3
  · unfold Frm.toAt; rw [if_pos he, hd, w2, Frm.one_length h1]; omega
/-- more fuel changes nothing -/
theorem readS_fuel : ∀ (f g : Nat) (b : List UInt8) (s : Sg), s.size ≤ b.length → b.length < f + s.size → b.length < g + s.size → readS f b s = readS g b s
  | 0, g, b, s, h0, hf, hg => by omega
  | f + 1, 0, b, s, h0, hf, hg => by omega
  | f + 1, g + 1, b, s, h0, hf, hg => by
    rw [readS, readS]
    split
    · rename_i he
      obtain ⟨n, h1, h2, h3, _⟩ := frm_in h0 he
      split
      · rename_i t ht
        rw [h1, Int.toNat_natCast]
        exact readS_fuel f g b _ h3 (by show b.length < f + n; omega) (by show b.length < g + n; omega)
      · rfl
    · rfl
/-- records that run are read -/
theorem readS_run : ∀ (K : List Rec) {s t : Sg} {a c : List UInt8} (f : Nat), okR K → runR s K = some t → s.size = a.length → (a ++ (catR K ++ c)).length < f + s.size →
    ∃ g, (a ++ (catR K ++ c)).length < g + (a.length + (catR K).length) ∧ readS f (a ++ (catR K ++ c)) s = readS g (a ++ (catR K ++ c)) { t with size := a.length + (catR K).length }
  | [], s, t, a, c, f, _, h, hs, hf => by
    cases h
    refine ⟨f, by rw [hs] at hf; exact hf, ?_⟩
    show readS f (a ++ c) s = readS f (a ++ c) { s with size := a.length + 0 }
    rw [Nat.add_zero, ← hs]
  | r :: K, s, t, a, c, f, ok, h, hs, hf => by
    have hr := ok r (by simp)
    rw [runR] at h
    cases hu : stepS s r with
    | none => rw [hu] at h; cases h
    | some u =>
      rw [hu] at h
      replace h : runR u K = some t := h
      have e0 : a ++ (catR (r :: K) ++ c) = a ++ (Frm.one r.pay ++ (catR K ++ c)) := by rw [catR_cons, List.append_assoc]
      have e1 : a ++ (catR (r :: K) ++ c) = (a ++ Frm.one r.pay) ++ (catR K ++ c) := by rw [e0, List.append_assoc]
      obtain ⟨q1, q2, q3⟩ := frm_at (a := a) hr (catR K ++ c)
      have hol := Frm.one_length (pay_none r hr)
      have hle : a.length + (Frm.one r.pay).length ≤ (a ++ (catR (r :: K) ++ c)).length := by rw [e1, List.length_append, List.length_append]; omega
      cases f with
      | zero => rw [hs] at hf; omega
      | succ f =>
        have ht : takeS s (Frm.payAt (a ++ (catR (r :: K) ++ c)) s.size) = some u := by
          rw [e0, hs, q2]; unfold takeS; rw [parse_pay r hr]; exact hu
        have he : Frm.errAt (a ++ (catR (r :: K) ++ c)) s.size = 0 := by rw [e0, hs]; exact q1
        have hto : (Frm.toAt (a ++ (catR (r :: K) ++ c)) s.size).toNat = (a ++ Frm.one r.pay).length := by rw [e0, hs, q3, Int.toNat_natCast, List.length_append]
        rw [readS_go he ht, hto]
        have hru := runR_at K h (a ++ Frm.one r.pay).length
        have hla : (a ++ Frm.one r.pay).length = a.length + (Frm.one r.pay).length := List.length_append
        obtain ⟨g, g1, g2⟩ := readS_run K (s := { u with size := (a ++ Frm.one r.pay).length }) (a := a ++ Frm.one r.pay) (c := c) f (fun x hx => ok x (by simp [hx])) hru rfl (by
          rw [← e1]; show _ < f + (a ++ Frm.one r.pay).length; rw [hla]; omega)
        rw [← e1] at g1 g2
        have e2 : (a ++ Frm.one r.pay).length + (catR K).length = a.length + (catR (r :: K)).length := by rw [catR_cons, List.length_append, List.length_append]; omega
        rw [e2] at g1 g2
        exact ⟨g, g1, g2⟩
/-- records that run, and no frame behind them: that is what is read -/
theorem readSeg_run {K : List Rec} {t : Sg} {c : List UInt8} (ok : okR K) (h : runR sg0 K = some t) (hc : Frm.err c ≠ 0) : readSeg (catR K ++ c) = { t with size := (catR K).length } := by
  obtain ⟨g, g1, g2⟩ := readS_run K (a := []) (c := c) ((catR K ++ c).length + 1) ok h rfl (by show ([] ++ (catR K ++ c)).length < _; simp [sg0])
  unfold readSeg
  rw [List.nil_append] at g1 g2
  rw [g2]
  simp only [List.length_nil, Nat.zero_add] at g1 ⊢
  refine readS_stop ?_
  show Frm.errAt (catR K ++ c) ((catR K).length : Nat) ≠ 0
  unfold Frm.errAt
  rw [if_neg (by rw [List.length_append]; omega), Int.toNat_natCast, List.drop_left]
  exact hc
theorem err_nil : Frm.err [] ≠ 0 := by decide
theorem readSeg_all {K : List Rec} {t : Sg} (ok : okR K) (h : runR sg0 K = some t) : readSeg (catR K) = { t with size := (catR K).length } := by
  have := readSeg_run (c := []) ok h err_nil
  rwa [List.append_nil] at this
end Go.Proofs.YtgpgcnmnfnnkjaaDoor
end

section
namespace Go.Proofs.YtgpgcnmnfnnkjaaDoor
open Go Go.RowKit Go.PlainAid
theorem insW_mem (out : List Nat) (n x : Nat) : x ∈ insW out n ↔ x = n ∨ x ∈ out := by
  unfold insW
  constructor
  · intro h
    rcases List.mem_append.1 h with h | h
    · exact .inr (List.mem_of_mem_take h)
    · rcases List.mem_cons.1 h with h | h
      · exact .inl h
      · exact .inr (List.mem_of_mem_drop h)
  · intro h
    rcases h with rfl | h
    · simp
    · rw [← List.take_append_drop (posR out n out.length) out] at h
      rcases List.mem_append.1 h with h | h
      · exact List.mem_append.2 (.inl h)
      · exact List.mem_append.2 (.inr (List.mem_cons_of_mem _ h))
theorem segs_mem : ∀ (l : List ByteArray) (out : List Nat) (n : Nat), n ∈ l.foldl segStep out ↔ n ∈ out ∨ (n ≠ 0 ∧ ∃ s ∈ l, numW s = n)
  | [], out, n => by simp
  | s :: l, out, n => by
    rw [List.foldl_cons, segs_mem l]
    unfold segStep
    constructor
    · rintro (h | ⟨h0, t, ht, hn⟩)
      · split at h
        · exact .inl h
        · rename_i hz
          rcases (insW_mem _ _ _).1 h with rfl | h
          · exact .inr ⟨hz, s, by simp, rfl⟩
          · exact .inl h
      · exact .inr ⟨h0, t, by simp [ht], hn⟩
    · rintro (h | ⟨h0, t, ht, hn⟩)
      · split
        · exact .inl h
        · exact .inl ((insW_mem _ _ _).2 (.inr h))
      · rcases List.mem_cons.1 ht with rfl | ht
        · rw [if_neg (by rw [hn]; exact h0)]
          exact .inl ((insW_mem _ _ _).2 (.inl hn.symm))
        · exact .inr ⟨h0, t, ht, hn⟩
theorem posR_spec (out : List Nat) (n : Nat) : ∀ k, (∀ i, posR out n k ≤ i → i < k → n < out.getD i 0) ∧ (0 < posR out n k → out.getD (posR out n k - 1) 0 ≤ n)
  | 0 => ⟨fun i h1 h2 => by omega, fun h => by simp [posR] at h⟩
  | k + 1 => by
    obtain ⟨h1, h2⟩ := posR_spec out n k
    rw [posR]
    split
    · rename_i hc
      refine ⟨fun i i1 i2 => ?_, h2⟩
      by_cases e : i = k
      · subst e; exact hc
      · exact h1 i i1 (by omega)
    · rename_i hc
      exact ⟨fun i i1 i2 => by omega, fun _ => by rw [Nat.add_sub_cancel]; omega⟩
def RiseN (l : List Nat) : Prop := l.Pairwise (· ≤ ·)
theorem getD_at {l : List Nat} {i : Nat} (h : i < l.length) : l.getD i 0 = l[i] := by rw [List.getD_eq_getElem?_getD, List.getElem?_eq_getElem h]; rfl
theorem insW_rise {out : List Nat} (h : RiseN out) (n : Nat) : RiseN (insW out n) := by
  obtain ⟨h1, h2⟩ := posR_spec out n out.length
  have hle := posR_le out n out.length
  unfold insW RiseN at *
  generalize posR out n out.length = p at *
  have hp := h
  rw [List.pairwise_iff_getElem] at hp
  rw [List.pairwise_append]
  have hlo : ∀ a ∈ out.take p, a ≤ n := fun a ha => by
    obtain ⟨i, hi, rfl⟩ := List.getElem_of_mem ha
    rw [List.length_take] at hi
    rw [List.getElem_take]
    have h3 := h2 (by omega)
    rw [getD_at (by omega)] at h3
    by_cases e : i = p - 1
    · subst e; exact h3
    · exact Nat.le_trans (hp i (p - 1) (by omega) (by omega) (by omega)) h3
  have hhi : ∀ b ∈ out.drop p, n ≤ b := fun b hb => by
    obtain ⟨i, hi, rfl⟩ := List.getElem_of_mem hb
    rw [List.length_drop] at hi
    rw [List.getElem_drop]
    have := h1 (p + i) (by omega) (by omega)
    rw [getD_at (by omega)] at this
    omega
  refine ⟨h.sublist (List.take_sublist _ _), List.pairwise_cons.2 ⟨hhi, h.sublist (List.drop_sublist _ _)⟩, fun a ha b hb => ?_⟩
  rcases List.mem_cons.1 hb with rfl | hb
  · exact hlo a ha
  · exact Nat.le_trans (hlo a ha) (hhi b hb)
theorem segs_rise : ∀ (l : List ByteArray) (out : List Nat), RiseN out → RiseN (l.foldl segStep out)
  | [], out, h => h
  | s :: l, out, h => by
    rw [List.foldl_cons]
    refine segs_rise l _ ?_
    unfold segStep
    split
    · exact h
    · exact insW_rise h _
def segsD (d : Dk) : List Nat := segsW (d.fs.map (·.name))
theorem get_mem {l : List Fil} {s : ByteArray} : getF l s ≠ none ↔ ∃ f ∈ l, f.name = s := by
  constructor
  · intro h
    cases hf : getF l s with
    | none => exact absurd hf h
    | some f =>
      obtain ⟨j, hj, _, e, en⟩ := get_at hf
      exact ⟨f, e ▸ List.getElem_mem hj, en⟩
  · rintro ⟨f, hf, rfl⟩ h
    exact get_none h f hf rfl
theorem segs_iff (d : Dk) (n : Nat) : n ∈ segsD d ↔ okN n ∧ getF d.fs (nameW n) ≠ none := by
  unfold segsD segsW
  rw [segs_mem, get_mem]
  constructor
  · rintro (h | ⟨h0, s, hs, hn⟩)
    · cases h
    · obtain ⟨f, hf, rfl⟩ := List.mem_map.1 hs
      have hz : numW f.name ≠ 0 := by rw [hn]; exact h0
      obtain ⟨h1, h2⟩ := name_num hz
      rw [hn] at h1 h2
      exact ⟨h1, f, hf, h2⟩
  · rintro ⟨h1, f, hf, e⟩
    exact .inr ⟨by have := h1.1; omega, f.name, List.mem_map.2 ⟨f, hf, rfl⟩, by rw [e]; exact numW_name h1⟩
theorem fileW_get (d : Dk) (n : Nat) : fileW d n = ((getF d.fs (nameW n)).map (·.data)).getD [] := by unfold fileW; rw [read_getF]
theorem fileW_some {d : Dk} {n : Nat} {f : Fil} (h : getF d.fs (nameW n) = some f) : fileW d n = f.data := by rw [fileW_get, h]; rfl
theorem pickW_spec (d : Dk) (n : Nat) : ∀ (l : List Nat), n ∈ l → (l.Pairwise fun a b => b ≤ a) → (readSeg (fileW d n)).whole = true → (∀ k ∈ l, n < k → (readSeg (fileW d k)).whole = false) → pickW d l = some (n, readSeg (fileW d n))
  | [], h, _, _, _ => by cases h
  | k :: r, h, hs, hw, hno => by
    rw [show pickW d (k :: r) = if (readSeg (fileW d k)).whole then some (k, readSeg (fileW d k)) else pickW d r from rfl]
    rw [List.pairwise_cons] at hs
    by_cases e : k = n
    · subst e; rw [if_pos hw]
    · have hr : n ∈ r := by
        rcases List.mem_cons.1 h with h | h
        · exact absurd h.symm e
        · exact h
      have hlt := hs.1 n hr
      rw [if_neg (by rw [hno k (by simp) (by omega)]; decide)]
      exact pickW_spec d n r hr hs.2 hw fun x hx => hno x (by simp [hx])
theorem pickN_spec {d : Dk} {n : Nat} (hn : okN n) {f : Fil} (hf : getF d.fs (nameW n) = some f) (hw : (readSeg f.data).whole = true) (hno : ∀ k, okN k → n < k → ∀ g, getF d.fs (nameW k) = some g → (readSeg g.data).whole = false) : pickN d = (n, readSeg f.data) := by
  have e := fileW_some hf
  have h1 : n ∈ (segsD d).reverse := List.mem_reverse.2 ((segs_iff d n).2 ⟨hn, by rw [hf]; simp⟩)
  have h2 : (segsD d).reverse.Pairwise fun a b => b ≤ a := List.pairwise_reverse.2 (segs_rise _ [] List.Pairwise.nil)
  have h3 := pickW_spec d n _ h1 h2 (by rw [e]; exact hw) fun k hk hlt => by
    obtain ⟨k1, k2⟩ := (segs_iff d k).1 (List.mem_reverse.1 hk)
    cases hg : getF d.fs (nameW k) with
    | none => exact absurd hg k2
    | some g => rw [fileW_some hg]; exact hno k k1 hlt g hg
  unfold pickN
  show (pickW d (segsD d).reverse).getD (0, sg0) = _
  rw [h3, e]; rfl
theorem pickN_none {d : Dk} (h : ∀ k, okN k → getF d.fs (nameW k) = none) : pickN d = (0, sg0) := by
  have : segsD d = [] := by
    rw [List.eq_nil_iff_forall_not_mem]
    intro n hn
    obtain ⟨h1, h2⟩ := (segs_iff d n).1 hn
    exact h2 (h n h1)
  unfold pickN
  show (pickW d (segsD d).reverse).getD (0, sg0) = _
  rw [this]; rfl
end Go.Proofs.YtgpgcnmnfnnkjaaDoor
end
