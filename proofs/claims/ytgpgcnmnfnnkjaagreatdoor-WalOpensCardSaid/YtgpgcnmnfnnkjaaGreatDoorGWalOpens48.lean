/- What WalOpens wants beside: elements of []api.Hard, Append at both disks. -/
import Derived.Test.YtgpgcnmnfnnkjaaGreatDoorGWalOpens47
import Derived.Test.YtgpgcnmnfnnkjaaGreatDoorGWalOpens30
import Derived.Test.YtgpgcnmnfnnkjaaGreatDoorGWalOpens44
import Derived.Test.YtgpgcnmnfnnkjaaGreatDoorGWalOpens43
import Derived.Test.YtgpgcnmnfnnkjaaGreatDoorGWalOpens2
set_option linter.unusedVariables false
set_option linter.unusedSimpArgs false
section
namespace Go.Proofs.YtgpgcnmnfnnkjaaGreatDoor
open Go Go.RowKit Go.PlainAid BigFrame
theorem hdl7 {w : World} {b off n c : Nat} {l : List HdL} (h : Rd hdlE w (.slice (some ⟨b, off, none⟩) n c) l) {k : Nat} (hk : k < l.length) : w.cell? ⟨b, off + k * 7, none⟩ = some (.int .i64 l[k].h.term) ∧ w.cell? ⟨b, off + k * 7 + 1, none⟩ = some (.int .i64 l[k].h.vote) ∧ w.cell? ⟨b, off + k * 7 + 2, none⟩ = some (.int .i64 l[k].h.base) ∧ w.cell? ⟨b, off + k * 7 + 3, none⟩ = some (.int .i64 l[k].h.bterm) ∧ w.cell? ⟨b, off + k * 7 + 4, none⟩ = some (.int .i64 l[k].h.members) ∧ w.cell? ⟨b, off + k * 7 + 5, none⟩ = some (.string l[k].h.snap) ∧ w.cell? ⟨b, off + k * 7 + 6, none⟩ = some (.slice l[k].p l[k].h.log.length l[k].c) :=
 ⟨h.at_ hk 0 (by decide), h.at_ hk 1 (by decide), h.at_ hk 2 (by decide), h.at_ hk 3 (by decide), h.at_ hk 4 (by decide), h.at_ hk 5 (by decide), h.at_ hk 6 (by decide)⟩
theorem OnD.appended {d : Dk} (h : OnD d) (s : ByteArray) (p : List UInt8) : OnD (appendD d s p).2 := by
 rw [h.append]
 split
 · exact h
 · split
   · exact h
   · exact h.fs _
def sfxO : List ByteArray := [⟨#[49]⟩, ⟨#[50]⟩, ⟨#[57]⟩, ⟨#[49, 48]⟩, ⟨#[48, 55]⟩, ⟨#[120]⟩, ⟨#[]⟩]
theorem sfx_size {k : Nat} (h : k < sfxO.length) : sfxO[k].size ≤ 2 := by
 have : ∀ s ∈ sfxO, s.size ≤ 2 := by decide
 exact this _ (List.getElem_mem h)
theorem read_le {m : Nat} {d : Dk} (pi : PInv m d) (s : ByteArray) : ((readD d s).getD []).length ≤ 4194304 := by
 rw [read_getF]
 cases hg : getF d.fs s with
 | none => simp
 | some f =>
  have hm : f ∈ d.fs := List.mem_of_find?_eq_some hg
  have h1 := totD_mem hm
  have h2 := pi.l.tot
  show f.data.length ≤ _; omega
structure HopS (w0 w : World) (gF gw : Nat) (X : Nat → Prop) (d : Dk) (v : Value) (wt : Wl) : Prop where
 rf : RfS w0 X gF d w
 rv : RwV w X gF gw v wt
 hb : Below w0.heap.size w0 w
 gw0 : w0.heap.size ≤ gw
section
variable {w0 w w' : World} {X Y : Nat → Prop} {gD gR : Nat} {d dR d' : Dk}
theorem HopS.ext {gF gw : Nat} {v : Value} {wt : Wl} (h : HopS w0 w gF gw X d v wt) (hb : Below w.heap.size w w') : HopS w0 w' gF gw X d v wt :=
 ⟨h.rf.ext hb, h.rv.ext hb, h.hb.trans (hb.mono h.hb.size), h.gw0⟩
theorem TwoD.appD (h : TwoD w0 X gD gR d dR w) (ok : okD d = true) {s : ByteArray} {p : List UInt8} (hs : s.size ≤ 4611686018427387904) {vp : Value} (hp : Bytes w vp p) (hv : p ≠ [] → ∀ k, vp.ownBlock = some k → k < w0.heap.size ∨ X k) :
 Calls Tryz.prog 17 #[.pointer (some ⟨gD, 0, none⟩), .string s, vp] w fun e w' => (∃ E : Int, e = .returned (.int .i64 E)) ∧ TwoD w0 X gD gR (appendD d s p).2 dR w' ∧ Chg (Gx w0 X) w w' := by
 obtain ⟨Y, h1, _, h2, h3⟩ := h.prog
 refine (lAppend h2 ok (E := (appendD d s p).1) (d' := (appendD d s p).2) rfl hs hp (fun hne k hk => (hv hne k hk).imp id (h1 k))).mono ?_
 rintro e w' ⟨rfl, h4, h5⟩
 obtain ⟨X', a1, _, _, a4⟩ := h3 Y _ _ w' (fun _ h => h) (fun _ h => .inl h) h4 h5 (fun _ h => .inl h)
 exact ⟨⟨_, rfl⟩, a4.mono a1, h5.mono fun k _ hk => ⟨hk.1, fun hx => hk.2 (h1 k hx)⟩⟩
theorem TwoD.appR (h : TwoD w0 X gD gR d dR w) (ok : okD dR = true) {s : ByteArray} {p : List UInt8} (hs : s.size ≤ 4611686018427387904) (hpb : p.length ≤ 4611686018427387904) {vp : Value} (hp : Bytes w vp p) (hv : p ≠ [] → ∀ k, vp.ownBlock = some k → k < w0.heap.size ∨ X k) :
 Calls Tryz.prog 18 #[.pointer (some ⟨gR, 0, none⟩), .string s, vp] w fun e w' => (∃ E : Int, e = .returned (.int .i64 E)) ∧ TwoD w0 X gD gR d (appendD dR s p).2 w' ∧ Chg (Gx w0 X) w w' := by
 obtain ⟨Y, h1, _, h2, h3⟩ := h.doc
 refine (rAppend h2 ok (E := (appendD dR s p).1) (d' := (appendD dR s p).2) rfl hs hpb hp (fun hne k hk => (hv hne k hk).imp id (h1 k))).mono ?_
 rintro e w' ⟨rfl, h4, h5⟩
 obtain ⟨X', a1, _, _, a4⟩ := h3 Y _ _ w' (fun _ h => h) (fun _ h => .inl h) h4 h5 (fun _ h => .inl h)
 exact ⟨⟨_, rfl⟩, a4.mono a1, h5.mono fun k _ hk => ⟨hk.1, fun hx => hk.2 (h1 k hx)⟩⟩
end
end Go.Proofs.YtgpgcnmnfnnkjaaGreatDoor
end
