/- The write-ahead log on a disk, plain law: what a power failure leaves, what Open makes of it, what Save makes of it. What Open leaves, opened again, is the same: plain. The walk of the store's Open. -/
import Derived.Test.YtgpgcnmnfnnkjaaDoorGStoreRuns22
import Derived.Test.YtgpgcnmnfnnkjaaDoorGStoreRuns32
import Derived.Test.YtgpgcnmnfnnkjaaDoorGStoreRuns38
import Derived.Test.YtgpgcnmnfnnkjaaDoorGStoreRuns41
set_option linter.unusedVariables false
set_option linter.unusedSimpArgs false
section
namespace Go.Proofs.YtgpgcnmnfnnkjaaDoor
open Go Go.RowKit Go.PlainAid
/-- a disk on which segment n counts, of these records; all is kept -/
structure KeptW (m : Nat) (d : Dk) (n : Nat) (K : List Rec) (x : Hrd) : Prop where
 inv : PInv m d
 okn : okN n
 okr : okR K
 run : runR sg0 K = some ⟨x, true, true, 0⟩
 bare : bareH x = true
 snap : x.snap = sNone
 file : ∃ c, Frm.err c ≠ 0 ∧ getF d.fs (nameW n) = some ⟨nameW n, catR K ++ c, (catR K ++ c).length⟩
 rest : ∀ k, okN k → k ≠ n → ∀ f, getF d.fs (nameW k) = some f → f.kept = f.data.length ∧ (n < k → (readSeg f.data).whole = false)
/-- and nothing else is there -/
structure GoodW (m : Nat) (d : Dk) (n : Nat) (K : List Rec) (x : Hrd) : Prop where
 k : KeptW m d n K x
 file : getF d.fs (nameW n) = some ⟨nameW n, catR K, (catR K).length⟩
 none : ∀ k, okN k → k ≠ n → getF d.fs (nameW k) = none
section
variable {m n : Nat} {d d' : Dk} {K : List Rec} {x : Hrd}
theorem KeptW.same (h : KeptW m d n K x) (e : d'.fs = d.fs) (hi : PInv m d') : KeptW m d' n K x :=
 ⟨hi, h.okn, h.okr, h.run, h.bare, h.snap, by rw [e]; exact h.file, by rw [e]; exact h.rest⟩
theorem GoodW.same (h : GoodW m d n K x) (e : d'.fs = d.fs) (hi : PInv m d') : GoodW m d' n K x := ⟨h.k.same e hi, by rw [e]; exact h.file, by rw [e]; exact h.none⟩
theorem KeptW.more {m' : Nat} (h : KeptW m d n K x) (hm : m ≤ m') : KeptW m' d n K x := ⟨h.inv.more hm, h.okn, h.okr, h.run, h.bare, h.snap, h.file, h.rest⟩
theorem GoodW.more {m' : Nat} (h : GoodW m d n K x) (hm : m ≤ m') : GoodW m' d n K x := ⟨h.k.more hm, h.file, h.none⟩
/- what Open does -/
theorem KeptW.cutS (h : KeptW m d n K x) : KeptW m (cutS d n ⟨x, true, true, (catR K).length⟩).2 n K x ∧ ((Proofs.YtgpgcnmnfnnkjaaDoor.cutS d n ⟨x, true, true, (catR K).length⟩).1 = 0 → getF (Proofs.YtgpgcnmnfnnkjaaDoor.cutS d n ⟨x, true, true, (catR K).length⟩).2.fs (nameW n) = some ⟨nameW n, catR K, (catR K).length⟩) ∧ (OnD d → (Proofs.YtgpgcnmnfnnkjaaDoor.cutS d n ⟨x, true, true, (catR K).length⟩).1 = 0 ∧ OnD (Proofs.YtgpgcnmnfnnkjaaDoor.cutS d n ⟨x, true, true, (catR K).length⟩).2) ∧ ∀ s, s ≠ nameW n → getF (Proofs.YtgpgcnmnfnnkjaaDoor.cutS d n ⟨x, true, true, (catR K).length⟩).2.fs s = getF d.fs s := by
 obtain ⟨c, hc, hf⟩ := h.file
 have hfw := fileW_some hf
 have hlen : (catR K ++ c).length = (catR K).length + c.length := List.length_append
 unfold Proofs.YtgpgcnmnfnnkjaaDoor.cutS
 rw [hfw]
 dsimp only
 by_cases hlt : 0 < n ∧ (catR K).length < (catR K ++ c).length
 · rw [if_pos hlt]
   have hi := h.inv.cut0 (nameW n) ((catR K).length : Int)
   have hoth : ∀ s, s ≠ nameW n → getF (cutD d (nameW n) ((catR K).length : Int)).2.fs s = getF d.fs s := fun s hs => cut_other d _ (Ne.symm hs)
   refine ⟨?_, ?_, fun hon => cut_on hon hf (by rw [hlen]; omega), hoth⟩
   · rcases cut_cases d (nameW n) (catR K).length with ⟨_, e⟩ | ⟨_, f, hf2, _, e⟩
     · exact h.same e hi
     · rw [hf] at hf2; cases hf2
       rw [List.take_left, show min (catR K ++ c).length (catR K).length = (catR K).length from by omega] at e
       refine ⟨hi, h.okn, h.okr, h.run, h.bare, h.snap, ⟨[], err_nil, by rw [List.append_nil]; exact e⟩, fun k hk hn => ?_⟩
       rw [hoth _ (nameW_ne hn)]; exact h.rest k hk hn
   · intro h0
     rcases cut_cases d (nameW n) (catR K).length with ⟨e, _⟩ | ⟨_, f, hf2, _, e⟩
     · exact absurd h0 e
     · rw [hf] at hf2; cases hf2
       rw [List.take_left, show min (catR K ++ c).length (catR K).length = (catR K).length from by omega] at e
       exact e
 · rw [if_neg hlt]
   have hz : c = [] := by
    have h1 := h.okn.1
    have : c.length = 0 := by
     rcases Nat.eq_zero_or_pos c.length with e | e
     · exact e
     · exact absurd ⟨h1, by omega⟩ hlt
    exact List.length_eq_zero_iff.1 this
   subst hz
   rw [List.append_nil] at hf
   exact ⟨h, fun _ => hf, fun hon => ⟨rfl, hon⟩, fun _ _ => rfl⟩
theorem KeptW.removes : ∀ (L : List Nat) {d : Dk}, KeptW m d n K x → (∀ k ∈ L, okN k) → KeptW m (removesD L n d).2 n K x ∧ getF (removesD L n d).2.fs (nameW n) = getF d.fs (nameW n) ∧ ((removesD L n d).1 = 0 → ∀ k, (k ∈ L ∨ getF d.fs (nameW k) = none) → k ≠ n → getF (removesD L n d).2.fs (nameW k) = none) ∧ (OnD d → L.Nodup → (∀ k ∈ L, getF d.fs (nameW k) ≠ none) → (removesD L n d).1 = 0 ∧ OnD (removesD L n d).2) ∧ ∀ s, (∀ k, okN k → s ≠ nameW k) → getF (removesD L n d).2.fs s = getF d.fs s
 | [], d, h, _ => ⟨h, rfl, fun _ k hk _ => (by rcases hk with hk | hk; cases hk; exact hk), fun hon _ _ => ⟨rfl, hon⟩, fun _ _ => rfl⟩
 | k :: L, d, h, hL => by
  have hL' : ∀ k ∈ L, okN k := fun a ha => hL a (by simp [ha])
  by_cases e : k = n
  · have er : removesD (k :: L) n d = removesD L n d := by rw [removesD, if_pos e]
    rw [er]
    obtain ⟨h1, h2, h3, h4, h5⟩ := KeptW.removes L h hL'
    refine ⟨h1, h2, fun h0 a ha hn => h3 h0 a ?_ hn, fun hon hd hg => h4 hon (List.nodup_cons.1 hd).2 fun a ha => hg a (by simp [ha]), h5⟩
    rcases ha with ha | ha
    · rcases List.mem_cons.1 ha with rfl | ha
      · exact absurd e hn
      · exact .inl ha
    · exact .inr ha
  · have er : removesD (k :: L) n d = thenD (removeD d (nameW k)) (removesD L n) := by rw [removesD, if_neg e]
    have hk : okN k := hL k (by simp)
    have hi := h.inv.remove0 (nameW k)
    have hoth : ∀ s, s ≠ nameW k → getF (removeD d (nameW k)).2.fs s = getF d.fs s := fun s hs => remove_other d (Ne.symm hs)
    have hfn : getF (removeD d (nameW k)).2.fs (nameW n) = getF d.fs (nameW n) := hoth _ (nameW_ne (Ne.symm e))
    have hcs := remove_cases h.inv.l.sort (nameW k)
    have hk1 : KeptW m (removeD d (nameW k)).2 n K x := by
     rcases hcs with ⟨_, e2⟩ | ⟨_, _, e2⟩
     · exact h.same e2 hi
     · refine ⟨hi, h.okn, h.okr, h.run, h.bare, h.snap, by rw [hfn]; exact h.file, fun a ha hn f hf => ?_⟩
       by_cases hak : a = k
       · subst hak; rw [e2] at hf; cases hf
       · rw [hoth _ (nameW_ne hak)] at hf; exact h.rest a ha hn f hf
    rw [er]
    unfold thenD
    rcases hcs with ⟨q1, q2⟩ | ⟨q1, q3, q2⟩
    · rw [if_neg q1]
      exact ⟨hk1, hfn, fun h0 => absurd h0 q1, fun hon hd hg => absurd (remove_on hon (hg k (by simp))).1 q1, fun s hs => hoth s (hs k hk)⟩
    · rw [if_pos q1]
      obtain ⟨h1, h2, h3, h4, h5⟩ := KeptW.removes L hk1 hL'
      refine ⟨h1, by rw [h2, hfn], fun h0 a ha hn => h3 h0 a ?_ hn, fun hon hd hg => ?_, fun s hs => by rw [h5 s hs]; exact hoth s (hs k hk)⟩
      · by_cases hak : a = k
        · subst hak; exact .inr q2
        · rcases ha with ha | ha
          · rcases List.mem_cons.1 ha with ha | ha
            · exact absurd ha hak
            · exact .inl ha
          · right; rw [hoth _ (nameW_ne hak)]; exact ha
      · obtain ⟨d1, d2⟩ := List.nodup_cons.1 hd
        refine h4 (remove_on hon (hg k (by simp))).2 d2 fun a ha => ?_
        have hak : a ≠ k := fun e3 => d1 (e3 ▸ ha)
        rw [hoth _ (nameW_ne hak)]; exact hg a (by simp [ha])
end
end Go.Proofs.YtgpgcnmnfnnkjaaDoor
end

section
namespace Go.Proofs.YtgpgcnmnfnnkjaaDoor
open Go Go.RowKit Go.PlainAid
theorem pickW_cases (d : Dk) : ∀ l : List Nat, pickW d l = none ∨ ∃ k ∈ l, pickW d l = some (k, readSeg (fileW d k)) ∧ (readSeg (fileW d k)).whole = true
 | [] => .inl rfl
 | k :: r => by
  rw [show pickW d (k :: r) = if (readSeg (fileW d k)).whole then some (k, readSeg (fileW d k)) else pickW d r from rfl]
  cases hw : (readSeg (fileW d k)).whole with
  | true => rw [if_pos rfl]; exact .inr ⟨k, List.mem_cons_self, rfl, hw⟩
  | false =>
   rw [if_neg (by decide)]
   rcases pickW_cases d r with h | ⟨a, ha, h⟩
   · exact .inl h
   · exact .inr ⟨a, List.mem_cons_of_mem _ ha, h⟩
theorem pickN_cases (d : Dk) : pickN d = (0, sg0) ∨ ∃ n f, okN n ∧ getF d.fs (nameW n) = some f ∧ pickN d = (n, readSeg f.data) ∧ (readSeg f.data).whole = true := by
 have e : pickN d = (pickW d (segsD d).reverse).getD (0, sg0) := rfl
 rcases pickW_cases d (segsD d).reverse with h | ⟨k, hk, h1, h2⟩
 · exact .inl (by rw [e, h]; rfl)
 · obtain ⟨k1, k2⟩ := (segs_iff d k).1 (List.mem_reverse.1 hk)
   cases hf : getF d.fs (nameW k) with
   | none => exact absurd hf k2
   | some f =>
    have hd := fileW_some hf
    refine .inr ⟨k, f, k1, hf, ?_, ?_⟩
    · rw [e, h1, hd]; rfl
    · rw [← hd]; exact h2
end Go.Proofs.YtgpgcnmnfnnkjaaDoor
end

section
namespace Go.Proofs.YtgpgcnmnfnnkjaaDoor
open Go Go.RowKit Go.PlainAid BigFrame
attribute [local go_sem] After.same
theorem open_base {d : Dk} {ws : Wl} (h : openW d = some ws) : 0 ≤ ws.h.base ∧ ws.h.base ≤ 1099511627776 := by
 unfold openW at h
 split at h
 · cases h
   show 0 ≤ (openH d).base ∧ (openH d).base ≤ _
   unfold openH
   rcases pickN_cases d with e | ⟨n, f, hn, _, e, hw⟩
   · rw [e, if_pos rfl]; exact ⟨by decide, by decide⟩
   · rw [e, if_neg (by have := hn.1; dsimp only; omega)]
     have ok := readSeg_ok f.data
     obtain ⟨⟨a1, a2, a3, a4, a5, a6, a7, a8, _⟩, _⟩ := (bareH_all _).1 (ok.bare (ok.wh hw))
     exact ⟨a7, a8⟩
 · cases h
def OpenedP (w0 w : World) (X : Nat → Prop) (g : Nat) (d' : Dk) (E : Int) (o : Option Sto) (e : Ending) (w' : World) : Prop :=
 (match o with
 | none => E ≠ 0 ∧ e = .returned (.tuple #[.pointer none, .int .i64 E])
 | some st => ∃ gs gw v X', e = .returned (.tuple #[.pointer (some ⟨gs, 0, none⟩), .int .i64 0]) ∧ w.heap.size ≤ gs ∧ w.heap.size ≤ gw ∧ (∀ k, X k → X' k) ∧ (∀ k, X' k → X k ∨ w.heap.size ≤ k) ∧ DwS w0 X' g d' w' ∧ StoV w' X' g gs gw v st ∧ ∀ k, v.ownBlock = some k → w.heap.size ≤ k)
 ∧ DwS w0 X g d' w' ∧ Chg (Gx w0 X) w w'
theorem OpenedP.no {w0 w wi : World} {X Y : Nat → Prop} {g : Nat} {d' : Dk} {E : Int} (hE : E ≠ 0) (hY : ∀ k, X k → Y k) (hd : DwS w0 Y g d' wi) (hc : Chg (Gx w0 X) w wi) : OpenedP w0 w X g d' E none (.returned (.tuple #[.pointer none, .int .i64 E])) wi :=
 ⟨⟨hE, rfl⟩, hd.mono hY, hc⟩
set_option maxRecDepth 8000 in
set_option maxHeartbeats 8000000 in
theorem stoOpenNil (w : World) : Calls Tryd.prog 20 #[.pointer none] w fun e w' => e = .returned (.tuple #[.pointer none, .int .i64 1]) ∧ w = w' := by
 go_enter Tryd.func20, Tryd.ntmps20
 go_wp2_with fail
 refine (walOpenNil w).mono ?_
 rintro e w' ⟨rfl, rfl⟩
 go_wp2_with fail
 refine bodyPost_ret (v := .tuple #[.pointer none, .int .i64 1]) (by simp [results, Tryd.results20, go_sem]) rfl ?_
 exact ⟨rfl, rfl⟩
set_option maxRecDepth 8000 in
set_option maxHeartbeats 8000000 in
theorem stoOpen {w0 w : World} {X : Nat → Prop} {g : Nat} {d d' : Dk} (T0 : ∀ z, Below w0.heap.size w0 z → TabW z) (hd : DwS w0 X g d w) (hb0 : Below w0.heap.size w0 w) {m : Nat} (pi : PInv m d) (hm : m ≤ 300) {E : Int} {o : Option Sto} (he : openP d = (E, o, d')) :
 Calls Tryd.prog 20 #[.pointer (some ⟨g, 0, none⟩)] w (OpenedP w0 w X g d' E o) := by
 have hcall := walOpen T0 hd hb0 pi hm
 unfold OpenedW at hcall
 have pic := pi.clean
 have hXl : ∀ k, X k → k < w.heap.size := hd.2
 have hs0 := hb0.size
 have hop : openP d = match openW d with
  | none => ((cleanW d).1, none, (cleanW d).2)
  | some ws => match snapO (cleanW d).2 ws.h with
   | none => (4, none, (cleanW d).2)
   | some s => if (cleanP (cleanW d).2 ws.h.base.toNat).1 = 0 then (0, some ⟨ws, ofBytes s, false⟩, (cleanP (cleanW d).2 ws.h.base.toNat).2)
    else ((cleanP (cleanW d).2 ws.h.base.toNat).1, none, (cleanP (cleanW d).2 ws.h.base.toNat).2) := rfl
 rw [he] at hop
 have hbase := fun ws => open_base (d := d) (ws := ws)
 go_enter Tryd.func20, Tryd.ntmps20
 go_wp2_with fail
 refine hcall.mono ?_
 rintro e w1 ⟨ho, hd1, ch1⟩
 clear hcall he
 cases how : openW d with
 | none =>
  rw [how] at ho hop
  obtain ⟨E1, hE1, e1, rfl⟩ := ho
  dsimp only at hop
  rw [← e1] at hop
  simp only [Prod.mk.injEq] at hop
  obtain ⟨rfl, rfl, rfl⟩ := hop
  have hi : (E != 0) = true := by simpa using hE1
  have HE := Lib.hid hE1
  clear hE1 e1 how hbase
  go_wp2_with fail
  refine bodyPost_ret (v := .tuple #[.pointer none, .int .i64 E]) (by simp [results, Tryd.results20, go_sem]) rfl ?_
  exact OpenedP.no HE.out (fun _ h => h) hd1 ch1
 | some ws =>
  rw [how] at ho hop
  obtain ⟨gw, v, X1, rfl, hgw, hx1, hx1r, hdw, hwv, hvw⟩ := ho
  obtain ⟨hb1, hb2⟩ := hbase ws how
  clear how hbase hd1
  dsimp only at hop
  generalize (cleanW d).2 = d1 at *
  have Hop := Lib.hid hop
  have hHB1 := Lib.hid hb1
  have hHB2 := Lib.hid hb2
  clear hop hb1 hb2
  have hbW1 : Below w0.heap.size w0 w1 := hb0.trans (ch1.gx hs0)
  have hsW1 := ch1.size
  have hgl := hwv.blk.lt
  -- the store's block
  have caS := below_alloc w1 (.cells #[.pointer (some ⟨g, 0, none⟩), .pointer (some ⟨gw, 0, none⟩), .string ⟨#[]⟩, .bool false] 76)
  have ksS := Blk.new w1 #[.pointer (some ⟨g, 0, none⟩), .pointer (some ⟨gw, 0, none⟩), .string ⟨#[]⟩, .bool false] 76
  have hszS : (w1.alloc (.cells #[.pointer (some ⟨g, 0, none⟩), .pointer (some ⟨gw, 0, none⟩), .string ⟨#[]⟩, .bool false] 76)).heap.size = w1.heap.size + 1 := by simp
  have hwvS := hwv.ext caS
  have hcall : Calls Tryd.prog 13 #[.pointer (some ⟨gw, 0, none⟩)] (w1.alloc (.cells #[.pointer (some ⟨g, 0, none⟩), .pointer (some ⟨gw, 0, none⟩), .string ⟨#[]⟩, .bool false] 76)) fun e w' => ∃ v', e = .returned (.agg #[.int .i64 ws.h.term, .int .i64 ws.h.vote, .int .i64 ws.h.base, .int .i64 ws.h.bterm, .int .i64 ws.h.members, .string ⟨#[]⟩, v']) ∧ OwnR etyE w' (w1.alloc (.cells #[.pointer (some ⟨g, 0, none⟩), .pointer (some ⟨gw, 0, none⟩), .string ⟨#[]⟩, .bool false] 76)).heap.size 36 v' ws.h.log ∧ Below (w1.alloc (.cells #[.pointer (some ⟨g, 0, none⟩), .pointer (some ⟨gw, 0, none⟩), .string ⟨#[]⟩, .bool false] 76)).heap.size (w1.alloc (.cells #[.pointer (some ⟨g, 0, none⟩), .pointer (some ⟨gw, 0, none⟩), .string ⟨#[]⟩, .bool false] 76)) w' := walHard hwvS
  go_wp2_with fail
  refine hcall.mono ?_
  rintro e w3 ⟨v3, rfl, own3, b3⟩
  clear hcall
  obtain ⟨p3, c3, rfl⟩ := own3.rd.shape
  have caH := below_alloc w3 (.cells #[.int .i64 ws.h.term, .int .i64 ws.h.vote, .int .i64 ws.h.base, .int .i64 ws.h.bterm, .int .i64 ws.h.members, .string ⟨#[]⟩, .slice p3 ws.h.log.length c3] 30)
  have khH := Blk.new w3 #[.int .i64 ws.h.term, .int .i64 ws.h.vote, .int .i64 ws.h.base, .int .i64 ws.h.bterm, .int .i64 ws.h.members, .string ⟨#[]⟩, .slice p3 ws.h.log.length c3] 30
  have b3s := b3.size
  have hszH : (w3.alloc (.cells #[.int .i64 ws.h.term, .int .i64 ws.h.vote, .int .i64 ws.h.base, .int .i64 ws.h.bterm, .int .i64 ws.h.members, .string ⟨#[]⟩, .slice p3 ws.h.log.length c3] 30)).heap.size = w3.heap.size + 1 := by simp
  have bAll : Below w1.heap.size w1 (w3.alloc (.cells #[.int .i64 ws.h.term, .int .i64 ws.h.vote, .int .i64 ws.h.base, .int .i64 ws.h.bterm, .int .i64 ws.h.members, .string ⟨#[]⟩, .slice p3 ws.h.log.length c3] 30)) := (caS.trans (b3.mono (by omega))).trans (caH.mono (by omega))
  obtain ⟨X2, hX2⟩ : ∃ X2 : Nat → Prop, X2 = fun k => X1 k ∨ k = w1.heap.size ∨ k = w3.heap.size := ⟨_, rfl⟩
  have hx2 : ∀ k, X1 k → X2 k := fun k hk => by rw [hX2]; exact .inl hk
  have hx2S : X2 w1.heap.size := by rw [hX2]; exact .inr (.inl rfl)
  have hx2H : X2 w3.heap.size := by rw [hX2]; exact .inr (.inr rfl)
  have hx2r : ∀ k, X2 k → X k ∨ w.heap.size ≤ k := fun k hk => by
   rw [hX2] at hk
   rcases hk with hk | rfl | rfl
   · exact hx1r k hk
   · exact .inr hsW1
   · exact .inr (by omega)
  have hd3 : DwS w0 X2 g d1 (w3.alloc (.cells #[.int .i64 ws.h.term, .int .i64 ws.h.vote, .int .i64 ws.h.base, .int .i64 ws.h.bterm, .int .i64 ws.h.members, .string ⟨#[]⟩, .slice p3 ws.h.log.length c3] 30)) := by
   rw [hX2]
   refine hdw.more bAll (fun k hk => ?_)
   rcases hk with hk | rfl | rfl
   · exact .inl hk
   · exact .inr ⟨Nat.le_refl _, by omega⟩
   · exact .inr ⟨by omega, by omega⟩
  clear hX2
  have rd3 := own3.rd.ext caH
  have st3 : StoV (w3.alloc (.cells #[.int .i64 ws.h.term, .int .i64 ws.h.vote, .int .i64 ws.h.base, .int .i64 ws.h.bterm, .int .i64 ws.h.members, .string ⟨#[]⟩, .slice p3 ws.h.log.length c3] 30)) X2 g w1.heap.size gw v ⟨ws, ofBytes [], false⟩ := ⟨(ksS.ext b3).ext caH, ((hwvS.ext b3).ext caH).mono hx2, hx2S, by omega, fun e => by have := hwv.lX _ e; have := hdw.2 _ this; omega⟩
  have ch3 : Chg (Gx w0 X) w (w3.alloc (.cells #[.int .i64 ws.h.term, .int .i64 ws.h.vote, .int .i64 ws.h.base, .int .i64 ws.h.bterm, .int .i64 ws.h.members, .string ⟨#[]⟩, .slice p3 ws.h.log.length c3] 30)) := ch1.step (.of_below bAll)
  have hxX : ∀ k, X k → X2 k := fun k hk => hx2 k (hx1 k hk)
  have hHs : w.heap.size ≤ w1.heap.size := hsW1
  clear own3 caS ksS hwvS b3 caH hdw hwv ch1 bAll
  have q2 := khH.cell 2 _ rfl
  go_upto_if 29 with (fail)
  generalize w3.alloc (.cells #[.int .i64 ws.h.term, .int .i64 ws.h.vote, .int .i64 ws.h.base, .int .i64 ws.h.bterm, .int .i64 ws.h.members, .string ⟨#[]⟩, .slice p3 ws.h.log.length c3] 30) = wB at *
  go_cut [] from 8 (fun wi => ∃ s, Hid (snapO d1 ws.h = some s) ∧ StoV wi X2 g w1.heap.size gw v ⟨ws, ofBytes s, false⟩ ∧ Blk wi w3.heap.size #[.int .i64 ws.h.term, .int .i64 ws.h.vote, .int .i64 ws.h.base, .int .i64 ws.h.bterm, .int .i64 ws.h.members, .string ⟨#[]⟩, .slice p3 ws.h.log.length c3] 30 ∧ DwS w0 X2 g d1 wi ∧ Chg (Gx w0 X) w wi)
  case first =>
   by_cases hz : ws.h.base = 0
   · have hzi : (ws.h.base != 0) = false := by simp [hz]
     have hsn : snapO d1 ws.h = some [] := by unfold snapO; rw [if_pos hz]
     have Hsn := Lib.hid hsn
     clear hsn hz
     go_wp2_with fail
     go_meet
     exact ⟨[], Hsn, st3, khH, hd3, ch3⟩
   · have hzi : (ws.h.base != 0) = true := by simpa using hz
     have hsn : snapO d1 ws.h = readP (fileP d1 ws.h.base.toNat) ws.h := by unfold snapO; rw [if_neg hz]
     have Hsn := Lib.hid hsn
     have hn1 := hHB1.out
     have hn2 := hHB2.out
     have hbN : ws.h.base = (ws.h.base.toNat : Int) := by omega
     have hbN2 : ws.h.base.toNat ≤ 1099511627776 := by omega
     have hbn := Lib.hid hbN
     clear hsn hz hbN hn1 hn2
     go_wp2_with fail
     refine (stoNamed ws.h.base.toNat _ hbn.out (by omega) wB (T0 _ (hb0.trans (ch3.gx hs0)))).mono ?_
     rintro e w4 ⟨rfl, b4⟩
     go_wp2_with fail
     refine (lRead (hd3.ext b4) (pic.ok (by omega)) (nameP ws.h.base.toNat) rfl).mono ?_
     rintro e w5 ⟨⟨r5, rfl, own5⟩, b5⟩
     have b45 := b4.trans (b5.mono b4.size)
     have hfw : fileP d1 ws.h.base.toNat = (readD d1 (nameP ws.h.base.toNat)).getD [] := rfl
     rw [← hfw] at own5
     have hfl : (fileP d1 ws.h.base.toNat).length ≤ 4194304 := by
      rw [hfw, read_getF]
      cases hg : getF d1.fs (nameP ws.h.base.toNat) with
      | none => simp
      | some f =>
       obtain ⟨j, hj, _, e1, _⟩ := get_at hg
       have h1 := totD_mem (e1 ▸ List.getElem_mem hj : f ∈ d1.fs)
       have h2 := pic.l.tot
       show f.data.length ≤ _
       omega
     clear hfw
     generalize fileP d1 ws.h.base.toNat = FB at *
     generalize (readD d1 (nameP ws.h.base.toNat)).isSome = qb at *
     have kh5 := khH.ext b45
     have y0 := kh5.cell 0 _ rfl
     have y1 := kh5.cell 1 _ rfl
     have y2 := kh5.cell 2 _ rfl
     have y3 := kh5.cell 3 _ rfl
     have y4 := kh5.cell 4 _ rfl
     have y5 := kh5.cell 5 _ rfl
     have y6 := kh5.cell 6 _ rfl
     have hrd := stoRead r5 FB (bareOf ws.h) (.slice p3 ws.h.log.length c3) w5 own5.bytes (by omega) (rd3.ext b45)
     have hrp : readP FB (bareOf ws.h) = snapO d1 ws.h := Hsn.out.symm
     rw [hrp] at hrd
     have Hrd := Lib.hid hrd
     clear hrp hrd Hsn
     go_wp2_with fail
     refine Hrd.out.mono ?_
     rintro e w6 ⟨hr, b6⟩
     have b46 := b45.trans (b6.mono b45.size)
     have st6 := st3.ext b46
     have kh6 := khH.ext b46
     have hd6 := hd3.ext b46
     have ch6 : Chg (Gx w0 X) w w6 := ch3.step (.of_below b46)
     clear Hrd own5 kh5 y0 y1 y2 y3 y4 y5 y6 b4 b5 b45 b46 b6 st3 khH hd3 ch3
     cases hso : snapO d1 ws.h with
     | none =>
      rw [hso] at hr
      obtain rfl := hr
      have hh := Hop.out
      rw [hso] at hh
      simp only [Prod.mk.injEq] at hh
      obtain ⟨rfl, rfl, rfl⟩ := hh
      clear hso
      go_wp2_with fail
      refine bodyPost_ret (v := .tuple #[.pointer none, .int .i64 4]) (by simp [results, Tryd.results20, go_sem]) rfl ?_
      exact OpenedP.no (by decide) hxX hd6 ch6
     | some s =>
      rw [hso] at hr
      obtain rfl := hr
      have Hso := Lib.hid hso
      clear hso
      have f2 := st6.blk.frozen 2
      have z2 := st6.c2
      go_wp2_with fail
      go_meet
      have cS := chg_cell w1.heap.size 2 (.string (ofBytes s)) w6
      have ksC := st6.blk.set 2 (.string (ofBytes s))
      have stC : StoV (w6.setCell ⟨w1.heap.size, 2, none⟩ (.string (ofBytes s))) X2 g w1.heap.size gw v ⟨ws, ofBytes s, false⟩ := by
       refine ⟨ksC, st6.wv.only2 cS (fun e => st6.ne e.symm) (fun k hk e => st6.off (by rw [hk, e])), st6.inX, st6.ne, st6.off⟩
      exact ⟨s, Hso, stC, cS.blk kh6 (by omega), hd6.chgX cS (fun k hk => .inl (by subst hk; exact hx2S)), ch6.step (cS.mono fun k hk e => by subst e; exact ⟨by omega, fun hx => by have := hXl _ hx; omega⟩)⟩
  case rest =>
  obtain ⟨s, Hs, st7, kh7, hd7, ch7⟩ := hcut
  obtain ⟨w7, hw7⟩ : ∃ z, z = wc := ⟨_, rfl⟩
  subst hw7
  clear st3 khH hd3 ch3 q2 rd3
  have q2 := kh7.cell 2 _ rfl
  obtain ⟨E2, d2, hcl⟩ : ∃ E2 d2, cleanP d1 ws.h.base.toNat = (E2, d2) := ⟨_, _, rfl⟩
  have hh := Hop.out
  rw [Hs.out, hcl] at hh
  dsimp only at hh
  have hn1 := hHB1.out
  have hn2 := hHB2.out
  have hbN : ws.h.base = (ws.h.base.toNat : Int) := by omega
  have hcall := stoClean T0 hd7 (hb0.trans (ch7.gx hs0)) pic (by omega) ws.h.base.toNat ws.h.base hbN (by omega) hcl
  clear hbN hn1 hn2 Hop
  have Hh := Lib.hid hh
  clear hh
  go_wp2_with fail
  refine hcall.mono ?_
  rintro e w8 ⟨rfl, hd8, ch8⟩
  have st8 := st7.keep ch8
  have ch08 : Chg (Gx w0 X) w w8 := ch7.step (ch8.mono fun k _ q => ⟨q.1, fun hx => q.2 (hxX k hx)⟩)
  have hh := Hh.out
  by_cases hE : E2 = 0
  · subst hE
    rw [if_pos rfl] at hh
    simp only [Prod.mk.injEq] at hh
    obtain ⟨rfl, rfl, rfl⟩ := hh
    go_wp2_with fail
    refine bodyPost_ret (v := .tuple #[.pointer (some ⟨w1.heap.size, 0, none⟩), .int .i64 0]) (by simp [results, Tryd.results20, go_sem]) rfl ?_
    exact ⟨⟨w1.heap.size, gw, v, X2, rfl, hHs, hgw, hxX, hx2r, hd8, st8, hvw⟩, hd8.mono hxX, ch08⟩
  · have hi : (E2 != 0) = true := by simpa using hE
    rw [if_neg hE] at hh
    simp only [Prod.mk.injEq] at hh
    obtain ⟨rfl, rfl, rfl⟩ := hh
    have HE := Lib.hid hE
    clear hE
    go_wp2_with fail
    refine bodyPost_ret (v := .tuple #[.pointer none, .int .i64 E]) (by simp [results, Tryd.results20, go_sem]) rfl ?_
    exact OpenedP.no HE.out hxX hd8 ch08
end Go.Proofs.YtgpgcnmnfnnkjaaDoor
end
