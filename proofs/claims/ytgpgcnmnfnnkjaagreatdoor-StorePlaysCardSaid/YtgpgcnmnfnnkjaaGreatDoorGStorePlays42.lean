import Derived.Test.YtgpgcnmnfnnkjaaGreatDoorGStorePlays41
set_option linter.unusedVariables false
set_option linter.unusedSimpArgs false
set_option maxRecDepth 100000
set_option maxHeartbeats 16000000
namespace Go.Proofs.YtgpgcnmnfnnkjaaGreatDoor
section
open Go Go.RowKit Go.PlainAid BigFrame
attribute [local go_sem] After.same
theorem run_hardSnap (a b c d e:Int) (s:ByteArray) (p:Option Addr) (n k:Nat) (w:World):(Instr.field 24 (.agg #[.int .i64 a,.int .i64 b,.int .i64 c,.int .i64 d,.int .i64 e,.string s,.slice p n k]) 5).run Tryz.prog w=.ok (.string s) w:=by kernel_rfl
theorem storeRuns_walk (w:World) (T:TabW w):Calls Tryz.prog 35 #[] w fun e w'=>e=.returned (.bool true)∧Below w.heap.size w w':=by
 obtain ⟨w0,hw0⟩:∃ w0,w0=w:=⟨_,rfl⟩;rw [←hw0] at T ⊢;clear hw0;have T0:∀ z,Below w0.heap.size w0 z→TabW z:=Lib.tabBelow_of_tabIs T;have Tn:=Lib.hid T0;clear T T0;go_enter Tryz.func35,Tryz.ntmps35
 go_wp2_with fail
 refine (lNew w0 w0 (Nat.le_refl _) noX (fun _ h=>h.elim)).mono ?_;rintro e w1 ⟨rfl,d1,b1⟩;generalize w0.heap.size=G at d1;go_wp2_with fail
 refine (stoOpen Tn.out d1 b1 PInv.zero (by omega) tp0).mono ?_;rintro e w2 ⟨⟨gs,gw,v2,X2,rfl,hgs,hgw,hx2, -, d2,s2, -⟩, -, c2⟩;have b2:=b1.trans (c2.gx d1.size);have hgw0:w0.heap.size≤gw:=Nat.le_trans d1.size hgw;have hgs0:w0.heap.size≤gs:=Nat.le_trans d1.size hgs;clear c2 d1 b1 hx2 hgw hgs;go_wp2_with fail
 refine (stoSave Tn.out d2 b2 hgw0 hgs0 PInv.zero (by omega) s2 hp1 (.slice none 0 0) (Rd.nil _) (fun h=>absurd rfl h) (fun h=>absurd rfl h) tp1e).mono ?_;rintro e w3 ⟨rfl,X3,v3,hx3, -, d3,s3,c3, -⟩;have b3:=b2.trans (c3.gsB b2.size hgw0 hgs0);clear c3 d2 b2 s2 hx3;have hn:=lNames d3 (pp1.ok (by omega));rw [tp1n] at hn;go_wp2_with fail
 refine hn.mono ?_;rintro e w4 ⟨⟨r4,rfl,own4⟩,c4⟩;obtain ⟨p4,k4,rfl⟩:=own4.rd.shape;obtain ⟨X4,hX4⟩:∃ X4:Nat→Prop,X4=fun k=>X3 k∨(Value.slice p4 [sP3,sW1].length k4).ownBlock=some k:=⟨_,rfl⟩;have d4:DwS w0 X4 G sp1.2.2 w4:=by rw [hX4];exact d3.more c4 (fun k hk=>hk.imp id (fun e=>⟨(own4.lt k e).1,(own4.lt k e).2⟩))
 have hx4:∀ k,X3 k→X4 k:=fun k hk=>by rw [hX4];exact .inl hk
 have hx4n:∀ k,(Value.slice p4 [sP3,sW1].length k4).ownBlock=some k→X4 k:=fun k hk=>by rw [hX4];exact .inr hk
 have s4:=(s3.ext c4).mono hx4;have b4:=b3.trans (c4.mono b3.size);have r4:=own4.rd;have hg3:=s3.blk.lt;have hg3w:=s3.wv.blk.lt;have hfar:∀ k,(Value.slice p4 [sP3,sW1].length k4).ownBlock=some k→k≠gw∧k≠gs:=fun k hk=>by have:=(own4.lt k hk).1;omega
 clear hn hX4 own4 c4 d3 s3 b3 hx4;go_wp2_with fail
 refine (stoSave Tn.out d4 b4 hgw0 hgs0 pp1 (by omega) s4 hp2 (.slice none 0 0) (Rd.nil _) (fun h=>absurd rfl h) (fun h=>absurd rfl h) tp2e).mono ?_;rintro e w5 ⟨rfl,X5,v5,hx5, -, d5,s5,c5, -⟩;have b5:=b4.trans (c5.gsB b4.size hgw0 hgs0);have r5:=c5.cells r4 (fun k hk q=>by
  rcases q with q | q | q
  ·exact q.2 (hx4n k hk)
  ·exact (hfar k hk).1 q
  ·exact (hfar k hk).2 q)
 clear c5 d4 b4 s4 r4;go_wp2_with fail
 refine (stoOpen Tn.out d5 b5 pp2 (by omega) tp3e).mono ?_;rintro e w6 ⟨⟨gt,gx,v6,X6,rfl,hgt,hgx,hx6, -, d6,s6, -⟩, -, c6⟩;have b6:=b5.trans (c6.gx d5.size);have hgx0:w0.heap.size≤gx:=Nat.le_trans d5.size hgx;have hgt0:w0.heap.size≤gt:=Nat.le_trans d5.size hgt;have r6:Rd strE w6 (.slice p4 [sP3,sW1].length k4) [sP3,sW1]:=c6.cells r5 (fun k hk q=>q.2 (hx5 k (hx4n k hk)));clear c6 d5 b5 s5 r5 hx6 hx5 hx4n hfar;have a6:=below_alloc w6 (.cells #[.string sP3,.string sW1] 9)
 have l6:Rd strE (w6.alloc (.cells #[.string sP3,.string sW1] 9)) (.slice (some ⟨w6.heap.size,0,none⟩) 2 2) [sP3,sW1]:=(OwnR.litAt strE w6 #[.string sP3,.string sW1] 9 [sP3,sW1] 2 0 w6.heap.size rfl rfl rfl (by unfold maxLen;omega) (Nat.zero_le _)).rd;have hsm:=sameStrs _ _ _ _ (r6.ext a6) l6;have d6a:=d6.ext a6;have s6a:=s6.ext a6;have b6a:=b6.trans (a6.mono b6.size);clear r6 l6 d6 s6 b6 a6;go_wp2_with fail
 refine hsm.mono ?_;rintro e w7 ⟨rfl,nn,hw⟩;have bd:Below (w6.alloc (.cells #[.string sP3,.string sW1] 9)).heap.size (w6.alloc (.cells #[.string sP3,.string sW1] 9)) w7:=by rw [hw];exact below_drawn _ _ _
 have d7:=d6a.ext bd;have s7:=s6a.ext bd;have b7:=b6a.trans (bd.mono b6a.size);clear hsm hw bd d6a s6a b6a nn;have hh:Calls Tryz.prog 33 #[.pointer (some ⟨gt,0,none⟩)] w7 fun e w'=>∃ v',e=.returned (.agg #[.int .i64 1,.int .i64 0,.int .i64 5,.int .i64 1,.int .i64 7,.string ⟨#[100,101]⟩,v'])∧OwnR etyE w' w7.heap.size 73 v' []∧Below w7.heap.size w7 w':=stoHard s7;go_wp2_with fail
 refine hh.mono ?_;rintro e w8 ⟨v8,rfl,own8,b8⟩;obtain ⟨p8,k8,rfl⟩:=own8.rd.shape;have d8:=d7.ext b8;have s8:=s7.ext b8;have b8':=b7.trans (b8.mono b7.size);have hfd:=fun w=>run_hardSnap 1 0 5 1 7 ⟨#[100,101]⟩ p8 0 k8 w;have hsn:(⟨#[100,101]⟩:ByteArray).toList=[100,101]:=by rw [ByteArray.toList_eq]
 clear b8 d7 s7 b7 own8 hh;have hn:=lNames d8 (pp3.ok (by omega));rw [tp3n] at hn;go_wp2_with fail
 refine hn.mono ?_;rintro e w9 ⟨⟨r9,rfl,own9⟩,c9⟩;have d9:=d8.ext c9;have s9:=s8.ext c9;have b9:=b8'.trans (c9.mono b8'.size);have a9:=below_alloc w9 (.cells #[.string sP5,.string sW2] 9);have l9:Rd strE (w9.alloc (.cells #[.string sP5,.string sW2] 9)) (.slice (some ⟨w9.heap.size,0,none⟩) 2 2) [sP5,sW2]:=(OwnR.litAt strE w9 #[.string sP5,.string sW2] 9 [sP5,sW2] 2 0 w9.heap.size rfl rfl rfl (by unfold maxLen;omega) (Nat.zero_le _)).rd;have hsm:=sameStrs _ _ _ _ (own9.rd.ext a9) l9;have d9a:=d9.ext a9;have s9a:=s9.ext a9;have b9a:=b9.trans (a9.mono b9.size)
 clear own9 l9 d9 s9 b9 a9 d8 s8 b8' c9 hn hsn;go_wp2_with fail
 refine hsm.mono ?_;rintro e w10 ⟨rfl,nn,hw⟩;have bd:Below (w9.alloc (.cells #[.string sP5,.string sW2] 9)).heap.size (w9.alloc (.cells #[.string sP5,.string sW2] 9)) w10:=by rw [hw];exact below_drawn _ _ _
 have d10:=d9a.ext bd;have s10:=s9a.ext bd;have b10:=b9a.trans (bd.mono b9a.size);clear hsm hw bd d9a s9a b9a nn;go_wp2_with fail
 refine (stoSave Tn.out d10 b10 hgx0 hgt0 pp3 (by omega) s10 hp3 (.slice none 0 0) (Rd.nil _) (fun h=>absurd rfl h) (fun h=>absurd rfl h) tp4e).mono ?_;rintro e w11 ⟨rfl,X11,v11,hx11, -, d11,s11,c11, -⟩;have b11:=b10.trans (c11.gsB b10.size hgx0 hgt0);clear c11 d10 b10 s10 s11 hx11;go_wp2_with fail
 refine (lRemove d11 (pp4.ok (by omega)) tp5e).mono ?_;rintro e w12 ⟨rfl,d12,c12⟩;have b12:=b11.trans (c12.gx b11.size);clear c12 d11 b11;go_wp2_with fail
 refine (stoOpen Tn.out d12 b12 pp5 (by omega) tp6e).mono ?_;rintro e w13 ⟨⟨-, rfl⟩,d13,c13⟩;have b13:=b12.trans (c13.gx d12.size);clear c13 d12 b12;go_wp2_with fail
 refine (stoOpenNil w13).mono ?_;rintro e w14 ⟨rfl,rfl⟩;go_wp2_with fail
 go_ret
 exact ⟨rfl,b13⟩
end
end Go.Proofs.YtgpgcnmnfnnkjaaGreatDoor
