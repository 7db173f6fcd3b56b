/- The law CacheForks: what becomes of a Fork changes nothing; condition: each deed reads as it should. -/
import Derived.Test.YtocmljijdecilaaCaLv
namespace Go.Proofs.Ytocmljijdecilaa.CaL3
open Go Go.RowKit Go.Proofs.YtocmljijdecilaaW.PrintWords Go.Proofs.Ytocmljijdecilaa.K Go.Proofs.Ytocmljijdecilaa.CaS Go.Proofs.Ytocmljijdecilaa.CaC Go.Proofs.Ytocmljijdecilaa.CaD Go.Proofs.Ytocmljijdecilaa.CaB2 Go.Proofs.Ytocmljijdecilaa.CaO Go.Proofs.Ytocmljijdecilaa.CaP Go.Proofs.Ytocmljijdecilaa.CaQ Go.Proofs.Ytocmljijdecilaa.CaR Go.Proofs.Ytocmljijdecilaa.CaX Go.Proofs.Ytocmljijdecilaa.CaM Go.Proofs.Ytocmljijdecilaa.CaN Go.Proofs.Ytocmljijdecilaa.CaDo Go.Proofs.Ytocmljijdecilaa.CaDp Go.Proofs.Ytocmljijdecilaa.CaPf Go.Proofs.Ytocmljijdecilaa.CaAl Go.Proofs.Ytocmljijdecilaa.CaPy Go.Proofs.Ytocmljijdecilaa.CaLv Go.Proofs.Ytocmljijdecilaa.CaV Go.Proofs.Ytocmljijdecilaa.CaH
set_option linter.unusedVariables false
set_option linter.unusedSimpArgs false
theorem wf_u8 {x : Int} (h : (Lit.int .u8 x).wf = true) : ∃ p : Nat, x = p ∧ p ≤ 255 := by
  simp [Lit.wf, IntKind.min, IntKind.max, IntKind.signed, IntKind.bits] at h
  exact ⟨x.toNat, by omega, by omega⟩
theorem Two.apart {w w1 : World} {T : Nat → Prop} {gx gy fx fy room : Nat} {xs : List Bn} (h : Two w T gx gy room xs) (ht : Tch w w1 fx fy) (tx : T fx) (ty : T fy) (h1 : gx ≠ fx) (h2 : gx ≠ fy) (h3 : gy ≠ fx) (h4 : gy ≠ fy) : Two w1 T gx gy room xs :=
  ⟨h.x.move ht.size (fun k hk hnt => ht.block k hk (fun e => hnt (e ▸ tx)) (fun e => hnt (e ▸ ty))) (ht.block gx h.x.lt h1 h2), h.y.move ht.size (fun k hk hnt => ht.block k hk (fun e => hnt (e ▸ tx)) (fun e => hnt (e ▸ ty))) (ht.block gy h.y.lt h3 h4), h.good, h.ne, h.tx, h.ty, fun k hk => Nat.lt_of_lt_of_le (h.lim k hk) ht.size⟩
set_option maxHeartbeats 8000000 in
set_option maxRecDepth 100000 in
theorem forks_row (x0 : Int) (A : Option Addr) (k c : Nat) (ds : List Deed) (A2 : Option Addr) (k2 c2 : Nat) (ds2 : List Deed) (n : Int) (s : List Int) (w : World) (hx : (Lit.int .u8 x0).wf = true) (hs : DeedsC w A k ds) (hc : k ≤ c) (hs2 : DeedsC w A2 k2 ds2) (hc2 : k2 ≤ c2) (hn : (Lit.int .i64 n).wf = true) (hl : s.length = 32) (hb : ∀ x ∈ s, (Lit.int .u8 x).wf = true) :
    Calls Try.prog 7 #[.int .u8 x0, .slice A k c, .slice A2 k2 c2, .int .i64 n, .agg (nums .u8 s).toArray] w fun e w' => e = .returned (.bool true) ∧ Below w.heap.size w w' := by
  obtain ⟨p, rfl, hp⟩ := wf_u8 hx
  have hok : OkSum s := ⟨hl, hb⟩
  have hal := below_alloc (Below.refl w.heap.size w) (.cells (nums .u8 s).toArray 35)
  have hbox := heap_alloc_new w (.cells (nums .u8 s).toArray 35)
  have hroom : 0 < 1 + p % 12 ∧ 1 + p % 12 ≤ 12 := by omega
  have HS2 := Aside0.mk hs2
  have hpl := play_calls p hp _ rfl A k c ds _ (hs.below hal)
  rw [World.size_alloc] at hpl
  have HPL := Aside0.mk hpl
  have HAL := Aside0.mk hal
  have HBX := Aside0.mk hbox
  have HU := Aside0.mk Try.underlying35
  have HUD := Aside0.mk Try.underlying40
  have HIS := Aside0.mk (infoSmS s hok)
  have hkl := hs2.len
  have hkm := hs2.lim
  have HNF := Aside0.mk (nil_find s)
  unfold sumV at HNF
  generalize 1 + p % 12 = room at *
  clear hpl hal hbox hx hs hp hl hb hs2
  go_enter Try.func7, Try.ntmps7
  go_wp2_with fail
  refine HPL.out.mono ?_
  rintro e W1 ⟨rfl, hT, hB⟩
  generalize hxs : CaPy.runN room ds 120 = xs at *
  have hsz1 : w.heap.size + 1 ≤ W1.heap.size := by have := hB.size; simpa using this
  have hl1 := hT.lim
  have HB := Aside0.mk hB
  have HB0 := Aside0.mk (below_then HAL.out HAL.out.size (by rw [World.size_alloc]; exact hB))
  have HBS : Aside0 (∀ W, Below w.heap.size w W → Below W1.heap.size W1 W → Hd.RangeA W ⟨w.heap.size, 0, none⟩ (nums .u8 s)) := ⟨fun W _ hW j v hj => by
    rw [addr0]
    exact obj_cell ((hW.block w.heap.size (Nat.lt_of_lt_of_le (by omega) hsz1)).trans ((hB.block w.heap.size (by omega)).trans HBX.out)) j (by rw [List.getElem?_toArray]; exact hj)⟩
  have hn9 : xs.length ≤ 900 := by have := hT.good.len; omega
  have hgx : w.heap.size + 1 < W1.heap.size := hT.lim _ hT.tx
  have hgy : w.heap.size + 1 + 1 < W1.heap.size := hT.lim _ hT.ty
  have hfk := x_fork hT.x hn9 (fun q => q = w.heap.size + 1 ∨ q = w.heap.size + 1 + 1 ∨ q = W1.heap.size) (fun q hq => by rcases hq with rfl | rfl | rfl <;> omega) (fun q hq hq2 => by rcases hq2 with rfl | rfl | rfl; exact .inl rfl; exact .inr rfl; omega)
  have HT := Aside0.mk hT
  clear hT hB HPL
  go_wp2_with fail
  refine hfk.mono ?_
  rintro e W2 ⟨rfl, hx2, hb2⟩
  have hsz2 := hx2.lt
  have hyw : YS W1 (fun q => q = w.heap.size + 1 ∨ q = w.heap.size + 1 + 1 ∨ q = W1.heap.size ∨ q = W2.heap.size) (w.heap.size + 1 + 1) room xs.reverse := HT.out.y.wider (fun q hq hq2 => by rcases hq2 with rfl | rfl | rfl | rfl; exact .inl rfl; exact .inr rfl; omega; omega)
  have hxw : XS W1 (fun q => q = w.heap.size + 1 ∨ q = w.heap.size + 1 + 1 ∨ q = W1.heap.size ∨ q = W2.heap.size) (w.heap.size + 1) room xs := HT.out.x.wider (fun q hq hq2 => by rcases hq2 with rfl | rfl | rfl | rfl; exact .inl rfl; exact .inr rfl; omega; omega)
  have hfx : XS W2 (fun q => q = w.heap.size + 1 ∨ q = w.heap.size + 1 + 1 ∨ q = W1.heap.size ∨ q = W2.heap.size) W1.heap.size room xs := hx2.wider (fun q hq hq2 => by rcases hq2 with rfl | rfl | rfl | rfl; exact .inl rfl; exact .inr (.inl rfl); exact .inr (.inr rfl); omega)
  have hyf := y_fork (hyw.below hb2) (fun q => q = w.heap.size + 1 ∨ q = w.heap.size + 1 + 1 ∨ q = W1.heap.size ∨ q = W2.heap.size) (fun q _ hq => hq)
  have HB2 := Aside0.mk hb2
  have hyw2 := hyw.below hb2
  have hxw2 := hxw.below hb2
  clear hx2 hb2 hyw hxw hfk
  go_wp2_with fail
  refine hyf.mono ?_
  rintro e W3 ⟨rfl, hfy, hb3⟩
  have hsz3 := hfy.lt
  have HTX : Aside0 (Two W3 (fun q => q = w.heap.size + 1 ∨ q = w.heap.size + 1 + 1 ∨ q = W1.heap.size ∨ q = W2.heap.size) (w.heap.size + 1) (w.heap.size + 1 + 1) room xs) := ⟨⟨hxw2.below hb3, hyw2.below hb3, HT.out.good, HT.out.ne, .inl rfl, .inr (.inl rfl), fun q hq => by rcases hq with rfl | rfl | rfl | rfl <;> omega⟩⟩
  have HTF : Aside0 (Two W3 (fun q => q = w.heap.size + 1 ∨ q = w.heap.size + 1 + 1 ∨ q = W1.heap.size ∨ q = W2.heap.size) W1.heap.size W2.heap.size room xs) := ⟨⟨hfx.below hb3, hfy, HT.out.good, by omega, .inr (.inr (.inl rfl)), .inr (.inr (.inr rfl)), fun q hq => by rcases hq with rfl | rfl | rfl | rfl <;> omega⟩⟩
  have HB13 := Aside0.mk (below_then HB2.out HB2.out.size hb3)
  have HB3 := Aside0.mk (below_then HB0.out HB0.out.size HB13.out)
  have hr9 : 0 < room ∧ room ≤ 900 := by omega
  clear hyf hfx hyw2 hxw2 hfy hb3 HT
  generalize hT2 : (fun q => q = w.heap.size + 1 ∨ q = w.heap.size + 1 + 1 ∨ q = W1.heap.size ∨ q = W2.heap.size) = T2 at *
  clear hT2
  generalize hf1 : W1.heap.size = fx at *
  generalize hf2 : W2.heap.size = fy at *
  go_wp2_with fail
  go_loopg [16] (51) (fun gk v16 wr => ∃ (i : Nat) (xs2 : List Bn), v16 = .int .i64 i ∧ i ≤ k2 ∧ i ≤ 50 ∧ Aside0 (gk = 50 - i + 1) ∧ Aside0 (Two wr T2 fx fy room xs2) ∧ Aside0 (Two wr T2 (w.heap.size + 1) (w.heap.size + 1 + 1) room xs) ∧ Aside0 (Below w.heap.size w wr) ∧ Aside0 (Hd.RangeA wr ⟨w.heap.size, 0, none⟩ (nums .u8 s)))
  case atStart => exact ⟨0, xs, rfl, Nat.zero_le _, by omega, ⟨rfl⟩, HTF, HTX, HB3, ⟨HBS.out W3 HB3.out HB13.out⟩⟩
  case round =>
    obtain ⟨i, xs2, rfl, hi, hi50, HGK, HF, HX, HBW, HR⟩ := hrel
    obtain ⟨wo, rfl⟩ : ∃ X : World, X = wr := ⟨_, rfl⟩
    by_cases hlt : i < k2 ∧ i < 50
    · obtain ⟨hlt, hlt2⟩ := hlt
      have h1 : decide ((i : Int) < (k2 : Int)) = true := by simp; omega
      have h2 : decide ((i : Int) < 50) = true := by simp; omega
      obtain ⟨ad, rfl⟩ := HS2.out.is (by omega)
      have hp1 : (0 : Int) ≤ (i : Int) := by omega
      have hp2 : (i : Int) < (k2 : Int) := by omega
      have hok0 : (ds2.getD i default).Ok w := HS2.out.each _ (by
        have : i < ds2.length := by omega
        simp [this])
      have HRA := Aside0.mk ((HS2.out.cells ad rfl i hlt).below HBW.out)
      have HI := Aside0.mk (infoDeed _ hok0.len)
      have HAW := Aside0.mk (fun h0 a ha => deed_away hok0 h0 a ha)
      have HOK := Aside0.mk (hok0.below HBW.out)
      clear hok0
      generalize ds2.getD i default = d at *
      have HDO := Aside0.mk (do_any HF.out hr9 d HOK.out (fun h0 a ha => by have := HAW.out h0 a ha; omega))
      go_wp2_with ((with_reducible refine gate_ (.load 40 (.tmp 48)) rfl ?_); refine Hd.wpList_load_any rfl _ (.tmp 48) rfl _ rfl d.cells _ HRA.out HUD.out rfl HI.out ?_)
      refine HDO.out.mono ?_
      rintro e w3 ⟨rfl, hT3, ht3⟩
      have HT3 := Aside0.mk hT3
      have HTX3 := Aside0.mk (Two.apart HX.out ht3 HF.out.tx HF.out.ty (by omega) (by omega) (by omega) (by omega))
      have HB4 := Aside0.mk (ht3.below HBW.out HBW.out.size (by omega) (by omega))
      have HR4 : Aside0 (Hd.RangeA w3 ⟨w.heap.size, 0, none⟩ (nums .u8 s)) := ⟨fun j v hj => by
        have q1 := HR.out j v hj
        have hlt := World.block_lt_of_cell? _ _ q1
        rw [addr0] at q1 hlt ⊢
        rw [← q1]
        unfold World.cell?
        rw [ht3.block w.heap.size hlt (by omega) (by omega)]⟩
      clear hT3 ht3 HDO
      generalize stepX room xs2 d = xs3 at *
      go_wp2
      go_roundg (50 - (i + 1) + 1)
      case measure => have := HGK.out; omega
      case rel => exact ⟨i + 1, xs3, by go_num, by omega, by omega, ⟨rfl⟩, HT3, HTX3, HB4, HR4⟩
    · by_cases hlt1 : i < k2
      · have h1 : decide ((i : Int) < (k2 : Int)) = true := by simp; omega
        have h2 : decide ((i : Int) < 50) = false := by simp; omega
        go_wp2_with ((with_reducible refine gate_ (.load 35 (.tmp 9)) rfl ?_); refine Hd.wpList_load_any rfl _ (.tmp 9) rfl _ rfl (nums .u8 s) _ HR.out HU.out rfl HIS.out ?_)
        refine (HNF.out _).mono ?_
        rintro e w4 ⟨rfl, hg4⟩
        have hb4 : Below wo.heap.size wo w4 := ⟨hg4.os, hg4.tape, hg4.output, hg4.size, fun k hk => hg4.block k hk (fun e => by cases e)⟩
        have HB4 := Aside0.mk (below_then HBW.out HBW.out.size hb4)
        have HX4 := Aside0.mk (HX.out.below hb4)
        have HF4 := Aside0.mk (HF.out.below hb4)
        clear hb4 hg4
        go_wp2_with fail
        refine (live_calls _).mono ?_
        rintro e w5 ⟨rfl, hb5⟩
        have HB5 := Aside0.mk (below_then HB4.out HB4.out.size hb5)
        have HX5 := Aside0.mk (HX4.out.below hb5)
        have HF5 := Aside0.mk (HF4.out.below hb5)
        clear hb5
        go_wp2_with fail
        refine (alike_calls HX5.out hr9).mono ?_
        rintro e w6 ⟨rfl, hb6⟩
        have HB6 := Aside0.mk (below_then HB5.out HB5.out.size hb6)
        have HF6 := Aside0.mk (HF5.out.below hb6)
        clear hb6
        go_wp2_with fail
        refine (alike_calls HF6.out hr9).mono ?_
        rintro e w7 ⟨rfl, hb7⟩
        have HB7 := Aside0.mk (below_then HB6.out HB6.out.size hb7)
        clear hb7
        go_wp2_with fail
        refine (nil_put _ _ _).mono ?_
        rintro e w8 ⟨rfl, rfl⟩
        go_wp2_with fail
        refine (nil_drop _ _).mono ?_
        rintro e w8 ⟨rfl, rfl⟩
        go_wp2_with fail
        refine (nil_clear _).mono ?_
        rintro e w8 ⟨rfl, rfl⟩
        go_wp2_with fail
        refine (nil_has _ _).mono ?_
        rintro e w8 ⟨rfl, rfl⟩
        go_wp2_with fail
        refine (nil_sums _).mono ?_
        rintro e w8 ⟨rfl, rfl⟩
        go_wp2_with fail
        refine (nil_bins _).mono ?_
        rintro e w8 ⟨rfl, rfl⟩
        go_wp2_with fail
        refine (nil_fork _).mono ?_
        rintro e w9 ⟨rfl, rfl⟩
        go_wp2
        go_ret
        exact ⟨rfl, below_alloc HB7.out _⟩
      · have h1 : decide ((i : Int) < (k2 : Int)) = false := by simp; omega
        go_wp2_with ((with_reducible refine gate_ (.load 35 (.tmp 9)) rfl ?_); refine Hd.wpList_load_any rfl _ (.tmp 9) rfl _ rfl (nums .u8 s) _ HR.out HU.out rfl HIS.out ?_)
        refine (HNF.out _).mono ?_
        rintro e w4 ⟨rfl, hg4⟩
        have hb4 : Below wo.heap.size wo w4 := ⟨hg4.os, hg4.tape, hg4.output, hg4.size, fun k hk => hg4.block k hk (fun e => by cases e)⟩
        have HB4 := Aside0.mk (below_then HBW.out HBW.out.size hb4)
        have HX4 := Aside0.mk (HX.out.below hb4)
        have HF4 := Aside0.mk (HF.out.below hb4)
        clear hb4 hg4
        go_wp2_with fail
        refine (live_calls _).mono ?_
        rintro e w5 ⟨rfl, hb5⟩
        have HB5 := Aside0.mk (below_then HB4.out HB4.out.size hb5)
        have HX5 := Aside0.mk (HX4.out.below hb5)
        have HF5 := Aside0.mk (HF4.out.below hb5)
        clear hb5
        go_wp2_with fail
        refine (alike_calls HX5.out hr9).mono ?_
        rintro e w6 ⟨rfl, hb6⟩
        have HB6 := Aside0.mk (below_then HB5.out HB5.out.size hb6)
        have HF6 := Aside0.mk (HF5.out.below hb6)
        clear hb6
        go_wp2_with fail
        refine (alike_calls HF6.out hr9).mono ?_
        rintro e w7 ⟨rfl, hb7⟩
        have HB7 := Aside0.mk (below_then HB6.out HB6.out.size hb7)
        clear hb7
        go_wp2_with fail
        refine (nil_put _ _ _).mono ?_
        rintro e w8 ⟨rfl, rfl⟩
        go_wp2_with fail
        refine (nil_drop _ _).mono ?_
        rintro e w8 ⟨rfl, rfl⟩
        go_wp2_with fail
        refine (nil_clear _).mono ?_
        rintro e w8 ⟨rfl, rfl⟩
        go_wp2_with fail
        refine (nil_has _ _).mono ?_
        rintro e w8 ⟨rfl, rfl⟩
        go_wp2_with fail
        refine (nil_sums _).mono ?_
        rintro e w8 ⟨rfl, rfl⟩
        go_wp2_with fail
        refine (nil_bins _).mono ?_
        rintro e w8 ⟨rfl, rfl⟩
        go_wp2_with fail
        refine (nil_fork _).mono ?_
        rintro e w9 ⟨rfl, rfl⟩
        go_wp2
        go_ret
        exact ⟨rfl, below_alloc HB7.out _⟩
end Go.Proofs.Ytocmljijdecilaa.CaL3
