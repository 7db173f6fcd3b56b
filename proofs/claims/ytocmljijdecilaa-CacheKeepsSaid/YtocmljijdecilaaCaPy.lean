/- A script played on both caches: they stay alike; condition: each deed reads as it should. -/
import Derived.Test.YtocmljijdecilaaCaAl
namespace Go.Proofs.Ytocmljijdecilaa.CaPy
open Go Go.RowKit Go.Proofs.YtocmljijdecilaaW.PrintWords Go.Proofs.Ytocmljijdecilaa.K Go.Proofs.Ytocmljijdecilaa.CaS Go.Proofs.Ytocmljijdecilaa.CaC Go.Proofs.Ytocmljijdecilaa.CaD Go.Proofs.Ytocmljijdecilaa.CaB2 Go.Proofs.Ytocmljijdecilaa.CaO Go.Proofs.Ytocmljijdecilaa.CaP Go.Proofs.Ytocmljijdecilaa.CaQ Go.Proofs.Ytocmljijdecilaa.CaR Go.Proofs.Ytocmljijdecilaa.CaX Go.Proofs.Ytocmljijdecilaa.CaY Go.Proofs.Ytocmljijdecilaa.CaM Go.Proofs.Ytocmljijdecilaa.CaN Go.Proofs.Ytocmljijdecilaa.CaDo Go.Proofs.Ytocmljijdecilaa.CaDp Go.Proofs.Ytocmljijdecilaa.CaDq Go.Proofs.Ytocmljijdecilaa.CaDr Go.Proofs.Ytocmljijdecilaa.CaDs Go.Proofs.Ytocmljijdecilaa.CaAl
set_option linter.unusedVariables false
set_option linter.unusedSimpArgs false
theorem size_calls (p : Nat) (hp : p ≤ 255) (w : World) : Calls Try.prog 15 #[.int .u8 p] w fun e w' => e = .returned (.int .i64 ((1 + p % 12 : Nat) : Int)) ∧ w = w' := by
  have a2 : IntKind.i64.wrap (p : Int) = (p : Int) := IntWalk.i64_in _ (by omega)
  have a4 : (p : Int).tmod 12 = ((p % 12 : Nat) : Int) := rfl
  have a6 : IntKind.i64.wrap (1 + ((p % 12 : Nat) : Int)) = ((1 + p % 12 : Nat) : Int) := by rw [show (1 : Int) + ((p % 12 : Nat) : Int) = ((1 + p % 12 : Nat) : Int) from by simp]; exact IntWalk.i64_in _ (by omega)
  generalize 1 + p % 12 = y at *
  generalize p % 12 = y0 at *
  clear hp
  go_enter Try.func15, Try.ntmps15
  go_wp2
  go_ret
  exact ⟨rfl, rfl⟩
theorem do_any {w : World} {T : Nat → Prop} {gx gy : Nat} {room : Nat} {xs : List Bn} (h : Two w T gx gy room xs) (hr : 0 < room ∧ room ≤ 900) (d : Deed) (hd : d.Ok w) (hdA : 0 < d.k → ∀ a, d.A = some a → a.block ≠ gx ∧ a.block ≠ gy) :
    Calls Try.prog 17 #[.pointer (some ⟨gx, 0, none⟩), .pointer (some ⟨gy, 0, none⟩), .agg d.cells.toArray] w fun e w' => e = .returned (.bool true) ∧ Two w' T gx gy room (stepX room xs d) ∧ Tch w w' gx gy := by
  unfold stepX
  by_cases h0 : d.op = 0
  · rw [if_pos h0]
    exact do_put h hr d hd hdA h0
  · rw [if_neg h0]
    by_cases h1 : d.op = 1
    · rw [if_pos h1]
      exact do_find h hr d ⟨hd.len, hd.wf⟩ h1
    · rw [if_neg h1]
      by_cases h2 : d.op = 2
      · rw [if_pos h2]
        exact do_drop h hr d h2
      · rw [if_neg h2]
        by_cases h3 : d.op = 3
        · rw [if_pos h3]
          exact do_has h hr d h3
        · rw [if_neg h3]
          exact do_clear h d h0 h1 h2 h3
def runN (room : Nat) (ds : List Deed) (i : Nat) : List Bn := (ds.take i).foldl (stepX room) []
theorem runN_step (room : Nat) (ds : List Deed) (i : Nat) (h : i < ds.length) : runN room ds (i + 1) = stepX room (runN room ds i) (ds.getD i default) := by
  unfold runN
  rw [List.take_add_one, List.getElem?_eq_getElem h, Option.toList_some, List.foldl_append]
  simp [h]
theorem sumLen_le {room : Nat} {xs : List Bn} (h : CaM.Good room xs) : sumLen xs ≤ 64 * room := by
  have h1 := lenTo_le h xs.length
  unfold lenTo at h1
  rw [List.take_of_length_le (by simp), sumLen_rev] at h1
  have := h.len
  omega
theorem infoDeed0 : (Try.prog.info? 40).map (·.size) = some 35 := by kernel_rfl
theorem infoDeed (d : Deed) (h : d.s.length = 32) : (Try.prog.info? 40).map (·.size) = some d.cells.length := by
  rw [Deed.cells_len h]
  exact infoDeed0
theorem deed_away {w : World} {d : Deed} (h : d.Ok w) (hk : 0 < d.k) (a : Addr) (ha : d.A = some a) : a.block < w.heap.size := by
  have hc := h.l.cells a ha 0 hk
  have hx := h.l.each (d.ls.getD 0 []) (by
    have : 0 < d.ls.length := by rw [h.l.len]; exact hk
    simp [this])
  have h0 : 0 < (nums .u8 (d.ls.getD 0 [])).length := by rw [show (nums .u8 (d.ls.getD 0 [])).length = 32 by simp only [nums, List.length_map]; exact hx.1]; decide
  have := World.block_lt_of_cell? _ _ (hc 0 _ (List.getElem?_eq_getElem h0))
  simpa [Addr.add] using this
set_option maxHeartbeats 8000000 in
set_option maxRecDepth 100000 in
theorem play_calls (p : Nat) (hp : p ≤ 255) (room : Nat) (hroom : room = 1 + p % 12) (A : Option Addr) (k c : Nat) (ds : List Deed) (w : World) (hs : DeedsC w A k ds) :
    Calls Try.prog 11 #[.int .u8 p, .slice A k c] w fun e w' => e = .returned (.tuple #[.pointer (some ⟨w.heap.size, 0, none⟩), .pointer (some ⟨w.heap.size + 1, 0, none⟩), .bool true]) ∧ Two w' (fun q => q = w.heap.size ∨ q = w.heap.size + 1) w.heap.size (w.heap.size + 1) room (runN room ds 120) ∧ Below w.heap.size w w' := by
  have SZ := Aside0.mk (fun W => size_calls p hp W)
  rw [← hroom] at SZ
  have hr : 0 < room ∧ room ≤ 12 := by omega
  have HU := Aside0.mk Try.underlying40
  have HS := Aside0.mk hs
  have hkl := hs.lim
  have hdl := hs.len
  clear hp hroom hs
  go_enter Try.func11, Try.ntmps11
  go_wp2_with fail
  refine (SZ.out _).mono ?_
  rintro e W0 ⟨rfl, rfl⟩
  go_wp2_with fail
  refine (new_ok room (by omega) (by omega) _).mono ?_
  rintro e W1 ⟨rfl, rfl⟩
  go_wp2_with fail
  refine (SZ.out _).mono ?_
  rintro e W0 ⟨rfl, rfl⟩
  go_wp2_with fail
  refine (rnew_ok room (by omega) (by omega) _).mono ?_
  rintro e W2 ⟨rfl, rfl⟩
  have HT0 : Aside0 (Two ((w.alloc (.cells #[.int .i64 room, .slice none 0 0] 59)).alloc (.cells #[.int .i64 room, .slice none 0 0] 62)) (fun q => q = w.heap.size ∨ q = w.heap.size + 1) w.heap.size (w.heap.size + 1) room []) := by
    have hy := cr_new (w.alloc (.cells #[.int .i64 room, .slice none 0 0] 59)) (fun q => q = w.heap.size ∨ q = w.heap.size + 1) room
    rw [World.size_alloc] at hy
    exact ⟨XS.below (w := w.alloc (.cells #[.int .i64 room, .slice none 0 0] 59)) ⟨[], ca_new w _ room, .nil⟩ (below_alloc (Below.refl _ _) _), ⟨[], hy, .nil⟩, CaM.good_nil room, by omega, .inl rfl, .inr rfl, fun q hq => by simp; omega⟩
  have HB0 : Aside0 (Below w.heap.size w ((w.alloc (.cells #[.int .i64 room, .slice none 0 0] 59)).alloc (.cells #[.int .i64 room, .slice none 0 0] 62))) := ⟨below_alloc (below_alloc (Below.refl _ _) _) _⟩
  go_wp2_with fail
  go_loopg [11] (121) (fun gk v11 wr => ∃ i : Nat, v11 = .int .i64 i ∧ i ≤ k ∧ i ≤ 120 ∧ Aside0 (gk = 120 - i + 1) ∧ Aside0 (Two wr (fun q => q = w.heap.size ∨ q = w.heap.size + 1) w.heap.size (w.heap.size + 1) room (runN room ds i)) ∧ Aside0 (Below w.heap.size w wr))
  case atStart => exact ⟨0, rfl, Nat.zero_le _, by omega, ⟨rfl⟩, HT0, HB0⟩
  case round =>
    obtain ⟨i, rfl, hi, hi2, HG, HT, HB⟩ := hrel
    by_cases hlt : i < k
    · have h1 : decide ((i : Int) < (k : Int)) = true := by simp; omega
      by_cases hlt2 : i < 120
      · have h2 : decide ((i : Int) < 120) = true := by simp; omega
        obtain ⟨ad, hA⟩ := HS.out.is (by omega)
        subst hA
        have hp1 : (0 : Int) ≤ (i : Int) := by omega
        have hp2 : (i : Int) < (k : Int) := by omega
        have hok0 : (ds.getD i default).Ok w := HS.out.each _ (by
          have : i < ds.length := by rw [HS.out.len]; exact hlt
          simp [this])
        have HST := Aside0.mk (runN_step room ds i (by omega))
        have HRA := Aside0.mk ((HS.out.cells ad rfl i hlt).below HB.out)
        have HI := Aside0.mk (infoDeed _ hok0.len)
        have HAW := Aside0.mk (fun h0 a ha => deed_away hok0 h0 a ha)
        have HOK := Aside0.mk (hok0.below HB.out)
        clear hok0
        generalize ds.getD i default = d at *
        have HDO := Aside0.mk (do_any HT.out ⟨hr.1, by omega⟩ d HOK.out (fun h0 a ha => by have := HAW.out h0 a ha; omega))
        rw [← HST.out] at HDO
        generalize hx2 : runN room ds (i + 1) = xs2 at *
        have HX2 := Aside0.mk hx2
        clear hx2
        go_wp2_with ((with_reducible refine gate_ (.load 40 (.tmp 50)) rfl ?_); refine Hd.wpList_load_any rfl _ (.tmp 50) rfl _ rfl d.cells _ HRA.out HU.out rfl HI.out ?_)
        refine HDO.out.mono ?_
        rintro e w3 ⟨rfl, hT3, ht3⟩
        have HT3 := Aside0.mk hT3
        have HB3 := Aside0.mk (ht3.below HB.out HB.out.size (Nat.le_refl _) (by omega))
        clear hT3 ht3
        go_wp2_with fail
        have hgd := HT3.out.good
        have hsl := sumLen_le hgd
        have hln := hgd.len
        have HBN := Aside0.mk (fun (X : World) (hX : Below w3.heap.size w3 X) => x_bins (HT3.out.below hX).x (by omega))
        refine (x_sums HT3.out.x (by omega)).mono ?_
        rintro e w4 ⟨rfl, hb4⟩
        have HB4 := Aside0.mk hb4
        clear hb4
        generalize sumLen xs2 = sl at *
        have hm : IntKind.i64.wrap ((room : Int) * 64) = (room : Int) * 64 := by rw [IntKind.wrap_i64]; omega
        have hd1 : decide ((room : Int) * 64 < (sl : Int)) = false := by simp; omega
        have hd2 : decide ((room : Int) < (xs2.length : Int)) = false := by simp; omega
        go_wp2_with fail
        refine (SZ.out _).mono ?_
        rintro e W5 ⟨rfl, rfl⟩
        go_wp2_with fail
        refine (HBN.out _ HB4.out).mono ?_
        rintro e w6 ⟨v6, rfl, ho6, hb6⟩
        obtain ⟨A6, c6, rfl, _⟩ := own_form ho6
        have HB6 := Aside0.mk hb6
        clear ho6 hb6
        go_wp2_with fail
        refine (SZ.out _).mono ?_
        rintro e W5 ⟨rfl, rfl⟩
        go_wp2
        go_roundg (120 - (i + 1) + 1)
        case measure => have := HG.out; omega
        case rel => exact ⟨i + 1, by go_num, by omega, by omega, ⟨rfl⟩, ⟨by rw [HX2.out]; exact (HT3.out.below HB4.out).below HB6.out⟩, ⟨below_then (below_then HB3.out HB3.out.size HB4.out) (Nat.le_trans HB3.out.size HB4.out.size) HB6.out⟩⟩
      · have h2 : decide ((i : Int) < 120) = false := by simp; omega
        have HAL := Aside0.mk (alike_calls HT.out ⟨hr.1, by omega⟩)
        have hrun : runN room ds i = runN room ds 120 := by rw [show i = 120 by omega]
        rw [hrun] at HT
        go_wp2_with fail
        refine HAL.out.mono ?_
        rintro e w5 ⟨rfl, hb5⟩
        have HB5 := Aside0.mk hb5
        clear hb5
        go_wp2
        go_ret3
        exact ⟨rfl, HT.out.below HB5.out, below_then HB.out HB.out.size HB5.out⟩
    · have h1 : decide ((i : Int) < (k : Int)) = false := by simp; omega
      have HAL := Aside0.mk (alike_calls HT.out ⟨hr.1, by omega⟩)
      have hrun : runN room ds i = runN room ds 120 := by unfold runN; rw [List.take_of_length_le (by omega), List.take_of_length_le (by omega)]
      rw [hrun] at HT
      go_wp2_with fail
      refine HAL.out.mono ?_
      rintro e w5 ⟨rfl, hb5⟩
      have HB5 := Aside0.mk hb5
      clear hb5
      go_wp2
      go_ret3
      exact ⟨rfl, HT.out.below HB5.out, below_then HB.out HB.out.size HB5.out⟩
end Go.Proofs.Ytocmljijdecilaa.CaPy
