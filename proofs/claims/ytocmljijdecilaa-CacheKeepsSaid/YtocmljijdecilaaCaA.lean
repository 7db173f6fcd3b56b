/- The cache's row: where a container stands; condition: the struct and its row lie apart. -/
import Derived.Test.YtocmljijdecilaaCaD
import Derived.Shelf.Abstract
namespace Go.Proofs.Ytocmljijdecilaa.CaA
open Go Go.RowKit Go.Proofs.YtocmljijdecilaaW.PrintWords Go.Proofs.Ytocmljijdecilaa.K Go.Proofs.Ytocmljijdecilaa.Mp Go.Proofs.Ytocmljijdecilaa.Eq Go.Proofs.Ytocmljijdecilaa.CaS Go.Proofs.Ytocmljijdecilaa.CaC Go.Proofs.Ytocmljijdecilaa.CaD
set_option linter.unusedVariables false
set_option linter.unusedSimpArgs false
/-- The struct block g, and the row that it holds. -/
def Ca (w : World) (T : Nat → Prop) (g : Nat) (room : Int) (ts : List Kn) : Prop :=
  ∃ A c, w.heap[g]? = some (.cells #[.int .i64 room, .slice A ts.length c] 59 (0, 0)) ∧ dKn.C w A ts.length ts ∧ ts.length ≤ c ∧ ∀ a, A = some a → a.block < w.heap.size ∧ ¬ T a.block
theorem kn_at {w : World} {A : Option Addr} {n : Nat} {xs : List Kn} (h : dKn.C w A n xs) (i : Nat) (hi : i < n) : ∃ ad, A = some ad ∧ w.cell? (ad.add (i * 3)) = some (.int .i64 (xs.getD i default).bin) ∧ w.cell? ⟨(ad.add (i * 3)).block, (ad.add (i * 3)).off + 1, none⟩ = some (.slice (xs.getD i default).sa (xs.getD i default).sn (xs.getD i default).sc) ∧ w.cell? ⟨(ad.add (i * 3)).block, (ad.add (i * 3)).off + 2, none⟩ = some (.map (some (xs.getD i default).m)) := by
  obtain ⟨ad, had, hc⟩ := h.2.2 (by omega)
  have hl := h.1
  have hx : xs[i]? = some (xs.getD i default) := by
    have : i < xs.length := by omega
    simp [this]
  obtain ⟨cs, h1, ⟨ho, rfl⟩, h3⟩ := hc i _ hx
  refine ⟨ad, had, h3 0 _ rfl, ?_, ?_⟩
  · have := h3 1 _ rfl
    rw [← Addr.add_add] at this
    exact this
  · have := h3 2 _ rfl
    rw [← Addr.add_add] at this
    exact this
/-- The first of a container, or -1. -/
def atB : List Kn → Int → Nat → Int
  | [], _, _ => -1
  | k :: l, b, i => if k.bin = b then (i : Int) else atB l b (i + 1)
theorem clo_calls (k : Kn) (b : Int) (gb : Nat) (W : World) (hb : W.cell? ⟨gb, 0, none⟩ = some (.int .i64 b)) : Calls Try.prog 36 #[.agg #[.int .i64 k.bin, .slice k.sa k.sn k.sc, .map (some k.m)], .pointer (some ⟨gb, 0, none⟩)] W fun e w' => e = .returned (.bool (k.bin == b)) ∧ Below W.heap.size W w' := by
  have hbl := World.block_lt_of_cell? _ _ hb
  have hbb := (below_alloc (Below.refl W.heap.size W) (.cells #[.int .i64 k.bin, .slice k.sa k.sn k.sc, .map (some k.m)] 68)).cell hbl
  have HB := Aside0.mk (below_alloc (Below.refl W.heap.size W) (.cells #[.int .i64 k.bin, .slice k.sa k.sn k.sc, .map (some k.m)] 68))
  have hb2 := hbb.trans hb
  clear hbb
  obtain ⟨kb, ka, kn, kc, km⟩ := k
  simp only at *
  go_enter Try.func36, Try.ntmps36
  go_wp2
  go_ret
  exact ⟨rfl, HB.out⟩
set_option maxHeartbeats 2000000 in
theorem idx_calls (A : Option Addr) (n c : Nat) (ts : List Kn) (b : Int) (gb : Nat) (w : World) (h : dKn.C w A n ts) (hb : w.cell? ⟨gb, 0, none⟩ = some (.int .i64 b)) :
    Calls Try.prog 35 #[.slice A n c, .func (.func 36) #[] #[.pointer (some ⟨gb, 0, none⟩)]] w fun e w' => e = .returned (.int .i64 (atB ts b 0)) ∧ Below w.heap.size w w' := by
  have eg : ∀ args w, (callFunc 36 args).run Try.prog w = .ok (.enter 36 args) w := enters_of Try.func36 (by kernel_rfl) rfl
  have H := Aside0.mk h
  have HBB := Aside0.mk hb
  have hn := h.2.1
  have hl := h.1
  clear h hb
  go_enter Try.func35, Try.ntmps35
  go_wp2
  go_loopg [8] (n + 1) (fun gk v8 wr => ∃ i : Nat, v8 = .int .i64 i ∧ i ≤ n ∧ Aside0 (gk = n - i + 1) ∧ Aside0 (atB ts b 0 = atB (ts.drop i) b i) ∧ Aside0 (Below w.heap.size w wr))
  case atStart => exact ⟨0, rfl, Nat.zero_le _, ⟨rfl⟩, ⟨by rw [List.drop_zero]⟩, ⟨Below.refl _ _⟩⟩
  case round =>
    obtain ⟨i, rfl, hi, HG, HAT, HB⟩ := hrel
    by_cases hlt : i < n
    · have h1 : decide ((i : Int) < (n : Int)) = true := by simp; omega
      have hp1 : (0 : Int) ≤ (i : Int) := by omega
      have hp2 : (i : Int) < (n : Int) := by omega
      obtain ⟨ad, rfl, b0, b1, b2⟩ := kn_at (Kd.C_below H.out HB.out) i hlt
      have hd : ts.drop i = ts.getD i default :: ts.drop (i + 1) := by
        rw [List.drop_eq_getElem_cons (by omega)]
        simp [show i < ts.length from by omega]
      have HAT2 := Aside0.mk (show atB ts b 0 = if (ts.getD i default).bin = b then (i : Int) else atB (ts.drop (i + 1)) b (i + 1) from HAT.out.trans (by rw [hd]; rfl))
      clear hd HAT
      generalize ts.getD i default = k at *
      have HCL := Aside0.mk (clo_calls k b gb wr ((HB.out.cell (World.block_lt_of_cell? _ _ HBB.out)).trans HBB.out))
      by_cases he : k.bin = b
      · have hat := HAT2.out
        rw [if_pos he] at hat
        have HAT3 := Aside0.mk hat
        have hcl := HCL.out
        rw [show (k.bin == b) = true from by simpa using he] at hcl
        have HCL2 := Aside0.mk hcl
        clear hat HAT2 hcl HCL he
        obtain ⟨kb, ka, kn, kc, km⟩ := k
        simp only at *
        go_wp2_with (go_at_call 36; (with_reducible refine (HCL2.out).mono ?_); rintro e w' ⟨rfl, hb4⟩; have HB4 := Aside0.mk (below_then HB.out HB.out.size hb4); clear hb4)
        go_ret
        exact ⟨by rw [HAT3.out]; rfl, HB4.out⟩
      · have hat := HAT2.out
        rw [if_neg he] at hat
        have HAT3 := Aside0.mk hat
        have hcl := HCL.out
        rw [show (k.bin == b) = false from by simpa using he] at hcl
        have HCL2 := Aside0.mk hcl
        clear hat HAT2 hcl HCL he
        obtain ⟨kb, ka, kn, kc, km⟩ := k
        simp only at *
        go_wp2_with (go_at_call 36; (with_reducible refine (HCL2.out).mono ?_); rintro e w' ⟨rfl, hb4⟩; have HB4 := Aside0.mk (below_then HB.out HB.out.size hb4); clear hb4)
        go_roundg (n - (i + 1) + 1)
        case measure => have := HG.out; omega
        case rel => exact ⟨i + 1, by go_num, by omega, ⟨rfl⟩, HAT3, HB4⟩
    · obtain rfl : i = n := by omega
      have h1 : decide ((i : Int) < (i : Int)) = false := by simp
      have hat := HAT.out
      rw [List.drop_of_length_le (by omega)] at hat
      have HAT3 := Aside0.mk hat
      clear hat
      go_wp2
      go_ret
      exact ⟨by rw [HAT3.out]; rfl, HB.out⟩
theorem at_calls {w : World} {T : Nat → Prop} {g : Nat} {room : Int} {ts : List Kn} (h : Ca w T g room ts) (b : Int) : Calls Try.prog 27 #[.pointer (some ⟨g, 0, none⟩), .int .i64 b] w fun e w' => e = .returned (.int .i64 (atB ts b 0)) ∧ Below w.heap.size w w' := by
  obtain ⟨A, c, hg, hC, hc, hA⟩ := h
  have hal := below_alloc (Below.refl w.heap.size w) (.cells #[.int .i64 b] 3)
  have hgl := (Array.getElem?_eq_some_iff.1 hg).1
  have a1 := obj_cell ((hal.block g hgl).trans hg) 1 (v := .slice A ts.length c) rfl
  have HB := Aside0.mk hal
  have HI := Aside0.mk (idx_calls A ts.length c ts b w.heap.size _ (Kd.C_below hC hal) (obj_cell (heap_alloc_new w (.cells #[.int .i64 b] 3)) 0 rfl))
  clear hal hg hC hA hgl
  go_enter Try.func27, Try.ntmps27
  go_wp2_with (go_at_call 35; (with_reducible refine (HI.out).mono ?_); rintro e w' ⟨rfl, hb4⟩; have HB4 := Aside0.mk (below_then HB.out HB.out.size hb4); clear hb4)
  go_ret
  exact ⟨rfl, HB4.out⟩
end Go.Proofs.Ytocmljijdecilaa.CaA
