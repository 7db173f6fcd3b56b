/- The reference's Drop of a container, walked; condition: the reference's cache stands. -/
import Derived.Test.YtocmljijdecilaaCaX
namespace Go.Proofs.Ytocmljijdecilaa.CaY
open Go Go.RowKit Go.Proofs.YtocmljijdecilaaW.PrintWords Go.Proofs.Ytocmljijdecilaa.K Go.Proofs.Ytocmljijdecilaa.CaS Go.Proofs.Ytocmljijdecilaa.CaC Go.Proofs.Ytocmljijdecilaa.CaD Go.Proofs.Ytocmljijdecilaa.CaO Go.Proofs.Ytocmljijdecilaa.CaX
set_option linter.unusedVariables false
set_option linter.unusedSimpArgs false
theorem kr_at {w : World} {A : Option Addr} {n : Nat} {xs : List Kr} (h : dKr.C w A n xs) (i : Nat) (hi : i < n) : ∃ ad, A = some ad ∧ w.cell? (ad.add (i * 2)) = some (.int .i64 (xs.getD i default).bin) ∧ w.cell? ⟨(ad.add (i * 2)).block, (ad.add (i * 2)).off + 1, none⟩ = some (.slice (xs.getD i default).sa (xs.getD i default).sn (xs.getD i default).sc) := by
  obtain ⟨ad, had, hc⟩ := h.2.2 (by omega)
  have hl := h.1
  have hx : xs[i]? = some (xs.getD i default) := by
    have : i < xs.length := by omega
    simp [this]
  obtain ⟨cs, h1, ⟨ho, rfl⟩, h3⟩ := hc i _ hx
  refine ⟨ad, had, h3 0 _ rfl, ?_⟩
  have := h3 1 _ rfl
  rw [← Addr.add_add] at this
  exact this
def rrm (ts : List Kr) (b : Int) : List Kr := ts.filter (fun t => decide (t.bin ≠ b))
theorem rrm_take (ts : List Kr) (b : Int) (i : Nat) (h : i < ts.length) : rrm (ts.take (i + 1)) b = rrm (ts.take i) b ++ (if (ts.getD i default).bin ≠ b then [ts.getD i default] else []) := by
  have e : ts.getD i default = ts[i] := by simp [h]
  unfold rrm
  rw [List.take_add_one, List.getElem?_eq_getElem h, e, Option.toList_some, List.filter_append]
  congr 1
  by_cases hb : ts[i].bin ≠ b <;> simp [List.filter_cons, hb]
set_option maxHeartbeats 4000000 in
theorem rdrop_calls {w : World} {T : Nat → Prop} {g : Nat} {room : Int} {ts : List Kr} (h : Cr w T g room ts) (b : Int) (hn : ts.length ≤ 900) (hT : ∀ k, T k → k < w.heap.size) : Calls Try.prog 33 #[.pointer (some ⟨g, 0, none⟩), .int .i64 b] w fun e w' => e = .returned (.tuple #[]) ∧ Cr w' T g room (rrm ts b) ∧ w.grownBy w' (some g) := by
  obtain ⟨A, c, hg, hC, hc, hA⟩ := h
  have hgl := (Array.getElem?_eq_some_iff.1 hg).1
  have HG := Aside0.mk hg
  have HC := Aside0.mk hC
  clear hg hC hA
  go_enter Try.func33, Try.ntmps33
  go_wp2
  go_loopg [4, 5] (ts.length + 1) (fun gk v4 v5 wr => ∃ i : Nat, v5 = .int .i64 i ∧ i ≤ ts.length ∧ Aside0 (gk = ts.length - i + 1) ∧ Aside0 (Kd.R dKr 80 wr w.heap.size (fun _ => True) (v4) (rrm (ts.take i) b)) ∧ Aside0 (Below w.heap.size w wr))
  case atStart => exact ⟨0, rfl, Nat.zero_le _, ⟨rfl⟩, ⟨Kd.R_made_nil _ _ _⟩, ⟨below_alloc (Below.refl _ _) _⟩⟩
  case round =>
    obtain ⟨i, rfl, hi, HGK, HO, HB⟩ := hrel
    obtain ⟨wo, rfl⟩ : ∃ wo : World, wo = wr := ⟨_, rfl⟩
    have a1 := obj_cell ((HB.out.block g hgl).trans HG.out) 1 (v := .slice A ts.length c) rfl
    by_cases hlt : i < ts.length
    · have h1 : decide ((i : Int) < (ts.length : Int)) = true := by simp; omega
      have hp1 : (0 : Int) ≤ (i : Int) := by omega
      have hp2 : (i : Int) < (ts.length : Int) := by omega
      obtain ⟨ad, rfl, b0, b1⟩ := kr_at (Kd.C_below HC.out HB.out) i hlt
      have HST := Aside0.mk (rrm_take ts b i hlt)
      have HLN : Aside0 ((rrm (ts.take i) b).length ≤ i) := ⟨Nat.le_trans (List.length_filter_le _ _) (List.length_take_le _ _)⟩
      generalize ts.getD i default = k at *
      obtain ⟨kb, ka, kn, kc⟩ := k
      simp only at b0 b1
      by_cases hb : kb = b
      · have hbb : (kb != b) = false := by simpa using hb
        have HX : Aside0 (rrm (ts.take (i + 1)) b = rrm (ts.take i) b) := ⟨by rw [HST.out, if_neg (by simpa using hb), List.append_nil]⟩
        clear hb
        go_wp2
        go_roundg (ts.length - (i + 1) + 1)
        case measure => have := HGK.out; omega
        case rel => exact ⟨i + 1, by go_num, by omega, ⟨rfl⟩, ⟨by rw [HX.out]; exact HO.out⟩, HB⟩
      · have hbb : (kb != b) = true := by simpa using hb
        have HX : Aside0 (rrm (ts.take (i + 1)) b = rrm (ts.take i) b ++ [⟨kb, ka, kn, kc⟩]) := ⟨by rw [HST.out, if_pos (by simpa using hb)]⟩
        clear hb
        go_wp2_with ((with_reducible refine gate_builtin (b := .append) (xs := #[.tmp 26, .tmp 34]) rfl ?_); at_builtin; refine app1 dKr flat_kr w.heap.size (w0 := w) (.tmp 26) (.tmp 34) 60 80 (.agg #[.int .i64 0, .slice none 0 0]) 32 rfl rfl Try.underlying60 infoKr rfl (by decide) (by decide) _ (rrm (ts.take i) b) ⟨kb, ka, kn, kc⟩ (Kr.cells ⟨kb, ka, kn, kc⟩) rfl rfl ?aP ?aO ?aB ?aS ?aL ?_; (case aP => first | exact rfl | exact ⟨trivial, rfl⟩ | exact ⟨HOK.out, rfl⟩); (case aO => exact HO.out); (case aB => exact (by repeat (first | (with_reducible first | exact HB.out | apply below_alloc | apply pw_below_drewN | apply below_drew1) | exact HB.out))); (case aS => exact (below_size (by repeat (first | (with_reducible first | exact HB.out | apply below_alloc | apply pw_below_drewN | apply below_drew1) | exact HB.out)))); (case aL => exact (by have := HLN.out; omega)); intro v1 w1 ho1 hb1 hg1 hat1; have HO1 := Aside0.mk ho1; have HB1 := Aside0.mk hb1; clear ho1 hb1 hg1 hat1)
        go_roundg (ts.length - (i + 1) + 1)
        case measure => have := HGK.out; omega
        case rel => exact ⟨i + 1, by go_num, by omega, ⟨rfl⟩, ⟨by rw [HX.out]; exact HO1.out⟩, HB1⟩
    · obtain rfl : i = ts.length := by omega
      have h1 : decide ((ts.length : Int) < (ts.length : Int)) = false := by simp
      have ho := HO.out
      rw [List.take_of_length_le (Nat.le_refl _)] at ho
      obtain ⟨A2, c2, rfl, hlc2, hC2⟩ := Kd.R_reads ho
      have hg2 := (HB.out.block g hgl).trans HG.out
      have f1 := obj_free hg2 1
      have HG2 := Aside0.mk hg2
      have HC2 := Aside0.mk hC2
      have HA2 : Aside0 (∀ a, A2 = some a → w.heap.size ≤ a.block ∧ a.block < wo.heap.size) := ⟨fun a ha => ⟨Kd.R_base ho a.block (by rw [ha]; rfl), Kd.R_lt ho _ (by rw [ha]; rfl)⟩⟩
      clear hg2 hC2 ho
      go_wp2
      go_end0
      refine ⟨rfl, ⟨A2, c2, (obj_set HG2.out 1 _).trans rfl, C_same HC2.out (fun a ha => Below.heap_setCell _ _ _ _ (by show a.block ≠ g; have := (HA2.out a ha).1; omega)), hlc2, fun a ha => ⟨by simpa [World.setCell] using (HA2.out a ha).2, fun e => by have := hT _ e; have := (HA2.out a ha).1; omega⟩⟩, World.grownBy.trans (grown_below HB.out) (obj_grown _ _ _ _)⟩
end Go.Proofs.Ytocmljijdecilaa.CaY
