/- What the reference's Put of squeeze computes: bytes, squeezed; condition: the bytes read as bytes. -/
import Derived.Test.YtlmcompoalhpnaaSqD
namespace Go.Proofs.Ytlmcompoalhpnaa.SqE
open Go Go.RowKit Go.Proofs.YtlmcompoalhpnaaW.PrintWords Go.Proofs.Ytlmcompoalhpnaa.K Go.Proofs.Ytlmcompoalhpnaa.OctS Go.Proofs.Ytlmcompoalhpnaa.OctP Go.Proofs.Ytlmcompoalhpnaa.Oct Go.Proofs.Ytlmcompoalhpnaa.Ap Go.Proofs.Ytlmcompoalhpnaa.SqA Go.Proofs.Ytlmcompoalhpnaa.SqC Go.Proofs.Ytlmcompoalhpnaa.SqD
set_option linter.unusedVariables false
set_option linter.unusedSimpArgs false
/-- All pieces from a place on; o: what is told, pl: bytes that stand as they are. -/
def putL (p : List Int) : Nat → Nat → List Int → List Int → List Int
  | 0, _, o, pl => o ++ rowB pl
  | f + 1, i, o, pl => if i < p.length then (if (matchR p i).1 = 0 then putL p f (i + 1) o (pl ++ [p.getD i 0]) else putL p f (i + (matchR p i).1) (o ++ rowB pl ++ [124 + ((matchR p i).1 : Int)] ++ numB (matchR p i).2) []) else o ++ rowB pl
def putF (p : List Int) : List Int × Int := if 8192 < p.length then ([], 6) else (putL p p.length 0 [] [], 0)
theorem cnt_in (p : List Int) (i d : Nat) : ∀ (f n : Nat), i + n ≤ p.length → i + cnt p i d f n ≤ p.length
  | 0, n, h => h
  | f + 1, n, h => by
    unfold cnt
    split
    · rename_i h1; exact cnt_in p i d f (n + 1) (by omega)
    · exact h
theorem scan_in (p : List Int) (i : Nat) (hi : i ≤ p.length) : ∀ (f d : Nat) (r : Nat × Nat), d + f ≤ 4097 → i + r.1 ≤ p.length → r.2 ≤ 4096 → (r.1 = 0 ∨ (4 ≤ r.1 ∧ 1 ≤ r.2)) → 1 ≤ d → i + (scanD p i f d r).1 ≤ p.length ∧ (scanD p i f d r).2 ≤ 4096 ∧ ((scanD p i f d r).1 = 0 ∨ (4 ≤ (scanD p i f d r).1 ∧ 1 ≤ (scanD p i f d r).2))
  | 0, _, _, _, h, h2, h3, _ => ⟨h, h2, h3⟩
  | f + 1, d, r, hd, h, h2, h3, h1 => by
    have hb : i + (bestD p i d r).1 ≤ p.length ∧ (bestD p i d r).2 ≤ 4096 ∧ ((bestD p i d r).1 = 0 ∨ (4 ≤ (bestD p i d r).1 ∧ 1 ≤ (bestD p i d r).2)) := by
      unfold bestD
      split
      · rename_i h4
        exact ⟨cnt_in p i d 131 0 (by omega), by simp only; omega, Or.inr ⟨h4.1, h1⟩⟩
      · exact ⟨h, h2, h3⟩
    exact scan_in p i hi f (d + 1) _ (by omega) hb.1 hb.2.1 hb.2.2 (by omega)
theorem match_in {p : List Int} {i : Nat} (hi : i ≤ p.length) : i + (matchR p i).1 ≤ p.length ∧ (matchR p i).2 ≤ 4096 ∧ ((matchR p i).1 = 0 ∨ (4 ≤ (matchR p i).1 ∧ 1 ≤ (matchR p i).2)) ∧ (matchR p i).1 ≤ 131 := by
  obtain ⟨a, b, c⟩ := scan_in p i hi (min i 4096) 1 (0, 0) (by omega) (by simpa using hi) (by simp) (Or.inl rfl) (by omega)
  exact ⟨a, b, c, scan_le p i _ _ _ (by simp)⟩
theorem apart_symm {v p : Value} (h : Apart v p) : Apart p v := fun k hk hv => h k hv hk
theorem putL_end {p : List Int} {i : Nat} {o pl : List Int} (h : ¬ i < p.length) : ∀ f, putL p f i o pl = o ++ rowB pl
  | 0 => rfl
  | f + 1 => if_neg h
set_option maxHeartbeats 8000000 in
set_option maxRecDepth 20000 in
theorem rput_calls (A : Option Addr) (c : Nat) (p : List Int) (w : World) (hC : (Kd.int .u8).C w A p.length p) (hc : p.length ≤ c) (hm : p.length ≤ 140737488351232) :
    Calls Try.prog 10 #[.slice A p.length c] w fun e w' => ∃ v, e = .returned (.tuple #[v, .int .i64 (putF p).2]) ∧ Kd.R (Kd.int .u8) 5 w' w.heap.size (fun _ => True) (v) ((putF p).1) ∧ Below w.heap.size w w' := by
  by_cases h8 : 8192 < p.length
  · have d1 : decide ((8192 : Int) < (p.length : Int)) = true := by simp only [decide_eq_true_eq]; omega
    have HF : Aside0 (putF p = ([], 6)) := ⟨if_pos h8⟩
    clear hC h8
    go_enter Try.func10, Try.ntmps10
    go_wp2_with fail
    go_ret2
    exact ⟨_, by rw [HF.out]; rfl, by rw [HF.out]; exact Kd.R_nil _ _ _ _ _, Below.refl _ _⟩
  have d1 : decide ((8192 : Int) < (p.length : Int)) = false := by simp only [decide_eq_false_iff_not]; omega
  have HF : Aside0 (putF p = (putL p p.length 0 [] [], 0)) := ⟨if_neg h8⟩
  have HC := Aside0.mk hC
  have HMT := Aside0.mk (fun (i : Nat) (hi : i ≤ p.length) (W : World) (hW : Below w.heap.size w W) => rmatch_calls A c p i W (Kd.C_below hC hW) hc hm hi)
  have hp8 : p.length ≤ 8192 := by omega
  clear hC h8
  have HN0 := Kd.R_made_nil (Kd.int .u8) w 5
  obtain ⟨W1, hW1⟩ : ∃ X, X = w.alloc (.cells #[] 5) := ⟨_, rfl⟩
  have hN1 := Kd.R_made_nil (Kd.int .u8) W1 5
  rw [← hW1] at HN0
  have hz1 : W1.heap.size = w.heap.size + 1 := by rw [hW1]; simp
  have HB1 : Aside0 (Below w.heap.size w (W1.alloc (.cells #[] 5))) := ⟨by rw [hW1]; exact below_alloc (below_alloc (Below.refl _ _) _) _⟩
  have HO0 := Aside0.mk (Kd.R_alloc HN0 (.cells #[] 5))
  have HP0 := Aside0.mk (Kd.R_lower hN1 (show w.heap.size ≤ W1.heap.size by omega))
  have HA0 := Aside0.mk (apart_lt hN1 (R_lt_size HN0))
  rw [hW1] at HO0 HP0 HB1 HA0
  rw [World.size_alloc] at HP0 HA0
  clear hW1 hz1 HN0 hN1
  go_enter Try.func10, Try.ntmps10
  go_wp2_with fail
  go_loopg [4, 5, 6] (p.length + 1) (fun gk v4 v5 v6 wr => ∃ (i f : Nat) (o pl : List Int), v6 = .int .i64 (i : Int) ∧ i ≤ p.length ∧ Aside0 (gk = p.length - i + 1) ∧ Aside0 (p.length - i ≤ f) ∧ Aside0 (putL p f i o pl = (putF p).1) ∧ Aside0 (o.length + 2 * pl.length ≤ 12 * i) ∧ Aside0 (Kd.R (Kd.int .u8) 5 wr w.heap.size (fun _ => True) (v4) (o)) ∧ Aside0 (Kd.R (Kd.int .u8) 5 wr w.heap.size (fun _ => True) (v5) (pl)) ∧ Aside0 (Apart v4 v5) ∧ Aside0 (Below w.heap.size w wr))
  case atStart => exact ⟨0, p.length, [], [], rfl, Nat.zero_le _, ⟨rfl⟩, ⟨by omega⟩, ⟨by rw [HF.out]⟩, ⟨by simp⟩, HO0, HP0, HA0, HB1⟩
  case round =>
    obtain ⟨i, f, o, pl, rfl, hi, HGK, HFU, HPL, HLN, HO, HP, HA, HBr⟩ := hrel
    obtain ⟨A5, c5, rfl, hc5, -⟩ := Kd.R_reads HP.out
    have HSZ := Aside0.mk HBr.out.size
    have HC5 : Aside0 (∀ W, wr.grownBy W u4.ownBlock → (Kd.int .u8).C W A5 pl.length pl) := ⟨fun W hW => (Kd.R_reads' (R_apart (flat_int _) HA.out HP.out hW)).2.2⟩
    have HLE : Aside0 (o.length + 2 * pl.length ≤ 98304) := ⟨by have := HLN.out; omega⟩
    by_cases hlt : i < p.length
    · have d2 : decide ((i : Int) < (p.length : Int)) = true := by simp only [decide_eq_true_eq]; omega
      obtain ⟨g, hg⟩ : ∃ g, f = g + 1 := ⟨f - 1, by have := HFU.out; omega⟩
      subst hg
      have HST : Aside0 ((if (matchR p i).1 = 0 then putL p g (i + 1) o (pl ++ [p.getD i 0]) else putL p g (i + (matchR p i).1) (o ++ rowB pl ++ [124 + ((matchR p i).1 : Int)] ++ numB (matchR p i).2) []) = (putF p).1) := ⟨by
        rw [← HPL.out]
        conv => rhs; unfold putL
        rw [if_pos hlt]⟩
      have HMI := Aside0.mk (match_in (p := p) hi)
      go_wp2_with fail
      refine (HMT.out i hi wr HBr.out).mono ?_
      rintro e w1 ⟨rfl, hb1⟩
      have HB2 := Aside0.mk (below_then HBr.out HBr.out.size hb1)
      have HO2 := Aside0.mk (Kd.R_below HO.out hb1)
      have HP2 := Aside0.mk (Kd.R_below HP.out hb1)
      have HC52 : Aside0 (∀ W, w1.grownBy W u4.ownBlock → (Kd.int .u8).C W A5 pl.length pl) := ⟨fun W hW => (Kd.R_reads' (R_apart (flat_int _) HA.out HP2.out hW)).2.2⟩
      have HSZ2 := Aside0.mk HB2.out.size
      clear hb1 d2
      generalize matchR p i = M at *
      obtain ⟨n, d⟩ := M
      dsimp only at *
      by_cases hn : n = 0
      · subst hn
        obtain ⟨ad, rfl, hcell⟩ := Kd.at_int (Kd.C_below HC.out HB2.out) (i : Int) (by omega) (by omega)
        rw [Int.toNat_natCast] at hcell
        have hrd : rd p (i : Int) = p.getD i 0 := rfl
        rw [hrd] at hcell
        have hi1 : (0 : Int) ≤ (i : Int) := by omega
        have hi2 : (i : Int) < (p.length : Int) := by omega
        rw [if_pos rfl] at HST
        generalize p.getD i 0 = ch at *
        clear hrd
        have HLT := Aside0.mk hlt
        clear hlt
        go_wp2_with ((with_reducible refine gate_builtin (b := .append) (xs := #[.tmp 28, .tmp 33]) rfl ?_); at_builtin; refine app1 (Kd.int .u8) (flat_int .u8) w.heap.size (w0 := w) (.tmp 28) (.tmp 33) 22 5 (.int .u8 0) 1 rfl rfl Try.underlying22 infoU8 rfl (by decide) (by decide) _ pl ch [.int .u8 ch] rfl rfl rfl HP2.out HB2.out HSZ2.out (by have := HLE.out; omega) ?_; intro v3 w3 ho3 hb3 hg3 hat3; have HP3 := Aside0.mk ho3; have HB3 := Aside0.mk hb3; have HO3 := Aside0.mk (R_apart (flat_int _) (apart_symm HA.out) HO2.out hg3); have HA3 := Aside0.mk (apart_symm (apart_next (apart_symm HA.out) HO2.out hat3)); clear ho3 hb3 hg3 hat3)
        go_roundg (p.length - (i + 1) + 1)
        case measure => have := HGK.out; have := HLT.out; omega
        case rel => exact ⟨i + 1, g, o, pl ++ [ch], by go_num, by have := HLT.out; omega, ⟨rfl⟩, ⟨by have := HFU.out; omega⟩, HST, ⟨by have := HLN.out; simp only [List.length_append, List.length_cons, List.length_nil]; omega⟩, HO3, HP3, HA3, HB3⟩
      · have hn0 : ((n : Int) == 0) = false := by simp; omega
        have hn0' : (n == 0) = false := by simp; omega
        rw [if_neg hn] at HST
        have hmi := HMI.out
        have hd1 : 1 ≤ d := by rcases hmi.2.2.1 with h | h <;> omega
        have HNN : Aside0 (4 ≤ n ∧ n ≤ 131 ∧ d ≤ 4096 ∧ i + n ≤ p.length) := ⟨by rcases hmi.2.2.1 with h | h <;> omega⟩
        clear hn hmi hlt
        go_wp2_with fail
        refine (row_calls w.heap.size u4 o A5 pl.length c5 pl w1 HO2.out HSZ2.out HC52.out hc5 (by have := HLE.out; omega)).mono ?_
        rintro e w2 ⟨v2, rfl, ho2, hb2, hg2⟩
        have HB3 := Aside0.mk (HB2.out.trans hb2)
        have HO3 := Aside0.mk ho2
        clear ho2 hb2 hg2
        have HN2 := Kd.R_made_nil (Kd.int .u8) w2 5
        have HP4 := Aside0.mk (Kd.R_lower HN2 HB3.out.size)
        have HA4 := Aside0.mk (apart_lt HN2 (R_lt_size HO3.out))
        have HO4 := Aside0.mk (Kd.R_alloc HO3.out (.cells #[] 5))
        have HB4 := Aside0.mk (below_alloc HB3.out (.cells #[] 5))
        clear HN2
        go_wp2_with fail
        obtain ⟨W4, hW4⟩ : ∃ X, X = w2.alloc (.cells #[] 5) := ⟨_, rfl⟩
        rw [← hW4] at HP4 HO4 HB4 ⊢
        clear hW4
        generalize w2.heap.size = g2 at *
        have hnd := HNN.out
        refine (rnum_ok d (by omega) W4).mono ?_
        rintro e w5 ⟨v5, rfl, ho5, hb5⟩
        have HB5 := Aside0.mk (below_then HB4.out HB4.out.size hb5)
        have HO5 := Aside0.mk (Kd.R_below HO4.out hb5)
        have HP5 := Aside0.mk (Kd.R_below HP4.out hb5)
        have HV5 := Aside0.mk ho5
        have HAV := Aside0.mk (apart_lt ho5 (R_lt_size HO4.out))
        obtain ⟨A9, c9, rfl⟩ := Kd.R_slice ho5
        have HS5 := Aside0.mk HB5.out.size
        have HRL : Aside0 ((rowB pl).length ≤ 2 * pl.length) := ⟨rowF_len _ _⟩
        have HDL : Aside0 ((numB d).length ≤ 8) := ⟨numB_len8 d (by omega)⟩
        have hw1 : IntKind.i64.wrap (124 + (n : Int)) = 124 + (n : Int) := IntWalk.i64_in _ (by omega)
        have hw2 : IntKind.u8.wrap (124 + (n : Int)) = 124 + (n : Int) := IntWalk.u8_in _ (by omega)
        have hnb := HNN.out.2.1
        clear ho5 hb5 hnd
        go_wp2_with (first
          | ((with_reducible refine gate_builtin (b := .append) (xs := #[.tmp 46, .tmp 50]) rfl ?_); at_builtin; refine app1 (Kd.int .u8) (flat_int .u8) w.heap.size (w0 := w) (.tmp 46) (.tmp 50) 22 5 (.int .u8 0) 1 rfl rfl Try.underlying22 infoU8 rfl (by decide) (by decide) _ (o ++ rowB pl) (124 + (n : Int)) [.int .u8 (124 + (n : Int))] rfl rfl rfl HO5.out HB5.out HS5.out (by have := HLE.out; have := HRL.out; simp only [List.length_append]; omega) ?_; intro v6 w6 ho6 hb6 hg6 hat6; have HO6 := Aside0.mk ho6; have HB6 := Aside0.mk hb6; have HV6 := Aside0.mk (R_apart (flat_int _) HAV.out HV5.out hg6); have HP6 := Aside0.mk (R_apart (flat_int _) HA4.out HP5.out hg6); have HA6 := Aside0.mk (apart_next HA4.out HP5.out hat6); have HS6 := Aside0.mk (Nat.le_trans HS5.out hg6.size); clear ho6 hb6 hg6 hat6)
          | ((with_reducible refine gate_builtin (b := .append) (xs := #[.tmp 52, .tmp 53]) rfl ?_); at_builtin; refine app (Kd.int .u8) (flat_int .u8) w.heap.size (w0 := w) (.tmp 52) (.tmp 53) 22 5 (.int .u8 0) 1 rfl rfl Try.underlying22 infoU8 rfl (by decide) (by decide) _ (o ++ rowB pl ++ [124 + (n : Int)]) (numB d) A9 (numB d).length c9 rfl rfl HO6.out (Kd.R_reads' HV6.out).2.2 HB6.out HS6.out (by have := HLE.out; have := HRL.out; have := HDL.out; simp only [List.length_append, List.length_cons, List.length_nil]; omega) ?_; intro v7 w7 ho7 hb7 hg7 hat7; have HO7 := Aside0.mk ho7; have HB7 := Aside0.mk hb7; have HP7 := Aside0.mk (R_apart (flat_int _) HA6.out HP6.out hg7); have HA7 := Aside0.mk (apart_next HA6.out HP6.out hat7); clear ho7 hb7 hg7 hat7))
        go_roundg (p.length - (i + n) + 1)
        case measure => have := HGK.out; have := HNN.out; omega
        case rel => exact ⟨i + n, g, _, [], by go_num, HNN.out.2.2.2, ⟨rfl⟩, ⟨by have := HFU.out; have := HNN.out; omega⟩, HST, ⟨by have := HLN.out; have := HRL.out; have := HDL.out; have := HNN.out; simp only [List.length_append, List.length_cons, List.length_nil]; omega⟩, HO7, HP7, HA7, HB7⟩
    · obtain rfl : i = p.length := by omega
      have d2 : decide ((p.length : Int) < (p.length : Int)) = false := by simp
      have HE : Aside0 (o ++ rowB pl = (putF p).1) := ⟨by rw [← HPL.out, putL_end (by omega)]⟩
      have HE2 : Aside0 ((putF p).2 = 0) := ⟨by rw [HF.out]⟩
      clear hlt
      go_wp2_with fail
      refine (row_calls w.heap.size u4 o A5 pl.length c5 pl wr HO.out HSZ.out HC5.out hc5 (by have := HLE.out; omega)).mono ?_
      rintro e w2 ⟨v2, rfl, ho2, hb2, hg2⟩
      go_wp2_with fail
      go_ret2
      exact ⟨_, by rw [HE2.out]; rfl, by rw [← HE.out]; exact ho2, HBr.out.trans hb2⟩
end Go.Proofs.Ytlmcompoalhpnaa.SqE
