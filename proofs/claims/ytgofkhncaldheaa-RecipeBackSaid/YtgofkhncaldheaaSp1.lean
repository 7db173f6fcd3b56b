/- Spots as a kind of elements; slices.Compact at spots, walked; condition: the row holds spots within int's reach. -/
import Derived.Test.YtgofkhncaldheaaRmS
import Derived.Test.YtgofkhncaldheaaRsh
import Derived.Lib.SlicesCompact
import Derived.Shelf.GgSortFunc.RowK
namespace Go.Proofs.Ytgofkhncaldheaa.SpK
open Go Go.RowKit Go.Proofs.YtgofkhncaldheaaW.PrintWords Go.Proofs.Ytgofkhncaldheaa.K Go.Proofs.Ytgofkhncaldheaa.ReS Go.Proofs.Ytgofkhncaldheaa.ReR Go.Proofs.Ytgofkhncaldheaa.ReT Go.Proofs.Ytgofkhncaldheaa.ReK Go.Proofs.Ytgofkhncaldheaa.ReE Go.Proofs.Ytgofkhncaldheaa.ReO Go.Proofs.Ytgofkhncaldheaa.Mp Go.Proofs.Ytgofkhncaldheaa.Eq Go.Proofs.Ytgofkhncaldheaa.RmS
set_option linter.unusedVariables false
set_option linter.unusedSimpArgs false
def spE (p : Sp) : List Value := [.int .i64 p.1, .int .i64 p.2]
def OkS (p : Sp) : Prop := (Lit.int .i64 p.1).wf = true ∧ (Lit.int .i64 p.2).wf = true
theorem spE_len (p : Sp) : (spE p).length = 2 := rfl
theorem spE_one (p : Sp) : ∀ v ∈ spE p, v.oneCell' = true := fun v hv => by
  simp [spE] at hv
  rcases hv with rfl | rfl <;> rfl
def dSp : Kd Sp := Kd.flatK 2 OkS spE (fun _ _ => rfl) (fun x _ => spE_one x)
theorem flat_sp : Flat dSp := Kd.flatK_flat _ _ _ _ _
theorem sp_cells {w : World} {A : Option Addr} {n : Nat} {xs : List Sp} (h : dSp.C w A n xs) (i : Nat) (hi : i < n) : ∃ ad, A = some ad ∧ OkS (xs.getD i default) ∧ w.cell? (ad.add (i * 2)) = some (.int .i64 (xs.getD i default).1) ∧ w.cell? ⟨(ad.add (i * 2)).block, (ad.add (i * 2)).off + 1, none⟩ = some (.int .i64 (xs.getD i default).2) := by
  obtain ⟨ad, had, hc⟩ := h.2.2 (by omega)
  have hl := h.1
  have hx : xs[i]? = some (xs.getD i default) := by
    have : i < xs.length := by omega
    simp [this]
  obtain ⟨cs, h1, ⟨ho, rfl⟩, h3⟩ := hc i _ hx
  refine ⟨ad, had, ho, h3 0 _ rfl, ?_⟩
  have := h3 1 _ rfl
  rw [← Addr.add_add] at this
  exact this
theorem sp_neq_same (p : Sp) (h : OkS p) (W : World) : (binOp .neq 61 (.agg #[.int .i64 p.1, .int .i64 p.2]) (.agg #[.int .i64 p.1, .int .i64 p.2])).run Try.prog W = .ok (.bool false) W := by
  obtain ⟨l, hl⟩ := key_spot p.1 p.2 h.1 h.2
  exact neq_same wide_spot hl W
theorem sp_eql_same (p : Sp) (h : OkS p) (W : World) : (binOp .eql 61 (.agg #[.int .i64 p.1, .int .i64 p.2]) (.agg #[.int .i64 p.1, .int .i64 p.2])).run Try.prog W = .ok (.bool true) W := by
  obtain ⟨l, hl⟩ := key_spot p.1 p.2 h.1 h.2
  exact eql_same wide_spot hl (by simp [spotV]) W
theorem sp_ne {p q : Sp} (h : p ≠ q) : spotV p ≠ spotV q := fun e => by
  unfold spotV at e
  simp at e
  exact h (Prod.ext e.1 e.2)
theorem sp_neq_other (p q : Sp) (hp : OkS p) (hq : OkS q) (h : p ≠ q) (W : World) : (binOp .neq 61 (.agg #[.int .i64 p.1, .int .i64 p.2]) (.agg #[.int .i64 q.1, .int .i64 q.2])).run Try.prog W = .ok (.bool true) W := by
  obtain ⟨l, hl⟩ := key_spot p.1 p.2 hp.1 hp.2
  obtain ⟨l2, hl2⟩ := key_spot q.1 q.2 hq.1 hq.2
  exact neq_other wide_spot hl hl2 (sp_ne h) W
theorem sp_eql_other (p q : Sp) (hp : OkS p) (hq : OkS q) (h : p ≠ q) (W : World) : (binOp .eql 61 (.agg #[.int .i64 p.1, .int .i64 p.2]) (.agg #[.int .i64 q.1, .int .i64 q.2])).run Try.prog W = .ok (.bool false) W := by
  obtain ⟨l, hl⟩ := key_spot p.1 p.2 hp.1 hp.2
  obtain ⟨l2, hl2⟩ := key_spot q.1 q.2 hq.1 hq.2
  exact eql_other wide_spot hl hl2 (sp_ne h) W
end Go.Proofs.Ytgofkhncaldheaa.SpK
namespace Go.Proofs.Ytgofkhncaldheaa.SpC
open Go Go.RowKit Go.Sort Go.Lib Go.Proofs.YtgofkhncaldheaaW.PrintWords Go.Proofs.Ytgofkhncaldheaa.K Go.Proofs.Ytgofkhncaldheaa.ReS Go.Proofs.Ytgofkhncaldheaa.RmS Go.Proofs.Ytgofkhncaldheaa.SpK
set_option linter.unusedVariables false
set_option linter.unusedSimpArgs false
theorem cell0 {w : World} {blk off : Nat} {d : Array Sp} (h : HoldsK spE 2 w blk off d) (i : Nat) (hi : i < d.size) : w.cell? ⟨blk, off + i * 2, none⟩ = some (.int .i64 (d[i]!).1) := by
  have := (h.cell hi (show 0 < 2 by omega)).1
  exact this
theorem cell1 {w : World} {blk off : Nat} {d : Array Sp} (h : HoldsK spE 2 w blk off d) (i : Nat) (hi : i < d.size) : w.cell? ⟨blk, off + i * 2 + 1, none⟩ = some (.int .i64 (d[i]!).2) := by
  have := (h.cell hi (show 1 < 2 by omega)).1
  exact this
theorem froz0 {w : World} {blk off : Nat} {d : Array Sp} (h : HoldsK spE 2 w blk off d) (i : Nat) (hi : i < d.size) : w.frozen? ⟨blk, off + i * 2, none⟩ = false := (h.cell hi (show 0 < 2 by omega)).2
theorem froz1 {w : World} {blk off : Nat} {d : Array Sp} (h : HoldsK spE 2 w blk off d) (i : Nat) (hi : i < d.size) : w.frozen? ⟨blk, off + i * 2 + 1, none⟩ = false := (h.cell hi (show 1 < 2 by omega)).2
/-- The cells below place k are those of the spots. -/
def Low (l : List Sp) (F : Array Value) : Prop := ∀ i x, l[i]? = some x → F[i * 2]! = .int .i64 x.1 ∧ F[i * 2 + 1]! = .int .i64 x.2
theorem flat_at (d : Array Sp) (i : Nat) (hi : i < d.size) : (flatK spE 2 d)[i * 2]! = .int .i64 (d[i]!).1 ∧ (flatK spE 2 d)[i * 2 + 1]! = .int .i64 (d[i]!).2 := by
  constructor
  · rw [get_flatK _ _ _ _ (by omega), show i * 2 / 2 = i by omega, show i * 2 % 2 = 0 by omega]; rfl
  · rw [get_flatK _ _ _ _ (by omega), show (i * 2 + 1) / 2 = i by omega, show (i * 2 + 1) % 2 = 1 by omega]; rfl
theorem low_all (d : Array Sp) (h : ∀ j, j < d.size → keeps d j = true) : Low (compactUpTo d d.size) (flatK spE 2 d) := fun i x hx => by
  rw [compactUpTo_all d _ h, range_map_get] at hx
  obtain ⟨hi, hx⟩ := List.getElem?_eq_some_iff.1 hx
  have hi : i < d.size := by simpa using hi
  have e : d[i]! = x := by rw [getElem!_pos d i hi, ← hx]; simp
  have := flat_at d i hi
  rwa [e] at this
theorem low_set {l : List Sp} {F : Array Value} (k : Nat) (vs : List Value) (h : Low l F) (hl : l.length ≤ k) (hs : k * 2 + vs.length ≤ F.size) : Low l (setMany F (k * 2) vs) := fun i x hx => by
  obtain ⟨hi, _⟩ := List.getElem?_eq_some_iff.1 hx
  rw [get_setMany _ _ _ _ (by omega), if_neg (by omega), get_setMany _ _ _ _ (by omega), if_neg (by omega)]
  exact h i x hx
theorem low_inv {d dk : Array Sp} {k : Nat} (h : CompInv d d.size k dk) : Low (compactUpTo d d.size) (flatK spE 2 dk) := fun i x hx => by
  obtain ⟨hi, _⟩ := List.getElem?_eq_some_iff.1 hx
  rw [h.len] at hi
  have hk := h.lt
  have hs := h.size
  have e := h.low i hi
  rw [hx] at e
  injection e with e
  have := flat_at dk i (by omega)
  rwa [← e] at this
theorem flat_set (d : Array Sp) (k : Nat) (hk : k < d.size) (x : Sp) : setMany (flatK spE 2 d) (k * 2) (spE x) = flatK spE 2 (d.setIfInBounds k x) := by
  refine ext_get! (by simp) fun t ht => ?_
  have ht' : t < d.size * 2 := by simpa using ht
  rw [get_setMany _ _ _ t (by simpa using ht'), get_flatK _ _ _ t ht', get_flatK _ _ _ t (by simpa using ht')]
  by_cases a : t / 2 = k
  · rw [if_pos (by rw [spE_len]; omega), a, getElem!_set_same d k x hk, show t - k * 2 = t % 2 by omega]
  · rw [if_neg (by rw [spE_len]; omega), getElem!_set_other d k _ x a]
theorem store_sp {w : World} {blk off : Nat} (d : Array Sp) (k : Nat) (hk : k < d.size) (x : Sp) : (putRowK spE 2 w blk off d).setCells blk (off + k * 2) (spE x) = putRowK spE 2 w blk off (d.setIfInBounds k x) := by
  unfold putRowK
  rw [setCells_putRow _ _ _ _ _ _ (by rw [size_flatK, spE_len]; omega), flat_set d k hk x]
theorem zero2 (n : Nat) : (Builtin.zeroCells (#[.int .i64 0, .int .i64 0] : Array Value) n).toList = List.replicate (n * 2) (.int .i64 0) := by
  simp [Builtin.zeroCells]
  apply List.ext_getElem
  · simp [Nat.mul_comm]
  · intro i h1 h2
    have : i % 2 = 0 ∨ i % 2 = 1 := by omega
    rcases this with h | h <;> simp [h]
theorem run_clear2 (w : World) (ty : TypeId) (b o n c : Nat) (hn : 0 < n) (hc : ∀ j, j < n * 2 → (w.cell? ⟨b, o + j, none⟩).isSome = true) (hf : ∀ j, j < n * 2 → w.frozen? ⟨b, o + j, none⟩ = false) :
    (Builtin.clear_ #[58] ty #[.slice (some ⟨b, o, none⟩) n c]).run Try.prog w = .ok (.tuple #[]) (w.setCells b o (List.replicate (n * 2) (.int .i64 0))) := by
  have hst := run_storeCells_cells (P := Try.prog) b o (List.replicate (n * 2) (.int .i64 0)) 0 w (by simpa using hc) (by simpa using hf) (by intro v hv'; rw [List.eq_of_mem_replicate hv']; rfl)
  simp only [Nat.add_zero] at hst
  obtain ⟨m, rfl⟩ : ∃ m, n = m + 1 := ⟨n - 1, by omega⟩
  simp [Builtin.clear_, run_underlying Try.underlying58, zeroSpot, Value.cells, zero2, hst]
end Go.Proofs.Ytgofkhncaldheaa.SpC
namespace Go.Proofs.Ytgofkhncaldheaa.SpD
open Go Go.RowKit Go.Sort Go.Lib Go.Proofs.YtgofkhncaldheaaW.PrintWords Go.Proofs.Ytgofkhncaldheaa.K Go.Proofs.Ytgofkhncaldheaa.ReS Go.Proofs.Ytgofkhncaldheaa.RmS Go.Proofs.Ytgofkhncaldheaa.SpK Go.Proofs.Ytgofkhncaldheaa.SpC
set_option linter.unusedVariables false
set_option linter.unusedSimpArgs false
def Cpt (d : Array Sp) (blk off : Nat) (w w' : World) : Prop := ∃ (q : Nat) (F : Array Value), F.size = d.size * 2 ∧ w' = putRow id (Sort.ahead w q) blk off F ∧ Low (compactUpTo d d.size) F
theorem cpt_same {d : Array Sp} {blk off : Nat} {w : World} (hH : HoldsK spE 2 w blk off d) (q : Nat) (hall : ∀ j, j < d.size → keeps d j = true) : (compactUpTo d d.size).length = d.size ∧ Cpt d blk off w (w.drewN q) := by
  refine ⟨?_, q, flatK spE 2 d, by simp, ?_, low_all d hall⟩
  · rw [compactUpTo_all d _ hall, range_map_get]; simp
  · exact (putRowK_self spE 2 (Sort.ahead w q) blk off d (holdsK_ahead spE 2 w q blk off d hH)).symm
theorem stored (w : World) (q blk off : Nat) (dk : Array Sp) (kk : Nat) (hk : kk < dk.size) (u : Sp) : (((putRowK spE 2 (Sort.ahead w q) blk off dk).setCell ⟨blk, off + kk * 2, none⟩ (.int .i64 u.1)).setCell ⟨blk, off + kk * 2 + 1, none⟩ (.int .i64 u.2)).drew = putRowK spE 2 (Sort.ahead w (q + 1)) blk off (dk.setIfInBounds kk u) := by
  have e := store_sp (w := Sort.ahead w q) (blk := blk) (off := off) dk kk hk u
  have e2 : ((putRowK spE 2 (Sort.ahead w q) blk off dk).setCell ⟨blk, off + kk * 2, none⟩ (.int .i64 u.1)).setCell ⟨blk, off + kk * 2 + 1, none⟩ (.int .i64 u.2) = (putRowK spE 2 (Sort.ahead w q) blk off dk).setCells blk (off + kk * 2) (spE u) := rfl
  rw [e2, e]
  exact putRowK_drewN spE 2 w q 1 blk off _
theorem cell_some {w : World} {blk off : Nat} {d : Array Sp} (h : HoldsK spE 2 w blk off d) (k j : Nat) (hj : k * 2 + j < d.size * 2) : (w.cell? ⟨blk, off + k * 2 + j, none⟩).isSome = true := by
  have := (h (k * 2 + j) (by rw [size_flatK]; exact hj)).1
  rw [← Nat.add_assoc] at this
  rw [this]; rfl
theorem cell_froz {w : World} {blk off : Nat} {d : Array Sp} (h : HoldsK spE 2 w blk off d) (k j : Nat) (hj : k * 2 + j < d.size * 2) : w.frozen? ⟨blk, off + k * 2 + j, none⟩ = false := by
  have := (h (k * 2 + j) (by rw [size_flatK]; exact hj)).2
  rwa [← Nat.add_assoc] at this
set_option maxHeartbeats 8000000 in
set_option maxRecDepth 1000000 in
theorem cpt_calls (blk off cap : Nat) (d : Array Sp) (w : World) (hH : HoldsK spE 2 w blk off d) (ho : ∀ i, i < d.size → OkS d[i]!) (hsz : d.size ≤ 9223372036854775807) (hcap : d.size ≤ cap) :
    Calls Try.prog 40 #[.slice (some ⟨blk, off, none⟩) d.size cap] w fun e w' => e = .returned (.slice (some ⟨blk, off, none⟩) (compactUpTo d d.size).length cap) ∧ Cpt d blk off w w' := by
  have HH := Aside0.mk hH
  have HO := Aside0.mk ho
  clear hH ho
  by_cases h2 : d.size < 2
  · have h1 : decide ((d.size : Int) < 2) = true := by simp; omega
    go_enter Try.func40, Try.ntmps40
    go_wp2
    go_ret
    obtain ⟨e1, e2⟩ := cpt_same HH.out 0 (fun j hj => keeps_lt_one d j (by omega))
    exact ⟨by rw [e1]; rfl, e2⟩
  · have h1 : decide ((d.size : Int) < 2) = false := by simp; omega
    go_enter Try.func40, Try.ntmps40
    go_wp2
    go_loopg [3] d.size (fun g s3 wr => ∃ k q : Nat, 1 ≤ k ∧ k ≤ d.size ∧ d.size - k ≤ g ∧ s3 = .int .i64 k ∧ wr = w.drewN q ∧ Aside0 (∀ j, j < k → keeps d j = true))
    case atStart => exact ⟨1, 0, Nat.le_refl _, by omega, by omega, rfl, rfl, ⟨keeps_lt_one d⟩⟩
    case round =>
      obtain ⟨k, q, hk1, hk, hg, rfl, rfl, A⟩ := hrel
      by_cases hlt : k < d.size
      · obtain ⟨kp, rfl⟩ : ∃ kp, k = kp + 1 := ⟨k - 1, by omega⟩
        have c0 := cell0 HH.out (kp + 1) hlt
        have c1 := cell1 HH.out (kp + 1) hlt
        have b0 := cell0 HH.out kp (by omega)
        have b1 := cell1 HH.out kp (by omega)
        obtain ⟨x, hx⟩ : ∃ x, d[kp + 1]! = x := ⟨_, rfl⟩
        obtain ⟨y, hy⟩ : ∃ y, d[kp]! = y := ⟨_, rfl⟩
        have hox := HO.out (kp + 1) hlt
        have hoy := HO.out kp (by omega)
        rw [hx] at c0 c1 hox
        rw [hy] at b0 b1 hoy
        have B := Aside0.mk (And.intro hx hy)
        have hkz : (kp : Int) + 1 < (d.size : Int) := by omega
        have hkz1 : (kp : Int) < (d.size : Int) := by omega
        have hk2 : decide ((kp : Int) + 1 < (d.size : Int)) = true := by simpa using hkz
        have hwp : IntKind.i64.wrap (kp : Int) = (kp : Int) := by rw [IntKind.wrap_i64]; omega
        have p0 : (0 : Int) ≤ (kp : Int) + 1 := by omega
        have e0 : ((kp : Int) + 1).toNat = kp + 1 := by omega
        clear hx hy
        by_cases hdup : x = y
        · subst hdup
          have heq := sp_eql_same x hox
          clear hox hoy
          go_wp2_with fail
          go_region
          go_wp2
          clear c0 c1 b0 b1 heq hwp
          go_loopg [3, 5] d.size (fun g s3 s5 wr => ∃ (kk k2 q2 : Nat) (dk : Array Sp), s3 = .int .i64 kk ∧ s5 = .int .i64 k2 ∧ 1 ≤ k2 ∧ kp + 1 + k2 ≤ d.size ∧ d.size - (kp + 1 + k2) ≤ g ∧ Aside0 (wr = putRowK spE 2 (Sort.ahead w q2) blk off dk) ∧ Aside0 (CompInv d (kp + 1 + k2) kk dk))
          case atStart => exact ⟨kp + 1, 1, q + 1, d, rfl, rfl, Nat.le_refl _, by omega, by omega, ⟨(putRowK_self spE 2 (Sort.ahead w (q + 1)) blk off d (holdsK_ahead spE 2 w (q + 1) blk off d HH.out)).symm⟩, ⟨CompInv.start A.out (keeps_neg (by omega) (by rw [B.out.1]; exact B.out.2.symm))⟩⟩
          case round =>
            obtain ⟨kk, k2, q2, dk, rfl, rfl, h21, hle, hg2, W2, I2⟩ := hrel
            have hkk := I2.out.lt
            have hds := I2.out.size
            have HHk := Aside0.mk (show HoldsK spE 2 wr blk off dk by rw [W2.out]; exact holdsK_putRowK spE 2 _ blk off d dk (holdsK_ahead spE 2 w q2 blk off d HH.out) hds)
            by_cases hlt2 : kp + 1 + k2 < d.size
            · obtain ⟨kq, rfl⟩ : ∃ kq, k2 = kq + 1 := ⟨k2 - 1, by omega⟩
              have c0 := cell0 HHk.out (kp + 1 + (kq + 1)) (by omega)
              have c1 := cell1 HHk.out (kp + 1 + (kq + 1)) (by omega)
              have b0 := cell0 HHk.out (kp + 1 + kq) (by omega)
              have b1 := cell1 HHk.out (kp + 1 + kq) (by omega)
              rw [I2.out.high (kp + 1 + (kq + 1)) (by omega), show off + (kp + 1 + (kq + 1)) * 2 = off + (kp + 1) * 2 + (kq + 1) * 2 by omega] at c0 c1
              rw [I2.out.high (kp + 1 + kq) (by omega), show off + (kp + 1 + kq) * 2 = off + (kp + 1) * 2 + kq * 2 by omega] at b0 b1
              obtain ⟨u, hu⟩ : ∃ x, d[kp + 1 + (kq + 1)]! = x := ⟨_, rfl⟩
              obtain ⟨v, hv⟩ : ∃ y, d[kp + 1 + kq]! = y := ⟨_, rfl⟩
              have hou := HO.out (kp + 1 + (kq + 1)) hlt2
              have hov := HO.out (kp + 1 + kq) (by omega)
              rw [hu] at c0 c1 hou
              rw [hv] at b0 b1 hov
              have C := Aside0.mk (And.intro hu hv)
              clear hu hv
              have hsb : ((d.size - (kp + 1) : Nat) : Int) = (d.size : Int) - ((kp : Int) + 1) := by omega
              have j1 : (kq : Int) + 1 < (d.size : Int) - ((kp : Int) + 1) := by omega
              have j2 : (kq : Int) < (d.size : Int) - ((kp : Int) + 1) := by omega
              have j3 : decide ((kq : Int) + 1 < (d.size : Int) - ((kp : Int) + 1)) = true := by simpa using j1
              have hwq : IntKind.i64.wrap (kq : Int) = (kq : Int) := by rw [IntKind.wrap_i64]; omega
              have q0 : (0 : Int) ≤ (kq : Int) + 1 := by omega
              have e1 : ((kq : Int) + 1).toNat = kq + 1 := by omega
              by_cases huv : u = v
              · subst huv
                have heq := sp_neq_same u hou
                clear hou hov
                go_wp2_with fail
                go_region
                go_wp2
                go_roundg (d.size - (kp + 1 + (kq + 1 + 1)))
                case measure => omega
                case rel => exact ⟨kk, kq + 1 + 1, q2 + 1, dk, rfl, by go_num, by omega, by omega, Nat.le_refl _, ⟨by rw [W2.out]; rfl⟩, ⟨I2.out.skip (keeps_neg (by omega) (by rw [C.out.1]; exact C.out.2.symm))⟩⟩
              · have heq := sp_neq_other u v hou hov huv
                clear hou hov
                have k0 := cell0 HHk.out kk (by omega)
                have k1 := cell1 HHk.out kk (by omega)
                have f0 := froz0 HHk.out kk (by omega)
                have f1 := froz1 HHk.out kk (by omega)
                go_wp2_with fail
                go_region
                go_wp2
                go_roundg (d.size - (kp + 1 + (kq + 1 + 1)))
                case measure => omega
                case rel => exact ⟨kk + 1, kq + 1 + 1, q2 + 1, dk.setIfInBounds kk u, by go_num, by go_num, by omega, by omega, Nat.le_refl _, ⟨by rw [W2.out]; exact stored w q2 blk off dk kk (by omega) u⟩, ⟨by have := I2.out.keep hlt2 (keeps_pos (by rw [C.out.1]; exact fun h => huv (h.trans C.out.2))); rwa [C.out.1] at this⟩⟩
            · have hend : kp + 1 + k2 = d.size := by omega
              have hsb : ((d.size - (kp + 1) : Nat) : Int) = (d.size : Int) - ((kp : Int) + 1) := by omega
              have j3 : decide ((k2 : Int) < (d.size : Int) - ((kp : Int) + 1)) = false := by simp; omega
              have hck : ((d.size - kk : Nat) : Int) = (d.size : Int) - (kk : Int) := by omega
              have hcl : ∀ ty, (Builtin.clear_ #[58] ty #[.slice (some ⟨blk, off + kk * 2, none⟩) (d.size - kk) (cap - kk)]).run Try.prog wr = .ok (.tuple #[]) (wr.setCells blk (off + kk * 2) (List.replicate ((d.size - kk) * 2) (.int .i64 0))) :=
                fun ty => run_clear2 wr ty blk _ _ _ (by omega) (fun j hj => cell_some HHk.out kk j (by omega)) (fun j hj => cell_froz HHk.out kk j (by omega))
              go_wp2
              go_ret
              have hI := I2.out
              rw [hend] at hI
              refine ⟨by rw [hI.len]; rfl, q2, setMany (flatK spE 2 dk) (kk * 2) (List.replicate ((d.size - kk) * 2) (.int .i64 0)), by simp [hds], ?_, low_set kk _ (low_inv hI) (by rw [hI.len]; exact Nat.le_refl _) (by simp; omega)⟩
              rw [W2.out]
              exact setCells_putRow _ _ _ _ _ _ (by simp; omega)
        · have heq := sp_eql_other x y hox hoy hdup
          clear hox hoy
          go_wp2_with fail
          go_region
          go_wp2
          go_roundg (d.size - (kp + 1 + 1))
          case measure => omega
          case rel =>
            refine ⟨kp + 1 + 1, q + 1, by omega, by omega, Nat.le_refl _, by go_num, rfl, ⟨fun j hj => ?_⟩⟩
            by_cases e : j = kp + 1
            · subst e
              exact keeps_pos (by rw [B.out.1]; exact fun h => hdup (h.trans B.out.2))
            · exact A.out j (by omega)
      · have : k = d.size := by omega
        subst this
        have hk2 : decide ((d.size : Int) < (d.size : Int)) = false := by simp
        go_wp2
        go_ret
        obtain ⟨e1, e2⟩ := cpt_same HH.out q A.out
        exact ⟨by rw [e1]; rfl, e2⟩
end Go.Proofs.Ytgofkhncaldheaa.SpD
