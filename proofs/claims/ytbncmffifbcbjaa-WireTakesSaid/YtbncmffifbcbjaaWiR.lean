/- wire's reading: goes, must, num, text, many; condition: the reading's block, and its bytes read as bytes. -/
import Derived.Test.YtbncmffifbcbjaaOTT
import Derived.Test.YtbncmffifbcbjaaOctP
import Derived.Test.YtbncmffifbcbjaaAp
import Derived.Test.YtbncmffifbcbjaaHd
namespace Go.Proofs.Ytbncmffifbcbjaa.WiR
open Go Go.RowKit Go.Proofs.YtbncmffifbcbjaaW.PrintWords Go.Proofs.Ytbncmffifbcbjaa.K Go.Proofs.Ytbncmffifbcbjaa.OctS Go.Proofs.Ytbncmffifbcbjaa.OctP Go.Proofs.Ytbncmffifbcbjaa.Oct Go.Proofs.Ytbncmffifbcbjaa.Ap
set_option linter.unusedVariables false
set_option linter.unusedSimpArgs false
/-- Where a reading stands, and its first fault. -/
structure Rs where
  at_ : Int
  e : Int
def goR (s : Rs) (nx e : Int) : Rs := ⟨if e = 0 then nx else s.at_, e⟩
def mustR (s : Rs) (ok : Bool) (x : Int) : Rs := if s.e = 0 ∧ ok = false then ⟨s.at_, x⟩ else s
def numR (b : List Int) (s : Rs) : Int × Rs := if s.e = 0 then ((takeNum b s.at_).1, goR s (takeNum b s.at_).2.1 (takeNum b s.at_).2.2) else (0, s)
def textR (b : List Int) (s : Rs) (most : Int) : List Int × Rs := if s.e = 0 then ((takeText b s.at_ most).1, goR s (takeText b s.at_ most).2.1 (takeText b s.at_ most).2.2) else ([], s)
def manyR (b : List Int) (s : Rs) (most : Int) : Int × Rs := (if (mustR (numR b s).2 (decide ((numR b s).1 ≤ most)) 6).e = 0 then (numR b s).1 else 0, mustR (numR b s).2 (decide ((numR b s).1 ≤ most)) 6)
structure Rd (w : World) (g : Nat) (A : Option Addr) (n c : Nat) (s : Rs) : Prop where
  blk : w.heap[g]? = some (.cells #[.slice A n c, .int .i64 s.at_, .int .i64 s.e] 60 (0, 0))
theorem Rd.below {w w1 : World} {g n c : Nat} {A : Option Addr} {s : Rs} (h : Rd w g A n c s) (hb : Below w.heap.size w w1) : Rd w1 g A n c s := ⟨(hb.block g (Array.getElem?_eq_some_iff.1 h.blk).1).trans h.blk⟩
theorem Rd.setAt {w : World} {g n c : Nat} {A : Option Addr} {s : Rs} (h : Rd w g A n c s) (x : Int) : Rd (w.setCell ⟨g, 1, none⟩ (.int .i64 x)) g A n c ⟨x, s.e⟩ := ⟨obj_set h.blk 1 _⟩
theorem Rd.setE {w : World} {g n c : Nat} {A : Option Addr} {s : Rs} (h : Rd w g A n c s) (x : Int) : Rd (w.setCell ⟨g, 2, none⟩ (.int .i64 x)) g A n c ⟨s.at_, x⟩ := ⟨obj_set h.blk 2 _⟩
theorem Rd.lt {w : World} {g n c : Nat} {A : Option Addr} {s : Rs} (h : Rd w g A n c s) : g < w.heap.size := (Array.getElem?_eq_some_iff.1 h.blk).1
theorem Rd.kept {w w1 : World} {g n c : Nat} {A : Option Addr} {s : Rs} {row : Option Nat} (h : Rd w g A n c s) (hg : w.grownBy w1 row) (hne : some g ≠ row) : Rd w1 g A n c s := ⟨(hg.block g h.lt hne).trans h.blk⟩
theorem Below.grown_none {w w1 : World} (h : Below w.heap.size w w1) (g : Nat) : w.grownBy w1 (some g) := ⟨h.os, h.tape, h.output, h.size, fun k hk _ => h.block k hk⟩
theorem grown_trans {w w1 w2 : World} {r : Option Nat} (h : w.grownBy w1 r) (h2 : w1.grownBy w2 r) : w.grownBy w2 r :=
  ⟨h2.os.trans h.os, h2.tape.trans h.tape, h2.output.trans h.output, Nat.le_trans h.size h2.size, fun k hk hne => (h2.block k (Nat.lt_of_lt_of_le hk h.size) hne).trans (h.block k hk hne)⟩
theorem grown_set (w : World) (g k : Nat) (v : Value) : w.grownBy (w.setCell ⟨g, k, none⟩ v) (some g) := drewN_grown w 0 g k v
/-- Bytes are read as ever behind a write into a block that holds no bytes. -/
theorem bytes_kept {w w1 : World} {g n : Nat} {A : Option Addr} {xs : List Int} {cs : Array Value} {t : TypeId} {fr : Nat × Nat} (h : (Kd.int .u8).C w A n xs) (hb : w.heap[g]? = some (.cells cs t fr)) (hcs : ∀ v ∈ cs.toList, ∀ x, v ≠ .int .u8 x) (hg : w.grownBy w1 (some g)) : (Kd.int .u8).C w1 A n xs := by
  refine ⟨h.1, h.2.1, fun h0 => ?_⟩
  obtain ⟨ad, had, hc⟩ := h.2.2 h0
  refine ⟨ad, had, fun j x hj => ?_⟩
  obtain ⟨c, e1, e2, e3⟩ := hc j x hj
  obtain rfl : c = [.int .u8 x] := e2
  refine ⟨_, e1, rfl, fun i u hu => ?_⟩
  have h3 := e3 i u hu
  rw [← h3]
  have hl : (ad.add (j * 1 + i)).block < w.heap.size := World.block_lt_of_cell? _ _ h3
  show World.cell? w1 (ad.add (j * 1 + i)) = World.cell? w (ad.add (j * 1 + i))
  have hne : (ad.add (j * 1 + i)).block ≠ g := fun e => by
    have h4 : w.cell? (ad.add (j * 1 + i)) = some u := h3
    unfold World.cell? at h4
    rw [e, hb] at h4
    simp only at h4
    split at h4
    · cases h4
    · have hm := Array.mem_of_getElem? h4
      have hu' : u = .int .u8 x := by
        cases i with
        | zero => simpa using hu.symm
        | succ i => simp at hu
      exact hcs u (by simpa using hm) x hu'
  unfold World.cell?
  rw [hg.block _ hl (fun e => by injection e with e; exact hne e)]
theorem Rd.bytes {w w1 : World} {g n c m : Nat} {A B : Option Addr} {s : Rs} {xs : List Int} (h : Rd w g B n c s) (hC : (Kd.int .u8).C w A m xs) (hg : w.grownBy w1 (some g)) : (Kd.int .u8).C w1 A m xs :=
  bytes_kept hC h.blk (fun v hv x e => by subst e; simp at hv) hg
theorem obj_at2 {w : World} {g n c : Nat} {A : Option Addr} {s : Rs} (h : Rd w g A n c s) : w.cell? ⟨g, 0, none⟩ = some (.slice A n c) ∧ w.cell? ⟨g, 1, none⟩ = some (.int .i64 s.at_) :=
  ⟨obj_cell h.blk 0 rfl, obj_cell h.blk 1 rfl⟩
section
variable {w : World} {g n c : Nat} {A : Option Addr} {s : Rs}
theorem goes_calls (h : Rd w g A n c s) (nx e : Int) : Calls Try.prog 45 #[.pointer (some ⟨g, 0, none⟩), .int .i64 nx, .int .i64 e] w fun en w' => en = .returned (.tuple #[]) ∧ Rd w' g A n c (goR s nx e) ∧ w.grownBy w' (some g) := by
  have H := Aside0.mk h
  have q0 := obj_cell (v := .int .i64 s.at_) h.blk 1 rfl
  have q1 := obj_cell (v := .int .i64 s.e) h.blk 2 rfl
  have f1 := obj_free h.blk 1
  have f2 := obj_free h.blk 2
  have H2 := Aside0.mk (h.setE e)
  have p1 := obj_cell (v := .int .i64 s.at_) H2.out.blk 1 rfl
  have p2 := obj_free H2.out.blk 1
  have HG := Aside0.mk (grown_set w g 2 (.int .i64 e))
  clear h
  by_cases he : e = 0
  · subst he
    generalize hw1 : w.setCell ⟨g, 2, none⟩ (.int .i64 0) = w1 at *
    have HW := Aside0.mk hw1
    go_enter Try.func45, Try.ntmps45
    go_wp2
    go_end0
    exact ⟨rfl, by have := H2.out.setAt nx; simpa [goR] using this, by have := grown_trans HG.out (grown_set w1 g 1 (.int .i64 nx)); exact this⟩
  · have h1 : (e == 0) = false := by simpa using he
    have HE := Aside0.mk he
    clear he
    go_enter Try.func45, Try.ntmps45
    go_wp2
    go_end0
    exact ⟨rfl, by have := H2.out; simpa [goR, HE.out] using this, HG.out⟩
theorem must_calls (h : Rd w g A n c s) (ok : Bool) (x : Int) : Calls Try.prog 30 #[.pointer (some ⟨g, 0, none⟩), .bool ok, .int .i64 x] w fun en w' => en = .returned (.tuple #[]) ∧ Rd w' g A n c (mustR s ok x) ∧ w.grownBy w' (some g) := by
  have H := Aside0.mk h
  have q1 := obj_cell (v := .int .i64 s.e) h.blk 2 rfl
  have f2 := obj_free h.blk 2
  have H2 := Aside0.mk (h.setE x)
  have HG := Aside0.mk (grown_set w g 2 (.int .i64 x))
  clear h
  have HR := Aside0.mk (Below.grown_none (Below.refl w.heap.size w) g)
  obtain ⟨at_, e⟩ := s
  simp only at *
  by_cases he : e = 0
  · subst he
    cases ok with
    | true =>
      go_enter Try.func30, Try.ntmps30
      go_wp2
      go_end0
      exact ⟨rfl, by have := H.out; simpa [mustR] using this, HR.out⟩
    | false =>
      go_enter Try.func30, Try.ntmps30
      go_wp2
      go_end0
      exact ⟨rfl, by have := H2.out; simpa [mustR] using this, HG.out⟩
  · have h1 : (e == 0) = false := by simpa using he
    have HE := Aside0.mk he
    clear he
    go_enter Try.func30, Try.ntmps30
    go_wp2
    go_end0
    exact ⟨rfl, by have := H.out; simpa [mustR, HE.out] using this, HR.out⟩
end
set_option maxHeartbeats 1000000 in
theorem num_calls {w : World} {g c : Nat} {A : Option Addr} {b : List Int} {s : Rs} (h : Rd w g A b.length c s) (hC : (Kd.int .u8).C w A b.length b) (hc : b.length ≤ c) (hb : Bytes b) (hm : b.length ≤ 140737488355328) :
    Calls Try.prog 29 #[.pointer (some ⟨g, 0, none⟩)] w fun e w' => e = .returned (.int .i64 (numR b s).1) ∧ Rd w' g A b.length c (numR b s).2 ∧ w.grownBy w' (some g) := by
  have H := Aside0.mk h
  have q0 := obj_cell (v := .slice A b.length c) h.blk 0 rfl
  have q1 := obj_cell (v := .int .i64 s.at_) h.blk 1 rfl
  have q2 := obj_cell (v := .int .i64 s.e) h.blk 2 rfl
  have HR := Aside0.mk (Below.grown_none (Below.refl w.heap.size w) g)
  by_cases he : s.e = 0
  · have hcall := fun (n : Nat) => takeNum_calls A c b s.at_ (w.drewN n) (Kd.C_below hC (pw_below_drewN (Below.refl _ _) n)) hc hb hm
    have HGo := Aside0.mk (fun (n : Nat) => goes_calls (h.below (pw_below_drewN (Below.refl _ _) n)) (takeNum b s.at_).2.1 (takeNum b s.at_).2.2)
    have HN := Aside0.mk (show numR b s = ((takeNum b s.at_).1, goR s (takeNum b s.at_).2.1 (takeNum b s.at_).2.2) by unfold numR; rw [if_pos he])
    rw [he] at q2
    clear h hC hc hb
    generalize hat : s.at_ = at_ at *
    obtain ⟨⟨v, nx, e⟩, ht⟩ : ∃ t, t = takeNum b at_ := ⟨_, rfl⟩
    rw [← ht] at hcall HGo HN
    clear ht hat he
    dsimp only at hcall HGo HN
    have HC := Aside0.mk hcall
    clear hcall
    go_enter Try.func29, Try.ntmps29
    go_wp2
    go_quiet ((go_at_call 44; exact Calls.quiet_of_same ((HC.out _).mono fun _ _ h => ⟨h.1, h.2.symm⟩)))
    go_wp2_with fail
    refine (HGo.out _).mono ?_
    rintro e1 w1 ⟨rfl, hr1, hg1⟩
    have HR1 := Aside0.mk hr1
    have HG1 := Aside0.mk (grown_trans (Below.grown_none (pw_below_drewN (Below.refl _ _) _) g) hg1)
    clear hr1 hg1
    go_wp2_with fail
    go_ret
    exact ⟨by rw [HN.out]; rfl, by rw [HN.out]; exact HR1.out, HG1.out⟩
  · have h1 : (s.e != 0) = true := by simpa using he
    have HN := Aside0.mk (show numR b s = (0, s) by unfold numR; rw [if_neg he])
    clear h hC hc hb he
    generalize hs : s.e = se at *
    go_enter Try.func29, Try.ntmps29
    go_wp2
    go_ret
    exact ⟨by rw [HN.out]; rfl, by rw [HN.out]; exact H.out, HR.out⟩
set_option maxHeartbeats 1000000 in
theorem text_calls {w : World} {g c : Nat} {A : Option Addr} {b : List Int} {s : Rs} (h : Rd w g A b.length c s) (hC : (Kd.int .u8).C w A b.length b) (hc : b.length ≤ c) (hb : Bytes b) (hm : b.length ≤ 140737488351232) (most : Int) :
    Calls Try.prog 31 #[.pointer (some ⟨g, 0, none⟩), .int .i64 most] w fun e w' => ∃ v, e = .returned v ∧ Rd w' g A b.length c (textR b s most).2 ∧ w.grownBy w' (some g) ∧ Kd.R (Kd.int .u8) 5 w' w.heap.size (fun _ => True) (v) ((textR b s most).1) := by
  obtain ⟨at_, se⟩ := s
  have H := Aside0.mk h
  have q0 := obj_cell (v := .slice A b.length c) h.blk 0 rfl
  have q1 := obj_cell (v := .int .i64 at_) h.blk 1 rfl
  have q2 := obj_cell (v := .int .i64 se) h.blk 2 rfl
  have HR := Aside0.mk (Below.grown_none (Below.refl w.heap.size w) g)
  try dsimp only
  by_cases he : se = 0
  · have HCC := Aside0.mk (takeText_calls A c b at_ most w.drew (Kd.C_below hC (below_drew1 (Below.refl _ _))) hc hb hm)
    have HN := Aside0.mk (show textR b ⟨at_, se⟩ most = ((takeText b at_ most).1, goR ⟨at_, se⟩ (takeText b at_ most).2.1 (takeText b at_ most).2.2) by unfold textR; exact if_pos he)
    have HLT := Aside0.mk h.lt
    rw [he] at q2
    clear h hC hc hb
    obtain ⟨⟨l, nx, e⟩, ht⟩ : ∃ t, t = takeText b at_ most := ⟨_, rfl⟩
    rw [← ht] at HCC HN
    clear ht he
    dsimp only at HCC HN
    go_enter Try.func31, Try.ntmps31
    go_wp2_with fail
    (refine Hd.startE (S := (fun X => X.cell? ⟨g, 0, none⟩ = some (.slice A b.length c) ∧ X.cell? ⟨g, 1, none⟩ = some (.int .i64 at_))) 1000 (by kernel_rfl) (⟨q0, q1⟩) (fun hHeld => ?_))
    (refine Hd.takeE (i := 0) (v := ?_) rfl rfl (by kernel_rfl) (by kernel_rfl) (by kernel_rfl) (by kernel_rfl) (by first | exact fun _ _ _ h => h | exact fun _ _ _ h => HQP.out (by decide) h) (Or.inl ⟨by rfl, ?_⟩) (by assumption) ?_; rotate_left; (focus (intro wS hS; (try go_split_ands); go_simp; all_goals (with_reducible rfl))); simp only [List.set_cons_zero, List.set_cons_succ, List.setIfInBounds_toArray]); (refine Hd.takeE (i := 1) (v := ?_) rfl rfl (by kernel_rfl) (by kernel_rfl) (by kernel_rfl) (by kernel_rfl) (by first | exact fun _ _ _ h => h | exact fun _ _ _ h => HQP.out (by decide) h) (Or.inl ⟨by rfl, ?_⟩) (by assumption) ?_; rotate_left; (focus (intro wS hS; (try go_split_ands); go_simp; all_goals (with_reducible rfl))); simp only [List.set_cons_zero, List.set_cons_succ, List.setIfInBounds_toArray]); (refine Hd.takeE (i := 2) (v := ?_) rfl rfl (by kernel_rfl) (by kernel_rfl) (by kernel_rfl) (by kernel_rfl) (by first | exact fun _ _ _ h => h | exact fun _ _ _ h => HQP.out (by decide) h) (Or.inl ⟨by rfl, ?_⟩) (by assumption) ?_; rotate_left; (focus (intro wS hS; (try go_split_ands); go_simp; all_goals (with_reducible rfl))); simp only [List.set_cons_zero, List.set_cons_succ, List.setIfInBounds_toArray]); (refine Hd.takeE (i := 3) (v := ?_) rfl rfl (by kernel_rfl) (by kernel_rfl) (by kernel_rfl) (by kernel_rfl) (by first | exact fun _ _ _ h => h | exact fun _ _ _ h => HQP.out (by decide) h) (Or.inl ⟨by rfl, ?_⟩) (by assumption) ?_; rotate_left; (focus (intro wS hS; (try go_split_ands); go_simp; all_goals (with_reducible rfl))); simp only [List.set_cons_zero, List.set_cons_succ, List.setIfInBounds_toArray]); (refine Hd.takeE (i := 4) (v := ?_) rfl rfl (by kernel_rfl) (by kernel_rfl) (by kernel_rfl) (by kernel_rfl) (by first | exact fun _ _ _ h => h | exact fun _ _ _ h => HQP.out (by decide) h) (Or.inl ⟨by rfl, ?_⟩) (by assumption) ?_; rotate_left; (focus (intro wS hS; (try go_split_ands); go_simp; all_goals (with_reducible rfl))); simp only [List.set_cons_zero, List.set_cons_succ, List.setIfInBounds_toArray]); (refine Hd.takeE (i := 5) (v := ?_) rfl rfl (by kernel_rfl) (by kernel_rfl) (by kernel_rfl) (by kernel_rfl) (by first | exact fun _ _ _ h => h | exact fun _ _ _ h => HQP.out (by decide) h) (Or.inl ⟨by rfl, ?_⟩) (by assumption) ?_; rotate_left; (focus (intro wS hS; (try go_split_ands); go_simp; all_goals (with_reducible rfl))); simp only [List.set_cons_zero, List.set_cons_succ, List.setIfInBounds_toArray]); (refine Hd.takeE (i := 6) (v := ?_) rfl rfl (by kernel_rfl) (by kernel_rfl) (by kernel_rfl) (by kernel_rfl) (by first | exact fun _ _ _ h => h | exact fun _ _ _ h => HQP.out (by decide) h) (Or.inl ⟨by rfl, ?_⟩) (by assumption) ?_; rotate_left; (focus (intro wS hS; (try go_split_ands); go_simp; all_goals (with_reducible rfl))); simp only [List.set_cons_zero, List.set_cons_succ, List.setIfInBounds_toArray]); (refine Hd.takeE (i := 7) (v := ?_) rfl rfl (by kernel_rfl) (by kernel_rfl) (by kernel_rfl) (by kernel_rfl) (by first | exact fun _ _ _ h => h | exact fun _ _ _ h => HQP.out (by decide) h) (Or.inl ⟨by rfl, ?_⟩) (by assumption) ?_; rotate_left; (focus (intro wS hS; (try go_split_ands); go_simp; all_goals (with_reducible rfl))); simp only [List.set_cons_zero, List.set_cons_succ, List.setIfInBounds_toArray]); (refine Hd.takeE (i := 8) (v := ?_) rfl rfl (by kernel_rfl) (by kernel_rfl) (by kernel_rfl) (by kernel_rfl) (by first | exact fun _ _ _ h => h | exact fun _ _ _ h => HQP.out (by decide) h) (Or.inl ⟨by rfl, ?_⟩) (by assumption) ?_; rotate_left; (focus (intro wS hS; (try go_split_ands); go_simp; all_goals (with_reducible rfl))); simp only [List.set_cons_zero, List.set_cons_succ, List.setIfInBounds_toArray])
    (refine Hd.readyE (rs := [9]) (by kernel_rfl) (by simp) ?_; refine Hd.AllE.cons (i := 9) rfl (fun K hK => ?_) Hd.AllE.nil; (go_simp; (go_at_call 46; (with_reducible refine (HCC.out).mono ?_); rintro e1 w1 ⟨v1, rfl, hp1, hb1⟩)); refine hK.out _ _ ((obj_at2 (H.out.below (below_then (below_drew1 (Below.refl _ _)) (by simp) hb1)))) (fun hHeld => ?_); clear hK K; (try simp only [Act.put, List.setIfInBounds_toArray, List.set_cons_zero, List.set_cons_succ]))
    have HRD := Aside0.mk (H.out.below (below_then (below_drew1 (Below.refl _ _)) (by simp) hb1))
    have HG := Aside0.mk (Below.grown_none (below_then (below_drew1 (Below.refl _ _)) (by simp) hb1) g)
    have HP := Aside0.mk hp1
    clear hp1 hb1
    (refine Hd.takeE (i := 10) (v := ?_) rfl rfl (by kernel_rfl) (by kernel_rfl) (by kernel_rfl) (by kernel_rfl) (by first | exact fun _ _ _ h => h | exact fun _ _ _ h => HQP.out (by decide) h) (Or.inl ⟨by rfl, ?_⟩) (by assumption) ?_; rotate_left; (focus (intro wS hS; (try go_split_ands); go_simp; all_goals (with_reducible rfl))); simp only [List.set_cons_zero, List.set_cons_succ, List.setIfInBounds_toArray]); (refine Hd.takeE (i := 11) (v := ?_) rfl rfl (by kernel_rfl) (by kernel_rfl) (by kernel_rfl) (by kernel_rfl) (by first | exact fun _ _ _ h => h | exact fun _ _ _ h => HQP.out (by decide) h) (Or.inl ⟨by rfl, ?_⟩) (by assumption) ?_; rotate_left; (focus (intro wS hS; (try go_split_ands); go_simp; all_goals (with_reducible rfl))); simp only [List.set_cons_zero, List.set_cons_succ, List.setIfInBounds_toArray]); (refine Hd.takeE (i := 12) (v := ?_) rfl rfl (by kernel_rfl) (by kernel_rfl) (by kernel_rfl) (by kernel_rfl) (by first | exact fun _ _ _ h => h | exact fun _ _ _ h => HQP.out (by decide) h) (Or.inl ⟨by rfl, ?_⟩) (by assumption) ?_; rotate_left; (focus (intro wS hS; (try go_split_ands); go_simp; all_goals (with_reducible rfl))); simp only [List.set_cons_zero, List.set_cons_succ, List.setIfInBounds_toArray]); (refine Hd.takeE (i := 13) (v := ?_) rfl rfl (by kernel_rfl) (by kernel_rfl) (by kernel_rfl) (by kernel_rfl) (by first | exact fun _ _ _ h => h | exact fun _ _ _ h => HQP.out (by decide) h) (Or.inl ⟨by rfl, ?_⟩) (by assumption) ?_; rotate_left; (focus (intro wS hS; (try go_split_ands); go_simp; all_goals (with_reducible rfl))); simp only [List.set_cons_zero, List.set_cons_succ, List.setIfInBounds_toArray]); (refine Hd.takeE (i := 14) (v := ?_) rfl rfl (by kernel_rfl) (by kernel_rfl) (by kernel_rfl) (by kernel_rfl) (by first | exact fun _ _ _ h => h | exact fun _ _ _ h => HQP.out (by decide) h) (Or.inl ⟨by rfl, ?_⟩) (by assumption) ?_; rotate_left; (focus (intro wS hS; (try go_split_ands); go_simp; all_goals (with_reducible rfl))); simp only [List.set_cons_zero, List.set_cons_succ, List.setIfInBounds_toArray]); (refine Hd.takeE (i := 15) (v := ?_) rfl rfl (by kernel_rfl) (by kernel_rfl) (by kernel_rfl) (by kernel_rfl) (by first | exact fun _ _ _ h => h | exact fun _ _ _ h => HQP.out (by decide) h) (Or.inl ⟨by rfl, ?_⟩) (by assumption) ?_; rotate_left; (focus (intro wS hS; (try go_split_ands); go_simp; all_goals (with_reducible rfl))); simp only [List.set_cons_zero, List.set_cons_succ, List.setIfInBounds_toArray]); (refine Hd.takeE (i := 16) (v := ?_) rfl rfl (by kernel_rfl) (by kernel_rfl) (by kernel_rfl) (by kernel_rfl) (by first | exact fun _ _ _ h => h | exact fun _ _ _ h => HQP.out (by decide) h) (Or.inl ⟨by rfl, ?_⟩) (by assumption) ?_; rotate_left; (focus (intro wS hS; (try go_split_ands); go_simp; all_goals (with_reducible rfl))); simp only [List.set_cons_zero, List.set_cons_succ, List.setIfInBounds_toArray])
    (refine Hd.endE (by kernel_rfl) ?_ _)
    go_wp2_with fail
    refine (goes_calls HRD.out nx e).mono ?_
    rintro e1 w2 ⟨rfl, hr2, hg2⟩
    have HR2 := Aside0.mk hr2
    have HG2 := Aside0.mk (grown_trans HG.out hg2)
    have HP2 := Aside0.mk (R_kept_row (flat_int .u8) HP.out (fun g' hg' e => by injection hg' with hg'; have h3 : w.heap.size ≤ g' := ((Kd.R_bound HP.out).1 _ e).2.1; have := HLT.out; omega) hg2)
    clear hr2 hg2
    go_wp2_with fail
    go_ret
    refine ⟨_, rfl, by rw [HN.out]; exact HR2.out, HG2.out, by rw [HN.out]; exact HP2.out⟩
  · have h1 : (se != 0) = true := by simpa using he
    have HN := Aside0.mk (show textR b ⟨at_, se⟩ most = ([], ⟨at_, se⟩) by unfold textR; exact if_neg he)
    clear h hC hc hb he
    go_enter Try.func31, Try.ntmps31
    go_wp2
    go_ret
    exact ⟨_, rfl, by rw [HN.out]; exact H.out, HR.out, by rw [HN.out]; exact Kd.R_nil _ _ _ _ _⟩
end Go.Proofs.Ytbncmffifbcbjaa.WiR
