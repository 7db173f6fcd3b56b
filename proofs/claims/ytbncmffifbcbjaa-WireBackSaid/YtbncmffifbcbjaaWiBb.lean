/- Put of the note of bytes are the bytes: plain. -/
import Derived.Test.YtbncmffifbcbjaaWiBk
namespace Go.Proofs.Ytbncmffifbcbjaa.WiBb
open Go Go.RowKit Go.Proofs.YtbncmffifbcbjaaW.PrintWords Go.Proofs.Ytbncmffifbcbjaa.K Go.Proofs.Ytbncmffifbcbjaa.OctS Go.Proofs.Ytbncmffifbcbjaa.OctP Go.Proofs.Ytbncmffifbcbjaa.Nm Go.Proofs.Ytbncmffifbcbjaa.Hl Go.Proofs.Ytbncmffifbcbjaa.WiA Go.Proofs.Ytbncmffifbcbjaa.WiD Go.Proofs.Ytbncmffifbcbjaa.WiE Go.Proofs.Ytbncmffifbcbjaa.WiF Go.Proofs.Ytbncmffifbcbjaa.WiT Go.Proofs.Ytbncmffifbcbjaa.WiR Go.Proofs.Ytbncmffifbcbjaa.WiU Go.Proofs.Ytbncmffifbcbjaa.WiP Go.Proofs.Ytbncmffifbcbjaa.WiV Go.Proofs.Ytbncmffifbcbjaa.WiM Go.Proofs.Ytbncmffifbcbjaa.WiMf Go.Proofs.Ytbncmffifbcbjaa.WiBk
set_option linter.unusedVariables false
set_option linter.unusedSimpArgs false
variable {b : List Int}
theorem take_app {b x : List Int} {q : Nat} (h : b.drop q = x ++ b.drop (q + x.length)) : b.take (q + x.length) = b.take q ++ x := by
  rw [List.take_add, h, List.take_left]
theorem takeNum_back_at (hb : Bytes b) (pl : Nat) (h : (takeNum b pl).2.2 = 0) : ∃ m : Nat, m ≤ 9007199254740991 ∧ takeNum b pl = ((m : Int), ((pl + (numB m).length : Nat) : Int), 0) ∧ pl + (numB m).length ≤ b.length ∧ b.take (pl + (numB m).length) = b.take pl ++ numB m := by
  have hok := takeNum_ok b pl hb h
  have e : takeNum b pl = tk pl 0 0 (b.drop pl) := by
    unfold takeNum
    rw [if_neg (by omega), Int.toNat_natCast]
  have h' := h
  have hok' := hok
  rw [e] at h' hok'
  obtain ⟨m, r, e1, e2, e3, _⟩ := tk_back pl _ 0 0 (hb.drop pl) (by omega) h'
  have k1 : (takeNum b pl).1 = (m : Int) := by rw [e, e1]; simp
  have k2 : (takeNum b pl).2.1 = ((pl + (numB m).length : Nat) : Int) := by rw [e, e3]; simp
  refine ⟨m, by omega, Prod.ext k1 (Prod.ext k2 h), by omega, take_app ?_⟩
  rw [← List.drop_drop, e2, List.drop_left]
theorem num_back (hb : Bytes b) (q : Nat) (h : (numR b ⟨(q : Int), 0⟩).2.e = 0) : ∃ m q' : Nat, m ≤ 9007199254740991 ∧ numR b ⟨(q : Int), 0⟩ = ((m : Int), ⟨(q' : Int), 0⟩) ∧ q' ≤ b.length ∧ b.take q' = b.take q ++ numB m := by
  by_cases he : (takeNum b q).2.2 = 0
  · obtain ⟨m, hm, h1, h2, h3⟩ := takeNum_back_at hb q he
    exact ⟨m, _, hm, by rw [num_ok he, h1], h2, h3⟩
  · rw [num_bad he] at h
    exact absurd h he
theorem many_back (hb : Bytes b) (q : Nat) (most : Nat) (h : (manyR b ⟨(q : Int), 0⟩ most).2.e = 0) : ∃ m q' : Nat, m ≤ most ∧ manyR b ⟨(q : Int), 0⟩ most = ((m : Int), ⟨(q' : Int), 0⟩) ∧ q' ≤ b.length ∧ b.take q' = b.take q ++ numB m := by
  by_cases he : (takeNum b q).2.2 = 0
  · obtain ⟨m, hm, h1, h2, h3⟩ := takeNum_back_at hb q he
    by_cases hk : (takeNum b q).1 ≤ most
    · refine ⟨m, _, ?_, by rw [many_ok he hk, h1], h2, h3⟩
      rw [h1] at hk
      simp only at hk
      omega
    · rw [many_much he hk] at h
      cases h
  · rw [many_bad he] at h
    exact absurd h he
theorem text_back (hb : Bytes b) (q : Nat) (most : Nat) (h : (textR b ⟨(q : Int), 0⟩ most).2.e = 0) : ∃ (s : List Int) (q' : Nat), Bytes s ∧ s.length ≤ most ∧ textR b ⟨(q : Int), 0⟩ most = (s, ⟨(q' : Int), 0⟩) ∧ q' ≤ b.length ∧ b.take q' = b.take q ++ textB s := by
  by_cases he : (takeText b q most).2.2 = 0
  · have hn : (takeNum b q).2.2 = 0 := by
      by_cases hn : (takeNum b q).2.2 = 0
      · exact hn
      · rw [takeText_e b q most hn] at he
        exact absurd he hn
    obtain ⟨m, hm, h1, h2, h3⟩ := takeNum_back_at hb q hn
    by_cases k1 : (most : Int) < (takeNum b q).1
    · rw [takeText_m b q most hn k1] at he; cases he
    by_cases k2 : (b.length : Int) - (takeNum b q).2.1 < (takeNum b q).1
    · rw [takeText_s b q most hn k1 k2] at he; cases he
    have h4 := takeText_o b q most hn k1 k2
    rw [h1] at k1 k2 h4
    simp only at k1 k2 h4
    have e1 : (((q + (numB m).length : Nat) : Int) + (m : Int)).toNat = q + (numB m).length + m := by omega
    rw [e1, Int.toNat_natCast] at h4
    have e2 : (b.take (q + (numB m).length + m)).drop (q + (numB m).length) = (b.drop (q + (numB m).length)).take m := by rw [List.drop_take]; congr 1; omega
    have hlen : ((b.drop (q + (numB m).length)).take m).length = m := by rw [List.length_take, List.length_drop]; omega
    refine ⟨(b.drop (q + (numB m).length)).take m, q + (numB m).length + m, (hb.drop _).take _, by omega, ?_, by omega, ?_⟩
    · rw [text_ok (by rw [h4]), h4, e2]
      simp only
      congr 2
    · rw [List.take_add, h3]
      unfold textB
      rw [hlen]
      simp only [List.append_assoc]
  · rw [text_bad he] at h
    exact absurd h he
theorem held_back (hb : Bytes b) (q : Nat) (t : Nt) (h : (heldS b (t, ⟨(q : Int), 0⟩)).2.e = 0) : ∃ (x : Hl) (q' : Nat), heldS b (t, ⟨(q : Int), 0⟩) = ({ t with held := t.held ++ [x] }, ⟨(q' : Int), 0⟩) ∧ q' ≤ b.length ∧ b.take q' = b.take q ++ heldB x := by
  have ht : (textR b ⟨(q : Int), 0⟩ 32).2.e = 0 := by
    by_cases he : (textR b ⟨(q : Int), 0⟩ 32).2.e = 0
    · exact he
    · unfold heldS at h
      simp only at h
      rw [num_no he] at h
      exact absurd h he
  obtain ⟨s, q1, hs, hsl, h1, h2, h3⟩ := text_back hb q 32 ht
  have h1' : textR b ⟨(q : Int), 0⟩ 32 = (s, ⟨(q1 : Int), 0⟩) := h1
  have hn : (numR b ⟨(q1 : Int), 0⟩).2.e = 0 := by
    unfold heldS at h
    simp only at h
    rw [h1'] at h
    exact h
  obtain ⟨m, q2, hm, k1, k2, k3⟩ := num_back hb q1 hn
  refine ⟨⟨strOfNums s, (m : Int)⟩, q2, ?_, k2, ?_⟩
  · unfold heldS
    simp only
    rw [h1']
    simp only
    rw [k1]
  · rw [k3, h3]
    unfold heldB
    simp only
    rw [strB_strOf hs, Int.toNat_natCast, List.append_assoc]
theorem part_back (hb : Bytes b) (q : Nat) (hq : q ≤ b.length) (t : Nt) (h : (partS b (t, ⟨(q : Int), 0⟩)).2.e = 0) : ∃ (x : Pt) (q' : Nat), partS b (t, ⟨(q : Int), 0⟩) = ({ t with parts := t.parts ++ [x] }, ⟨(q' : Int), 0⟩) ∧ q' ≤ b.length ∧ b.take q' = b.take q ++ partB x := by
  by_cases hs : 32 ≤ (b.length : Int) - (q : Int)
  · have k1 : sumR b ⟨(q : Int), 0⟩ = ((b.drop q).take 32, ⟨((q + 32 : Nat) : Int), 0⟩) := by
      unfold sumR
      rw [if_pos hs]
      simp only [Int.toNat_natCast]
      congr 1
    have hn : (numR b ⟨((q + 32 : Nat) : Int), 0⟩).2.e = 0 := by
      unfold partS partR at h
      simp only at h
      rw [k1] at h
      exact h
    obtain ⟨m, q2, hm, k2, k3, k4⟩ := num_back hb (q + 32) hn
    refine ⟨⟨(b.drop q).take 32, (m : Int)⟩, q2, ?_, k3, ?_⟩
    · unfold partS partR
      simp only
      rw [k1]
      simp only
      rw [k2]
    · rw [k4, List.take_add]
      unfold partB
      simp only [Int.toNat_natCast, List.append_assoc]
  · have k1 : sumR b ⟨(q : Int), 0⟩ = (List.replicate 32 0, ⟨(q : Int), 3⟩) := by
      unfold sumR
      rw [if_neg hs]
    unfold partS partR at h
    simp only at h
    rw [k1, num_no (by simp)] at h
    cases h
theorem loop_back {α : Type} {f : Nt × Rs → Nt × Rs} {g : α → List Int} {add : Nt → α → Nt} (hf : ∀ (q : Nat) (t : Nt), q ≤ b.length → (f (t, ⟨(q : Int), 0⟩)).2.e = 0 → ∃ (x : α) (q' : Nat), f (t, ⟨(q : Int), 0⟩) = (add t x, ⟨(q' : Int), 0⟩) ∧ q' ≤ b.length ∧ b.take q' = b.take q ++ g x) :
    ∀ (k q : Nat) (t : Nt), q ≤ b.length → (loopS f k (t, ⟨(q : Int), 0⟩)).2.e = 0 → ∃ (xs : List α) (q' : Nat), xs.length = k ∧ loopS f k (t, ⟨(q : Int), 0⟩) = (xs.foldl add t, ⟨(q' : Int), 0⟩) ∧ q' ≤ b.length ∧ b.take q' = b.take q ++ xs.flatMap g
  | 0, q, t, hq, h => ⟨[], q, rfl, rfl, hq, by simp⟩
  | k + 1, q, t, hq, h => by
    have hs : loopS f (k + 1) (t, ⟨(q : Int), 0⟩) = loopS f k (f (t, ⟨(q : Int), 0⟩)) := if_pos rfl
    rw [hs] at h ⊢
    have he : (f (t, ⟨(q : Int), 0⟩)).2.e = 0 := by
      by_cases he : (f (t, ⟨(q : Int), 0⟩)).2.e = 0
      · exact he
      · rw [loop_no he k] at h
        exact absurd h he
    obtain ⟨x, q1, h1, h2, h3⟩ := hf q t hq he
    rw [h1] at h ⊢
    obtain ⟨xs, q2, k1, k2, k3, k4⟩ := loop_back hf k q1 (add t x) h2 h
    exact ⟨x :: xs, q2, by simp [k1], by rw [k2]; rfl, k3, by rw [k4, h3]; simp only [List.flatMap_cons, List.append_assoc]⟩
/-- Put of what is taken are its bytes. -/
theorem takeF_back (hb : Bytes b) (h : (takeF b).2 = 0) : checkF (takeF b).1 = 0 ∧ noteB (takeF b).1 = b := by
  have he : (endS b (s5 b)).e = 0 := by
    unfold takeF at h
    split at h
    · rename_i h1; exact h1
    · exact h
  have hT : takeF b = ((s5 b).1, 0) := by unfold takeF; rw [if_pos he]
  rw [hT]
  simp only
  have h5 : (s5 b).2.e = 0 ∧ checkF (s5 b).1 = 0 ∧ (s5 b).2.at_ = b.length := by
    unfold endS at he
    by_cases k : (s5 b).2.e = 0
    · rw [if_pos k] at he
      by_cases k1 : checkF (s5 b).1 = 0
      · refine ⟨k, k1, ?_⟩
        by_cases k2 : (s5 b).2.at_ = b.length
        · exact k2
        · unfold mustR at he
          rw [if_pos ⟨k1, decide_eq_false k2⟩] at he
          cases he
      · rw [must_no (by simpa using k1)] at he
        exact absurd he k1
    · rw [if_neg k, must_no (by simpa using k)] at he
      exact absurd he k
  obtain ⟨h5e, hck, hat⟩ := h5
  have h4e : (s4 b).2.e = 0 := by
    by_cases k : (s4 b).2.e = 0
    · exact k
    · have : (s5 b).2 = (s4 b).2 := by
        unfold s5
        split
        · unfold bytesS; rw [text_no k]
        · rfl
      rw [this] at h5e
      exact absurd h5e k
  have h3e : (s3 b).2.e = 0 := by
    by_cases k : (s3 b).2.e = 0
    · exact k
    · have : s4 b = s3 b := by
        unfold s4
        split
        · exact list_no k _
        · rfl
      rw [this] at h4e
      exact absurd h4e k
  have h2e : (s2 b).2.e = 0 := by
    by_cases k : (s2 b).2.e = 0
    · exact k
    · have : s3 b = s2 b := by
        unfold s3
        split
        · exact list_no k _
        · rfl
      rw [this] at h3e
      exact absurd h3e k
  have h1e : (s1 b).2.e = 0 := by
    by_cases k : (s1 b).2.e = 0
    · exact k
    · have : (s2 b).2 = (s1 b).2 := by
        unfold s2
        split
        · unfold iS; rw [num_no k]
        · rfl
      rw [this] at h2e
      exact absurd h2e k
  have h0e : (sayS b).2.e = 0 := by
    by_cases k : (sayS b).2.e = 0
    · exact k
    · have : (s1 b).2 = (sayS b).2 := by
        unfold s1
        split
        · unfold fileS; rw [text_no k, num_no k]
        · rfl
      rw [this] at h1e
      exact absurd h1e k
  have hne : (numR b ⟨((0 : Nat) : Int), 0⟩).2.e = 0 := by
    by_cases k : (numR b ⟨((0 : Nat) : Int), 0⟩).2.e = 0
    · exact k
    · have : (sayS b).2 = (numR b ⟨((0 : Nat) : Int), 0⟩).2 := must_no k _ _
      rw [this] at h0e
      exact absurd h0e k
  obtain ⟨m, q0, hm, k1, k2, k3⟩ := num_back hb 0 hne
  have k1' : numR b ⟨0, 0⟩ = ((m : Int), ⟨(q0 : Int), 0⟩) := k1
  have hso : sayOf b = (m : Int) := by unfold sayOf; rw [k1']
  have e0 : sayS b = (⟨(m : Int), ⟨#[]⟩, 0, 0, [], [], []⟩, ⟨(q0 : Int), 0⟩) := by
    unfold sayS at h0e ⊢
    rw [k1'] at h0e ⊢
    simp only at h0e ⊢
    unfold mustR at h0e ⊢
    split at h0e
    · cases h0e
    · rename_i hh
      rw [if_neg hh]
  have t0 : b.take q0 = numB (Int.toNat (m : Int)) := by rw [k3, Int.toNat_natCast]; simp
  obtain ⟨nm, gn, q1, e1, l1, t1⟩ : ∃ (nm : ByteArray) (gn : Int) (q1 : Nat), s1 b = (⟨(m : Int), nm, gn, 0, [], [], []⟩, ⟨(q1 : Int), 0⟩) ∧ q1 ≤ b.length ∧ b.take q1 = b.take q0 ++ (if hasF (m : Int) then textB (strB nm) ++ numB gn.toNat else []) := by
    unfold s1 at h1e ⊢
    rw [hso, e0] at h1e ⊢
    by_cases hf : hasF (m : Int) = true
    · rw [if_pos hf] at h1e ⊢
      simp only [if_pos hf]
      obtain ⟨x, q', j1, j2, j3⟩ := held_back hb q0 ⟨(m : Int), ⟨#[]⟩, 0, 0, [], [], []⟩ h1e
      unfold heldS at j1
      simp only [Prod.mk.injEq, Nt.mk.injEq, List.nil_append, List.cons.injEq, and_true, true_and] at j1
      obtain ⟨xn, xg⟩ := x
      simp only [Hl.mk.injEq] at j1
      refine ⟨xn, xg, q', ?_, j2, j3⟩
      unfold fileS
      simp only
      rw [j1.1.1, j1.1.2, j1.2]
    · rw [if_neg hf]
      simp only [if_neg hf, List.append_nil]
      exact ⟨_, _, q0, rfl, k2, rfl⟩
  obtain ⟨iv, q2, e2, l2, t2⟩ : ∃ (iv : Int) (q2 : Nat), s2 b = (⟨(m : Int), nm, gn, iv, [], [], []⟩, ⟨(q2 : Int), 0⟩) ∧ q2 ≤ b.length ∧ b.take q2 = b.take q1 ++ (if hasI (m : Int) then numB iv.toNat else []) := by
    unfold s2 at h2e ⊢
    rw [hso, e1] at h2e ⊢
    by_cases hf : hasI (m : Int) = true
    · rw [if_pos hf] at h2e ⊢
      simp only [if_pos hf]
      obtain ⟨v, q', j0, j1, j2, j3⟩ := num_back hb q1 h2e
      refine ⟨(v : Int), q', ?_, j2, by rw [j3, Int.toNat_natCast]⟩
      unfold iS
      simp only
      rw [j1]
    · rw [if_neg hf]
      simp only [if_neg hf, List.append_nil]
      exact ⟨_, q1, rfl, l1, rfl⟩
  obtain ⟨hs, q3, e3, l3, t3⟩ : ∃ (hs : List Hl) (q3 : Nat), s3 b = (⟨(m : Int), nm, gn, iv, hs, [], []⟩, ⟨(q3 : Int), 0⟩) ∧ q3 ≤ b.length ∧ b.take q3 = b.take q2 ++ ((if hasH (m : Int) then numB hs.length else []) ++ hs.flatMap heldB) := by
    unfold s3 at h3e ⊢
    rw [hso, e2] at h3e ⊢
    by_cases hf : hasH (m : Int) = true
    · rw [if_pos hf] at h3e ⊢
      unfold listS at h3e ⊢
      simp only at h3e ⊢
      have hme : (manyR b ⟨(q2 : Int), 0⟩ (64 : Nat)).2.e = 0 := by
        by_cases k : (manyR b ⟨(q2 : Int), 0⟩ 64).2.e = 0
        · exact k
        · rw [loop_no (t := (_, (manyR b ⟨(q2 : Int), 0⟩ 64).2)) k] at h3e
          exact absurd h3e k
      obtain ⟨v, q', j0, j1, j2, j3⟩ := many_back hb q2 64 hme
      have j1' : manyR b ⟨(q2 : Int), 0⟩ 64 = ((v : Int), ⟨(q' : Int), 0⟩) := j1
      rw [j1'] at h3e ⊢
      simp only [Int.toNat_natCast] at h3e ⊢
      obtain ⟨xs, q4, r1, r2, r3, r4⟩ := loop_back (b := b) (f := heldS b) (g := heldB) (add := fun t x => { t with held := t.held ++ [x] }) (fun q t hq h => held_back hb q t h) v q' _ j2 h3e
      rw [foldH] at r2
      refine ⟨xs, q4, by rw [r2]; simp, r3, by rw [r4, j3, if_pos hf, r1, List.append_assoc]⟩
    · rw [if_neg hf]
      exact ⟨[], q2, rfl, l2, by simp [hf]⟩
  obtain ⟨ps, q4, e4, l4, t4⟩ : ∃ (ps : List Pt) (q4 : Nat), s4 b = (⟨(m : Int), nm, gn, iv, hs, ps, []⟩, ⟨(q4 : Int), 0⟩) ∧ q4 ≤ b.length ∧ b.take q4 = b.take q3 ++ ((if hasP (m : Int) then numB ps.length else []) ++ ps.flatMap partB) := by
    unfold s4 at h4e ⊢
    rw [hso, e3] at h4e ⊢
    by_cases hf : hasP (m : Int) = true
    · rw [if_pos hf] at h4e ⊢
      unfold listS at h4e ⊢
      simp only at h4e ⊢
      have hme : (manyR b ⟨(q3 : Int), 0⟩ (256 : Nat)).2.e = 0 := by
        by_cases k : (manyR b ⟨(q3 : Int), 0⟩ 256).2.e = 0
        · exact k
        · rw [loop_no (t := (_, (manyR b ⟨(q3 : Int), 0⟩ 256).2)) k] at h4e
          exact absurd h4e k
      obtain ⟨v, q', j0, j1, j2, j3⟩ := many_back hb q3 256 hme
      have j1' : manyR b ⟨(q3 : Int), 0⟩ 256 = ((v : Int), ⟨(q' : Int), 0⟩) := j1
      rw [j1'] at h4e ⊢
      simp only [Int.toNat_natCast] at h4e ⊢
      obtain ⟨xs, q5, r1, r2, r3, r4⟩ := loop_back (b := b) (f := partS b) (g := partB) (add := fun t x => { t with parts := t.parts ++ [x] }) (fun q t hq h => part_back hb q hq t h) v q' _ j2 h4e
      rw [foldP] at r2
      refine ⟨xs, q5, by rw [r2]; simp, r3, by rw [r4, j3, if_pos hf, r1, List.append_assoc]⟩
    · rw [if_neg hf]
      exact ⟨[], q3, rfl, l3, by simp [hf]⟩
  obtain ⟨bs, q5, e5, l5, t5⟩ : ∃ (bs : List Int) (q5 : Nat), s5 b = (⟨(m : Int), nm, gn, iv, hs, ps, bs⟩, ⟨(q5 : Int), 0⟩) ∧ q5 ≤ b.length ∧ b.take q5 = b.take q4 ++ (if hasB (m : Int) then textB bs else []) := by
    unfold s5 at h5e ⊢
    rw [hso, e4] at h5e ⊢
    by_cases hf : hasB (m : Int) = true
    · rw [if_pos hf] at h5e ⊢
      simp only [if_pos hf]
      obtain ⟨s, q', j0, j00, j1, j2, j3⟩ := text_back hb q4 512 h5e
      have j1' : textR b ⟨(q4 : Int), 0⟩ 512 = (s, ⟨(q' : Int), 0⟩) := j1
      refine ⟨s, q', ?_, j2, j3⟩
      unfold bytesS
      simp only
      rw [j1']
    · rw [if_neg hf]
      simp only [if_neg hf, List.append_nil]
      exact ⟨_, q4, rfl, l4, rfl⟩
  refine ⟨hck, ?_⟩
  rw [e5] at hat ⊢
  simp only at hat ⊢
  have hq5 : q5 = b.length := by omega
  rw [hq5, List.take_length] at t5
  rw [t5, t4, t3, t2, t1, t0]
  unfold noteB n6 n5 n4 n3 n2 n1 n0
  simp only [List.take_length, List.append_assoc]
end Go.Proofs.Ytbncmffifbcbjaa.WiBb
