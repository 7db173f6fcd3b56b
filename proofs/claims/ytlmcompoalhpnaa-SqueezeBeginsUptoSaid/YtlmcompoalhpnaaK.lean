/- Small lemmas over any program that the walks of this seat share: appends in the words of the printed kinds, calls by contracts. -/
import Derived.Test.YtlmcompoalhpnaaProg
import Derived.Test.YtlmcompoalhpnaaWMore
import Derived.Test.YtlmcompoalhpnaaWArr
import Derived.Lib.SliceRun
import Derived.BigQuiet
import Derived.WalkLawsBesides
namespace Go.Proofs.Ytlmcompoalhpnaa.K
open Go.RowKit Go.Proofs.YtlmcompoalhpnaaW.PrintWords Go.Proofs.YtlmcompoalhpnaaW.PrintLast Go.Proofs.YtlmcompoalhpnaaW.PrintMore

/-- A nil slice reads as nothing. -/
theorem C_none {α : Type} {d : Kd α} {w : World} {n : Nat} {xs : List α} (h : d.C w none n xs) : xs = [] := by
  rcases Nat.eq_zero_or_pos n with h0 | h0
  · exact List.eq_nil_of_length_eq_zero (h.1.trans h0)
  · obtain ⟨ad, e, _⟩ := h.2.2 h0
    cases e

theorem C_len {α : Type} {d : Kd α} {w : World} {A : Option Addr} {n : Nat} {xs : List α} (h : d.C w A n xs) : xs.length = n := h.1

/-- Kinds without rows inside: what is read may be owned. -/
def Flat {α : Type} (d : Kd α) : Prop := ∀ (w : World) (base : Nat) (x : α) (cs : List Value), d.K w x cs → d.M w base (fun _ => False) x cs
theorem flat_int (k : IntKind) : Flat (Kd.int k) := fun _ _ _ _ h => h
theorem flat_bool : Flat Kd.bool := fun _ _ _ _ h => h
theorem flat_string : Flat Kd.string := fun _ _ _ _ h => h
theorem flat_pair {α β : Type} {a : Kd α} {b : Kd β} (ha : Flat a) (hb : Flat b) : Flat (Kd.pair a b) := by
  rintro w base x cs ⟨c0, c1, rfl, h0, h1⟩
  exact ⟨c0, c1, rfl, ha _ _ _ _ h0, hb _ _ _ _ h1⟩
theorem flat_iso {α β : Type} {d : Kd α} (f : β → α) (hd : Flat d) : Flat (Kd.iso d f) := fun w base x cs h => hd w base (f x) cs h
theorem flat_arr {α : Type} {d : Kd α} (n : Nat) (hs : 0 < d.sz) (hd : Flat d) : Flat (Kd.arr n d hs) := fun w base _ _ h => ⟨h.1, h.2.imp_ (fun _ _ hk => hd w base _ _ hk)⟩

section
variable {P : Program} {ops : Array Oper} {rest : List Oper} {o : Oper} {a : Act} {Q : Exit → Act → World → Prop} {W : World} {α : Type}
/-- append(v, ys...): v the call's own, ys read, of a kind without rows inside. -/
theorem app (d : Kd α) (hd : Flat d) {w0 : World} (base : Nat) (s x : Operand) (t e : TypeId) (z : Value) (bytes : Nat) (hgd : o.guard = none)
    (ho : o.op = .call { callee := .builtin .append, args := #[s, x], argTypes := #[t, t] })
    (ht : P.underlying t = some (.slice e)) (hinfo : (P.info? e).map (fun i => (i.zero, i.size, i.bytes)) = some (some z, d.sz, bytes)) (hz : z.cells.size = d.sz) (hs0 : 0 < d.sz) (hb0 : 0 < bytes)
    (v : Value) (xs ys : List α) (A : Option Addr) (m c : Nat) (hs : a.eval s = v) (hx : a.eval x = .slice A m c)
    (HO : d.R e W base (fun _ => True) v xs) (HR : d.C W A m ys) (HB : Below base w0 W) (hbase : base ≤ W.heap.size) (hl : (xs.length + m) * bytes ≤ 140737488355328)
    (h : ∀ v1 w1, d.R e w1 base (fun _ => True) v1 (xs ++ ys) → Below base w0 w1 → W.grownBy w1 v.ownBlock → (v1.ownBlock = v.ownBlock ∨ ∃ b, v1.ownBlock = some b ∧ W.heap.size ≤ b) → wpList P ops Q rest (a.put o.dst v1) w1) :
    wpList P ops Q (o :: rest) a W :=
  Kd.R_append_rows d (w0 := w0) base hgd s x t e z bytes ho ht hinfo hz hs0 hb0 v xs ys A m c (fun _ => True) (fun _ => False) hs hx HO HR (fun x cs h => hd W base x cs h) (fun _ h => h.elim) (fun _ _ => trivial) HB hbase hl h
/-- append(v, p): the one new element lies in the box that was just made for it. -/
theorem app1 (d : Kd α) (hd : Flat d) {w0 : World} (base : Nat) (s x : Operand) (t e : TypeId) (z : Value) (bytes : Nat) (hgd : o.guard = none)
    (ho : o.op = .call { callee := .builtin .append, args := #[s, x], argTypes := #[t, t] })
    (ht : P.underlying t = some (.slice e)) (hinfo : (P.info? e).map (fun i => (i.zero, i.size, i.bytes)) = some (some z, d.sz, bytes)) (hz : z.cells.size = d.sz) (hs0 : 0 < d.sz) (hb0 : 0 < bytes)
    (v : Value) (xs : List α) (p : α) (cs : List Value) (hs : a.eval s = v) (hx : a.eval x = .slice (some ⟨W.heap.size, 0, none⟩) 1 1) (hp : d.K W p cs)
    (HO : d.R e W base (fun _ => True) v xs) (HB : Below base w0 W) (hbase : base ≤ W.heap.size) (hl : (xs.length + 1) * bytes ≤ 140737488355328)
    (h : ∀ v1 w1, d.R e w1 base (fun _ => True) v1 (xs ++ [p]) → Below base w0 w1 → W.grownBy w1 v.ownBlock → (v1.ownBlock = v.ownBlock ∨ ∃ b, v1.ownBlock = some b ∧ W.heap.size ≤ b) → wpList P ops Q rest (a.put o.dst v1) w1) :
    wpList P ops Q (o :: rest) a (W.alloc (.cells cs.toArray e)) :=
  Kd.R_append d (w0 := w0) base hgd s x t e z bytes ho ht hinfo hz hs0 hb0 v xs p cs (fun _ => True) (fun _ => False) hs hx (hd W base p cs hp) (fun _ h => h.elim) (fun _ _ => trivial) HO HB hbase hl h
end
section
variable {P : Program} {α : Type}
theorem cutLHM (d : Kd α) (t e : TypeId) {z : Value} {bytes : Nat} (ht : P.underlying t = some (.slice e)) (hinfo : (P.info? e).map (fun i => (i.zero, i.size, i.bytes)) = some (some z, d.sz, bytes)) (A : Option Addr) (n c lo hi mx : Nat) (h1 : lo ≤ hi) (h2 : hi ≤ mx) (h3 : mx ≤ c) (h4 : hi ≤ n) (hnc : n ≤ c) :
    ∃ A' : Option Addr, (∀ W : World, (Instr.slice t (.slice A n c) (some (.int .i64 (lo : Int))) (some (.int .i64 (hi : Int))) (some (.int .i64 (mx : Int)))).run P W = .ok (.slice A' (hi - lo) (mx - lo)) W) ∧
      ∀ (w : World) (xs : List α), d.C w A n xs → d.C w A' (hi - lo) ((xs.take hi).drop lo) := by
  obtain ⟨i0, hi0, hzz⟩ := Option.map_eq_some_iff.1 hinfo
  simp only [Prod.mk.injEq] at hzz
  obtain ⟨_, hsz, _⟩ := hzz
  refine ⟨if mx = lo then A else A.map (·.add (lo * d.sz)), fun W => ?_, fun w xs h => ?_⟩
  · have hel : P.elem t = e := by simp [Program.elem, ht]
    have hu : P.underlying t = some (.slice (P.elem t)) := by rw [hel]; exact ht
    rw [run_slice_lhm W t A n c hu .i64 .i64 .i64 lo hi mx (by omega) (by omega) (by omega) (by omega), hel]
    simp [sizeOf, typeInfo, hi0, hsz, sliced, Result.andThen]
  · obtain rfl : xs.length = n := h.1
    have h5 := Kd.C_mid (c := c) (lo := lo) (hi := hi) h h1 h4 hnc
    have hl : ((xs.take hi).drop lo).length = hi - lo := by rw [List.length_drop, List.length_take]; omega
    rw [hl] at h5
    rcases Nat.eq_zero_or_pos (hi - lo) with h0 | h0
    · refine ⟨hl, h5.2.1, fun hp => absurd hp (by omega)⟩
    · rw [if_neg (by omega)] at h5 ⊢
      exact h5
theorem cutLH (d : Kd α) (t e : TypeId) {z : Value} {bytes : Nat} (ht : P.underlying t = some (.slice e)) (hinfo : (P.info? e).map (fun i => (i.zero, i.size, i.bytes)) = some (some z, d.sz, bytes)) (A : Option Addr) (n c lo hi : Nat) (h1 : lo ≤ hi) (h4 : hi ≤ n) (hnc : n ≤ c) :
    ∃ A' : Option Addr, (∀ W : World, (Instr.slice t (.slice A n c) (some (.int .i64 (lo : Int))) (some (.int .i64 (hi : Int))) none).run P W = .ok (.slice A' (hi - lo) (c - lo)) W) ∧
      ∀ (w : World) (xs : List α), d.C w A n xs → d.C w A' (hi - lo) ((xs.take hi).drop lo) := by
  obtain ⟨i0, hi0, hzz⟩ := Option.map_eq_some_iff.1 hinfo
  simp only [Prod.mk.injEq] at hzz
  obtain ⟨_, hsz, _⟩ := hzz
  refine ⟨if c = lo then A else A.map (·.add (lo * d.sz)), fun W => ?_, fun w xs h => ?_⟩
  · have hel : P.elem t = e := by simp [Program.elem, ht]
    have hu : P.underlying t = some (.slice (P.elem t)) := by rw [hel]; exact ht
    rw [run_slice_lh W t A n c hu .i64 .i64 lo hi (by omega) (by omega) (by omega), hel]
    simp [sizeOf, typeInfo, hi0, hsz, sliced, Result.andThen]
  · obtain rfl : xs.length = n := h.1
    have h5 := Kd.C_mid (c := c) (lo := lo) (hi := hi) h h1 h4 hnc
    have hl : ((xs.take hi).drop lo).length = hi - lo := by rw [List.length_drop, List.length_take]; omega
    rwa [hl] at h5
theorem cutL (d : Kd α) (t e : TypeId) {z : Value} {bytes : Nat} (ht : P.underlying t = some (.slice e)) (hinfo : (P.info? e).map (fun i => (i.zero, i.size, i.bytes)) = some (some z, d.sz, bytes)) (A : Option Addr) (n c lo : Nat) (h1 : lo ≤ n) (hnc : n ≤ c) :
    ∃ A' : Option Addr, (∀ W : World, (Instr.slice t (.slice A n c) (some (.int .i64 (lo : Int))) none none).run P W = .ok (.slice A' (n - lo) (c - lo)) W) ∧
      ∀ (w : World) (xs : List α), d.C w A n xs → d.C w A' (n - lo) (xs.drop lo) := by
  obtain ⟨i0, hi0, hzz⟩ := Option.map_eq_some_iff.1 hinfo
  simp only [Prod.mk.injEq] at hzz
  obtain ⟨_, hsz, _⟩ := hzz
  refine ⟨if c = lo then A else A.map (·.add (lo * d.sz)), fun W => ?_, fun w xs h => ?_⟩
  · have hel : P.elem t = e := by simp [Program.elem, ht]
    have hu : P.underlying t = some (.slice (P.elem t)) := by rw [hel]; exact ht
    rw [run_slice_l W t A n c hu .i64 lo (by omega) (by omega), hel]
    simp [sizeOf, typeInfo, hi0, hsz, sliced, Result.andThen]
  · obtain rfl : xs.length = n := h.1
    have h5 := Kd.C_drop (c := c) (m := lo) h h1 hnc
    rwa [List.length_drop] at h5
theorem cutH (d : Kd α) (t e : TypeId) {z : Value} {bytes : Nat} (ht : P.underlying t = some (.slice e)) (hinfo : (P.info? e).map (fun i => (i.zero, i.size, i.bytes)) = some (some z, d.sz, bytes)) (A : Option Addr) (n c hi : Nat) (h1 : hi ≤ n) (hnc : n ≤ c) :
    (∀ W : World, (Instr.slice t (.slice A n c) none (some (.int .i64 (hi : Int))) none).run P W = .ok (.slice A hi c) W) ∧
      ∀ (w : World) (xs : List α), d.C w A n xs → d.C w A hi (xs.take hi) := by
  obtain ⟨i0, hi0, hzz⟩ := Option.map_eq_some_iff.1 hinfo
  simp only [Prod.mk.injEq] at hzz
  obtain ⟨_, hsz, _⟩ := hzz
  refine ⟨fun W => ?_, fun w xs h => ?_⟩
  · have hel : P.elem t = e := by simp [Program.elem, ht]
    have hu : P.underlying t = some (.slice (P.elem t)) := by rw [hel]; exact ht
    rw [run_slice_h W t A n c hu .i64 hi (by omega) (by omega), hel]
    simp [sizeOf, typeInfo, hi0, hsz, sliced, Result.andThen]
    intro _; cases A <;> simp [Addr.add]
  · obtain rfl : xs.length = n := h.1
    have h5 := Kd.C_take (m := hi) h h1
    rw [List.length_take, Nat.min_eq_left h1] at h5
    exact h5
end
/-- 'acc | x << s' where acc lies below. -/
theorem or_shift (acc x s : Nat) (ha : acc < 2 ^ s) (hb : x * 2 ^ s < 2 ^ 62) (hs : s ≤ 62) : bits .or .i64 (acc : Int) (wrap64 ((x : Int) * 2 ^ s)) = ((acc + x * 2 ^ s : Nat) : Int) := by
  have hp : 2 ^ s ≤ 2 ^ 62 := Nat.pow_le_pow_right (by decide) hs
  have hc : ((x : Int) * 2 ^ s) = ((x * 2 ^ s : Nat) : Int) := by simp
  have hw : wrap64 ((x : Int) * 2 ^ s) = ((x * 2 ^ s : Nat) : Int) := by
    rw [hc]
    unfold wrap64
    generalize x * 2 ^ s = y at hb
    omega
  rw [hw, (bits_nat .i64 62 (by decide) (fun n h0 h1 => by rw [IntKind.wrap_i64]; omega) acc (x * 2 ^ s) (by omega) hb).2]
  rw [Nat.or_comm, Nat.mul_comm x, ← Nat.two_pow_add_eq_or_of_lt ha x, Nat.add_comm]
theorem or_num (acc i : Nat) (x : Int) (h0 : 0 ≤ x) (hacc : acc < 128 ^ i) (hi : i ≤ 7) : bits .or .i64 (acc : Int) (wrap64 (x % 128 * 2 ^ (7 * i))) = ((acc + (x % 128).toNat * 128 ^ i : Nat) : Int) := by
  obtain ⟨y, rfl⟩ := Int.eq_ofNat_of_zero_le h0
  have e : (2 : Nat) ^ (7 * i) = 128 ^ i := by rw [Nat.pow_mul]
  have hle : (2 : Nat) ^ (7 * i) ≤ 2 ^ 49 := Nat.pow_le_pow_right (by decide) (by omega)
  have h2 : ((y : Int) % 128) = ((y % 128 : Nat) : Int) := by simp
  have h3 : y % 128 * 2 ^ (7 * i) ≤ 127 * 2 ^ 49 := Nat.mul_le_mul (by omega) hle
  rw [h2, or_shift acc (y % 128) (7 * i) (by rw [e]; exact hacc) (Nat.lt_of_le_of_lt h3 (by decide)) (by omega), e, Int.toNat_natCast]
theorem or_num7 (acc : Nat) (x : Int) (h0 : 0 ≤ x) (hacc : acc < 128 ^ 7) : bits .or .i64 (acc : Int) (x % 128 * 562949953421312) = ((acc + (x % 128).toNat * 128 ^ 7 : Nat) : Int) := by
  rw [← or_num acc 7 x h0 hacc (by omega)]
  congr 1
  unfold wrap64
  have : (2 : Int) ^ (7 * 7) = 562949953421312 := by decide
  rw [this]
  omega
theorem pow128 (i : Nat) (hi : i ≤ 7) : (128 : Nat) ^ i ≤ 562949953421312 := Nat.le_trans (Nat.pow_le_pow_right (by decide) hi) (by decide)
theorem mul_num (acc i : Nat) (x : Int) (h0 : 0 ≤ x) (hacc : acc < 128 ^ i) (hi : i ≤ 7) : wrap64 ((acc : Int) + wrap64 ((128 : Int) ^ i * (x % 128))) = ((acc + (x % 128).toNat * 128 ^ i : Nat) : Int) := by
  obtain ⟨y, rfl⟩ := Int.eq_ofNat_of_zero_le h0
  have h2 : ((y : Int) % 128) = ((y % 128 : Nat) : Int) := by simp
  have hp := pow128 i hi
  have h3 : y % 128 * 128 ^ i ≤ 127 * 562949953421312 := Nat.mul_le_mul (by omega) hp
  have h4 : ((128 : Int) ^ i * ((y % 128 : Nat) : Int)) = ((y % 128 * 128 ^ i : Nat) : Int) := by rw [Nat.mul_comm]; simp
  rw [h2, h4, Int.toNat_natCast]
  generalize y % 128 * 128 ^ i = z at h3
  unfold wrap64
  omega
theorem scale_num (i : Nat) (hi : i ≤ 7) : wrap64 ((128 : Int) ^ i * 128) = ((128 ^ (i + 1) : Nat) : Int) := by
  have hp := pow128 i hi
  have h4 : ((128 : Int) ^ i) = ((128 ^ i : Nat) : Int) := by simp
  rw [h4, Nat.pow_succ]
  generalize 128 ^ i = z at hp
  unfold wrap64
  omega
/-- 'n<<8 | c' on an uint64. -/
theorem or_u64 (acc : Nat) (x : Int) (ha : acc < 72057594037927936) (h0 : 0 ≤ x) (h1 : x ≤ 255) : bits .or .u64 ((acc : Int) * 256) x = ((acc * 256 + x.toNat : Nat) : Int) := by
  obtain ⟨y, rfl⟩ := Int.eq_ofNat_of_zero_le h0
  have hw : ((acc : Int) * 256) = ((acc * 256 : Nat) : Int) := by simp
  rw [hw, Int.toNat_natCast, (bits_nat .u64 64 (by decide) (fun n h0 h1 => by simp [IntKind.wrap, IntKind.bits, IntKind.signed]; omega) (acc * 256) y (by omega) (by omega)).2]
  have := Nat.two_pow_add_eq_or_of_lt (show y < 2 ^ 8 by omega) acc
  rw [Nat.mul_comm acc 256]
  exact congrArg Nat.cast this.symm
theorem obj_cell {w : World} {g : Nat} {cs : Array Value} {t : TypeId} (h : w.heap[g]? = some (.cells cs t (0, 0))) (j : Nat) {v : Value} (hj : cs[j]? = some v) : w.cell? ⟨g, j, none⟩ = some v := by
  rw [cell_of_row w g j cs t (0, 0) h]; exact hj
theorem obj_free {w : World} {g : Nat} {cs : Array Value} {t : TypeId} (h : w.heap[g]? = some (.cells cs t (0, 0))) (j : Nat) : w.frozen? ⟨g, j, none⟩ = false := frozen_of_row w g j cs t h
theorem obj_set {w : World} {g : Nat} {cs : Array Value} {t : TypeId} (h : w.heap[g]? = some (.cells cs t (0, 0))) (j : Nat) (u : Value) : (w.setCell ⟨g, j, none⟩ u).heap[g]? = some (.cells (cs.setIfInBounds j u) t (0, 0)) := blk_set h j u
theorem obj_grown (w : World) (g j : Nat) (u : Value) : w.grownBy (w.setCell ⟨g, j, none⟩ u) (some g) :=
  ⟨rfl, rfl, rfl, by simp [World.setCell], fun k hk hne => Below.heap_setCell w _ u k (fun e => hne (by rw [e]))⟩
theorem drewN_grown (w : World) (n g j : Nat) (u : Value) : w.grownBy ((w.drewN n).setCell ⟨g, j, none⟩ u) (some g) :=
  World.grownBy.trans (b := w.drewN n) ⟨rfl, rfl, rfl, Nat.le_refl _, fun _ _ _ => rfl⟩ (obj_grown _ _ _ _)
section
variable {P : Program} {ops : Array Oper} {rest : List Oper} {o : Oper} {a : Act} {Q : Exit → Act → World → Prop} {W : World}
/-- string(b): b read. -/
theorem conv_str (b : ByteArray) (s d e : TypeId) (x : Operand) (hgd : o.guard = none) (ho : o.op = .convert s d x) (hs : P.underlying s = some (.slice e)) (he : P.underlying e = some (.int .u8)) (hd : P.underlying d = some .string)
    {A : Option Addr} {n c : Nat} {xs : List Int} (hx : a.eval x = .slice A n c) (hb : strOfNums xs = b) (h : (Kd.int .u8).C W A n xs) (K : wpList P ops Q rest (a.put o.dst (.string b)) W) : wpList P ops Q (o :: rest) a W := by
  subst hb
  refine wpList_plain hgd fun K' hK => ?_
  have hr := Kd.C_string hs he hd (c := c) h
  unfold Oper.wp execOp
  simp only [ho, hx, Sem.run_bind, Sem.run_pure, Result.andThen_ok, hr]
  exact hK _ _ K
end
theorem R_kept_t {α : Type} {d : Kd α} (hd : Flat d) {e : Nat} {w w1 : World} {base : Nat} {v : Value} {xs : List α} (h : d.R e w base (fun _ => True) v xs) {g t : Nat} {cells : Array Value} (hb : w.heap[g]? = some (.cells cells t (0, 0))) (ht : e ≠ t) (hg : w.grownBy w1 (some g)) : d.R e w1 base (fun _ => True) v xs := by
  have hne : some g ≠ v.ownBlock := Kd.R_ne h hb ht
  obtain ⟨_, inner, ho, hr⟩ := h
  refine ⟨fun _ _ => trivial, inner, ho.kept hg (.inr (fun e => hne e.symm)), hr.imp_ (fun x cs hm => ?_)⟩
  have h1 := d.M_mono (ok' := fun k => True ∧ some k ≠ v.ownBlock) (fun k hk => hk.elim) (hd w base x cs (d.K_of_M hm))
  have h2 := hd w base x cs (d.K_of_M hm)
  have h3 := d.M_move (w1 := w1) (fun k hk => hk.elim) h2
  exact d.M_mono (fun k hk => hk.elim) h3
/-- string(b) of a row that the call owns, as an equation. -/
theorem conv_own {P : Program} (s d e : TypeId) (hs : P.underlying s = some (.slice e)) (he : P.underlying e = some (.int .u8)) (hd : P.underlying d = some .string) {W : World} {base n m c : Nat} {A : Option Addr} {xs : List Int} {b : ByteArray} {e' : Nat}
    (h : Kd.R (Kd.int .u8) e' W base (fun _ => True) (.slice A m c) xs) (hn : m = n) (hb : strOfNums xs = b) : (convert s d (.slice A n c)).run P W = .ok (.string b) W := by
  subst hn
  subst hb
  have h1 := Kd.R_reads' h
  have h2 := Kd.C_string (P := P) (src := s) (dst := d) (c := c) hs he hd h1.2.2
  rwa [← h1.1] at h2
theorem conv_read {P : Program} (s d e : TypeId) (hs : P.underlying s = some (.slice e)) (he : P.underlying e = some (.int .u8)) (hd : P.underlying d = some .string) {W : World} {n c : Nat} {A : Option Addr} {xs : List Int} {b : ByteArray}
    (h : (Kd.int .u8).C W A n xs) (hb : strOfNums xs = b) : (convert s d (.slice A n c)).run P W = .ok (.string b) W := by
  subst hb
  exact Kd.C_string (P := P) (src := s) (dst := d) (c := c) hs he hd h
/-- A world of a class. -/
structure Held (S : World → Prop) where
  w : World
  h : S w
/-- A drawn region, walked once in the order of the text, in a class of worlds that every operation keeps. -/
theorem wp_region_class {P : Program} {id : Nat} {Q : Exit → Act → World → Prop} {a : Act} {w : World} {l : List Oper} (S : World → Prop) (hm : P.follows .mixedOrders = true) (hB : Region.lexB .any l.toArray = true) (hC : S w.drew)
    (h : Nonempty (Held S) → wpQuiet P l.toArray (fun w' => ∃ x : Held S, w' = x.w) (fun a' => ∀ w', S w' → Q .normal a' w') l a) : (Code.region id l.toArray true).wp P Q a w :=
  wp_region_quiet (C := fun w' => ∃ x : Held S, w' = x.w) hm hB ⟨⟨_, hC⟩, rfl⟩ (by
    have e : (fun a' => ∀ w', S w' → Q .normal a' w') = fun a' => ∀ w', (∃ x : Held S, w' = x.w) → Q .normal a' w' := by
      funext a'
      exact propext ⟨fun h w' ⟨x, hx⟩ => h w' (hx ▸ x.h), fun h w' hw => h w' ⟨⟨w', hw⟩, rfl⟩⟩
    rw [← e]
    simpa using h ⟨⟨_, hC⟩⟩)
/-- Three numbers handed back, told as one. -/
theorem ret3i {t : Int × Int × Int} {a b c : Int} (h : t = (a, b, c)) : Ending.returned (.tuple #[.int .i64 a, .int .i64 b, .int .i64 c]) = .returned (.tuple #[.int .i64 t.1, .int .i64 t.2.1, .int .i64 t.2.2]) := by subst h; rfl
end Go.Proofs.Ytlmcompoalhpnaa.K
namespace Go.Proofs.YtlmcompoalhpnaaW.PrintWords
open Go.RowKit
/-- '[]T{}': an empty row that is not nil. -/
theorem Kd.R_made_nil {α : Type} (d : Kd α) (w : World) (e : Nat) : d.R e (w.alloc (.cells #[] e)) w.heap.size (fun _ => True) (.slice (some ⟨w.heap.size, 0, none⟩) 0 0) [] :=
  ⟨fun _ _ => trivial, [], World.ownsRow_made w #[] 0 (Nat.le_refl _) (Nat.zero_le _) (by simp), Reps.none _ _⟩
/-- '[]T{x}': a row of one element, of a kind without rows inside. -/
theorem Kd.R_lit1 {α : Type} (d : Kd α) (hd : Go.Proofs.Ytlmcompoalhpnaa.K.Flat d) (w : World) (e : Nat) (x : α) (cs : List Value) (hx : d.K w x cs) (base : Nat) (hb : base ≤ w.heap.size) : d.R e (w.alloc (.cells cs.toArray e)) base (fun _ => True) (.slice (some ⟨w.heap.size, 0, none⟩) 1 1) [x] := by
  have hl := d.K_len hx
  refine ⟨fun _ _ => trivial, cs, ?_, ?_⟩
  · have h := World.ownsRow_lit (base := base) (e := e) (size := d.sz) w cs.toArray 1 hb (by simp [maxLen]) (by simp [hl])
    simpa using h
  · have h1 := d.M_mono (ok' := fun k => True ∧ some k ≠ (Value.slice (some ⟨w.heap.size, 0, none⟩) 1 1).ownBlock) (fun k hk => hk.elim) (hd w base x cs hx)
    have h2 := d.M_move (w1 := w.alloc (.cells cs.toArray e)) (fun k hk => Below.heap_alloc w _ k hk.2.2.1) (d.M_bound h1)
    have h3 := d.M_mono (ok' := fun k => True ∧ some k ≠ (Value.slice (some ⟨w.heap.size, 0, none⟩) 1 1).ownBlock) (fun k hk => hk.1) h2
    simpa using (Reps.none (d.M (w.alloc (.cells cs.toArray e)) base (fun k => True ∧ some k ≠ (Value.slice (some ⟨w.heap.size, 0, none⟩) 1 1).ownBlock)) d.sz).snoc h3 hl
end Go.Proofs.YtlmcompoalhpnaaW.PrintWords
