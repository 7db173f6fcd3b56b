/- Sums and knowns as kinds of elements; what a map of slots answers; no condition. -/
import Derived.Test.YtocmljijdecilaaKr
import Derived.Test.YtocmljijdecilaaMp
import Derived.Test.YtocmljijdecilaaEq
import Derived.Test.YtocmljijdecilaaSums
namespace Go.Proofs.Ytocmljijdecilaa.CaS
open Go Go.RowKit Go.Proofs.YtocmljijdecilaaW.PrintWords Go.Proofs.Ytocmljijdecilaa.K Go.Proofs.Ytocmljijdecilaa.Mp Go.Proofs.Ytocmljijdecilaa.Eq
set_option linter.unusedVariables false
set_option linter.unusedSimpArgs false
abbrev Sm := List Int
def OkSum (s : Sm) : Prop := s.length = 32 ∧ ∀ x ∈ s, (Lit.int .u8 x).wf = true
def dSum : Kd Sm := Kd.flatK 32 OkSum (nums .u8) (fun x h => by simp [nums, h.1]) (fun x _ u hu => by
  obtain ⟨y, _, rfl⟩ := List.mem_map.1 hu
  rfl)
theorem flat_sum : Flat dSum := Kd.flatK_flat _ _ _ _ _
structure Kn where
  bin : Int
  sa : Option Addr
  sn : Nat
  sc : Nat
  m : Nat
instance : Inhabited Kn := ⟨⟨0, none, 0, 0, 0⟩⟩
def Kn.cells (k : Kn) : List Value := [.int .i64 k.bin, .slice k.sa k.sn k.sc, .map (some k.m)]
def dKn : Kd Kn := Kd.flatK 3 (fun _ => True) Kn.cells (fun _ _ => rfl) (fun x _ u hu => by
  simp [Kn.cells] at hu
  rcases hu with rfl | rfl | rfl <;> rfl)
theorem flat_kn : Flat dKn := Kd.flatK_flat _ _ _ _ _
/-- The numbers of a key's cells. -/
def dec : List Value → Option Sm
  | [] => some []
  | .int .u8 x :: l => (dec l).map (x :: ·)
  | _ => none
theorem dec_nums : ∀ s : Sm, dec (nums .u8 s) = some s
  | [] => rfl
  | x :: s => by
    show (dec (nums .u8 s)).map (x :: ·) = _
    rw [dec_nums s]; rfl
theorem dec_is : ∀ (l : List Value) (s : Sm), dec l = some s → l = nums .u8 s
  | [], s, h => by
    injection h with h
    subst h; rfl
  | v :: l, s, h => by
    unfold dec at h
    split at h
    · rename_i heq; cases heq
    · rename_i x l' heq
      injection heq with h1 h2
      subst h1
      subst h2
      obtain ⟨s', hs, rfl⟩ := Option.map_eq_some_iff.1 h
      rw [dec_is _ _ hs]; rfl
    · cases h
/-- Where a sum stands first. -/
def firstAt : List Sm → Sm → Nat → Option Nat
  | [], _, _ => none
  | x :: l, s, i => if x = s then some i else firstAt l s (i + 1)
def sumV (s : Sm) : Value := .agg (nums .u8 s).toArray
/-- What the map of the sums from place i on answers. -/
def slotF (ss : List Sm) (i : Nat) : Value → Option Value
  | .agg cs => match dec cs.toList with
    | some s => (firstAt ss s i).map (fun (j : Nat) => Value.int .i64 (j : Int))
    | none => none
  | _ => none
theorem slot_at (ss : List Sm) (i : Nat) (s : Sm) : slotF ss i (sumV s) = (firstAt ss s i).map (fun (j : Nat) => Value.int .i64 (j : Int)) := by
  unfold slotF sumV
  simp only [dec_nums]
theorem slot_nil (i : Nat) : slotF [] i = fun _ => none := by
  funext v
  unfold slotF
  split
  · split
    · rfl
    · rfl
  · rfl
theorem slot_put (s : Sm) (ss : List Sm) (i : Nat) : Put (slotF ss (i + 1)) (sumV s) (.int .i64 (i : Int)) (slotF (s :: ss) i) := by
  refine ⟨?_, fun v hv => ?_⟩
  · rw [slot_at]
    unfold firstAt
    rw [if_pos rfl]; rfl
  · unfold slotF
    split
    · rename_i cs
      split
      · rename_i t ht
        have hne : s ≠ t := fun e => by
          subst e
          apply hv
          unfold sumV
          congr 1
          apply Array.toList_inj.1
          exact dec_is _ _ ht
        conv => lhs; unfold firstAt
        rw [if_neg hne]
      · rfl
    · rfl
/-- A reading told where its block lies as it lay: a kind without rows. -/
theorem C_same {α : Type} {sz : Nat} {ok : α → Prop} {cells : α → List Value} {hl : ∀ x, ok x → (cells x).length = sz} {h1 : ∀ x, ok x → ∀ u ∈ cells x, u.oneCell' = true} {w w1 : World} {A : Option Addr} {n : Nat} {xs : List α}
    (h : (Kd.flatK sz ok cells hl h1).C w A n xs) (hb : ∀ a, A = some a → w1.heap[a.block]? = w.heap[a.block]?) : (Kd.flatK sz ok cells hl h1).C w1 A n xs := by
  refine ⟨h.1, h.2.1, fun h0 => ?_⟩
  obtain ⟨ad, had, hc⟩ := h.2.2 h0
  refine ⟨ad, had, fun j x hj => ?_⟩
  obtain ⟨cs, e1, e2, e3⟩ := hc j x hj
  refine ⟨cs, e1, e2, fun i u hu => ?_⟩
  rw [← e3 i u hu]
  have hbl : (ad.add (j * sz + i)).block = ad.block := by
    unfold Addr.add
    split <;> rfl
  have := hb ad had
  show World.cell? w1 (ad.add (j * sz + i)) = World.cell? w (ad.add (j * sz + i))
  unfold World.cell?
  rw [hbl, this]
/-- What a known tells: its sums, and a map that answers their places; its blocks are none of T. -/
structure Told (w : World) (T : Nat → Prop) (t : Kn) (b : Int) (ss : List Sm) : Prop where
  bin : t.bin = b
  few : ss.length ≤ 64
  len : t.sn = ss.length
  cap : ss.length ≤ t.sc
  sums : dSum.C w t.sa ss.length ss
  away : ∀ a, t.sa = some a → a.block < w.heap.size ∧ ¬ T a.block
  map : ∃ n, MapF Try.prog 35 w t.m (slotF ss 0) n
  mway : ¬ T t.m
theorem Told.move {w w1 : World} {T : Nat → Prop} {t : Kn} {b : Int} {ss : List Sm} (h : Told w T t b ss) (hs : w.heap.size ≤ w1.heap.size) (hk : ∀ k, k < w.heap.size → ¬ T k → w1.heap[k]? = w.heap[k]?) : Told w1 T t b ss := by
  obtain ⟨n, hM⟩ := h.map
  exact ⟨h.bin, h.few, h.len, h.cap, C_same h.sums (fun a ha => hk _ (h.away a ha).1 (h.away a ha).2), fun a ha => ⟨Nat.lt_of_lt_of_le (h.away a ha).1 hs, (h.away a ha).2⟩, ⟨n, hM.move (hk _ hM.lt h.mway)⟩, h.mway⟩
theorem Told.wider {w : World} {T T1 : Nat → Prop} {t : Kn} {b : Int} {ss : List Sm} (h : Told w T t b ss) (ht : ∀ k, k < w.heap.size → T1 k → T k) : Told w T1 t b ss := by
  obtain ⟨n, hM⟩ := h.map
  exact ⟨h.bin, h.few, h.len, h.cap, h.sums, fun a ha => ⟨(h.away a ha).1, fun e => (h.away a ha).2 (ht _ (h.away a ha).1 e)⟩, ⟨n, hM⟩, fun e => h.mway (ht _ hM.lt e)⟩
end Go.Proofs.Ytocmljijdecilaa.CaS
