/- Meets and joins of types, plain. -/
import Derived.Test.YtjklecncdinabaaGreatDoorRelT
namespace Go.Proofs.YtjklecncdinabaaGreatDoor.T

def meetT : Ty → Ty → Ty
  | .leaf h, T => if h = 63 then T else .leaf h
  | .un h a, T => match T with | .un _ b => .un h (meetT a b) | _ => .un h a
  | .bin h a b, T => match T with | .bin _ c d => .bin h (meetT a c) (meetT b d) | _ => .bin h a b

def joinT : Ty → Ty → Ty
  | .leaf h, T => if h = T.head then .leaf h else .leaf 63
  | .un h a, T => if h = T.head then (match T with | .un _ b => .un h (joinT a b) | _ => .un h a) else .leaf 63
  | .bin h a b, T => if h = T.head then (match T with | .bin _ c d => .bin h (joinT a c) (joinT b d) | _ => .bin h a b) else .leaf 63

theorem meet_len (S : Ty) : ∀ T : Ty, (meetT S T).code.length ≤ S.code.length + T.code.length := by
  induction S with
  | leaf h => intro T; simp only [meetT]; split <;> simp [Ty.code]
  | un h a ih =>
    intro T
    cases T with
    | un g b => have := ih b; simp [meetT, Ty.code]; omega
    | leaf g => simp [meetT, Ty.code]
    | bin g b c => simp [meetT, Ty.code] <;> omega
  | bin h a b iha ihb =>
    intro T
    cases T with
    | bin g c d => have := iha c; have := ihb d; simp [meetT, Ty.code]; omega
    | leaf g => simp [meetT, Ty.code]
    | un g c => simp [meetT, Ty.code] <;> omega

theorem join_len (S : Ty) : ∀ T : Ty, (joinT S T).code.length ≤ S.code.length := by
  induction S with
  | leaf h => intro T; simp only [joinT]; split <;> simp [Ty.code]
  | un h a ih =>
    intro T
    simp only [joinT]
    split
    · cases T with
      | un g b => have := ih b; simp [Ty.code]; omega
      | leaf g => simp
      | bin g b c => simp
    · simp [Ty.code]
  | bin h a b iha ihb =>
    intro T
    simp only [joinT]
    split
    · cases T with
      | bin g c d => have := iha c; have := ihb d; simp [Ty.code]; omega
      | leaf g => simp
      | un g c => simp
    · simp [Ty.code]

theorem meet_q {S : Ty} (hS : S.ok) (h : S.head = 63) (T : Ty) : meetT S T = T := by rw [head63 hS h]; simp [meetT]
theorem meet_r {S T : Ty} (hS : S.ok) (hT : T.ok) (h1 : S.head ≠ 63) (h : T.head = 63) : meetT S T = S := by
  rw [head63 hT h]
  cases S with
  | leaf a => simp [meetT, Ty.head] at *; intro h; exact absurd h h1
  | un a b => simp [meetT]
  | bin a b c => simp [meetT]

/-- The letters of two types of one head, joined part by part. -/
def zipC (f : Ty → Ty → Ty) (h : UInt8) (K1 K2 : List Ty) (j : Nat) : List UInt8 := h :: ((K1.zip K2).take j).flatMap fun p => (f p.1 p.2).code
theorem zipC_zero (f : Ty → Ty → Ty) (h : UInt8) (K1 K2 : List Ty) : zipC f h K1 K2 0 = [h] := by simp [zipC]
theorem zipC_succ (f : Ty → Ty → Ty) (h : UInt8) {K1 K2 : List Ty} {j : Nat} {S T : Ty} (h1 : K1[j]? = some S) (h2 : K2[j]? = some T) : zipC f h K1 K2 (j + 1) = zipC f h K1 K2 j ++ (f S T).code := by
  unfold zipC
  have h3 : (K1.zip K2)[j]? = some (S, T) := List.getElem?_zip_eq_some.2 ⟨h1, h2⟩
  rw [take_succ_some h3]
  simp
theorem zipC_len {f : Ty → Ty → Ty} {h : UInt8} {K1 K2 : List Ty} (hb : ∀ p ∈ K1.zip K2, (f p.1 p.2).code.length ≤ 128) (j : Nat) : (zipC f h K1 K2 j).length ≤ 1 + j * 128 := by
  unfold zipC
  induction j with
  | zero => simp
  | succ j ih =>
    rw [List.take_add_one]
    rcases hj : (K1.zip K2)[j]? with _ | p
    · simp only [hj, Option.toList_none, List.append_nil]; omega
    · have := hb p (List.mem_of_getElem? hj)
      simp only [Option.toList_some, List.flatMap_append, List.length_cons, List.length_append, List.flatMap_cons, List.flatMap_nil, List.append_nil] at *
      omega

theorem meet_zip {S T : Ty} (hS : S.ok) (hT : T.ok) (h1 : S.head ≠ 63) (h : S.head = T.head) : zipC meetT S.head S.kids T.kids S.kids.length = (meetT S T).code := by
  have hl := kids_len hS hT h
  cases S with
  | leaf a => simp [zipC, meetT, Ty.kids, Ty.head, Ty.code] at *; simp [h1, Ty.code]
  | un a b =>
    cases T with
    | leaf c => simp [Ty.kids] at hl
    | un c d => simp [zipC, meetT, Ty.kids, Ty.head, Ty.code]
    | bin c d e => simp [Ty.kids] at hl
  | bin a b c =>
    cases T with
    | leaf c => simp [Ty.kids] at hl
    | un c d => simp [Ty.kids] at hl
    | bin c d e => simp [zipC, meetT, Ty.kids, Ty.head, Ty.code]

theorem join_zip {S T : Ty} (hS : S.ok) (hT : T.ok) (h : S.head = T.head) : zipC joinT S.head S.kids T.kids S.kids.length = (joinT S T).code := by
  have hl := kids_len hS hT h
  cases S with
  | leaf a => simp [Ty.head] at h; simp [zipC, joinT, Ty.kids, Ty.head, Ty.code, h]
  | un a b =>
    cases T with
    | leaf c => simp [Ty.kids] at hl
    | un c d => simp [Ty.head] at h; simp [zipC, joinT, Ty.kids, Ty.head, Ty.code, h]
    | bin c d e => simp [Ty.kids] at hl
  | bin a b c =>
    cases T with
    | leaf c => simp [Ty.kids] at hl
    | un c d => simp [Ty.kids] at hl
    | bin c d e => simp [Ty.head] at h; simp [zipC, joinT, Ty.kids, Ty.head, Ty.code, h]
theorem join_no {S T : Ty} (h : S.head ≠ T.head) : joinT S T = .leaf 63 := by
  cases S
  · exact if_neg h
  · exact if_neg h
  · exact if_neg h

theorem meet_ok {S : Ty} : ∀ {T : Ty}, S.ok → T.ok → (meetT S T).ok := by
  induction S with
  | leaf h => intro T hS hT; simp only [meetT]; split; exact hT; exact hS
  | un h a ih =>
    intro T hS hT
    cases T with
    | un g b => exact ⟨hS.1, ih hS.2 hT.2⟩
    | leaf g => exact hS
    | bin g b c => exact hS
  | bin h a b iha ihb =>
    intro T hS hT
    cases T with
    | bin g c d => exact ⟨hS.1, iha hS.2.1 hT.2.1, ihb hS.2.2 hT.2.2⟩
    | leaf g => exact hS
    | un g c => exact hS
theorem join_ok {S : Ty} : ∀ {T : Ty}, S.ok → T.ok → (joinT S T).ok := by
  have q : (Ty.leaf 63).ok := by show arB 63 = 0; decide
  induction S with
  | leaf h => intro T hS hT; simp only [joinT]; split; exact hS; exact q
  | un h a ih =>
    intro T hS hT
    simp only [joinT]
    split
    · cases T with
      | un g b => exact ⟨hS.1, ih hS.2 hT.2⟩
      | leaf g => exact hS
      | bin g b c => exact hS
    · exact q
  | bin h a b iha ihb =>
    intro T hS hT
    simp only [joinT]
    split
    · cases T with
      | bin g c d => exact ⟨hS.1, iha hS.2.1 hT.2.1, ihb hS.2.2 hT.2.2⟩
      | leaf g => exact hS
      | un g c => exact hS
    · exact q

end Go.Proofs.YtjklecncdinabaaGreatDoor.T
