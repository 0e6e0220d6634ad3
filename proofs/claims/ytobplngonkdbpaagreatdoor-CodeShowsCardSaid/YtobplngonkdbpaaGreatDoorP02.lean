/- Parts of this claim: CdP, CdQ, CdR. -/
import Derived.Lib.ParseIntBCases
import Derived.Lib.ParseIntBTie
import Derived.Lib.ItoaNum
set_option linter.unusedVariables false
set_option linter.unusedSimpArgs false
/- CdP -/
namespace Go.Proofs.YtobplngonkdbpaaGreatDoor.D
open Go Go.Lib
set_option linter.unusedVariables false
set_option linter.unusedSimpArgs false
abbrev Bs := List UInt8
/-! ### Numbers -/
def inR (n : Int) : Prop := -9223372036854775808 <= n /\ n <= 9223372036854775807
theorem pum_append (M : Nat) (ys : Bs) : ∀ (xs : Bs) (acc a : Nat), parseUintM M acc xs = .ok a -> parseUintM M acc (xs ++ ys) = parseUintM M a ys
 | [], acc, a, h => by simp only [parseUintM] at h; injection h with h; subst h; rfl
 | c :: r, acc, a, h => by
  rw [List.cons_append]
  rw [parseUintM] at h ⊢
  split at h
  ·
   rename_i h1
   rw [if_pos h1]
   split at h
   · cases h
   ·
    rename_i h2
    rw [if_neg h2]
    split at h
    · cases h
    ·
     rename_i h3
     rw [if_neg h3]
     exact pum_append M ys r _ a h
  · cases h
theorem dig_toNat {d : Nat} (h : d < 10) : (UInt8.ofNat (48 + d)).toNat = 48 + d := by
 simp only [UInt8.toNat_ofNat']; omega
theorem pum_dec (u : Nat) (hu : u <= 18446744073709551615) : parseUintM 18446744073709551615 0 (decDigits u) = .ok u := by
 induction u using Nat.strongRecOn with
 | _ u ih =>
  by_cases h : u < 10
  ·
   rw [decDigits, dif_pos h, parseUintM, dig_toNat h, if_pos (by omega), if_neg (by omega), if_neg (by omega), parseUintM]
   congr 1; omega
  ·
   rw [decDigits, dif_neg h, pum_append _ _ _ _ _ (ih (u / 10) (by omega) (by omega))]
   rw [parseUintM, dig_toNat (Nat.mod_lt _ (by decide)), if_pos (by omega), if_neg (by omega), if_neg (by omega), parseUintM]
   congr 1; omega
theorem dec_head (u : Nat) : ∃ c r, decDigits u = c :: r /\ 48 <= c.toNat /\ c.toNat <= 57 := by
 induction u using Nat.strongRecOn with
 | _ u ih =>
  by_cases h : u < 10
  · rw [decDigits, dif_pos h]; exact ⟨_, _, rfl, by rw [dig_toNat h]; omega, by rw [dig_toNat h]; omega⟩
  ·
   obtain ⟨c, r, e, h1, h2⟩ := ih (u / 10) (by omega)
   rw [decDigits, dif_neg h, e]; exact ⟨c, _, rfl, h1, h2⟩
theorem dec_digits (u : Nat) : ∀ c ∈ decDigits u, 48 <= c.toNat /\ c.toNat <= 57 := by
 induction u using Nat.strongRecOn with
 | _ u ih =>
  by_cases h : u < 10
  ·
   rw [decDigits, dif_pos h]
   intro c hc
   rw [List.mem_singleton.1 hc, dig_toNat h]; omega
  ·
   rw [decDigits, dif_neg h]
   intro c hc
   rcases List.mem_append.1 hc with hc | hc
   · exact ih (u / 10) (by omega) c hc
   · rw [List.mem_singleton.1 hc, dig_toNat (Nat.mod_lt _ (by decide))]; omega
theorem parse_itoa {n : Int} (h : inR n) : parseIntB 64 (itoa n) = .ok n := by
 obtain ⟨h0, h1⟩ := h
 unfold itoa
 split
 ·
  rename_i hn
  rw [parseIntB_minus, parseUintB, if_neg (by obtain ⟨c, r, e, _⟩ := dec_head n.natAbs; rw [e]; simp)]
  have e := pum_dec n.natAbs (by omega)
  rw [show (2 : Nat) ^ 64 - 1 = 18446744073709551615 from rfl, e]
  unfold signedC
  simp only
  rw [show (2 : Nat) ^ (64 - 1) = 9223372036854775808 from rfl, if_neg (by omega)]
  congr 1; omega
 ·
  rename_i hn
  obtain ⟨c, r, e, hc1, hc2⟩ := dec_head n.toNat
  have ep := pum_dec n.toNat (by omega)
  rw [e] at ep ⊢
  rw [parseIntB_plain _ _ _ (by omega) (by omega), parseUintB, if_neg (by simp)]
  rw [show (2 : Nat) ^ 64 - 1 = 18446744073709551615 from rfl, ep]
  unfold signlessC
  simp only
  rw [show (2 : Nat) ^ (64 - 1) = 9223372036854775808 from rfl, if_neg (by omega)]
  congr 1; omega
/-- A number of 64 bits, told in tens and in no other way. -/
def numV (w : Bs) : Option Int := match parseIntB 64 w with
 | .ok v => if itoa v = w then some v else none
 | _ => none
theorem numV_itoa {n : Int} (h : inR n) : numV (itoa n) = some n := by unfold numV; rw [parse_itoa h]; simp
theorem numV_some {w : Bs} {v : Int} (h : numV w = some v) : itoa v = w /\ inR v := by
 unfold numV at h
 split at h
 ·
  rename_i u hu
  split at h
  ·
   rename_i he
   injection h with h
   subst h
   refine ⟨he, ?_⟩
   have := parseIntB_bounds hu
   exact ⟨by simpa using this.1, by have := this.2; simp at this; omega⟩
  · cases h
 · cases h
theorem itoa_chars {n : Int} : ∀ c ∈ itoa n, c.toNat = 45 \/ (48 <= c.toNat /\ c.toNat <= 57) := by
 intro c hc
 unfold itoa at hc
 split at hc
 ·
  rcases List.mem_cons.1 hc with rfl | hc
  · exact .inl rfl
  · exact .inr (dec_digits _ c hc)
 · exact .inr (dec_digits _ c hc)
/-- From least to most. -/
def numB (lo hi : Int) (w : Bs) : Option Int := match numV w with
 | some v => if lo <= v /\ v <= hi then some v else none
 | none => none
theorem numB_itoa {lo hi n : Int} (h : inR n) (hl : lo <= n) (hh : n <= hi) : numB lo hi (itoa n) = some n := by
 unfold numB; rw [numV_itoa h]; simp [hl, hh]
theorem numB_some {lo hi v : Int} {w : Bs} (h : numB lo hi w = some v) : itoa v = w /\ inR v /\ lo <= v /\ v <= hi := by
 unfold numB at h
 split at h
 ·
  rename_i u hu
  split at h
  ·
   rename_i hb
   injection h with h
   subst h
   exact ⟨(numV_some hu).1, (numV_some hu).2, hb.1, hb.2⟩
  · cases h
 · cases h
/-! ### Texts in quotes -/
def hexD (n : Nat) : UInt8 := if n < 10 then UInt8.ofNat (48 + n) else UInt8.ofNat (87 + n)
/-- Is a byte told as it is? -/
def plainB (x : UInt8) : Bool := decide (32 <= x.toNat) && decide (x.toNat <= 126) && decide (x.toNat ≠ 34) && decide (x.toNat ≠ 92)
def escB (x : UInt8) : Bs := if plainB x = true then [x] else [92, 120, hexD (x.toNat / 16), hexD (x.toNat % 16)]
def inner (s : Bs) : Bs := s.flatMap escB
def quoteL (s : Bs) : Bs := 34 :: (inner s ++ [34])
theorem hexD_inj {a b : Nat} (ha : a < 16) (hb : b < 16) (h : hexD a = hexD b) : a = b := by
 have key : ∀ a b : Fin 16, hexD a.val = hexD b.val -> a = b := by decide
 have := key ⟨a, ha⟩ ⟨b, hb⟩ h
 simpa using this
theorem hexD_chars {a : Nat} (ha : a < 16) : 48 <= (hexD a).toNat /\ (hexD a).toNat <= 102 /\ (hexD a).toNat ≠ 92 := by
 have key : ∀ a : Fin 16, 48 <= (hexD a.val).toNat /\ (hexD a.val).toNat <= 102 /\ (hexD a.val).toNat ≠ 92 := by decide
 exact key ⟨a, ha⟩
theorem plainB_iff {x : UInt8} : plainB x = true ↔ 32 <= x.toNat /\ x.toNat <= 126 /\ x.toNat ≠ 34 /\ x.toNat ≠ 92 := by
 unfold plainB; simp [and_assoc]
/-- No quote, no line's end stands in what stands between quotes. -/
theorem inner_chars {s : Bs} : ∀ c ∈ inner s, 32 <= c.toNat /\ c.toNat <= 126 /\ c.toNat ≠ 34 := by
 intro c hc
 obtain ⟨x, _, hx⟩ := List.mem_flatMap.1 hc
 unfold escB at hx
 have hlt := x.toNat_lt
 split at hx
 ·
  rename_i hp
  rw [List.mem_singleton.1 hx]
  have := plainB_iff.1 hp
  exact ⟨this.1, this.2.1, this.2.2.1⟩
 ·
  have h1 := hexD_chars (a := x.toNat / 16) (by omega)
  have h2 := hexD_chars (a := x.toNat % 16) (by omega)
  simp only [List.mem_cons, List.not_mem_nil, or_false] at hx
  rcases hx with rfl | rfl | rfl | rfl
  · decide
  · decide
  · omega
  · omega
theorem escB_len (x : UInt8) : (escB x).length = 1 \/ (escB x).length = 4 := by unfold escB; split <;> simp
theorem inner_inj : ∀ (a b : Bs), inner a = inner b -> a = b
 | [], [], _ => rfl
 | [], y :: b, h => by
  have := congrArg List.length h
  simp only [inner, List.flatMap_nil, List.flatMap_cons, List.length_append, List.length_nil] at this
  have := escB_len y; omega
 | x :: a, [], h => by
  have := congrArg List.length h
  simp only [inner, List.flatMap_nil, List.flatMap_cons, List.length_append, List.length_nil] at this
  have := escB_len x; omega
 | x :: a, y :: b, h => by
  have hx := x.toNat_lt
  have hy := y.toNat_lt
  simp only [inner, List.flatMap_cons] at h
  unfold escB at h
  by_cases h1 : plainB x = true
  ·
   by_cases h2 : plainB y = true
   ·
    rw [if_pos h1, if_pos h2] at h
    simp only [List.cons_append, List.nil_append, List.cons.injEq] at h
    rw [h.1, inner_inj a b h.2]
   ·
    rw [if_pos h1, if_neg h2] at h
    simp only [List.cons_append, List.nil_append, List.cons.injEq] at h
    have := plainB_iff.1 h1
    rw [h.1] at this
    exact absurd rfl this.2.2.2
  ·
   by_cases h2 : plainB y = true
   ·
    rw [if_neg h1, if_pos h2] at h
    simp only [List.cons_append, List.nil_append, List.cons.injEq] at h
    have := plainB_iff.1 h2
    rw [<- h.1] at this
    exact absurd rfl this.2.2.2
   ·
    rw [if_neg h1, if_neg h2] at h
    simp only [List.cons_append, List.nil_append, List.cons.injEq, true_and] at h
    have e1 := hexD_inj (by omega) (by omega) h.1
    have e2 := hexD_inj (by omega) (by omega) h.2.1
    have e : x = y := UInt8.toNat_inj.1 (by omega)
    rw [e, inner_inj a b h.2.2]
theorem quoteL_inj {a b : Bs} (h : quoteL a = quoteL b) : a = b := by
 simp only [quoteL, List.cons.injEq, true_and] at h
 exact inner_inj a b (List.append_cancel_right h)
open Classical in
/-- The text that a word tells, if it tells one. -/
noncomputable def unq (w : Bs) : Option Bs := if h : ∃ b, quoteL b = w then some (Classical.choose h) else none
theorem unq_quote (b : Bs) : unq (quoteL b) = some b := by
 have h : ∃ b', quoteL b' = quoteL b := ⟨b, rfl⟩
 unfold unq
 rw [dif_pos h]
 rw [quoteL_inj (Classical.choose_spec h)]
theorem unq_some {w b : Bs} (h : unq w = some b) : quoteL b = w := by
 unfold unq at h
 split at h
 ·
  rename_i he
  injection h with h
  rw [<- h]; exact Classical.choose_spec he
 · cases h
theorem unq_none {w : Bs} (h : ∀ b, quoteL b ≠ w) : unq w = none := by
 unfold unq
 rw [dif_neg (fun ⟨b, hb⟩ => h b hb)]
/-! ### Words of a line -/
/-- A word's end: up to a blank or a quote. -/
def bareW : Bs -> Bs × Bs
 | [] => ([], [])
 | c :: r => if c.toNat = 32 \/ c.toNat = 34 then ([], c :: r) else (c :: (bareW r).1, (bareW r).2)
/-- Behind a quote: up to the next one. -/
def quoW : Bs -> Option (Bs × Bs)
 | [] => none
 | c :: r => if c.toNat = 34 then some ([c], r) else match quoW r with
  | some p => some (c :: p.1, p.2)
  | none => none
/-- The first word, what stands behind it. -/
def wordW (l : Bs) : Option (Bs × Bs) := match l with
 | c :: r => if c.toNat = 34 then (match quoW r with
   | some p => some (c :: p.1, p.2)
   | none => none) else some (bareW l)
 | [] => some ([], [])
theorem bareW_len (l : Bs) : (bareW l).2.length <= l.length := by
 induction l with
 | nil => simp [bareW]
 | cons c r ih => rw [bareW]; split <;> simp; omega
theorem quoW_len : ∀ (l : Bs) (p : Bs × Bs), quoW l = some p -> p.2.length < l.length
 | [], p, h => by simp [quoW] at h
 | c :: r, p, h => by
  rw [quoW] at h
  split at h
  · injection h with h; rw [<- h]; simp
  ·
   split at h
   ·
    rename_i q hq
    injection h with h
    rw [<- h]
    have := quoW_len r q hq
    simp; omega
   · cases h
theorem wordW_len {l : Bs} {p : Bs × Bs} (h : wordW l = some p) : p.2.length <= l.length := by
 unfold wordW at h
 split at h
 ·
  split at h
  ·
   split at h
   ·
    rename_i q hq
    injection h with h
    rw [<- h]
    have := quoW_len _ _ hq
    simp; omega
   · cases h
  ·
   injection h with h
   rw [<- h]
   exact bareW_len _
 · injection h with h; rw [<- h]; simp
/-- A line's words. -/
def cutW (l : Bs) : Option (List Bs) := match h : wordW l with
 | none => none
 | some (w, []) => some [w]
 | some (w, c :: r) => if c.toNat = 32 then (cutW r).map (w :: ·) else none
termination_by l.length
decreasing_by have := wordW_len h; simp at this; omega
end Go.Proofs.YtobplngonkdbpaaGreatDoor.D
/- CdQ -/
namespace Go.Proofs.YtobplngonkdbpaaGreatDoor.D
open Go Go.Lib
set_option linter.unusedVariables false
set_option linter.unusedSimpArgs false
/-! ### Words put together, parted -/
def joinC (c : UInt8) : List Bs -> Bs
 | [] => []
 | [w] => w
 | w :: v :: r => w ++ c :: joinC c (v :: r)
def splitC (c : UInt8) : Bs -> List Bs
 | [] => [[]]
 | x :: r => if x = c then [] :: splitC c r else match splitC c r with
  | [] => [[x]]
  | w :: ws => (x :: w) :: ws
theorem splitC_ne (c : UInt8) (l : Bs) : splitC c l ≠ [] := by
 cases l with
 | nil => simp [splitC]
 | cons x r => rw [splitC]; split; simp; split <;> simp
theorem splitC_word (c : UInt8) : ∀ (w r : Bs), (∀ x ∈ w, x ≠ c) -> splitC c (w ++ c :: r) = w :: splitC c r
 | [], r, h => by rw [List.nil_append, splitC, if_pos rfl]
 | x :: w, r, h => by
  rw [List.cons_append, splitC, if_neg (h x (by simp)), splitC_word c w r (fun y hy => h y (by simp [hy]))]
theorem splitC_last (c : UInt8) : ∀ (w : Bs), (∀ x ∈ w, x ≠ c) -> splitC c w = [w]
 | [], h => rfl
 | x :: w, h => by rw [splitC, if_neg (h x (by simp)), splitC_last c w (fun y hy => h y (by simp [hy]))]
theorem split_join (c : UInt8) : ∀ (ws : List Bs), ws ≠ [] -> (∀ w ∈ ws, ∀ x ∈ w, x ≠ c) -> splitC c (joinC c ws) = ws
 | [], h, _ => absurd rfl h
 | [w], _, h => splitC_last c w (h w (by simp))
 | w :: v :: r, _, h => by
  rw [joinC, splitC_word c w _ (h w (by simp)), split_join c (v :: r) (by simp) (fun u hu => h u (by simp [hu]))]
theorem join_split (c : UInt8) : ∀ (l : Bs), joinC c (splitC c l) = l
 | [] => rfl
 | x :: r => by
  have ih := join_split c r
  rw [splitC]
  split
  ·
   rename_i hx
   rcases hs : splitC c r with _ | ⟨w, ws⟩
   · exact absurd hs (splitC_ne c r)
   ·
    rw [hs] at ih
    rw [joinC, ih, hx]; rfl
  ·
   rcases hs : splitC c r with _ | ⟨w, ws⟩
   · exact absurd hs (splitC_ne c r)
   ·
    rw [hs] at ih
    simp only
    cases ws with
    | nil => simp only [joinC] at ih ⊢; rw [ih]
    | cons v vs => simp only [joinC, List.cons_append] at ih ⊢; rw [ih]
/-! ### A coercion's node -/
structure Nd where
 op : Int
 proj : Int
 inj : Bool
 head : Int
 lab : Int
 from_ : Int
 to_ : Int
def Nd.ok (c : Nd) : Prop := -128 <= c.op /\ c.op <= 127 /\ inR c.proj /\ 0 <= c.head /\ c.head <= 255 /\ inR c.lab /\ 0 <= c.from_ /\ c.from_ <= 255 /\ 0 <= c.to_ /\ c.to_ <= 255
def bitI (b : Bool) : Int := if b = true then 1 else 0
def ndWs (c : Nd) : List Bs := [itoa c.op, itoa c.proj, itoa (bitI c.inj), itoa c.head, itoa c.lab, itoa c.from_, itoa c.to_]
def ndW (c : Nd) : Bs := joinC 46 (ndWs c)
def ndV (w : Bs) : Option Nd := match splitC 46 w with
 | [a, b, c, d, e, f, g] => match numB (-128) 127 a, numV b, numB 0 1 c, numB 0 255 d, numV e, numB 0 255 f, numB 0 255 g with
  | some a, some b, some c, some d, some e, some f, some g => some ⟨a, b, c == 1, d, e, f, g⟩
  | _, _, _, _, _, _, _ => none
 | _ => none
theorem itoa_no (n : Int) (c : UInt8) (h : c.toNat ≠ 45 /\ (c.toNat < 48 \/ 57 < c.toNat)) : ∀ x ∈ itoa n, x ≠ c := by
 rintro x hx rfl
 have := itoa_chars x hx
 omega
theorem small_inR {n : Int} (h : -128 <= n) (k : n <= 255) : inR n := ⟨by omega, by omega⟩
theorem ndV_ndW {c : Nd} (h : c.ok) : ndV (ndW c) = some c := by
 obtain ⟨h1, h2, h3, h4, h5, h6, h7, h8, h9, h10⟩ := h
 have e : splitC 46 (ndW c) = ndWs c := split_join 46 _ (by simp [ndWs]) (fun w hw => by
  simp only [ndWs, List.mem_cons, List.not_mem_nil, or_false] at hw
  rcases hw with rfl | rfl | rfl | rfl | rfl | rfl | rfl <;> exact itoa_no _ _ (by decide))
 unfold ndV
 rw [e]
 unfold ndWs
 simp only
 have hb : 0 <= bitI c.inj /\ bitI c.inj <= 1 := by unfold bitI; split <;> omega
 rw [numB_itoa (small_inR h1 (by omega)) h1 h2, numV_itoa h3, numB_itoa (small_inR (by omega) (by omega)) hb.1 hb.2, numB_itoa (small_inR (by omega) h5) h4 h5, numV_itoa h6, numB_itoa (small_inR (by omega) h8) h7 h8, numB_itoa (small_inR (by omega) h10) h9 h10]
 simp only
 obtain ⟨op, proj, inj, head, lab, f, t⟩ := c
 cases inj <;> rfl
theorem ndV_some {w : Bs} {c : Nd} (h : ndV w = some c) : ndW c = w /\ c.ok := by
 unfold ndV at h
 split at h
 ·
  rename_i a b c' d e f g hs
  split at h
  ·
   rename_i a' b' c'' d' e' f' g' ha hb hc hd he hf hg
   injection h with h
   subst h
   obtain ⟨ea, ra, la, ua⟩ := numB_some ha
   obtain ⟨eb, rb⟩ := numV_some hb
   obtain ⟨ec, rc, lc, uc⟩ := numB_some hc
   obtain ⟨ed, rd, ld, ud⟩ := numB_some hd
   obtain ⟨ee, re⟩ := numV_some he
   obtain ⟨ef, rf, lf, uf⟩ := numB_some hf
   obtain ⟨eg, rg, lg, ug⟩ := numB_some hg
   refine ⟨?_, la, ua, rb, ld, ud, re, lf, uf, lg, ug⟩
   have hbit : itoa (bitI (c'' == 1)) = c' := by
    rw [<- ec]
    have : c'' = 0 \/ c'' = 1 := by omega
    rcases this with rfl | rfl <;> rfl
   unfold ndW ndWs
   simp only
   rw [ea, eb, hbit, ed, ee, ef, eg, <- hs, join_split]
  · cases h
 · cases h
/-! ### An instruction's op -/
def opNames : List Bs := [[112, 117, 115, 104], [116, 101, 120, 116], [116, 114, 117, 116, 104], [108, 111, 99, 97, 108], [102, 110], [114, 101, 99], [99, 97, 108, 108], [116, 97, 105, 108], [114, 101, 116], [106, 117, 109, 112], [117, 110, 108, 101, 115, 115], [108, 101, 116], [101, 110, 100], [111, 112], [112, 97, 105, 114], [112, 97, 114, 116], [108, 105, 115, 116], [99, 111, 110, 115], [98, 111, 120], [103, 101, 116], [115, 101, 116], [99, 97, 115, 116], [112, 101, 110, 100]]
def nameV (op : Int) : Bs := if 1 <= op /\ op <= 23 then opNames.getD (op.toNat - 1) [] else []
def opW (op : Int) : Bs := if nameV op = [] then 35 :: itoa op else nameV op
/-- The number of a name, from i on. -/
def findN (w : Bs) : List Bs -> Nat -> Option Nat
 | [], _ => none
 | v :: r, i => if v = w then some i else findN w r (i + 1)
def opV (w : Bs) : Option Int := match findN w opNames 1 with
 | some i => some i
 | none => match w with
  | 35 :: r => match numB (-128) 127 r with
   | some n => if nameV n = [] then some n else none
   | none => none
  | _ => none
theorem findN_none {w : Bs} : ∀ (l : List Bs) (i : Nat), findN w l i = none ↔ w ∉ l
 | [], i => by simp [findN]
 | v :: r, i => by
  rw [findN]
  split
  · rename_i h; simp [h]
  ·
   rename_i h
   rw [findN_none r (i + 1), List.mem_cons, not_or]
   exact ⟨fun h2 => ⟨fun e => h e.symm, h2⟩, fun h2 => h2.2⟩
theorem name_pos : ∀ i : Fin 23, findN (opNames.getD i.val []) opNames 1 = some (i.val + 1) /\ opNames.getD i.val [] ≠ [] := by decide
theorem nameV_in {op : Int} (h : 1 <= op /\ op <= 23) : nameV op = opNames.getD (op.toNat - 1) [] /\ nameV op ≠ [] /\ findN (nameV op) opNames 1 = some op.toNat := by
 have e : nameV op = opNames.getD (op.toNat - 1) [] := by unfold nameV; rw [if_pos h]
 have k := name_pos ⟨op.toNat - 1, by omega⟩
 simp only at k
 rw [<- e] at k
 exact ⟨e, k.2, by rw [k.1]; congr 1; omega⟩
theorem nameV_out {op : Int} (h : ¬ (1 <= op /\ op <= 23)) : nameV op = [] := by unfold nameV; rw [if_neg h]
theorem names_hash : ∀ w ∈ opNames, w.head? ≠ some 35 := by decide
theorem opV_opW {op : Int} (h0 : -128 <= op) (h1 : op <= 127) : opV (opW op) = some op := by
 by_cases h : 1 <= op /\ op <= 23
 ·
  obtain ⟨_, k1, k2⟩ := nameV_in h
  unfold opW opV
  rw [if_neg k1, k2]
  simp only
  congr 1; omega
 ·
  have e := nameV_out h
  unfold opW opV
  rw [if_pos e]
  rw [(findN_none opNames 1).2 (fun hm => names_hash _ hm rfl)]
  simp only
  rw [numB_itoa (small_inR h0 (by omega)) h0 h1]
  simp only
  rw [if_pos e]
theorem findN_some {w : Bs} : ∀ (l : List Bs) (i j : Nat), findN w l i = some j -> i <= j /\ j < i + l.length /\ l[j - i]? = some w
 | [], i, j, h => by simp [findN] at h
 | v :: r, i, j, h => by
  rw [findN] at h
  split at h
  ·
   rename_i he
   injection h with h
   subst h
   exact ⟨Nat.le_refl _, by simp, by simp [he]⟩
  ·
   obtain ⟨h1, h2, h3⟩ := findN_some r (i + 1) j h
   refine ⟨by omega, by simp; omega, ?_⟩
   rw [show j - i = (j - (i + 1)) + 1 by omega, List.getElem?_cons_succ]
   exact h3
theorem opV_some {w : Bs} {op : Int} (h : opV w = some op) : opW op = w /\ -128 <= op /\ op <= 127 := by
 unfold opV at h
 split at h
 ·
  rename_i i hi
  injection h with h
  subst h
  obtain ⟨h1, h2, h3⟩ := findN_some _ _ _ hi
  have hl : opNames.length = 23 := rfl
  obtain ⟨k1, k2, _⟩ := nameV_in (op := (i : Int)) ⟨by omega, by omega⟩
  refine ⟨?_, by omega, by omega⟩
  unfold opW
  rw [if_neg k2, k1, List.getD_eq_getElem?_getD, Int.toNat_natCast, h3]; rfl
 ·
  split at h
  ·
   rename_i r _
   split at h
   ·
    rename_i n hn
    split at h
    ·
     rename_i he
     injection h with h
     subst h
     obtain ⟨e1, _, e2, e3⟩ := numB_some hn
     refine ⟨?_, e2, e3⟩
     unfold opW
     rw [if_pos he, e1]
    · cases h
   · cases h
  · cases h
end Go.Proofs.YtobplngonkdbpaaGreatDoor.D
/- CdR -/
namespace Go.Proofs.YtobplngonkdbpaaGreatDoor.D
open Go Go.Lib
set_option linter.unusedVariables false
set_option linter.unusedSimpArgs false
inductive Item where
 | num (n : Int)
 | text (s : Bs)
 | type (s : Bs)
 | cast (f t : Bs) (cs : List Nd)
 | fn (env : List Bs) (p r : Bs)
 | ins (op a b : Int)
def kNum : Bs := [110, 117, 109]
def kText : Bs := [116, 101, 120, 116]
def kType : Bs := [116, 121, 112, 101]
def kCast : Bs := [99, 97, 115, 116]
def kFn : Bs := [102, 110]
def Item.ok : Item -> Prop
 | .num n => inR n
 | .text _ => True
 | .type _ => True
 | .cast _ _ cs => ∀ c ∈ cs, c.ok
 | .fn _ _ _ => True
 | .ins op a b => -128 <= op /\ op <= 127 /\ inR a /\ inR b
def itemWs : Item -> List Bs
 | .num n => [kNum, itoa n]
 | .text s => [kText, quoteL s]
 | .type s => [kType, quoteL s]
 | .cast f t cs => kCast :: quoteL f :: quoteL t :: cs.map ndW
 | .fn env p r => kFn :: (env.map quoteL ++ [[58], quoteL p, quoteL r])
 | .ins op a b => [[], opW op, itoa a, itoa b]
def itemL (it : Item) : Bs := joinC 32 (itemWs it)
def allV {α : Type} (f : Bs -> Option α) : List Bs -> Option (List α)
 | [] => some []
 | w :: r => match f w, allV f r with
  | some a, some l => some (a :: l)
  | _, _ => none
theorem allV_map {α : Type} (f : Bs -> Option α) (g : α -> Bs) : ∀ (l : List α), (∀ a ∈ l, f (g a) = some a) -> allV f (l.map g) = some l
 | [], _ => rfl
 | a :: l, h => by
  rw [List.map_cons, allV, h a (by simp), allV_map f g l (fun b hb => h b (by simp [hb]))]
theorem allV_some {α : Type} (f : Bs -> Option α) (g : α -> Bs) (P : α -> Prop) (hf : ∀ w a, f w = some a -> g a = w /\ P a) : ∀ (ws : List Bs) (l : List α), allV f ws = some l -> l.map g = ws /\ ∀ a ∈ l, P a
 | [], l, h => by
  simp only [allV] at h
  injection h with h
  subst h
  exact ⟨rfl, by simp⟩
 | w :: r, l, h => by
  rw [allV] at h
  split at h
  ·
   rename_i a l' ha hl
   injection h with h
   subst h
   obtain ⟨h1, h2⟩ := allV_some f g P hf r l' hl
   obtain ⟨h3, h4⟩ := hf w a ha
   exact ⟨by rw [List.map_cons, h1, h3], fun b hb => by
    rcases List.mem_cons.1 hb with rfl | hb
    · exact h4
    · exact h2 b hb⟩
  · cases h
noncomputable def rdFn (r : List Bs) : Option Item :=
 if r.length < 3 \/ r[r.length - 3]? ≠ some [58] then none
 else match allV unq (r.take (r.length - 3)), unq (r.getD (r.length - 2) []), unq (r.getD (r.length - 1) []) with
  | some e, some p, some q => some (.fn e p q)
  | _, _, _ => none
noncomputable def rdItem (ws : List Bs) : Option Item := match ws with
 | [] => none
 | w :: r =>
  if w = kNum then (match r with
   | [a] => (numV a).map .num
   | _ => none)
  else if w = kText then (match r with
   | [a] => (unq a).map .text
   | _ => none)
  else if w = kType then (match r with
   | [a] => (unq a).map .type
   | _ => none)
  else if w = kCast then (match r with
   | a :: b :: cs => match unq a, unq b, allV ndV cs with
    | some f, some t, some l => some (.cast f t l)
    | _, _, _ => none
   | _ => none)
  else if w = kFn then rdFn r
  else if w = [] then (match r with
   | [o, a, b] => match opV o, numV a, numV b with
    | some o, some a, some b => some (.ins o a b)
    | _, _, _ => none
   | _ => none)
  else none
theorem rdFn_ok (env : List Bs) (p q : Bs) : rdFn (env.map quoteL ++ [[58], quoteL p, quoteL q]) = some (.fn env p q) := by
 unfold rdFn
 have hl : (env.map quoteL ++ [[58], quoteL p, quoteL q]).length = env.length + 3 := by simp
 rw [hl]
 have h1 : (env.map quoteL ++ [[58], quoteL p, quoteL q])[env.length + 3 - 3]? = some [58] := by
  rw [List.getElem?_append_right (by simp)]; simp
 have h2 : (env.map quoteL ++ [[58], quoteL p, quoteL q]).getD (env.length + 3 - 2) [] = quoteL p := by
  rw [List.getD_eq_getElem?_getD, List.getElem?_append_right (by simp)]; simp [show env.length + 3 - 2 - env.length = 1 by omega]
 have h3 : (env.map quoteL ++ [[58], quoteL p, quoteL q]).getD (env.length + 3 - 1) [] = quoteL q := by
  rw [List.getD_eq_getElem?_getD, List.getElem?_append_right (by simp)]; simp [show env.length + 3 - 1 - env.length = 2 by omega]
 have h4 : (env.map quoteL ++ [[58], quoteL p, quoteL q]).take (env.length + 3 - 3) = env.map quoteL := by
  rw [show env.length + 3 - 3 = (env.map quoteL).length by simp, List.take_left']
  rfl
 rw [if_neg (by rw [h1]; simp), h2, h3, h4, allV_map unq quoteL env (fun a _ => unq_quote a), unq_quote, unq_quote]
theorem rdItem_item {it : Item} (h : it.ok) : rdItem (itemWs it) = some it := by
 cases it with
 | num n => unfold rdItem itemWs; simp [numV_itoa h]
 | text s => unfold rdItem itemWs; simp only; rw [if_neg (by decide), if_pos trivial, unq_quote]; rfl
 | type s => unfold rdItem itemWs; simp only; rw [if_neg (by decide), if_neg (by decide), if_pos trivial, unq_quote]; rfl
 | cast f t cs =>
  unfold rdItem itemWs
  simp only
  rw [if_neg (by decide), if_neg (by decide), if_neg (by decide), if_pos trivial, unq_quote, unq_quote, allV_map ndV ndW cs (fun c hc => ndV_ndW (h c hc))]
 | fn env p q =>
  unfold rdItem itemWs
  simp only
  rw [if_neg (by decide), if_neg (by decide), if_neg (by decide), if_neg (by decide), if_pos trivial]
  exact rdFn_ok env p q
 | ins op a b =>
  obtain ⟨h1, h2, h3, h4⟩ := h
  unfold rdItem itemWs
  simp only
  rw [if_neg (by decide), if_neg (by decide), if_neg (by decide), if_neg (by decide), if_neg (by decide), if_pos trivial, opV_opW h1 h2, numV_itoa h3, numV_itoa h4]
theorem unq_ok {w b : Bs} (h : unq w = some b) : quoteL b = w /\ True := ⟨unq_some h, trivial⟩
theorem three (r : List Bs) (h : 3 <= r.length) : r = r.take (r.length - 3) ++ [r.getD (r.length - 3) [], r.getD (r.length - 2) [], r.getD (r.length - 1) []] := by
 apply List.ext_getElem?
 intro i
 by_cases hi : i < r.length - 3
 · rw [List.getElem?_append_left (by simp; omega), List.getElem?_take, if_pos hi]
 ·
  rw [List.getElem?_append_right (by simp; omega)]
  rw [show (r.take (r.length - 3)).length = r.length - 3 by simp]
  simp only [List.getD_eq_getElem?_getD]
  by_cases h1 : i = r.length - 3
  · rw [h1, Nat.sub_self, List.getElem?_cons_zero, List.getElem?_eq_getElem (by omega)]; rfl
  by_cases h2 : i = r.length - 2
  · rw [h2, show r.length - 2 - (r.length - 3) = 1 by omega, List.getElem?_cons_succ, List.getElem?_cons_zero, List.getElem?_eq_getElem (by omega)]; rfl
  by_cases h3 : i = r.length - 1
  · rw [h3, show r.length - 1 - (r.length - 3) = 2 by omega, List.getElem?_cons_succ, List.getElem?_cons_succ, List.getElem?_cons_zero, List.getElem?_eq_getElem (by omega)]; rfl
  · rw [List.getElem?_eq_none (by omega), List.getElem?_eq_none (by simp; omega)]
theorem rdItem_some {ws : List Bs} {it : Item} (h : rdItem ws = some it) : itemWs it = ws /\ it.ok := by
 unfold rdItem at h
 split at h
 · cases h
 rename_i w r
 by_cases h1 : w = kNum
 ·
  rw [if_pos h1] at h
  split at h
  ·
   rename_i a
   obtain ⟨n, hn, rfl⟩ := Option.map_eq_some_iff.1 h
   obtain ⟨e, k⟩ := numV_some hn
   exact ⟨by simp only [itemWs]; rw [e, h1], k⟩
  · cases h
 rw [if_neg h1] at h
 by_cases h2 : w = kText
 ·
  rw [if_pos h2] at h
  split at h
  ·
   rename_i a
   obtain ⟨n, hn, rfl⟩ := Option.map_eq_some_iff.1 h
   exact ⟨by simp only [itemWs]; rw [unq_some hn, h2], trivial⟩
  · cases h
 rw [if_neg h2] at h
 by_cases h3 : w = kType
 ·
  rw [if_pos h3] at h
  split at h
  ·
   rename_i a
   obtain ⟨n, hn, rfl⟩ := Option.map_eq_some_iff.1 h
   exact ⟨by simp only [itemWs]; rw [unq_some hn, h3], trivial⟩
  · cases h
 rw [if_neg h3] at h
 by_cases h4 : w = kCast
 ·
  rw [if_pos h4] at h
  split at h
  ·
   rename_i a b cs
   split at h
   ·
    rename_i f t l hf ht hl
    injection h with h
    subst h
    obtain ⟨e, k⟩ := allV_some ndV ndW Nd.ok (fun w a h => ndV_some h) cs l hl
    exact ⟨by simp only [itemWs]; rw [unq_some hf, unq_some ht, e, h4], k⟩
   · cases h
  · cases h
 rw [if_neg h4] at h
 by_cases h5 : w = kFn
 ·
  rw [if_pos h5] at h
  unfold rdFn at h
  split at h
  · cases h
  rename_i hb
  rw [not_or] at hb
  split at h
  ·
   rename_i e p q he hp hq
   injection h with h
   subst h
   obtain ⟨k, _⟩ := allV_some unq quoteL (fun _ => True) (fun w a h => unq_ok h) _ e he
   refine ⟨?_, trivial⟩
   simp only [itemWs]
   rw [k, unq_some hp, unq_some hq, h5]
   have h3 := three r (by omega)
   have h58 : r.getD (r.length - 3) [] = [58] := by
    rw [List.getD_eq_getElem?_getD, Decidable.of_not_not hb.2]; rfl
   rw [h58] at h3
   rw [<- h3]
  · cases h
 rw [if_neg h5] at h
 by_cases h6 : w = []
 ·
  rw [if_pos h6] at h
  split at h
  ·
   rename_i o a b
   split at h
   ·
    rename_i o' a' b' ho ha hb
    injection h with h
    subst h
    obtain ⟨e1, k1, k2⟩ := opV_some ho
    obtain ⟨e2, k3⟩ := numV_some ha
    obtain ⟨e3, k4⟩ := numV_some hb
    exact ⟨by simp only [itemWs]; rw [e1, e2, e3, h6], k1, k2, k3, k4⟩
   · cases h
  · cases h
 rw [if_neg h6] at h
 cases h
/-! ### Words as they stand in a line -/
/-- A word that cut finds again. -/
def goodW (w : Bs) : Prop := (∀ x ∈ w, x.toNat ≠ 32 /\ x.toNat ≠ 34) \/ ∃ b, w = 34 :: (b ++ [34]) /\ ∀ x ∈ b, x.toNat ≠ 34
def endsW (r : Bs) : Prop := r = [] \/ ∃ s, r = 32 :: s
theorem bareW_good : ∀ (w r : Bs), (∀ x ∈ w, x.toNat ≠ 32 /\ x.toNat ≠ 34) -> endsW r -> bareW (w ++ r) = (w, r)
 | [], r, _, h => by
  rcases h with rfl | ⟨s, rfl⟩
  · rfl
  · rw [List.nil_append, bareW, if_pos (.inl rfl)]
 | c :: w, r, hw, h => by
  have hc := hw c (by simp)
  rw [List.cons_append, bareW, if_neg (by omega), bareW_good w r (fun x hx => hw x (by simp [hx])) h]
theorem quoW_good : ∀ (b r : Bs), (∀ x ∈ b, x.toNat ≠ 34) -> quoW (b ++ 34 :: r) = some (b ++ [34], r)
 | [], r, _ => by rw [List.nil_append, quoW, if_pos (by decide)]; rfl
 | c :: b, r, hb => by
  rw [List.cons_append, quoW, if_neg (hb c (by simp)), quoW_good b r (fun x hx => hb x (by simp [hx]))]
  rfl
theorem wordW_good {w r : Bs} (hw : goodW w) (hr : endsW r) : wordW (w ++ r) = some (w, r) := by
 rcases hw with hw | ⟨b, rfl, hb⟩
 ·
  cases w with
  | nil =>
   rcases hr with rfl | ⟨s, rfl⟩
   · rfl
   ·
    have e : wordW ([] ++ 32 :: s) = some (bareW (32 :: s)) := by
     show (if (32 : UInt8).toNat = 34 then (match quoW s with
      | some p => some (32 :: p.1, p.2)
      | none => none) else some (bareW (32 :: s))) = _
     rw [if_neg (by decide)]
    rw [e]
    exact congrArg some (bareW_good [] (32 :: s) (by simp) (.inr ⟨s, rfl⟩))
  | cons c w =>
   have hc := hw c (by simp)
   show (if c.toNat = 34 then _ else some (bareW (c :: (w ++ r)))) = _
   rw [if_neg hc.2]
   exact congrArg some (bareW_good (c :: w) r hw hr)
 ·
  have e : wordW (34 :: (b ++ [34]) ++ r) = (match quoW ((b ++ [34]) ++ r) with
   | some p => some (34 :: p.1, p.2)
   | none => none) := by
   rw [List.cons_append, wordW]
   exact if_pos (by decide)
  rw [e, List.append_assoc, List.singleton_append, quoW_good b r hb]
theorem cutW_join : ∀ (ws : List Bs), ws ≠ [] -> (∀ w ∈ ws, goodW w) -> cutW (joinC 32 ws) = some ws
 | [], h, _ => absurd rfl h
 | [w], _, h => by
  rw [joinC, cutW]
  have e := wordW_good (h w (by simp)) (.inl rfl : endsW [])
  rw [List.append_nil] at e
  split
  · rename_i h2; rw [e] at h2; cases h2
  · rename_i w' h2; rw [e] at h2; injection h2 with h2; injection h2 with h2 _; rw [h2]
  · rename_i w' c r h2; rw [e] at h2; injection h2 with h2; injection h2 with _ h2; cases h2
 | w :: v :: r, _, h => by
  rw [joinC, cutW]
  have e := wordW_good (h w (by simp)) (.inr ⟨_, rfl⟩ : endsW (32 :: joinC 32 (v :: r)))
  split
  · rename_i h2; rw [e] at h2; cases h2
  · rename_i w' h2; rw [e] at h2; injection h2 with h2; injection h2 with _ h2; cases h2
  ·
   rename_i w' c s h2
   rw [e] at h2
   injection h2 with h2
   injection h2 with h3 h4
   injection h4 with h5 h6
   subst h3 h5 h6
   rw [if_pos (by decide), cutW_join (v :: r) (by simp) (fun u hu => h u (by simp [hu]))]
   rfl
theorem bareW_eq : ∀ l : Bs, (bareW l).1 ++ (bareW l).2 = l
 | [] => rfl
 | c :: r => by rw [bareW]; split; rfl; simp [bareW_eq r]
theorem quoW_eq : ∀ (l : Bs) (p : Bs × Bs), quoW l = some p -> p.1 ++ p.2 = l
 | [], p, h => by simp [quoW] at h
 | c :: r, p, h => by
  rw [quoW] at h
  split at h
  · injection h with h; rw [<- h]; rfl
  ·
   split at h
   ·
    rename_i q hq
    injection h with h
    rw [<- h]
    simp [quoW_eq r q hq]
   · cases h
theorem wordW_eq {l : Bs} {p : Bs × Bs} (h : wordW l = some p) : p.1 ++ p.2 = l := by
 unfold wordW at h
 split at h
 ·
  split at h
  ·
   split at h
   ·
    rename_i q hq
    injection h with h
    rw [<- h]
    simp [quoW_eq _ q hq]
   · cases h
  ·
   injection h with h
   rw [<- h]
   exact bareW_eq _
 · injection h with h; rw [<- h]; rfl
theorem cutW_some' : ∀ (n : Nat) {l : Bs} {ws : List Bs}, l.length <= n -> cutW l = some ws -> joinC 32 ws = l /\ ws ≠ [] := by
 intro n
 induction n with
 | zero =>
  intro l ws hn h
  obtain rfl : l = [] := List.eq_nil_of_length_eq_zero (by omega)
  rw [cutW] at h
  split at h
  · cases h
  ·
   rename_i w hw
   injection h with h
   subst h
   have := wordW_eq hw
   exact ⟨by rw [joinC]; simpa using this, by simp⟩
  ·
   rename_i w c r hw
   have := wordW_len hw
   simp at this
 | succ n ih =>
 intro l ws hn h
 rw [cutW] at h
 split at h
 · cases h
 ·
  rename_i w hw
  injection h with h
  subst h
  have := wordW_eq hw
  exact ⟨by rw [joinC]; simpa using this, by simp⟩
 ·
  rename_i w c r hw
  split at h
  ·
   rename_i hc
   obtain ⟨us, hu, rfl⟩ := Option.map_eq_some_iff.1 h
   obtain ⟨h1, h2⟩ := ih (by have := wordW_len hw; simp at this; omega) hu
   have hw2 := wordW_eq hw
   have hc2 : c = 32 := UInt8.toNat_inj.1 hc
   refine ⟨?_, by simp⟩
   cases us with
   | nil => exact absurd rfl h2
   | cons u us => rw [joinC, h1, <- hw2, hc2]
  · cases h
theorem cutW_some {l : Bs} {ws : List Bs} (h : cutW l = some ws) : joinC 32 ws = l /\ ws ≠ [] := cutW_some' _ (Nat.le_refl _) h
/-! ### A line -/
theorem good_num (n : Int) : goodW (itoa n) := .inl fun x hx => by have := itoa_chars x hx; omega
theorem good_quote (s : Bs) : goodW (quoteL s) := .inr ⟨inner s, rfl, fun x hx => (inner_chars x hx).2.2⟩
theorem joinC_mem (c : UInt8) : ∀ (ws : List Bs) (x : UInt8), x ∈ joinC c ws -> x = c \/ ∃ w ∈ ws, x ∈ w
 | [], x, h => by simp [joinC] at h
 | [w], x, h => .inr ⟨w, by simp, h⟩
 | w :: v :: r, x, h => by
  rw [joinC] at h
  rcases List.mem_append.1 h with h | h
  · exact .inr ⟨w, by simp, h⟩
  ·
   rcases List.mem_cons.1 h with h | h
   · exact .inl h
   ·
    rcases joinC_mem c (v :: r) x h with h | ⟨u, hu, hx⟩
    · exact .inl h
    · exact .inr ⟨u, by simp only [List.mem_cons] at hu ⊢; exact .inr hu, hx⟩
theorem ndW_chars {c : Nd} : ∀ x ∈ ndW c, x.toNat = 46 \/ x.toNat = 45 \/ (48 <= x.toNat /\ x.toNat <= 57) := by
 intro x hx
 rcases joinC_mem 46 _ x hx with rfl | ⟨w, hw, hx⟩
 · exact .inl rfl
 ·
  right
  simp only [ndWs, List.mem_cons, List.not_mem_nil, or_false] at hw
  rcases hw with rfl | rfl | rfl | rfl | rfl | rfl | rfl <;> exact itoa_chars x hx
theorem names_chars : ∀ w ∈ opNames, ∀ x ∈ w, 97 <= x.toNat /\ x.toNat <= 122 := by decide
theorem nameV_mem {op : Int} (h : nameV op ≠ []) : nameV op ∈ opNames := by
 by_cases hb : 1 <= op /\ op <= 23
 ·
  obtain ⟨e, _, _⟩ := nameV_in hb
  rw [e, List.getD_eq_getElem?_getD]
  have hl : opNames.length = 23 := rfl
  rw [List.getElem?_eq_getElem (by omega)]
  exact List.getElem_mem _
 · exact absurd (nameV_out hb) h
theorem opW_chars {op : Int} : ∀ x ∈ opW op, x.toNat = 35 \/ x.toNat = 45 \/ (48 <= x.toNat /\ x.toNat <= 57) \/ (97 <= x.toNat /\ x.toNat <= 122) := by
 intro x hx
 unfold opW at hx
 split at hx
 ·
  rcases List.mem_cons.1 hx with rfl | hx
  · exact .inl rfl
  ·
   rcases itoa_chars x hx with h | h
   · exact .inr (.inl h)
   · exact .inr (.inr (.inl h))
 ·
  rename_i hn
  exact .inr (.inr (.inr (names_chars _ (nameV_mem hn) x hx)))
theorem item_good (it : Item) : ∀ w ∈ itemWs it, goodW w := by
 intro w hw
 cases it with
 | num n =>
  simp only [itemWs, List.mem_cons, List.not_mem_nil, or_false] at hw
  rcases hw with rfl | rfl
  · exact .inl (by decide)
  · exact good_num n
 | text s =>
  simp only [itemWs, List.mem_cons, List.not_mem_nil, or_false] at hw
  rcases hw with rfl | rfl
  · exact .inl (by decide)
  · exact good_quote s
 | type s =>
  simp only [itemWs, List.mem_cons, List.not_mem_nil, or_false] at hw
  rcases hw with rfl | rfl
  · exact .inl (by decide)
  · exact good_quote s
 | cast f t cs =>
  simp only [itemWs, List.mem_cons] at hw
  rcases hw with rfl | rfl | rfl | hw
  · exact .inl (by decide)
  · exact good_quote f
  · exact good_quote t
  ·
   obtain ⟨c, _, rfl⟩ := List.mem_map.1 hw
   exact .inl fun x hx => by have := ndW_chars x hx; omega
 | fn env p q =>
  simp only [itemWs, List.mem_cons, List.mem_append, List.not_mem_nil, or_false] at hw
  rcases hw with rfl | hw | rfl | rfl | rfl
  · exact .inl (by decide)
  ·
   obtain ⟨s, _, rfl⟩ := List.mem_map.1 hw
   exact good_quote s
  · exact .inl (by decide)
  · exact good_quote p
  · exact good_quote q
 | ins op a b =>
  simp only [itemWs, List.mem_cons, List.not_mem_nil, or_false] at hw
  rcases hw with rfl | rfl | rfl | rfl
  · exact .inl (by simp)
  · exact .inl fun x hx => by have := opW_chars x hx; omega
  · exact good_num a
  · exact good_num b
theorem item_ne (it : Item) : itemWs it ≠ [] := by cases it <;> simp [itemWs]
/-- A line's item. -/
noncomputable def lineV (l : Bs) : Option Item := match cutW l with
 | some ws => rdItem ws
 | none => none
theorem lineV_item {it : Item} (h : it.ok) : lineV (itemL it) = some it := by
 unfold lineV itemL
 rw [cutW_join _ (item_ne it) (item_good it)]
 exact rdItem_item h
theorem lineV_some {l : Bs} {it : Item} (h : lineV l = some it) : itemL it = l /\ it.ok := by
 unfold lineV at h
 split at h
 ·
  rename_i ws hw
  obtain ⟨h1, h2⟩ := rdItem_some h
  exact ⟨by unfold itemL; rw [h1]; exact (cutW_some hw).1, h2⟩
 · cases h
end Go.Proofs.YtobplngonkdbpaaGreatDoor.D
