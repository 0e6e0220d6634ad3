/- Contract of the answer's reader: now (the token that is next). -/
import Derived.Test.YthonnpjlkcjoeaaRdA
import Derived.Test.YthonnpjlkcjoeaaRelA
namespace Go.Proofs.Ythonnpjlkcjoeaa.T
open Go.RowKit Go.Proofs.Ythonnpjlkcjoeaa.B
set_option linter.unusedSimpArgs false
set_option linter.unusedVariables false

/-- The token that is next at p. -/
def nx (s : ByteArray) (p : Nat) : Tok := lex (s.data.toList.drop p) p
theorem nx_end {s : ByteArray} {p : Nat} (h : s.size ≤ p) : nx s p = ⟨[], p, false⟩ := by unfold nx; rw [drop_end s p h]; rfl
theorem nx_blank {s : ByteArray} {p : Nat} {c : UInt8} (h : p < s.size) (hc : s[p] = c) (hb : blankB c = true) : nx s p = nx s (p + 1) := by
  unfold nx; rw [drop_byte s p h, hc, lex, if_pos hb]
theorem nx_byte {s : ByteArray} {p : Nat} {c : UInt8} (h : p < s.size) (hc : s[p] = c) (hb : blankB c = false) :
    nx s p = if punctB c then ⟨[c], p, false⟩ else if c == 45 && (s.data.toList.drop (p + 1)).head? == some 62 then ⟨[45, 62], p, false⟩
      else if letterB c then ⟨c :: (s.data.toList.drop (p + 1)).takeWhile insideB, p, false⟩ else ⟨[], p, true⟩ := by
  unfold nx; rw [drop_byte s p h, hc]; rw [lex, if_neg (by rw [hb]; simp)]

theorem u8_int (c : UInt8) (n : Nat) (hn : n < 256) : ((c.toNat : Int) == (n : Int)) = (c == UInt8.ofNat n) := by
  rw [u8_eq hn, Bool.eq_iff_iff]; simp only [beq_iff_eq, decide_eq_true_iff]; omega

theorem ne_int {c : UInt8} (n : Nat) (hn : n < 256) (h : (c == UInt8.ofNat n) = false) : ((c.toNat : Int) == (n : Int)) = false := by rw [u8_int c n hn]; exact h
structure NoBlank (c : UInt8) : Prop where
  h9 : ((c.toNat : Int) == 9) = false
  h10 : ((c.toNat : Int) == 10) = false
  h13 : ((c.toNat : Int) == 13) = false
  h32 : ((c.toNat : Int) == 32) = false
theorem noBlank {c : UInt8} (h : blankB c = false) : NoBlank c := by
  simp only [blankB, Bool.or_eq_false_iff] at h
  exact ⟨ne_int 9 (by omega) h.1.1.1, ne_int 10 (by omega) h.1.1.2, ne_int 13 (by omega) h.1.2, ne_int 32 (by omega) h.2⟩
structure NoPunct (c : UInt8) : Prop where
  h63 : ((c.toNat : Int) == 63) = false
  h40 : ((c.toNat : Int) == 40) = false
  h41 : ((c.toNat : Int) == 41) = false
  h44 : ((c.toNat : Int) == 44) = false
  h91 : ((c.toNat : Int) == 91) = false
  h93 : ((c.toNat : Int) == 93) = false
theorem noPunct {c : UInt8} (h : punctB c = false) : NoPunct c := by
  simp only [punctB, Bool.or_eq_false_iff] at h
  exact ⟨ne_int 63 (by omega) h.1.1.1.1.1, ne_int 40 (by omega) h.1.1.1.1.2, ne_int 41 (by omega) h.1.1.1.2, ne_int 44 (by omega) h.1.1.2, ne_int 91 (by omega) h.1.2, ne_int 93 (by omega) h.2⟩
theorem punct_cases {c : UInt8} (h : punctB c = true) : c = 63 ∨ c = 40 ∨ c = 41 ∨ c = 44 ∨ c = 91 ∨ c = 93 := by
  simp only [punctB, Bool.or_eq_true, beq_iff_eq] at h
  rcases h with ((((h | h) | h) | h) | h) | h <;> simp [h]

/-- So far the word goes on. -/
def Goes (s : ByteArray) (k m : Nat) : Prop := (s.data.toList.drop k).takeWhile insideB = (s.data.toList.drop k).take (m - k) ++ (s.data.toList.drop m).takeWhile insideB
theorem Goes.start (s : ByteArray) (k : Nat) : Goes s k k := by unfold Goes; simp
theorem Goes.next {s : ByteArray} {k m : Nat} {c : UInt8} (h : Goes s k m) (hk : k ≤ m) (hm : m < s.size) (hc : s[m] = c) (hi : insideB c = true) : Goes s k (m + 1) := by
  unfold Goes at *
  rw [h, drop_byte s m hm, hc, List.takeWhile_cons, if_pos hi, show m + 1 - k = (m - k) + 1 by omega, List.take_succ_eq_append_getElem (by simp; exact by omega)]
  have : (s.data.toList.drop k)[m - k]'(by simp; omega) = c := by
    rw [List.getElem_drop]
    have e : k + (m - k) = m := by omega
    simp only [e]
    exact hc
  rw [this]; simp
theorem Goes.stop {s : ByteArray} {k m : Nat} (h : Goes s k m) (hm : m = s.size ∨ ∃ (h : m < s.size) (c : UInt8), s[m] = c ∧ insideB c = false) : (s.data.toList.drop k).takeWhile insideB = (s.data.toList.drop k).take (m - k) := by
  unfold Goes at h
  rw [h]
  have : (s.data.toList.drop m).takeWhile insideB = [] := by
    rcases hm with hm | ⟨hm, c, hc, hi⟩
    · rw [drop_end s m (by omega)]; rfl
    · rw [drop_byte s m hm, hc, List.takeWhile_cons, if_neg (by rw [hi]; simp)]
  rw [this, List.append_nil]

def NowR (s : ByteArray) (g : Nat) (p : Nat) (o q : Int) (w : World) (e : Ending) (w' : World) : Prop :=
  e = .returned (.tuple #[.string (bs (nx s p).tx), .int .i64 (nx s p).pl]) ∧ ((nx s p).bad = false → w = w') ∧ ((nx s p).bad = true → Rdr w' g s p o 11 (nx s p).pl ∧ Below g w w')

set_option maxRecDepth 100000 in
set_option maxHeartbeats 1000000 in
theorem now_ok (g : Nat) (s : ByteArray) (p : Nat) (o q : Int) (w : World) (hp : p ≤ s.size) (hs : s.size ≤ 4611686018427387904) (h : Rdr w g s p o 0 q) :
    Calls Try.prog 62 #[ptr g] w fun e w' => NowR s g p o q w e w' := by
  obtain ⟨⟨c0, c1, c2, c3, c4⟩, f0, f1, f2, f3, f4⟩ := Blk.five h
  have hwr := fun q1 => wrong_ok g s p o q 11 q1 w h
  have HWR := Lib.hid hwr
  obtain ⟨t, ht⟩ : ∃ t, nx s p = t := ⟨_, rfl⟩
  unfold NowR
  rw [ht]
  have HT := Lib.hid ht
  clear ht hwr h f0 f1 f2 f3 f4
  go_enter Try.func62, Try.ntmps62
  go_wp2_with fail
  go_loopg [4] (s.size - p) (fun m i wr => ∃ k : Nat, p ≤ k ∧ k ≤ s.size ∧ m = s.size - k ∧ i = .int .i64 k ∧ wr = w ∧ Hid (nx s k = t))
  case atStart => exact ⟨p, Nat.le_refl _, hp, rfl, rfl, rfl, Lib.hid HT.out⟩
  case round =>
    obtain ⟨k, hk0, hk, rfl, rfl, rfl, HK⟩ := hrel
    by_cases hlt : k < s.size
    · obtain ⟨c, hc⟩ : ∃ c, s[k] = c := ⟨_, rfl⟩
      have HC := Lib.hid hc
      by_cases hbl : blankB c = true
      · have HN : Hid (nx s (k + 1) = t) := Lib.hid (by rw [← nx_blank hlt hc hbl]; exact HK.out)
        have h4 : c = 9 ∨ c = 10 ∨ c = 13 ∨ c = 32 := by
          simp only [blankB, Bool.or_eq_true, beq_iff_eq] at hbl
          rcases hbl with ((h | h) | h) | h
          · exact .inl h
          · exact .inr (.inl h)
          · exact .inr (.inr (.inl h))
          · exact .inr (.inr (.inr h))
        clear hbl HC
        rcases h4 with rfl | rfl | rfl | rfl
        all_goals
          go_wp2_with fail
          go_roundg (s.size - (k + 1))
          case measure => omega
          case rel => exact ⟨k + 1, by omega, by omega, rfl, by go_num, rfl, HN⟩
      · have hbl' : blankB c = false := by simpa using hbl
        obtain ⟨h9, h10, h13, h32⟩ := noBlank hbl'
        have hnx := nx_byte hlt hc hbl'
        have hdr := drop_byte s k hlt
        rw [hc] at hdr
        by_cases hp : punctB c = true
        · rw [if_pos hp] at hnx
          have HE : Hid (s.extract k (k + 1) = bs [c]) := Lib.hid (by rw [extract_bs, hdr]; simp)
          have HX : Hid (t = ⟨[c], k, false⟩) := Lib.hid (by rw [← HK.out, hnx])
          clear hbl hbl' h9 h10 h13 h32 hnx hdr HC
          rcases punct_cases hp with rfl | rfl | rfl | rfl | rfl | rfl
          all_goals
            clear hp
            go_wp2_with fail
            go_ret2
            refine ⟨?_, fun _ => rfl, fun h => ?_⟩
            · rw [HE.out, HX.out]; rfl
            · rw [HX.out] at h; cases h
        · have hp' : punctB c = false := by simpa using hp
          rw [if_neg hp] at hnx
          obtain ⟨h63, h40, h41, h44, h91, h93⟩ := noPunct hp'
          clear hbl hbl' hp hp'
          by_cases harr : c = 45 ∧ ∃ (h : k + 1 < s.size), s[k + 1] = 62
          · obtain ⟨rfl, h1, h2⟩ := harr
            have HX : Hid (t = ⟨[45, 62], k, false⟩) := Lib.hid (by rw [← HK.out, hnx, drop_byte s (k + 1) h1, h2]; simp)
            clear hnx hdr HC
            go_wp2_with fail
            go_ret2
            refine ⟨?_, fun _ => rfl, fun h => ?_⟩
            · rw [HX.out]; rfl
            · rw [HX.out] at h; cases h
          · have harr' : (c == 45 && (s.data.toList.drop (k + 1)).head? == some 62) = false := by
              cases hb : (c == 45 && (s.data.toList.drop (k + 1)).head? == some 62)
              · rfl
              · exfalso
                apply harr
                simp only [Bool.and_eq_true, beq_iff_eq] at hb
                refine ⟨hb.1, ?_⟩
                rcases Nat.lt_or_ge (k + 1) s.size with h1 | h1
                · refine ⟨h1, ?_⟩
                  have := hb.2
                  rw [drop_byte s (k + 1) h1] at this
                  simpa using this
                · have := hb.2
                  rw [drop_end s (k + 1) h1] at this
                  cases this
            rw [harr'] at hnx
            simp only [Bool.false_eq_true, if_false] at hnx
            have hlet := fun W => letter_any c W
            have h62 : ∀ (h : k + 1 < s.size), c = 45 → ((s[k + 1].toNat : Int) == 62) = false := by
              intro h e
              refine ne_int 62 (by omega) ?_
              cases hb : (s[k + 1] == UInt8.ofNat 62)
              · rfl
              · exact absurd ⟨e, h, by simpa using hb⟩ harr
            clear harr harr'
            obtain ⟨lb, hlb⟩ : ∃ lb, letterB c = lb := ⟨_, rfl⟩
            rw [hlb] at hnx hlet
            cases lb
            · have HX : Hid (t = ⟨[], k, true⟩) := Lib.hid (by rw [← HK.out, hnx]; rfl)
              have HLET := Lib.hid hlet
              clear hnx hdr HC hlb hlet
              by_cases h45 : c = 45
              · subst h45
                by_cases h1 : k + 1 < s.size
                · have h62' := h62 h1 rfl
                  clear h62
                  go_wp2_with fail
                  refine (HLET.out _).mono ?_
                  rintro e w' ⟨rfl, rfl⟩
                  go_wp2_with fail
                  refine (HWR.out _).mono ?_
                  rintro e w2 ⟨rfl, hr2, hb2⟩
                  go_wp2_with fail
                  go_ret2
                  refine ⟨?_, fun h => ?_, fun _ => ?_⟩
                  · rw [HX.out]; rfl
                  · rw [HX.out] at h; cases h
                  · rw [HX.out]; exact ⟨hr2, hb2⟩
                · clear h62
                  go_wp2_with fail
                  refine (HLET.out _).mono ?_
                  rintro e w' ⟨rfl, rfl⟩
                  go_wp2_with fail
                  refine (HWR.out _).mono ?_
                  rintro e w2 ⟨rfl, hr2, hb2⟩
                  go_wp2_with fail
                  go_ret2
                  refine ⟨?_, fun h => ?_, fun _ => ?_⟩
                  · rw [HX.out]; rfl
                  · rw [HX.out] at h; cases h
                  · rw [HX.out]; exact ⟨hr2, hb2⟩
              · have h45' : ((c.toNat : Int) == 45) = false := ne_int 45 (by omega) (by simpa using h45)
                clear h62 h45
                go_wp2_with fail
                refine (HLET.out _).mono ?_
                rintro e w' ⟨rfl, rfl⟩
                go_wp2_with fail
                refine (HWR.out _).mono ?_
                rintro e w2 ⟨rfl, hr2, hb2⟩
                go_wp2_with fail
                go_ret2
                refine ⟨?_, fun h => ?_, fun _ => ?_⟩
                · rw [HX.out]; rfl
                · rw [HX.out] at h; cases h
                · rw [HX.out]; exact ⟨hr2, hb2⟩
            · have h45' : ((c.toNat : Int) == 45) = false := ne_int 45 (by omega) (by
                cases hb : c == UInt8.ofNat 45
                · rfl
                · rw [show c = 45 by simpa using hb] at hlb; exact absurd hlb (by decide))
              have hin : insideB c = true := by unfold insideB; rw [hlb]; rfl
              have HX : Hid (t = ⟨(s.data.toList.drop k).takeWhile insideB, k, false⟩) := Lib.hid (by rw [← HK.out, hnx, hdr, List.takeWhile_cons, if_pos hin]; rfl)
              have HLET := Lib.hid hlet
              have HIN := Lib.hid hin
              clear hnx hdr HC hlb hlet h62 hin
              go_wp2_with fail
              refine (HLET.out _).mono ?_
              rintro e w' ⟨rfl, rfl⟩
              go_wp2_with fail
              clear h9 h10 h13 h32 h63 h40 h41 h44 h91 h93 h45'
              go_loopg [6] (s.size - k) (fun n i w2 => ∃ m : Nat, k ≤ m ∧ m ≤ s.size ∧ n = s.size - m ∧ i = .int .i64 m ∧ w2 = wr ∧ Hid (Goes s k m))
              case atStart => exact ⟨k, Nat.le_refl _, hk, rfl, rfl, rfl, Lib.hid (Goes.start s k)⟩
              case round =>
                obtain ⟨m, hm0, hm, rfl, rfl, rfl, HG⟩ := hrel
                by_cases hml : m < s.size
                · obtain ⟨d, hd⟩ : ∃ d, s[m] = d := ⟨_, rfl⟩
                  have hins := fun W => inside_any d W
                  obtain ⟨ib, hib⟩ : ∃ ib, insideB d = ib := ⟨_, rfl⟩
                  rw [hib] at hins
                  have HINS := Lib.hid hins
                  have HD := Lib.hid hd
                  cases ib
                  · have HE : Hid (bs t.tx = s.extract k m) := Lib.hid (by rw [HX.out, extract_bs, HG.out.stop (.inr ⟨hml, d, hd, hib⟩)])
                    clear hins hib
                    go_wp2_with fail
                    refine (HINS.out _).mono ?_
                    rintro e w' ⟨rfl, rfl⟩
                    go_wp2_with fail
                    go_ret2
                    refine ⟨?_, fun _ => rfl, fun h => ?_⟩
                    · rw [HE.out, HX.out]; rfl
                    · rw [HX.out] at h; cases h
                  · have HG2 : Hid (Goes s k (m + 1)) := Lib.hid (HG.out.next hm0 hml hd hib)
                    clear hins hib
                    go_wp2_with fail
                    refine (HINS.out _).mono ?_
                    rintro e w' ⟨rfl, rfl⟩
                    go_wp2_with fail
                    go_roundg (s.size - (m + 1))
                    case measure => omega
                    case rel => exact ⟨m + 1, by omega, by omega, rfl, by go_num, rfl, HG2⟩
                · obtain rfl : m = s.size := by omega
                  have HE : Hid (bs t.tx = s.extract k s.size) := Lib.hid (by rw [HX.out, extract_bs, HG.out.stop (.inl rfl)])
                  go_wp2_with fail
                  go_ret2
                  refine ⟨?_, fun _ => rfl, fun h => ?_⟩
                  · rw [HE.out, HX.out]; rfl
                  · rw [HX.out] at h; cases h
    · obtain rfl : k = s.size := by omega
      have HX : Hid (t = ⟨[], s.size, false⟩) := Lib.hid (by rw [← HK.out, nx_end (Nat.le_refl _)])
      clear hlt HK
      go_wp2_with fail
      go_ret2
      refine ⟨?_, fun _ => rfl, fun h => ?_⟩
      · rw [HX.out]; rfl
      · rw [HX.out] at h; cases h
end Go.Proofs.Ythonnpjlkcjoeaa.T
