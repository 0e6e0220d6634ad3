/- RelateOrder returns true: the walk, over what its callees answer. -/
import Derived.Test.YthonnpjlkcjoeaaRelR
import Derived.Test.YthonnpjlkcjoeaaShelf
import Derived.Lib.IndexAny
import Derived.Deep.Cut
import Derived.Deep.CutRange
import Derived.Deep.DeepCutAuto
namespace Go.Proofs.Ythonnpjlkcjoeaa.T
open Go.RowKit Go.Proofs.Ythonnpjlkcjoeaa.B
set_option linter.unusedSimpArgs false
set_option linter.unusedVariables false

theorem Static_any (s : ByteArray) (w : World) (hs : s.size ≤ 4611686018427387904) :
    Calls Try.prog 29 #[.string s] w fun e w' => e = .returned (.bool (isB s && !s.data.toList.contains 63)) ∧ Below w.heap.size w w' := by
  have h1 := fun W => is_any s W hs
  have h2 := fun W => Try.strings_Contains_one s 63 W
  rw [← Lib.contains_iff_indexByte] at h2
  cases hb : isB s
  · rw [hb] at h1
    clear hb h2
    go_enter Try.func29, Try.ntmps29
    go_wp2_with fail
    refine (h1 _).mono ?_
    rintro e w' ⟨rfl, rfl⟩
    go_wp2_with fail
    go_ret
    exact ⟨rfl, Below.refl _ _⟩
  · rw [hb] at h1
    clear hb
    cases hc : s.data.toList.contains 63
    all_goals
      rw [hc] at h2
      clear hc
      go_enter Try.func29, Try.ntmps29
      go_wp2_with fail
      refine (h1 _).mono ?_
      rintro e w' ⟨rfl, rfl⟩
      go_wp2_with fail
      refine (h2 _).mono ?_
      rintro e w' ⟨rfl, rfl⟩
      go_wp2_with fail
      go_ret
      exact ⟨rfl, Below.refl _ _⟩

def SaysB (f : Nat) (args : Array Value) (b : Bool) : Prop := ∀ W, Calls Try.prog f args W fun e' w' => e' = .returned (.bool b) ∧ Below W.heap.size W w'

theorem SaysB.to {f : Nat} {args : Array Value} {b : Bool} (h : SaysB f args b) (W : World) : Calls Try.prog f args W fun e' w' => e' = .returned (.bool b) ∧ Below W.heap.size W w' := h W

def SaysM (f : Nat) (args : Array Value) (m : ByteArray) (E : Int) : Prop := ∀ W, Calls Try.prog f args W fun e' w' => e' = .returned (.tuple #[.string m, .int .i64 E]) ∧ Below W.heap.size W w'
theorem SaysM.to {f : Nat} {args : Array Value} {m : ByteArray} {E : Int} (h : SaysM f args m E) (W : World) : Calls Try.prog f args W fun e' w' => e' = .returned (.tuple #[.string m, .int .i64 E]) ∧ Below W.heap.size W w' := h W

set_option hygiene false in
/-- One call more. -/
local macro "nxt" : tactic => `(tactic| (go_wp2_with fail; (first | with_reducible refine Calls.mono (SaysB.to hs _) ?_ | with_reducible refine Calls.mono (SaysB.to ht _) ?_ | with_reducible refine Calls.mono (SaysB.to hu _) ?_ | with_reducible refine Calls.mono (SaysB.to hss _) ?_ | with_reducible refine Calls.mono (SaysB.to hsq _) ?_ | with_reducible refine Calls.mono (SaysB.to hp _) ?_ | with_reducible refine Calls.mono (SaysB.to hq _) ?_ | with_reducible refine Calls.mono (SaysB.to hr _) ?_ | with_reducible refine Calls.mono (SaysB.to hv _) ?_ | with_reducible refine Calls.mono (SaysB.to hc _) ?_ | with_reducible refine Calls.mono (SaysB.to hd _) ?_ | with_reducible refine Calls.mono (SaysB.to hx _) ?_ | with_reducible refine Calls.mono (SaysB.to hy _) ?_ | with_reducible refine Calls.mono (SaysB.to ha1 _) ?_ | with_reducible refine Calls.mono (SaysB.to ha2 _) ?_ | with_reducible refine Calls.mono (SaysB.to hsj _) ?_ | with_reducible refine Calls.mono (SaysB.to htj _) ?_ | with_reducible refine Calls.mono (SaysB.to hju _) ?_ | with_reducible refine Calls.mono (SaysB.to HMS _) ?_ | with_reducible refine Calls.mono (SaysB.to HMT _) ?_ | with_reducible refine Calls.mono (SaysB.to HUM _) ?_ | with_reducible refine Calls.mono (SaysM.to hm _) ?_ | with_reducible refine Calls.mono (SaysM.to hm2 _) ?_ | with_reducible refine Calls.mono (SaysM.to hj _) ?_ | with_reducible refine Calls.mono (SaysM.to hk _) ?_ | with_reducible refine Calls.mono (lives03 _) ?_); rintro e1 w1 ⟨rfl, hb1⟩; replace hb := bl hb hb1; clear hb1))
set_option hygiene false in
/-- A way to the cut's end. -/
local macro "way" : tactic => `(tactic| ((repeat nxt); go_wp2_with fail; go_meet; case rel => exact ⟨rfl, hb⟩))

set_option maxRecDepth 100000 in
set_option maxHeartbeats 1000000 in
theorem order_core (s t u m j : ByteArray) (E : Int) (p q r v c x y g a1 a2 um ju : Bool) (w : World)
    (hs : SaysB 26 #[.string s] true)
    (ht : SaysB 26 #[.string t] true)
    (hu : SaysB 26 #[.string u] true)
    (hss : SaysB 23 #[.string s, .string s] true)
    (hsq : SaysB 23 #[.string s, .string ⟨#[63]⟩] true)
    (hp : SaysB 23 #[.string s, .string t] p)
    (hq : SaysB 23 #[.string t, .string s] q)
    (hr : SaysB 23 #[.string t, .string u] r)
    (hv : SaysB 23 #[.string s, .string u] v)
    (hc : SaysB 21 #[.string s, .string t] c)
    (hd : SaysB 21 #[.string t, .string s] c)
    (hx : SaysB 29 #[.string s] x)
    (hy : SaysB 29 #[.string t] y)
    (hm : SaysM 17 #[.string s, .string t] m E)
    (hm2 : SaysM 17 #[.string t, .string s] m E)
    (hms : E = 0 → SaysB 23 #[.string m, .string s] true)
    (hmt : E = 0 → SaysB 23 #[.string m, .string t] true)
    (hum : E = 0 → SaysB 23 #[.string u, .string m] um)
    (ha1 : SaysB 23 #[.string u, .string s] a1)
    (ha2 : SaysB 23 #[.string u, .string t] a2)
    (hj : SaysM 19 #[.string s, .string t] j 0)
    (hk : SaysM 19 #[.string t, .string s] j 0)
    (hsj : SaysB 23 #[.string s, .string j] true)
    (htj : SaysB 23 #[.string t, .string j] true)
    (hju : SaysB 23 #[.string j, .string u] ju)
    (hg : (s.toList == t.toList) = g)
    (l1 : p = true → q = true → g = true)
    (l2 : p = true → r = true → v = true)
    (l3 : p = true → c = true)
    (l4 : x = true → y = true → c = g)
    (l5 : (E = 0 ∧ c = true) ∨ (E = 21 ∧ c = true) ∨ (E = 30 ∧ c = false))
    (l6 : a1 = true → a2 = true → E = 0 ∧ um = true)
    (l7 : v = true → r = true → ju = true) :
    Calls Try.prog 6 #[.string s, .string t, .string u] w fun e w' => e = .returned (.bool true) ∧ Below w.heap.size w w' := by
  have L1 := Lib.hid l1
  have L2 := Lib.hid l2
  have L3 := Lib.hid l3
  have L4 := Lib.hid l4
  have L5 := Lib.hid l5
  have L6 := Lib.hid l6
  have L7 := Lib.hid l7
  have HMs := Lib.hid hms
  have HMt := Lib.hid hmt
  have HUm := Lib.hid hum
  have HG := Lib.hid hg
  clear l1 l2 l3 l4 l5 l6 l7 hg hms hmt hum
  obtain ⟨b, hbd⟩ : ∃ b, (a1 && a2) = b := ⟨_, rfl⟩
  have HB := Lib.hid hbd
  clear hbd
  have hb := Below.refl w.heap.size w
  go_enter Try.func6, Try.ntmps6
  nxt
  nxt
  nxt
  go_upto_region 3 with fail
  go_cut [70] from 31 to 70 (fun z wx => z = .bool false ∧ Below w.heap.size w wx)
  case first =>
    cases p
    · way
    · cases q
      · cases r
        · way
        · obtain rfl := L2.out rfl rfl
          way
      · have hge : (s.toList == t.toList) = true := by rw [HG.out]; exact L1.out rfl rfl
        cases r
        · way
        · obtain rfl := L2.out rfl rfl
          way
  case rest =>
    obtain ⟨rfl, hb⟩ := hcut
    go_upto_region 5 with fail
    go_cut [105] from 71 to 105 (fun z wx => z = .bool false ∧ Below w.heap.size w wx)
    case first =>
      have key : Hid (x = true → y = true → (s.toList == t.toList) = c) := Lib.hid (fun h1 h2 => by rw [HG.out, L4.out h1 h2])
      have key2 : p = false ∨ (p = true ∧ c = true) := by
        cases p
        · exact .inl rfl
        · exact .inr ⟨rfl, L3.out rfl⟩
      rcases key2 with rfl | ⟨rfl, rfl⟩
      · cases x
        · cases c <;> way
        · cases y
          · cases c <;> way
          · have hge := key.out rfl rfl
            cases c <;> way
      · cases x
        · way
        · cases y
          · way
          · have hge := key.out rfl rfl
            way
    case rest =>
      obtain ⟨rfl, hb⟩ := hcut
      nxt
      nxt
      go_upto_region 9 with fail
      go_cut [145] from 118 to 145 (fun z wx => z = .bool false ∧ Below w.heap.size w wx)
      case first =>
        rcases L5.out with ⟨rfl, rfl⟩ | ⟨rfl, rfl⟩ | ⟨rfl, rfl⟩ <;> way
      case rest =>
        obtain ⟨rfl, hb⟩ := hcut
        go_upto_region 11 with fail
        go_cut [159] from 146 to 159 (fun z wx => z = .bool false ∧ Below w.heap.size w wx)
        case first =>
          rcases L5.out with ⟨rfl, rfl⟩ | ⟨rfl, rfl⟩ | ⟨rfl, rfl⟩
          · have HMS := HMs.out rfl
            have HMT := HMt.out rfl
            way
          · way
          · way
        case rest =>
          obtain ⟨rfl, hb⟩ := hcut
          go_upto_region 13 with fail
          go_cut [11] from 160 to 167 (fun z wx => z = .bool b ∧ Below w.heap.size w wx)
          case first =>
            cases a1
            · obtain rfl : false = b := HB.out
              way
            · cases a2
              · obtain rfl : false = b := HB.out
                way
              · obtain rfl : true = b := HB.out
                way
          case rest =>
            obtain ⟨rfl, hb⟩ := hcut
            go_upto_region 14 with fail
            go_cut [178] from 168 to 178 (fun z wx => z = .bool false ∧ Below w.heap.size w wx)
            case first =>
              have key : b = false ∨ b = true ∧ E = 0 ∧ um = true := by
                rw [← HB.out]
                cases a1
                · exact .inl rfl
                · cases a2
                  · exact .inl rfl
                  · exact .inr ⟨rfl, L6.out rfl rfl⟩
              rcases key with rfl | ⟨rfl, rfl, rfl⟩
              · way
              · have HUM := HUm.out rfl
                way
            case rest =>
              obtain ⟨rfl, hb⟩ := hcut
              nxt
              nxt
              go_upto_region 18 with fail
              go_cut [213] from 191 to 213 (fun z wx => z = .bool false ∧ Below w.heap.size w wx)
              case first => way
              case rest =>
                obtain ⟨rfl, hb⟩ := hcut
                have key : v = false ∨ (v = true ∧ r = false) ∨ (v = true ∧ r = true ∧ ju = true) := by
                  cases v
                  · exact .inl rfl
                  · cases r
                    · exact .inr (.inl ⟨rfl, rfl⟩)
                    · exact .inr (.inr ⟨rfl, rfl, L7.out rfl rfl⟩)
                rcases key with rfl | ⟨rfl, rfl⟩ | ⟨rfl, rfl, rfl⟩
                all_goals
                  repeat nxt
                  go_wp2_with fail
                  go_ret
                  exact ⟨rfl, hb⟩

end Go.Proofs.Ythonnpjlkcjoeaa.T
