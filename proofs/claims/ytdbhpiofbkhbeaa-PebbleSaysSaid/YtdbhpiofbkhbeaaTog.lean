/- The contract of 'rafterref.Together': it is true just where the edges are not sparse. Conditions: at most 10 points and 45 edges. -/
import Derived.Test.YtdbhpiofbkhbeaaTop
namespace Go.Proofs.Ytdbhpiofbkhbeaa
open Go.RowKit
set_option linter.unusedSimpArgs false
set_option linter.unusedVariables false

/-- The set that a number tells has not too many edges. -/
def Fine (n : Nat) (es : Es) (s : Nat) : Prop := 2 ≤ size (ofBits s) n → cnt (ofBits s) es + 3 ≤ 2 * size (ofBits s) n

theorem and1_i64 (a : Nat) (ha : a < 9223372036854775808) : Go.bits .and .i64 (a : Int) 1 = ((a % 2 : Nat) : Int) := by
  have h1 : (BitVec.ofInt 64 (a : Int)).toNat = a := by
    rw [BitVec.ofInt_natCast, BitVec.toNat_ofNat]; exact Nat.mod_eq_of_lt (by omega)
  have h2 : (BitVec.ofInt 64 (1 : Int)).toNat = 1 := by decide
  show IntKind.i64.wrap ((BitVec.ofInt 64 (a : Int) &&& BitVec.ofInt 64 (1 : Int)).toNat : Int) = _
  rw [BitVec.toNat_and, h1, h2, Nat.and_one_is_mod, IntKind.wrap_i64]
  omega

theorem bit_at (s k : Nat) (hs : s < 1024) : Go.bits .and .i64 ((s : Int) / 2 ^ k) 1 = (((ofBits s k).toNat : Nat) : Int) := by
  have h1 : ((s : Int) / 2 ^ k) = ((s / 2 ^ k : Nat) : Int) := by simp
  have h2 : s / 2 ^ k ≤ s := Nat.div_le_self _ _
  rw [h1, and1_i64 _ (by omega)]
  unfold ofBits
  have h3 : s / 2 ^ k % 2 < 2 := Nat.mod_lt _ (by omega)
  generalize s / 2 ^ k % 2 = t at *
  match t, h3 with
  | 0, _ => rfl
  | 1, _ => rfl

set_option maxHeartbeats 2000000 in
theorem Together_walk (n : Nat) (A : Option Addr) (cap : Nat) (es : Es) (w : World) (hn1 : 1 ≤ n) (hn : n ≤ 10) (hl : es.length ≤ 46) (hg : Good n es) (he : Edges w A (toI es)) :
    Calls Try.prog 12 #[.int .i64 (n : Nat), .slice A es.length cap] w fun e w' => ∃ b, e = .returned (.bool b) ∧ (b = true ↔ ¬ Sparse n es) ∧ Below w.heap.size w w' := by
  have HE := Lib.hid he
  have HGD := Lib.hid hg
  clear he hg
  generalize hlen : es.length = len at *
  have HL := Lib.hid hlen
  clear hlen
  go_enter Try.func12, Try.ntmps12
  go_wp2
  go_loopw [5] (fun i wr => ∃ s : Nat, s ≤ 2 ^ n ∧ i = .int .i64 (s : Nat) ∧ (∀ t, t < s → Fine n es t) ∧ Below w.heap.size w wr) (fun i _ => 2 ^ n - (intOf i).toNat)
  case atStart => exact ⟨0, Nat.zero_le _, rfl, fun t h => absurd h (by omega), Below.refl _ _⟩
  case round =>
    obtain ⟨s, hs, rfl, hf, hb⟩ := hrel
    obtain ⟨wo, rfl⟩ : ∃ wo : World, wo = wr := ⟨_, rfl⟩
    have HFI := Lib.hid hf
    have HB := Lib.hid hb
    clear hf hb
    have hp : 2 ^ n ≤ 1024 := by
      have : 2 ^ n ≤ 2 ^ 10 := Nat.pow_le_pow_right (by omega) hn
      omega
    obtain ⟨P, hP⟩ : ∃ P, 2 ^ n = P := ⟨_, rfl⟩
    have e1 : wrap64 ((2 : Int) ^ n) = (P : Int) := by
      have : ((2 : Int) ^ n) = ((2 ^ n : Nat) : Int) := by simp
      rw [this, hP]
      exact IntWalk.wrap64_in _ (by omega)
    rw [hP] at hp hs
    have HP := Lib.hid hP
    clear hP
    by_cases hlt : s < P
    · go_wp2
      have hb0 : 0 ≤ (s : Int) := by omega
      go_loop [6, 8] (fun a i => ∃ k m : Nat, k ≤ n ∧ m ≤ k ∧ i = .int .i64 (k : Nat) ∧ a = .int .i64 (m : Nat) ∧ m = size (ofBits s) k) (fun _ i => n - (intOf i).toNat)
      case atStart => exact ⟨0, 0, by omega, by omega, rfl, rfl, rfl⟩
      case round =>
        obtain ⟨k, m, hk, hm, rfl, rfl, hmk⟩ := hrel
        have HM := Lib.hid hmk
        clear hmk
        by_cases hkn : k < n
        · have hbit := bit_at s k (by omega)
          have hsz : size (ofBits s) (k + 1) = size (ofBits s) k + (ofBits s k).toNat := rfl
          have HSZ := Lib.hid hsz
          clear hsz
          obtain ⟨t, ht⟩ : ∃ t, (ofBits s k).toNat = t := ⟨_, rfl⟩
          have ht1 : t ≤ 1 := by rw [← ht]; cases ofBits s k <;> simp
          rw [ht] at hbit
          have HT := Lib.hid ht
          clear ht
          have hm10 : m ≤ 10 := by omega
          go_wp2
          go_round
          case rel => exact ⟨k + 1, m + t, by omega, by omega, by go_num, by go_num, by rw [HSZ.out, HT.out, ← HM.out]⟩
          case measure => simp [intOf]; omega
        · obtain rfl : n = k := by omega
          clear hkn hk
          go_wp2
          go_loopw [7, 30] (fun c i wi => ∃ j c' : Nat, j ≤ len ∧ c' ≤ j ∧ i = .int .i64 (j : Nat) ∧ c = .int .i64 (c' : Nat) ∧ c' = cnt (ofBits s) (es.take j) ∧ Below w.heap.size w wi) (fun _ i _ => len - (intOf i).toNat)
          case atStart => exact ⟨0, 0, by omega, by omega, rfl, rfl, rfl, HB.out⟩
          case round =>
            obtain ⟨j, c, hj, hc, rfl, rfl, hcnt, hb⟩ := hrel
            have HCNT := Lib.hid hcnt
            have HBI := Lib.hid hb
            clear hcnt hb
            by_cases hjl : j < len
            · have hjl' : j < es.length := by rw [HL.out]; exact hjl
              obtain ⟨eb0, eo, rfl, hebl, g1, g2⟩ := HE.out j (by simp [toI]; exact hjl')
              rw [toI_get es j hjl'] at g1 g2
              obtain ⟨a, b, hab⟩ : ∃ a b, es[j] = (a, b) := ⟨_, _, rfl⟩
              rw [hab] at g1 g2
              have k1 : wr.cell? ⟨eb0, eo + j * 2, none⟩ = some (.int .i64 (a : Nat)) := (HBI.out.cell (p := ⟨eb0, _, none⟩) hebl).trans g1
              have k2 : wr.cell? ⟨eb0, eo + j * 2 + 1, none⟩ = some (.int .i64 (b : Nat)) := (HBI.out.cell (p := ⟨eb0, _, none⟩) hebl).trans g2
              obtain ⟨han, hbn, hne⟩ : a < n ∧ b < n ∧ a ≠ b := by have := HGD.out _ (List.getElem_mem hjl'); rwa [hab] at this
              have hstep : cnt (ofBits s) (es.take (j + 1)) = cnt (ofBits s) (es.take j) + (ofBits s a && ofBits s b).toNat := by
                rw [List.take_succ_eq_append_getElem hjl', cnt_snoc, hab]
              have HSTEP := Lib.hid hstep
              have ba := bit_at s a (by omega)
              have bb := bit_at s b (by omega)
              have hb2 := belowAlloc HBI.out (.cells #[.int .i64 (a : Nat), .int .i64 (b : Nat)] 34)
              have HB2 := Lib.hid hb2
              have hne0 : ¬ a = b := hne
              clear hstep g1 g2 hab hb2 hne hne0
              obtain ⟨ta, hta⟩ : ∃ t, ofBits s a = t := ⟨_, rfl⟩
              obtain ⟨tb, htb⟩ : ∃ t, ofBits s b = t := ⟨_, rfl⟩
              rw [hta] at ba
              rw [htb] at bb
              have HTA := Lib.hid hta
              have HTB := Lib.hid htb
              clear hta htb
              have hc46 : c ≤ 46 := by omega
              cases ta
              · have ba' : Go.bits .and .i64 ((s : Int) / 2 ^ a) 1 = 0 := ba
                clear ba
                have bc : ((0 : Int) == 1) = false := rfl
                go_wp2
                go_roundw
                case rel => exact ⟨j + 1, c, by omega, by omega, by go_num, rfl, by rw [HSTEP.out, HTA.out, ← HCNT.out]; rfl, HB2.out⟩
                case measure => simp [intOf]; omega
              · have ba' : Go.bits .and .i64 ((s : Int) / 2 ^ a) 1 = 1 := ba
                clear ba
                have bc : ((1 : Int) == 1) = true := rfl
                cases tb
                · have bb' : Go.bits .and .i64 ((s : Int) / 2 ^ b) 1 = 0 := bb
                  clear bb
                  have bc' : ((0 : Int) == 1) = false := rfl
                  go_wp2
                  go_roundw
                  case rel => exact ⟨j + 1, c, by omega, by omega, by go_num, rfl, by rw [HSTEP.out, HTA.out, HTB.out, ← HCNT.out]; rfl, HB2.out⟩
                  case measure => simp [intOf]; omega
                · have bb' : Go.bits .and .i64 ((s : Int) / 2 ^ b) 1 = 1 := bb
                  clear bb
                  go_wp2
                  go_roundw
                  case rel => exact ⟨j + 1, c + 1, by omega, by omega, by go_num, by go_num, by rw [HSTEP.out, HTA.out, HTB.out, ← HCNT.out]; rfl, HB2.out⟩
                  case measure => simp [intOf]; omega
            · obtain rfl : len = j := by omega
              have hcnt2 : c = cnt (ofBits s) es := by rw [HCNT.out, ← HL.out, List.take_length]
              have HC2 := Lib.hid hcnt2
              clear hcnt2 hjl hj
              have hm10 : m ≤ 10 := by omega
              have hc46 : c ≤ 46 := by omega
              by_cases h2 : 2 ≤ m
              · by_cases h3 : 2 * (m : Int) - 3 < (c : Int)
                · have hbad : ¬ Fine n es s := fun h => by have := h (by rw [← HM.out]; exact h2); rw [← HM.out, ← HC2.out] at this; omega
                  have HBAD := Lib.hid hbad
                  clear hbad
                  go_wp2
                  go_ret
                  refine ⟨true, rfl, ⟨fun _ hsp => HBAD.out (hsp _), fun _ => rfl⟩, HBI.out⟩
                · have hok : Fine n es s := fun _ => by rw [← HM.out, ← HC2.out]; omega
                  have HOK : Hid (∀ t, t < s + 1 → Fine n es t) := fun t ht => by
                    by_cases e : t = s
                    · subst e; exact hok
                    · exact HFI.out t (by omega)
                  clear hok
                  go_wp2
                  go_roundw
                  case rel => exact ⟨s + 1, by rw [HP.out]; omega, by go_num, HOK.out, HBI.out⟩
                  case measure => rw [HP.out]; simp [intOf]; omega
              · have hok : Fine n es s := fun h => absurd h (by rw [← HM.out]; exact h2)
                have HOK : Hid (∀ t, t < s + 1 → Fine n es t) := fun t ht => by
                  by_cases e : t = s
                  · subst e; exact hok
                  · exact HFI.out t (by omega)
                clear hok
                go_wp2
                go_roundw
                case rel => exact ⟨s + 1, by rw [HP.out]; omega, by go_num, HOK.out, HBI.out⟩
                case measure => rw [HP.out]; simp [intOf]; omega
    · obtain rfl : P = s := by omega
      have hsp : Sparse n es := (sparse_iff HGD.out).2 fun t ht => HFI.out t (by rw [HP.out] at ht; exact ht)
      have HSP := Lib.hid hsp
      clear hsp
      go_wp2
      go_ret
      exact ⟨false, rfl, ⟨(fun h => by cases h), fun h => absurd HSP.out h⟩, HB.out⟩
end Go.Proofs.Ytdbhpiofbkhbeaa
