/- The document's answer: Predict, its loop. -/
import Derived.Test.YtpjcmgmmolediaaIw
set_option linter.unusedVariables false
set_option linter.unusedSimpArgs false
namespace Go.Proofs.Ytpjcmgmmolediaa
open Go Go.Zf Go.RowKit

/-- What the document's Predict makes of its parts. -/
def pixR (n mode : Int) (sl' : Bool) (an : Int) (u : Nat) (fa fl La Ll : List Int) (C mean : Int) (x y : Int) : Int :=
  if mode = 12 then nearV (atL fl y) (atL fa x) C
  else if 9 ≤ mode then (if mode = 10 then softS n 1 0 128 256 (atL fa) (atL fl) x y else if mode = 11 then softS n 0 1 128 256 (atL fa) (atL fl) x y else softS n 1 1 256 512 (atL fa) (atL fl) x y)
  else if sl' = true ∧ an = 90 then atL fa x
  else if sl' = true ∧ an = 180 then atL fl y
  else if sl' = true then sltR n u an (rdI La) (rdI Ll) x y
  else mean

/-- The loop's surroundings. -/
structure Ctx15 (hb : H) (q10 q13 q14 : Nat) (nn : Nat) (u : Nat) (fa fl La Ll : List Int) (C : Int) (sa sl va vl : V) : Prop where
  g10 : hb.get q10 = some (.cells [sa, sl, .int .i64 C] 65 false)
  g13 : hb.get q13 = some (.cells [va, .int .i64 (u : Int)] 68 false)
  g14 : hb.get q14 = some (.cells [vl, .int .i64 (u : Int)] 68 false)
  sa : ∃ p, GrowV p hb sa 3 1 (intsV fa) fa.length
  sl : ∃ p, GrowV p hb sl 3 1 (intsV fl) fl.length
  va : ∃ p, GrowV p hb va 3 1 (intsV La) La.length
  vl : ∃ p, GrowV p hb vl 3 1 (intsV Ll) Ll.length
  lfa : fa.length = nn
  lfl : fl.length = nn
  bfa : AllB fa
  bfl : AllB fl
  bLa : AllB La
  bLl : AllB Ll
  lLa : 0 < La.length ∧ La.length ≤ 1000
  lLl : 0 < Ll.length ∧ Ll.length ≤ 1000
  C : 0 ≤ C ∧ C ≤ 255
  u : u = 0 ∨ u = 1

structure I15 (hb : H) (q10 q13 q14 : Nat) (nn : Nat) (mode : Int) (sl' : Bool) (an : Int) (mean : Int) (s : Int → Int → Int) (m j : Nat) (en : E) (g : H) : Prop where
  hj : j ≤ m
  x : Ext hb g
  o : ∃ so, en.s [0, 1, 2, 3, 7, 8, 9, 10, 11, 12, 13, 14, 15, 16, 17, 18, 19, 20] 16 = so ∧ GrowV hb.n g so 5 1 ((List.range (m - j)).map (byteAt s nn)) (m - j)
  e0 : en.s [0, 1, 2, 3, 7, 8, 9, 10, 11, 12, 13, 14, 15, 16, 17, 18, 19, 20] 0 = .int .i64 nn
  e1 : en.s [0, 1, 2, 3, 7, 8, 9, 10, 11, 12, 13, 14, 15, 16, 17, 18, 19, 20] 1 = .int .i64 mode
  e10 : en.s [0, 1, 2, 3, 7, 8, 9, 10, 11, 12, 13, 14, 15, 16, 17, 18, 19, 20] 10 = .ptr q10 0
  e11 : en.s [0, 1, 2, 3, 7, 8, 9, 10, 11, 12, 13, 14, 15, 16, 17, 18, 19, 20] 11 = .int .i64 an
  e12 : en.s [0, 1, 2, 3, 7, 8, 9, 10, 11, 12, 13, 14, 15, 16, 17, 18, 19, 20] 12 = .bool sl'
  e13 : en.s [0, 1, 2, 3, 7, 8, 9, 10, 11, 12, 13, 14, 15, 16, 17, 18, 19, 20] 13 = .ptr q13 0
  e14 : en.s [0, 1, 2, 3, 7, 8, 9, 10, 11, 12, 13, 14, 15, 16, 17, 18, 19, 20] 14 = .ptr q14 0
  e15 : en.s [0, 1, 2, 3, 7, 8, 9, 10, 11, 12, 13, 14, 15, 16, 17, 18, 19, 20] 15 = .int .i64 mean
  e17 : en.s [0, 1, 2, 3, 7, 8, 9, 10, 11, 12, 13, 14, 15, 16, 17, 18, 19, 20] 17 = .int .i64 ((m - j : Nat) : Int)

set_option maxHeartbeats 3200000 in
theorem step15 {hb : H} {q10 q13 q14 nn u m : Nat} {mode an mean C : Int} {sl' : Bool} {fa fl La Ll : List Int} {sa sl va vl : V} (c : Ctx15 hb q10 q13 q14 nn u fa fl La Ll C sa sl va vl) (n4 : 4 ≤ nn) (n64 : nn ≤ 64) (hm : (m : Int) = (nn : Int) * nn) (ha : sl' = true → 0 ≤ an ∧ an ≤ 300) :
    ∀ j en g, I15 hb q10 q13 q14 nn mode sl' an mean (pixR nn mode sl' an u fa fl La Ll C mean) m j en g →
      LS (I15 hb q10 q13 q14 nn mode sl' an mean (pixR nn mode sl' an u fa fl La Ll C mean) m) (fun s => s.x = .ex 0 ∧ I15 hb q10 q13 q14 nn mode sl' an mean (pixR nn mode sl' an u fa fl La Ll C mean) m 0 s.e s.h) j (l15_0 KW loopZ en g) := by
  intro j en g hi
  have zz : ∀ n : Int, -1000000 ≤ n → n ≤ 1000000 → IntKind.i64.wrap n = n := fun n a b => Go.Zf.wi64 (by omega) (by omega)
  obtain ⟨hj, x, ⟨so, e16, O⟩, e0, e1, e10, e11, e12, e13, e14, e15, e17⟩ := hi
  have hm2 : (m : Int) ≤ 64 * 64 := by rw [hm]; exact (mul_bd (by omega) (by omega) (by omega) (by omega)).2
  have zm : IntKind.i64.wrap ((nn : Int) * nn) = m := by rw [← hm]; exact zz _ (by omega) (by omega)
  cases j with
  | zero =>
    simp [l15_0, e0, zm, e17]
    exact ⟨rfl, hj, x, ⟨so, by simp [e16], O⟩, by simp, by simp [e1], by simp [e10], by simp [e11], by simp [e12], by simp [e13], by simp [e14], by simp [e15], by simp⟩
  | succ j =>
    obtain ⟨k, hk⟩ : ∃ k, k = m - (j + 1) := ⟨_, rfl⟩
    have hk2 : m - j = k + 1 := by omega
    rw [← hk] at e17 O
    have hkm : k < m := by omega
    have z3 : IntKind.i64.wrap ((k : Int) + 1) = k + 1 := zz _ (by omega) (by omega)
    have t1 : (k : Int).tmod nn = (k : Int) % nn := Int.tmod_eq_emod_of_nonneg (by omega)
    have t2 : (k : Int).tdiv nn = (k : Int) / nn := Int.tdiv_eq_ediv_of_nonneg (by omega)
    have r1 : 0 ≤ (k : Int) % nn := Int.emod_nonneg _ (by omega)
    have r2 : (k : Int) % nn < nn := Int.emod_lt_of_pos _ (by omega)
    have r3 : 0 ≤ (k : Int) / nn := Int.ediv_nonneg (by omega) (by omega)
    have r4 : (k : Int) / nn < nn := Int.ediv_lt_of_lt_mul (by omega) (by omega)
    have hby : byteAt (pixR nn mode sl' an u fa fl La Ll C mean) nn k = .int .u8 (IntKind.u8.wrap (pixR nn mode sl' an u fa fl La Ll C mean ((k : Int) % nn) ((k : Int) / nn))) := rfl
    have zq : IntKind.i64.wrap ((k : Int) / nn) = (k : Int) / nn := zz _ (by omega) (by omega)
    obtain ⟨X, hX⟩ : ∃ X, X = (k : Int) % nn := ⟨_, rfl⟩
    obtain ⟨Y, hY⟩ : ∃ Y, Y = (k : Int) / nn := ⟨_, rfl⟩
    rw [← hX] at t1 r1 r2 hby
    rw [← hY] at t2 r3 r4 hby zq
    have g10 : g.get q10 = _ := (x.get _ (H.get_lt c.g10)).trans c.g10
    have g13 : g.get q13 = _ := (x.get _ (H.get_lt c.g13)).trans c.g13
    have g14 : g.get q14 = _ := (x.get _ (H.get_lt c.g14)).trans c.g14
    obtain ⟨p1, sa0⟩ := c.sa
    obtain ⟨p2, sl0⟩ := c.sl
    obtain ⟨p3, va0⟩ := c.va
    obtain ⟨p4, vl0⟩ := c.vl
    have SA := sa0.ext x
    have SL := sl0.ext x
    have VA := va0.ext x
    have VL := vl0.ext x
    have lfa := c.lfa
    have lfl := c.lfl
    have q1 := SA.same
    have q2 := SL.same
    obtain ⟨ba, oa, a1, a2, _⟩ := growAtI SA r1 (by omega)
    obtain ⟨bl, ol, a3, a4, _⟩ := growAtI SL r3 (by omega)
    have u1 := c.bfa X.toNat (by omega)
    have u2 := c.bfl Y.toNat (by omega)
    -- behind the sample
    have tail : ∀ (g1 : H) (v : Int), Ext g g1 → v = pixR nn mode sl' an u fa fl La Ll C mean X Y → ∃ so' g2, apZ 5 1 1 (g1.new (.cells [.int .u8 (IntKind.u8.wrap v)] 5 false)) so (.sl g1.n 0 1 (.ex 1)) = some (so', g2) ∧
        (∀ w : E, w.s [0, 1, 2, 3, 7, 8, 9, 10, 11, 12, 13, 14, 15, 16, 17, 18, 19, 20] 16 = so' → w.s [0, 1, 2, 3, 7, 8, 9, 10, 11, 12, 13, 14, 15, 16, 17, 18, 19, 20] 0 = .int .i64 nn → w.s [0, 1, 2, 3, 7, 8, 9, 10, 11, 12, 13, 14, 15, 16, 17, 18, 19, 20] 1 = .int .i64 mode → w.s [0, 1, 2, 3, 7, 8, 9, 10, 11, 12, 13, 14, 15, 16, 17, 18, 19, 20] 10 = .ptr q10 0 → w.s [0, 1, 2, 3, 7, 8, 9, 10, 11, 12, 13, 14, 15, 16, 17, 18, 19, 20] 11 = .int .i64 an → w.s [0, 1, 2, 3, 7, 8, 9, 10, 11, 12, 13, 14, 15, 16, 17, 18, 19, 20] 12 = .bool sl' → w.s [0, 1, 2, 3, 7, 8, 9, 10, 11, 12, 13, 14, 15, 16, 17, 18, 19, 20] 13 = .ptr q13 0 → w.s [0, 1, 2, 3, 7, 8, 9, 10, 11, 12, 13, 14, 15, 16, 17, 18, 19, 20] 14 = .ptr q14 0 → w.s [0, 1, 2, 3, 7, 8, 9, 10, 11, 12, 13, 14, 15, 16, 17, 18, 19, 20] 15 = .int .i64 mean → w.s [0, 1, 2, 3, 7, 8, 9, 10, 11, 12, 13, 14, 15, 16, 17, 18, 19, 20] 17 = .int .i64 ((k : Int) + 1) →
          ∃ m', m' < j + 1 ∧ I15 hb q10 q13 q14 nn mode sl' an mean (pixR nn mode sl' an u fa fl La Ll C mean) m m' w g2) := by
      intro g1 v x1 hv
      have O1 := O.ext x1
      have nb := x.n
      have n1 := x1.n
      obtain ⟨so', g2, k1, k2, k3, k4⟩ := push1 (bytes := 1) (.int .u8 (IntKind.u8.wrap v)) O1 (by omega) (by omega)
      refine ⟨so', g2, k1, fun w y16 y0 y1 y10 y11 y12 y13 y14 y15 y17 => ⟨j, Nat.lt_succ_self j, by omega, ⟨by omega, fun b hb' => by rw [k4 b (by omega) (O1.fresh.ne hb'), x1.get b (by omega), x.get b hb']⟩, ⟨so', y16, ?_⟩, y0, y1, y10, y11, y12, y13, y14, y15, by rw [y17, hk2]; rfl⟩⟩
      rw [hk2, List.range_succ, List.map_append, List.map_singleton, hby, ← hv]
      exact k2
    by_cases m12 : mode = 12
    · subst m12
      obtain ⟨so', g2, k1, fin⟩ := tail g (nearV (atL fl Y) (atL fa X) C) (Ext.refl g) (by unfold pixR; rw [if_pos rfl])
      have kn := near42_ok (l := atL fl Y) (a := atL fa X) (c := C) g u2.1 u2.2 u1.1 u1.2 c.C.1 c.C.2
      obtain ⟨nv, hnv⟩ : ∃ nv, nv = nearV (atL fl Y) (atL fa X) C := ⟨_, rfl⟩
      rw [← hnv] at kn k1
      simp [l15_0, e0, zm, e17, show (k : Int) < m by omega, hkm, show ¬ (nn : Int) = 0 by omega, show ¬ nn = 0 by omega, t1, t2, zq, e1, e10, rd1_of g10, a1, a2, a3, a4, kn, ck, q1, q2, V.same, bs, fillW, splice, e16, k1, z3]
      exact fin _ (by simp) (by simp [e0]) (by simp [e1]) (by simp [e10]) (by simp [e11]) (by simp [e12]) (by simp [e13]) (by simp [e14]) (by simp [e15]) (by simp)
    · by_cases m9 : 9 ≤ mode
      · obtain ⟨_, g1, ks, rfl, x1⟩ := (soft43_ok (C := .int .i64 C) (mode := mode) SA SL (n := nn) (by omega) (by omega) c.bfa c.bfl (by omega) (by omega) r1 r2 r3 r4).elim
        obtain ⟨sv, hsv⟩ : ∃ v, v = (if mode = 10 then softS nn 1 0 128 256 (atL fa) (atL fl) X Y else if mode = 11 then softS nn 0 1 128 256 (atL fa) (atL fl) X Y else softS nn 1 1 256 512 (atL fa) (atL fl) X Y) := ⟨_, rfl⟩
        rw [← hsv] at ks
        obtain ⟨so', g2, k1, fin⟩ := tail g1 sv x1 (by unfold pixR; rw [if_neg m12, if_pos m9, hsv])
        simp [l15_0, e0, zm, e17, show (k : Int) < m by omega, hkm, show ¬ (nn : Int) = 0 by omega, show ¬ nn = 0 by omega, t1, t2, zq, e1, m12, m9, e10, rdN_of (o := 0) (n := 3) g10 (by simp), ks, bs, fillW, splice, e16, k1, z3]
        exact fin _ (by simp) (by simp [e0]) (by simp [e1]) (by simp [e10]) (by simp [e11]) (by simp [e12]) (by simp [e13]) (by simp [e14]) (by simp [e15]) (by simp)
      · cases hsl : sl' with
        | false =>
          obtain ⟨so', g2, k1, fin⟩ := tail g mean (Ext.refl g) (by unfold pixR; rw [if_neg m12, if_neg m9, hsl]; simp)
          rw [hsl] at e12
          simp [l15_0, e0, zm, e17, show (k : Int) < m by omega, hkm, show ¬ (nn : Int) = 0 by omega, show ¬ nn = 0 by omega, t1, t2, zq, e1, m12, m9, e12, gl_t, e15, bs, fillW, splice, e16, k1, z3]
          rw [hsl] at fin
          exact fin _ (by simp) (by simp [e0]) (by simp [e1]) (by simp [e10]) (by simp [e11]) (by simp [e12]) (by simp [e13]) (by simp [e14]) (by simp [e15]) (by simp)
        | true =>
          rw [hsl] at e12
          by_cases a90 : an = 90
          · subst a90
            obtain ⟨so', g2, k1, fin⟩ := tail g (atL fa X) (Ext.refl g) (by unfold pixR; rw [if_neg m12, if_neg m9, if_pos ⟨hsl, rfl⟩])
            rw [hsl] at fin
            simp [l15_0, e0, zm, e17, show (k : Int) < m by omega, hkm, show ¬ (nn : Int) = 0 by omega, show ¬ nn = 0 by omega, t1, t2, zq, e1, m12, m9, e12, e11, e10, rd1_of g10, a1, a2, bs, fillW, splice, e16, k1, z3]
            exact fin _ (by simp) (by simp [e0]) (by simp [e1]) (by simp [e10]) (by simp [e11]) (by simp [e12]) (by simp [e13]) (by simp [e14]) (by simp [e15]) (by simp)
          · by_cases a180 : an = 180
            · subst a180
              obtain ⟨so', g2, k1, fin⟩ := tail g (atL fl Y) (Ext.refl g) (by unfold pixR; rw [if_neg m12, if_neg m9, if_neg (fun h => a90 h.2), if_pos ⟨hsl, rfl⟩])
              rw [hsl] at fin
              simp [l15_0, e0, zm, e17, show (k : Int) < m by omega, hkm, show ¬ (nn : Int) = 0 by omega, show ¬ nn = 0 by omega, t1, t2, zq, e1, m12, m9, e12, e11, e10, rd1_of g10, a3, a4, bs, fillW, splice, e16, k1, z3]
              exact fin _ (by simp) (by simp [e0]) (by simp [e1]) (by simp [e10]) (by simp [e11]) (by simp [e12]) (by simp [e13]) (by simp [e14]) (by simp [e15]) (by simp)
            · have hab := ha hsl
              obtain ⟨_, g1, ks, rfl, x1⟩ := (slanted44_ok VA VL c.lLa.1 c.lLa.2 c.lLl.1 c.lLl.2 c.bLa c.bLl c.u (n := nn) (by omega) (by omega) hab.1 hab.2 r1 r2 r3 r4).elim
              obtain ⟨sv, hsv⟩ : ∃ v, v = sltR nn u an (rdI La) (rdI Ll) X Y := ⟨_, rfl⟩
              rw [← hsv] at ks
              obtain ⟨so', g2, k1, fin⟩ := tail g1 sv x1 (by unfold pixR; rw [if_neg m12, if_neg m9, if_neg (fun h => a90 h.2), if_neg (fun h => a180 h.2), if_pos hsl, hsv])
              rw [hsl] at fin
              simp [l15_0, e0, zm, e17, show (k : Int) < m by omega, hkm, show ¬ (nn : Int) = 0 by omega, show ¬ nn = 0 by omega, t1, t2, zq, e1, m12, m9, e12, e11, a90, a180, e13, e14, rdN_of (o := 0) (n := 2) g13 (by simp), rdN_of (o := 0) (n := 2) g14 (by simp), ks, bs, fillW, splice, e16, k1, z3]
              exact fin _ (by simp) (by simp [e0]) (by simp [e1]) (by simp [e10]) (by simp [e11]) (by simp [e12]) (by simp [e13]) (by simp [e14]) (by simp [e15]) (by simp)
end Go.Proofs.Ytpjcmgmmolediaa
