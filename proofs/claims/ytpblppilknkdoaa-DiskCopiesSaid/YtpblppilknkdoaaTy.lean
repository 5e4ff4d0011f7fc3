/- The facts on the types, and the functions with bodies, of this program. -/
import Derived.Test.YtpblppilknkdoaaProg
import Derived.KernelRfl
import Derived.Test.YtpblppilknkdoaaEng5
namespace Go.Proofs.Ytpblppilknkdoaa
open Go Go.Eng Go.Proofs
theorem c3 : Cell1 Try.prog 3 := ⟨⟨_, Try.underlying3, rfl⟩, by kernel_rfl⟩
theorem c4 : Cell1 Try.prog 4 := ⟨⟨_, Try.underlying4, rfl⟩, by kernel_rfl⟩
theorem c5 : Cell1 Try.prog 5 := ⟨⟨_, Try.underlying5, rfl⟩, by kernel_rfl⟩
theorem c24 : Cell1 Try.prog 24 := ⟨⟨_, Try.underlying24, rfl⟩, by kernel_rfl⟩
theorem c30 : Cell1 Try.prog 30 := ⟨⟨_, Try.underlying30, rfl⟩, by kernel_rfl⟩
theorem c35 : Cell1 Try.prog 35 := ⟨⟨_, Try.underlying35, rfl⟩, by kernel_rfl⟩
theorem c38 : Cell1 Try.prog 38 := ⟨⟨_, Try.underlying38, rfl⟩, by kernel_rfl⟩
theorem c41 : Cell1 Try.prog 41 := ⟨⟨_, Try.underlying41, rfl⟩, by kernel_rfl⟩
theorem c56 : Cell1 Try.prog 56 := ⟨⟨_, Try.underlying56, rfl⟩, by kernel_rfl⟩
theorem c66 : Cell1 Try.prog 66 := ⟨⟨_, Try.underlying66, rfl⟩, by kernel_rfl⟩
theorem c67 : Cell1 Try.prog 67 := ⟨⟨_, Try.underlying67, rfl⟩, by kernel_rfl⟩
theorem r27 : RowT Try.prog 27 64 := ⟨⟨_, Try.underlying27, rfl⟩, by kernel_rfl⟩
theorem r28 : RowT Try.prog 28 384 := ⟨⟨_, Try.underlying28, rfl⟩, by kernel_rfl⟩
theorem r32 : RowT Try.prog 32 4 := ⟨⟨_, Try.underlying32, rfl⟩, by kernel_rfl⟩
theorem r43 : RowT Try.prog 43 6 := ⟨⟨_, Try.underlying43, rfl⟩, by kernel_rfl⟩
theorem r69 : RowT Try.prog 69 7 := ⟨⟨_, Try.underlying69, rfl⟩, by kernel_rfl⟩
theorem r75 : RowT Try.prog 75 65 := ⟨⟨_, Try.underlying75, rfl⟩, by kernel_rfl⟩
theorem r80 : RowT Try.prog 80 65 := ⟨⟨_, Try.underlying80, rfl⟩, by kernel_rfl⟩
theorem f69_0 : FieldT Try.prog 69 0 0 := ⟨_, _, 0, Try.underlying69, rfl, rfl, by kernel_rfl⟩
theorem f69_1 : FieldT Try.prog 69 1 1 := ⟨_, _, 0, Try.underlying69, rfl, rfl, by kernel_rfl⟩
theorem f69_2 : FieldT Try.prog 69 2 2 := ⟨_, _, 0, Try.underlying69, rfl, rfl, by kernel_rfl⟩
theorem f69_3 : FieldT Try.prog 69 3 3 := ⟨_, _, 0, Try.underlying69, rfl, rfl, by kernel_rfl⟩
theorem f69_4 : FieldT Try.prog 69 4 4 := ⟨_, _, 0, Try.underlying69, rfl, rfl, by kernel_rfl⟩
theorem f69_5 : FieldT Try.prog 69 5 5 := ⟨_, _, 0, Try.underlying69, rfl, rfl, by kernel_rfl⟩
theorem f69_6 : FieldT Try.prog 69 6 6 := ⟨_, _, 0, Try.underlying69, rfl, rfl, by kernel_rfl⟩
theorem f43_0 : FieldT Try.prog 43 0 0 := ⟨_, _, 0, Try.underlying43, rfl, rfl, by kernel_rfl⟩
theorem f43_1 : FieldT Try.prog 43 1 1 := ⟨_, _, 0, Try.underlying43, rfl, rfl, by kernel_rfl⟩
theorem f43_2 : FieldT Try.prog 43 2 2 := ⟨_, _, 0, Try.underlying43, rfl, rfl, by kernel_rfl⟩
theorem f43_3 : FieldT Try.prog 43 3 3 := ⟨_, _, 0, Try.underlying43, rfl, rfl, by kernel_rfl⟩
theorem f43_4 : FieldT Try.prog 43 4 4 := ⟨_, _, 0, Try.underlying43, rfl, rfl, by kernel_rfl⟩
theorem f43_5 : FieldT Try.prog 43 5 5 := ⟨_, _, 0, Try.underlying43, rfl, rfl, by kernel_rfl⟩
theorem f32_0 : FieldT Try.prog 32 0 0 := ⟨_, _, 0, Try.underlying32, rfl, rfl, by kernel_rfl⟩
theorem f32_1 : FieldT Try.prog 32 1 1 := ⟨_, _, 0, Try.underlying32, rfl, rfl, by kernel_rfl⟩
theorem f32_2 : FieldT Try.prog 32 2 2 := ⟨_, _, 0, Try.underlying32, rfl, rfl, by kernel_rfl⟩
theorem f32_3 : FieldT Try.prog 32 3 3 := ⟨_, _, 0, Try.underlying32, rfl, rfl, by kernel_rfl⟩
theorem f75_0 : FieldT Try.prog 75 0 0 := ⟨_, _, 0, Try.underlying75, rfl, rfl, by kernel_rfl⟩
theorem f75_1 : FieldT Try.prog 75 1 1 := ⟨_, _, 63, Try.underlying75, rfl, rfl, by kernel_rfl⟩
theorem f80_0 : FieldT Try.prog 80 0 0 := ⟨_, _, 0, Try.underlying80, rfl, rfl, by kernel_rfl⟩
theorem f80_1 : FieldT Try.prog 80 1 1 := ⟨_, _, 63, Try.underlying80, rfl, rfl, by kernel_rfl⟩
theorem s22 : SliceT Try.prog 22 32 4 := ⟨Try.underlying22, by kernel_rfl⟩
theorem s30 : SliceT Try.prog 30 4 1 := ⟨Try.underlying30, by kernel_rfl⟩
theorem s35 : SliceT Try.prog 35 27 64 := ⟨Try.underlying35, by kernel_rfl⟩
theorem s41 : SliceT Try.prog 41 75 65 := ⟨Try.underlying41, by kernel_rfl⟩
theorem s56 : SliceT Try.prog 56 3 1 := ⟨Try.underlying56, by kernel_rfl⟩
theorem s67 : SliceT Try.prog 67 80 65 := ⟨Try.underlying67, by kernel_rfl⟩
theorem zmk {P : Program} {t : TypeId} {zs : List Value} (h : ((P.info? t).bind (·.zero)).map (·.cells) = some zs.toArray) : ZeroT P t zs := by
  obtain ⟨z, hz, hc⟩ := Option.map_eq_some_iff.1 h
  obtain ⟨i, hi, hz⟩ := Option.bind_eq_some_iff.1 hz
  exact ⟨i, z, hi, hz, hc⟩
theorem z27 : ZeroT Try.prog 27 (List.replicate 64 (.int .u8 0)) := zmk (by kernel_rfl)
theorem z28 : ZeroT Try.prog 28 (List.replicate 384 (.int .u8 0)) := zmk (by kernel_rfl)
theorem z32 : ZeroT Try.prog 32 ([.int .i64 0, .int .i64 0, .int .u8 0, .slice none 0 0]) := zmk (by kernel_rfl)
theorem z38 : ZeroT Try.prog 38 ([.int .i64 0]) := zmk (by kernel_rfl)
theorem z43 : ZeroT Try.prog 43 ([.slice none 0 0, .slice none 0 0, .bool false, .int .i64 0, .int .i64 0, .int .i64 0]) := zmk (by kernel_rfl)
theorem z69 : ZeroT Try.prog 69 ([.slice none 0 0, .slice none 0 0, .bool false, .bool false, .int .i64 0, .int .i64 0, .int .i64 0]) := zmk (by kernel_rfl)
theorem z75 : ZeroT Try.prog 75 (.int .i64 0 :: List.replicate 64 (.int .u8 0)) := zmk (by kernel_rfl)
theorem z80 : ZeroT Try.prog 80 (.int .i64 0 :: List.replicate 64 (.int .u8 0)) := zmk (by kernel_rfl)
theorem z4 : ZeroT Try.prog 4 ([.bool false]) := zmk (by kernel_rfl)
theorem z3 : ZeroT Try.prog 3 ([.int .i64 0]) := zmk (by kernel_rfl)
theorem e30 : ElemT Try.prog 30 4 1 1 := by
  have h : ((Try.prog.info? 4).bind fun i => i.zero.map fun z => (i.size, i.bytes, z.cells.size)) = some (1, 1, 1) := by kernel_rfl
  obtain ⟨i, hi, h⟩ := Option.bind_eq_some_iff.1 h
  obtain ⟨z, hz, h⟩ := Option.map_eq_some_iff.1 h
  simp only [Prod.mk.injEq] at h
  exact ⟨Try.underlying30, by omega, i, z, hi, hz, h.1, h.2.1, h.2.2⟩
theorem e35 : ElemT Try.prog 35 27 64 64 := by
  have h : ((Try.prog.info? 27).bind fun i => i.zero.map fun z => (i.size, i.bytes, z.cells.size)) = some (64, 64, 64) := by kernel_rfl
  obtain ⟨i, hi, h⟩ := Option.bind_eq_some_iff.1 h
  obtain ⟨z, hz, h⟩ := Option.map_eq_some_iff.1 h
  simp only [Prod.mk.injEq] at h
  exact ⟨Try.underlying35, by omega, i, z, hi, hz, h.1, h.2.1, h.2.2⟩
theorem e41 : ElemT Try.prog 41 75 65 72 := by
  have h : ((Try.prog.info? 75).bind fun i => i.zero.map fun z => (i.size, i.bytes, z.cells.size)) = some (65, 72, 65) := by kernel_rfl
  obtain ⟨i, hi, h⟩ := Option.bind_eq_some_iff.1 h
  obtain ⟨z, hz, h⟩ := Option.map_eq_some_iff.1 h
  simp only [Prod.mk.injEq] at h
  exact ⟨Try.underlying41, by omega, i, z, hi, hz, h.1, h.2.1, h.2.2⟩
theorem e56 : ElemT Try.prog 56 3 1 8 := by
  have h : ((Try.prog.info? 3).bind fun i => i.zero.map fun z => (i.size, i.bytes, z.cells.size)) = some (1, 8, 1) := by kernel_rfl
  obtain ⟨i, hi, h⟩ := Option.bind_eq_some_iff.1 h
  obtain ⟨z, hz, h⟩ := Option.map_eq_some_iff.1 h
  simp only [Prod.mk.injEq] at h
  exact ⟨Try.underlying56, by omega, i, z, hi, hz, h.1, h.2.1, h.2.2⟩
theorem e67 : ElemT Try.prog 67 80 65 72 := by
  have h : ((Try.prog.info? 80).bind fun i => i.zero.map fun z => (i.size, i.bytes, z.cells.size)) = some (65, 72, 65) := by kernel_rfl
  obtain ⟨i, hi, h⟩ := Option.bind_eq_some_iff.1 h
  obtain ⟨z, hz, h⟩ := Option.map_eq_some_iff.1 h
  simp only [Prod.mk.injEq] at h
  exact ⟨Try.underlying67, by omega, i, z, hi, hz, h.1, h.2.1, h.2.2⟩
theorem p69 : PlacesT Try.prog 69 #[(0, 1), (1, 1), (2, 1), (3, 1), (4, 1), (5, 1), (6, 1)] := ⟨_, Try.underlying69, fun w => by kernel_rfl⟩
theorem p43 : PlacesT Try.prog 43 #[(0, 1), (1, 1), (2, 1), (3, 1), (4, 1), (5, 1)] := ⟨_, Try.underlying43, fun w => by kernel_rfl⟩
theorem p75 : PlacesT Try.prog 75 #[(0, 1), (1, 64)] := ⟨_, Try.underlying75, fun w => by kernel_rfl⟩
theorem p80 : PlacesT Try.prog 80 #[(0, 1), (1, 64)] := ⟨_, Try.underlying80, fun w => by kernel_rfl⟩
theorem hb3 : HasBody Try.prog 3 := HasBody.mk Try.func3 (by kernel_rfl) rfl
theorem hb4 : HasBody Try.prog 4 := HasBody.mk Try.func4 (by kernel_rfl) rfl
theorem hb5 : HasBody Try.prog 5 := HasBody.mk Try.func5 (by kernel_rfl) rfl
theorem hb6 : HasBody Try.prog 6 := HasBody.mk Try.func6 (by kernel_rfl) rfl
theorem hb7 : HasBody Try.prog 7 := HasBody.mk Try.func7 (by kernel_rfl) rfl
theorem hb8 : HasBody Try.prog 8 := HasBody.mk Try.func8 (by kernel_rfl) rfl
theorem hb9 : HasBody Try.prog 9 := HasBody.mk Try.func9 (by kernel_rfl) rfl
theorem hb10 : HasBody Try.prog 10 := HasBody.mk Try.func10 (by kernel_rfl) rfl
theorem hb11 : HasBody Try.prog 11 := HasBody.mk Try.func11 (by kernel_rfl) rfl
theorem hb12 : HasBody Try.prog 12 := HasBody.mk Try.func12 (by kernel_rfl) rfl
theorem hb13 : HasBody Try.prog 13 := HasBody.mk Try.func13 (by kernel_rfl) rfl
theorem hb14 : HasBody Try.prog 14 := HasBody.mk Try.func14 (by kernel_rfl) rfl
theorem hb15 : HasBody Try.prog 15 := HasBody.mk Try.func15 (by kernel_rfl) rfl
theorem hb16 : HasBody Try.prog 16 := HasBody.mk Try.func16 (by kernel_rfl) rfl
theorem hb17 : HasBody Try.prog 17 := HasBody.mk Try.func17 (by kernel_rfl) rfl
theorem hb18 : HasBody Try.prog 18 := HasBody.mk Try.func18 (by kernel_rfl) rfl
theorem hb19 : HasBody Try.prog 19 := HasBody.mk Try.func19 (by kernel_rfl) rfl
theorem hb20 : HasBody Try.prog 20 := HasBody.mk Try.func20 (by kernel_rfl) rfl
theorem hb21 : HasBody Try.prog 21 := HasBody.mk Try.func21 (by kernel_rfl) rfl
theorem hb22 : HasBody Try.prog 22 := HasBody.mk Try.func22 (by kernel_rfl) rfl
theorem hb23 : HasBody Try.prog 23 := HasBody.mk Try.func23 (by kernel_rfl) rfl
theorem hb24 : HasBody Try.prog 24 := HasBody.mk Try.func24 (by kernel_rfl) rfl
theorem hb25 : HasBody Try.prog 25 := HasBody.mk Try.func25 (by kernel_rfl) rfl
theorem hb26 : HasBody Try.prog 26 := HasBody.mk Try.func26 (by kernel_rfl) rfl
theorem hb27 : HasBody Try.prog 27 := HasBody.mk Try.func27 (by kernel_rfl) rfl
theorem hb28 : HasBody Try.prog 28 := HasBody.mk Try.func28 (by kernel_rfl) rfl
theorem hb29 : HasBody Try.prog 29 := HasBody.mk Try.func29 (by kernel_rfl) rfl
theorem hb30 : HasBody Try.prog 30 := HasBody.mk Try.func30 (by kernel_rfl) rfl
theorem hb31 : HasBody Try.prog 31 := HasBody.mk Try.func31 (by kernel_rfl) rfl
theorem hb32 : HasBody Try.prog 32 := HasBody.mk Try.func32 (by kernel_rfl) rfl
theorem hb33 : HasBody Try.prog 33 := HasBody.mk Try.func33 (by kernel_rfl) rfl
theorem hb34 : HasBody Try.prog 34 := HasBody.mk Try.func34 (by kernel_rfl) rfl
theorem hb35 : HasBody Try.prog 35 := HasBody.mk Try.func35 (by kernel_rfl) rfl
theorem hb36 : HasBody Try.prog 36 := HasBody.mk Try.func36 (by kernel_rfl) rfl
theorem hb37 : HasBody Try.prog 37 := HasBody.mk Try.func37 (by kernel_rfl) rfl
theorem hb38 : HasBody Try.prog 38 := HasBody.mk Try.func38 (by kernel_rfl) rfl
theorem hb39 : HasBody Try.prog 39 := HasBody.mk Try.func39 (by kernel_rfl) rfl
theorem hb40 : HasBody Try.prog 40 := HasBody.mk Try.func40 (by kernel_rfl) rfl
theorem hb41 : HasBody Try.prog 41 := HasBody.mk Try.func41 (by kernel_rfl) rfl
theorem hb42 : HasBody Try.prog 42 := HasBody.mk Try.func42 (by kernel_rfl) rfl
theorem hb43 : HasBody Try.prog 43 := HasBody.mk Try.func43 (by kernel_rfl) rfl
theorem hb44 : HasBody Try.prog 44 := HasBody.mk Try.func44 (by kernel_rfl) rfl
theorem hb45 : HasBody Try.prog 45 := HasBody.mk Try.func45 (by kernel_rfl) rfl
theorem hb46 : HasBody Try.prog 46 := HasBody.mk Try.func46 (by kernel_rfl) rfl
theorem hb47 : HasBody Try.prog 47 := HasBody.mk Try.func47 (by kernel_rfl) rfl
theorem hb48 : HasBody Try.prog 48 := HasBody.mk Try.func48 (by kernel_rfl) rfl
theorem hb49 : HasBody Try.prog 49 := HasBody.mk Try.func49 (by kernel_rfl) rfl
theorem hb50 : HasBody Try.prog 50 := HasBody.mk Try.func50 (by kernel_rfl) rfl
theorem hb51 : HasBody Try.prog 51 := HasBody.mk Try.func51 (by kernel_rfl) rfl
theorem hb52 : HasBody Try.prog 52 := HasBody.mk Try.func52 (by kernel_rfl) rfl
theorem hb53 : HasBody Try.prog 53 := HasBody.mk Try.func53 (by kernel_rfl) rfl
theorem hb54 : HasBody Try.prog 54 := HasBody.mk Try.func54 (by kernel_rfl) rfl
theorem hb55 : HasBody Try.prog 55 := HasBody.mk Try.func55 (by kernel_rfl) rfl
theorem hb56 : HasBody Try.prog 56 := HasBody.mk Try.func56 (by kernel_rfl) rfl
theorem mixed : Try.prog.follows .mixedOrders = true := by kernel_rfl
theorem gd27 : Try.prog.eqGuardType Try.prog.depth 27 = false := by kernel_rfl
theorem n5 : (Try.prog.info? 5).map (·.size) = some 1 := by kernel_rfl
theorem n27 : (Try.prog.info? 27).map (·.size) = some 64 := by kernel_rfl
end Go.Proofs.Ytpblppilknkdoaa
